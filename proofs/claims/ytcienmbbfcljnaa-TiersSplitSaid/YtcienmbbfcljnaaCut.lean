/-
  Parts of slices; what slice literals have made, and where. Conditions: none.
-/
import Derived.Test.YtcienmbbfcljnaaThree
namespace Go.Proofs.Ytcienmbbfcljnaa
open Go.RowKit

theorem Shows.take {w : World} {B s n : Nat} {A : Option Addr} {xs : List Value} (h : Shows w B s A n xs) (k : Nat) (hk : k ≤ n) : Shows w B s A k (xs.take (k * s)) := by
  refine ⟨by rw [List.length_take, h.1]; exact Nat.min_eq_left (Nat.mul_le_mul_right _ hk), fun hn => ?_⟩
  obtain ⟨b, o, ha, hb, hc⟩ := h.2 (by omega)
  refine ⟨b, o, ha, hb, fun j u hu => hc j u ?_⟩
  rw [List.getElem?_take] at hu
  split at hu
  · exact hu
  · cases hu
theorem Shows.drop {w : World} {B s n : Nat} {A : Option Addr} {xs : List Value} (h : Shows w B s A n xs) (k : Nat) : Shows w B s (A.map fun x => x.add (k * s)) (n - k) (xs.drop (k * s)) := by
  refine ⟨by rw [List.length_drop, h.1, Nat.sub_mul], fun hn => ?_⟩
  obtain ⟨b, o, rfl, hb, hc⟩ := h.2 (by omega)
  refine ⟨b, o + k * s, by simp only [Option.map_some]; rw [show (⟨b, o, none⟩ : Addr).add (k * s) = ⟨b, o + k * s, none⟩ from by unfold Addr.add; split <;> simp_all], hb, fun j u hu => ?_⟩
  rw [List.getElem?_drop] at hu
  rw [Nat.add_assoc]
  exact hc _ u hu
/-- a part of a slice, whatever its room -/
theorem Shows.cut {w : World} {B s n : Nat} {A : Option Addr} {xs : List Value} (hs : Shows w B s A n xs) {l h m : Nat} (h1 : l ≤ h) (h2 : h ≤ n) (h3 : n ≤ m) :
    Shows w B s (if m = l then A else A.map fun x => x.add (l * s)) (h - l) ((xs.take (h * s)).drop (l * s)) := by
  have ht := Shows.take hs h h2
  split
  · rename_i e
    have e0 : h - l = 0 := by omega
    rw [e0]
    have : (xs.take (h * s)).drop (l * s) = [] := List.eq_nil_of_length_eq_zero (by rw [List.length_drop, ht.1, ← Nat.sub_mul, e0]; simp)
    rw [this]
    exact Shows.empty _ _ _ _
  · exact Shows.drop ht l
theorem Nums.cut {w : World} {B : Nat} {A : Option Addr} {l : List Int} (h : Nums w B A l) {a b m : Nat} (h1 : a ≤ b) (h2 : b ≤ l.length) (h3 : l.length ≤ m) : Nums w B (if m = a then A else A.map fun x => x.add (a * 1)) ((l.take b).drop a) := by
  have e : ints ((l.take b).drop a) = ((ints l).take (b * 1)).drop (a * 1) := by simp [ints]
  unfold Nums
  rw [e, List.length_drop, List.length_take, Nat.min_eq_left h2]
  exact Shows.cut h h1 h2 h3
theorem P3.take (l : List P3) (k : Nat) : P3.cells (l.take k) = (P3.cells l).take (k * 3) := by
  induction l generalizing k with
  | nil => simp [P3.cells]
  | cons x l ih =>
    cases k with
    | zero => simp [P3.cells]
    | succ k =>
      have := ih k
      simp only [P3.cells, List.take_succ_cons, List.flatMap_cons] at this ⊢
      rw [this, show (k + 1) * 3 = k * 3 + 3 from by omega]
      simp
theorem P3.drop (l : List P3) (k : Nat) : P3.cells (l.drop k) = (P3.cells l).drop (k * 3) := by
  induction l generalizing k with
  | nil => simp [P3.cells]
  | cons x l ih =>
    cases k with
    | zero => simp [P3.cells]
    | succ k =>
      have := ih k
      simp only [P3.cells, List.drop_succ_cons, List.flatMap_cons] at this ⊢
      rw [this, show (k + 1) * 3 = k * 3 + 3 from by omega]
      simp
theorem Three.cut {w : World} {B : Nat} {A : Option Addr} {l : List P3} (h : Three w B A l) {a b m : Nat} (h1 : a ≤ b) (h2 : b ≤ l.length) (h3 : l.length ≤ m) : Three w B (if m = a then A else A.map fun x => x.add (a * 3)) ((l.take b).drop a) := by
  unfold Three
  rw [P3.drop, P3.take, List.length_drop, List.length_take, Nat.min_eq_left h2]
  exact Shows.cut h h1 h2 h3
/-- What a slice literal has made shows its cells. -/
theorem shows_lit {w : World} {k B n s : Nat} {xs : List Value} {e : TypeId} (h : w.heap[k]? = some (.cells xs.toArray e)) (hB : k < B) (hl : xs.length = n * s) : Shows w B s (some ⟨k, 0, none⟩) n xs :=
  ⟨hl, fun _ => ⟨k, 0, rfl, hB, fun j u hu => by
    rw [cell_of_row w k (0 + j) xs.toArray e (0, 0) h, Nat.zero_add]
    simpa using hu⟩⟩
theorem lit_new (w : World) (o : Obj) : (w.alloc o).heap[w.heap.size]? = some o := heap_alloc_new w o
theorem own_second {w : World} {o : Obj} {k : Nat} {e : TypeId} {size : Nat} (hk : k = w.heap.size + 1) : ((w.alloc o).alloc (.cells #[] e)).drew.ownsRow w.heap.size e size (.slice (some ⟨k, 0, none⟩) 0 0) 0 [] := by
  subst hk
  have h := (World.ownsRow_lit (base := w.heap.size) (e := e) (size := size) (w.alloc o) #[] 0 (by simp) (by decide) (by simp)).drew
  rw [size_alloc] at h
  exact h
theorem lit_first {w : World} {o o' : Obj} {w' : World} {r : Option Nat} (hg : ((w.alloc o).alloc o').drew.grownBy w' r) (hv : some w.heap.size ≠ r) : w'.heap[w.heap.size]? = some o :=
  (hg.block _ (by simp; omega) hv).trans ((Below.heap_alloc (w.alloc o) o' _ (by simp)).trans (heap_alloc_new w o))
theorem lit_second {w : World} {o o' : Obj} {w' : World} {r : Option Nat} {k : Nat} (hk : k = w.heap.size + 1) (hg : ((w.alloc o).alloc o').drew.grownBy w' r) (hv : some k ≠ r) : w'.heap[k]? = some o' := by
  subst hk
  have h1 := heap_alloc_new (w.alloc o) o'
  rw [size_alloc] at h1
  exact (hg.block _ (by simp) hv).trans h1
end Go.Proofs.Ytcienmbbfcljnaa
