/-
  ChargeParts: the plain law, and parts of slices. Conditions: none.
-/
import Derived.Test.YtlbndoddkialkaaNeeds
import Derived.Test.YtlbndoddkialkaaTree
namespace Go.Proofs.Ytlbndoddkialkaa
open Go.ChangeShapes Go.WideShapes Go.ChangeAt Go.RowKit Go.Deep Go.Joins

/-- What a list of uses needs. -/
def needL : List P2 → Int
  | [] => 0
  | u :: us => mx (needL us + u.b)
theorem needL_nn (us : List P2) : 0 ≤ needL us := by
  cases us with
  | nil => exact Int.le_refl _
  | cons u us => exact mx_nn _
theorem needAt_drop (us : List P2) : ∀ j, j ≤ us.length → needAt us j = needL (us.drop (us.length - j))
  | 0, _ => by rw [Nat.sub_zero, List.drop_length]; rfl
  | j + 1, hj => by
    rw [needAt, needAt_drop us j (by omega), show us.length - 1 - j = us.length - (j + 1) from by omega]
    rw [List.drop_eq_getElem_cons (show us.length - (j + 1) < us.length by omega), needL, getD_eq (by omega), show us.length - (j + 1) + 1 = us.length - j from by omega]
theorem needAt_all (us : List P2) : needAt us us.length = needL us := by rw [needAt_drop us _ (Nat.le_refl _)]; simp
theorem firstNeed_iff {F : Int} {us : List P2} (hF : 0 ≤ F) : firstNeed F us = none ↔ ∀ a b, us = a ++ b → needL b ≤ F := by
  constructor
  · rintro h a b rfl
    cases hl : b.length with
    | zero => rw [List.length_eq_zero_iff.1 hl]; exact hF
    | succ n =>
      have := firstNeed_none h n (by simp; omega)
      rw [← hl, needAt_drop _ _ (by simp)] at this
      simpa using this
  · intro h
    refine find_range_none (fun j hj => decide_eq_false ?_)
    rw [needAt_drop _ _ (by omega)]
    have := h (us.take (us.length - (j + 1))) (us.drop (us.length - (j + 1))) (by simp)
    omega
theorem needL_congr {x y : List P2} (l : List P2) (h : needL x = needL y) : needL (l ++ x) = needL (l ++ y) := by
  induction l with
  | nil => exact h
  | cons u l ih => simp only [List.cons_append, needL, ih]
theorem needL_zero (r : List P2) : needL (⟨0, 0⟩ :: r) = needL r := by
  have := needL_nn r
  simp only [needL, mx]
  split <;> omega
/-- the uses, with one that takes nothing at place k -/
def idle (us : List P2) (k : Nat) : List P2 := us.take k ++ [⟨0, 0⟩] ++ us.drop k
theorem idle_need {F : Int} {us : List P2} (hF : 0 ≤ F) (k : Nat) (h : firstNeed F us = none) : firstNeed F (idle us k) = none ∧ needL (idle us k) = needL us := by
  have h' := (firstNeed_iff hF).1 h
  have e1 : ∀ l r : List P2, needL (l ++ ([⟨0, 0⟩] ++ r)) = needL (l ++ r) := fun l r => needL_congr l (needL_zero r)
  refine ⟨(firstNeed_iff hF).2 ?_, by rw [idle, List.append_assoc, e1, List.take_append_drop]⟩
  intro a b hab
  rw [idle, List.append_assoc] at hab
  rcases List.append_eq_append_iff.1 hab with ⟨c, rfl, h2⟩ | ⟨c, h2, rfl⟩
  · cases c with
    | nil =>
      simp only [List.nil_append] at h2
      rw [← h2]
      have := e1 [] (us.drop k)
      simp only [List.nil_append] at this
      rw [this]
      exact h' _ _ (List.take_append_drop k us).symm
    | cons x c =>
      simp only [List.cons_append, List.nil_append, List.cons.injEq] at h2
      exact h' (us.take k ++ c) b (by rw [List.append_assoc, ← h2.2, List.take_append_drop])
  · rw [e1]
    exact h' a (c ++ us.drop k) (by rw [← List.append_assoc, ← h2, List.take_append_drop])
theorem right_take {F : Int} {us : List P2} (h : rightB F us = true) (k : Nat) : rightB F (us.take k) = true := by
  simp only [rightB, Bool.and_eq_true, decide_eq_true_eq, Bool.not_eq_true', List.any_eq_false] at h ⊢
  exact ⟨⟨h.1.1, by simp; omega⟩, fun x hx => h.2 x (List.mem_of_mem_take hx)⟩
theorem right_drop {F : Int} {us : List P2} (h : rightB F us = true) (k : Nat) : rightB F (us.drop k) = true := by
  simp only [rightB, Bool.and_eq_true, decide_eq_true_eq, Bool.not_eq_true', List.any_eq_false] at h ⊢
  exact ⟨⟨h.1.1, by simp; omega⟩, fun x hx => h.2 x (List.mem_of_mem_drop hx)⟩
theorem right_idle {F : Int} {us : List P2} (h : rightB F us = true) (hl : us.length ≤ 60) (k : Nat) : rightB F (idle us k) = true := by
  simp only [rightB, Bool.and_eq_true, decide_eq_true_eq, Bool.not_eq_true', List.any_eq_false] at h ⊢
  refine ⟨⟨h.1.1, by simp [idle]; omega⟩, fun x hx => ?_⟩
  simp only [idle, List.mem_append, List.mem_singleton] at hx
  rcases hx with (hx | rfl) | hx
  · exact h.2 x (List.mem_of_mem_take hx)
  · decide
  · exact h.2 x (List.mem_of_mem_drop hx)
theorem getD_take {us : List P2} {k j : Nat} (h : j < k) : (us.take k).getD j ⟨0, 0⟩ = us.getD j ⟨0, 0⟩ := by simp [List.getD, h]
theorem getD_drop {us : List P2} {k j : Nat} : (us.drop k).getD j ⟨0, 0⟩ = us.getD (k + j) ⟨0, 0⟩ := by simp [List.getD, List.getElem?_drop]
theorem low_take {F s : Int} {us : List P2} {k : Nat} : ∀ j, j ≤ k → lowAt F s (us.take k) j = lowAt F s us j
  | 0, _ => rfl
  | j + 1, h => by rw [lowAt, lowAt, low_take j (by omega), getD_take (by omega)]
theorem high_take {F s : Int} {us : List P2} {k : Nat} : ∀ j, j ≤ k → highAt F s (us.take k) j = highAt F s us j
  | 0, _ => rfl
  | j + 1, h => by rw [highAt, highAt, high_take j (by omega), getD_take (by omega)]
theorem low_drop {F s : Int} {us : List P2} {k : Nat} : ∀ j, lowAt F (lowAt F s us k) (us.drop k) j = lowAt F s us (k + j)
  | 0 => rfl
  | j + 1 => by rw [lowAt, low_drop j, getD_drop, show k + (j + 1) = (k + j) + 1 from rfl, lowAt]
theorem high_drop {F s : Int} {us : List P2} {k : Nat} : ∀ j, highAt F (highAt F s us k) (us.drop k) j = highAt F s us (k + j)
  | 0 => rfl
  | j + 1 => by rw [highAt, high_drop j, getD_drop, show k + (j + 1) = (k + j) + 1 from rfl, highAt]
theorem run_take {F s : Int} {us : List P2} (hr : rightB F us = true) (h0 : 0 ≤ s) (h1 : s ≤ F) (hf : firstLow F s us = none) {k : Nat} (hk : k ≤ us.length) :
    runE F s (us.take k) = 0 ∧ runL F s (us.take k) = (lows F s us us.length).take k ∧ runH F s (us.take k) = (highs F s us us.length).take k := by
  have hok : okRun F s (us.take k) = true := by simp [okRun, right_take hr, h0, h1]
  have hl : (us.take k).length = k := by simp; omega
  have hn := firstLow_none hf
  have hf' : firstLow F s (us.take k) = none := by
    refine find_range_none (fun j hj => ?_)
    rw [hl] at hj
    have := hn j (by omega)
    simp only [fails] at this ⊢
    rw [low_take _ (by omega)]
    exact this
  refine ⟨by simp [runE, hok, hf'], ?_, ?_⟩
  · simp only [runL, hok, hf', if_true, hl]
    apply List.ext_getElem
    · simp [lows]; omega
    · intro i h2 h3
      simp [lows] at h2
      simp [lows, low_take (F := F) (s := s) (us := us) (k := k) (i + 1) (by omega)]
  · simp only [runH, hok, hf', if_true, hl]
    apply List.ext_getElem
    · simp [highs]; omega
    · intro i h2 h3
      simp [highs] at h2
      simp [highs, high_take (F := F) (s := s) (us := us) (k := k) (i + 1) (by omega)]
theorem run_dropL {F s : Int} {us : List P2} (hr : rightB F us = true) (h0 : 0 ≤ s) (h1 : s ≤ F) (hf : firstLow F s us = none) {k : Nat} (hk : k ≤ us.length) :
    runE F (lowAt F s us k) (us.drop k) = 0 ∧ runL F (lowAt F s us k) (us.drop k) = (lows F s us us.length).drop k := by
  have hn := firstLow_none hf
  have hok : okRun F (lowAt F s us k) (us.drop k) = true := by
    simp [okRun, right_drop hr, low_le (us := us) h1 k, low_nn (us := us) h0 (k := k) (fun j hj => hn j (by omega))]
  have hf' : firstLow F (lowAt F s us k) (us.drop k) = none := by
    refine find_range_none (fun j hj => ?_)
    simp at hj
    have := hn (k + j) (by omega)
    simp only [fails] at this ⊢
    rw [low_drop]
    exact this
  refine ⟨by simp [runE, hok, hf'], ?_⟩
  simp only [runL, hok, hf', if_true]
  apply List.ext_getElem
  · simp [lows]
  · intro i h2 h3
    simp [lows, low_drop, Nat.add_assoc]
theorem run_dropH {F s : Int} {us : List P2} (hr : rightB F us = true) (h0 : 0 ≤ s) (h1 : s ≤ F) (hf : firstLow F s us = none) {k : Nat} (hk : k ≤ us.length) :
    runE F (highAt F s us k) (us.drop k) = 0 ∧ runH F (highAt F s us k) (us.drop k) = (highs F s us us.length).drop k := by
  have hn := firstLow_none hf
  have hfu := (right_parts hr).2.2.2
  have hlh := low_le_high (F := F) (s := s) hfu k
  have hok : okRun F (highAt F s us k) (us.drop k) = true := by
    have := low_nn (us := us) (F := F) h0 (k := k) (fun j hj => hn j (by omega))
    have := high_le (us := us) h1 k
    simp [okRun, right_drop hr]
    omega
  have hf' : firstLow F (highAt F s us k) (us.drop k) = none := by
    refine find_range_none (fun j hj => ?_)
    simp at hj
    have := hn (k + j) (by omega)
    simp only [fails, decide_eq_false_iff_not] at this ⊢
    have hm := low_mono (F := F) (us := us.drop k) hlh (j + 1)
    rw [low_drop] at hm
    rw [show k + (j + 1) = k + j + 1 from rfl] at hm
    omega
  refine ⟨by simp [runE, hok, hf'], ?_⟩
  simp only [runH, hok, hf', if_true]
  apply List.ext_getElem
  · simp [highs]
  · intro i h2 h3
    simp [highs, high_drop, Nat.add_assoc]
attribute [-go_sem] sliced
theorem info_use : (Try.prog.info? 35).map (fun i => (i.zero, i.size, i.bytes)) = some (some (.agg #[.int .i64 0, .int .i64 0]), 2, 16) := by kernel_rfl

theorem Shows.take {w : World} {B s n : Nat} {A : Option Addr} {xs : List Value} (h : Shows w B s A n xs) (k : Nat) (hk : k ≤ n) : Shows w B s A k (xs.take (k * s)) := by
  refine ⟨by rw [List.length_take, h.1]; exact Nat.min_eq_left (Nat.mul_le_mul_right _ hk), fun hn => ?_⟩
  obtain ⟨b, o, ha, hb, hc⟩ := h.2 (by omega)
  refine ⟨b, o, ha, hb, fun j u hu => hc j u ?_⟩
  rw [List.getElem?_take] at hu
  split at hu
  · exact hu
  · cases hu
theorem Shows.drop {w : World} {B s n : Nat} {A : Option Addr} {xs : List Value} (h : Shows w B s A n xs) (k : Nat) : Shows w B s (A.map fun x => x.add (k * s)) (n - k) (xs.drop (k * s)) := by
  refine ⟨by rw [List.length_drop, h.1, Nat.sub_mul], fun hn => ?_⟩
  obtain ⟨b, o, rfl, hb, hc⟩ := h.2 (by omega)
  refine ⟨b, o + k * s, by simp only [Option.map_some]; rw [show (⟨b, o, none⟩ : Addr).add (k * s) = ⟨b, o + k * s, none⟩ from by unfold Addr.add; split <;> simp_all], hb, fun j u hu => ?_⟩
  rw [List.getElem?_drop] at hu
  rw [Nat.add_assoc]
  exact hc _ u hu
/-- a part of a slice, whatever its room -/
theorem Shows.cut {w : World} {B s n : Nat} {A : Option Addr} {xs : List Value} (hs : Shows w B s A n xs) {l h m : Nat} (h1 : l ≤ h) (h2 : h ≤ n) (h3 : n ≤ m) :
    Shows w B s (if m = l then A else A.map fun x => x.add (l * s)) (h - l) ((xs.take (h * s)).drop (l * s)) := by
  have ht := Shows.take hs h h2
  split
  · rename_i e
    have e0 : h - l = 0 := by omega
    rw [e0]
    have : (xs.take (h * s)).drop (l * s) = [] := List.eq_nil_of_length_eq_zero (by rw [List.length_drop, ht.1, ← Nat.sub_mul, e0]; simp)
    rw [this]
    exact Shows.empty _ _ _ _
  · exact Shows.drop ht l
theorem P2.take (l : List P2) (k : Nat) : P2.cells (l.take k) = (P2.cells l).take (k * 2) := by
  induction l generalizing k with
  | nil => simp [P2.cells]
  | cons x l ih =>
    cases k with
    | zero => simp [P2.cells]
    | succ k =>
      have := ih k
      simp only [P2.cells, List.take_succ_cons, List.flatMap_cons] at this ⊢
      rw [this, show (k + 1) * 2 = k * 2 + 2 from by omega]
      simp
theorem P2.drop (l : List P2) (k : Nat) : P2.cells (l.drop k) = (P2.cells l).drop (k * 2) := by
  induction l generalizing k with
  | nil => simp [P2.cells]
  | cons x l ih =>
    cases k with
    | zero => simp [P2.cells]
    | succ k =>
      have := ih k
      simp only [P2.cells, List.drop_succ_cons, List.flatMap_cons] at this ⊢
      rw [this, show (k + 1) * 2 = k * 2 + 2 from by omega]
      simp

theorem run_n (F s : Int) (A : Option Addr) (n c : Nat) (us : List P2) (w : World) (hn : us.length = n) (h : Two w w.heap.size A us) (hlen : us.length ≤ 9223372036854775807) :
    Calls Try.prog 8 #[.int .i64 F, .int .i64 s, .slice A n c] w (RunSays F s us w) := by
  subst hn
  exact run_any F s A c us w h hlen
theorem need_n (F : Int) (A : Option Addr) (n c : Nat) (us : List P2) (w : World) (hn : us.length = n) (h : Two w w.heap.size A us) :
    Calls Try.prog 10 #[.int .i64 F, .slice A n c] w fun e W' => e = .returned (.tuple #[.int .i64 (needN F us), .int .i64 (needE F us)]) ∧ Below w.heap.size w W' := by
  subst hn
  exact need_any F A c us w h
theorem ints_n (A1 A2 : Option Addr) (n m c1 c2 : Nat) (xs ys : List Int) (w : World) (hn : xs.length = n) (hm : ys.length = m) (h1 : Nums w w.heap.size A1 xs) (h2 : Nums w w.heap.size A2 ys) (hlen : xs.length ≤ 9223372036854775807) (hlen2 : ys.length ≤ 9223372036854775807) :
    Calls Try.prog 12 #[.slice A1 n c1, .slice A2 m c2] w fun e w' => e = .returned (.bool (decide (xs = ys))) ∧ Below w.heap.size w w' := by
  subst hn hm
  exact ints_any A1 A2 c1 c2 xs ys w h1 h2 hlen hlen2
theorem Two.cut {w : World} {B : Nat} {A : Option Addr} {l : List P2} (h : Two w B A l) {a b m : Nat} (h1 : a ≤ b) (h2 : b ≤ l.length) (h3 : l.length ≤ m) : Two w B (if m = a then A else A.map fun x => x.add (a * 2)) ((l.take b).drop a) := by
  unfold Two
  rw [P2.drop, P2.take, List.length_drop, List.length_take, Nat.min_eq_left h2]
  exact Shows.cut h h1 h2 h3
theorem Nums.cut {w : World} {B : Nat} {A : Option Addr} {l : List Int} (h : Nums w B A l) {a b m : Nat} (h1 : a ≤ b) (h2 : b ≤ l.length) (h3 : l.length ≤ m) : Nums w B (if m = a then A else A.map fun x => x.add (a * 1)) ((l.take b).drop a) := by
  have e : ints ((l.take b).drop a) = ((ints l).take (b * 1)).drop (a * 1) := by simp [ints]
  unfold Nums
  rw [e, List.length_drop, List.length_take, Nat.min_eq_left h2]
  exact Shows.cut h h1 h2 h3
/-- What a slice literal has made shows its cells. -/
theorem shows_lit {w : World} {k B n s : Nat} {xs : List Value} {e : TypeId} (h : w.heap[k]? = some (.cells xs.toArray e)) (hB : k < B) (hl : xs.length = n * s) : Shows w B s (some ⟨k, 0, none⟩) n xs :=
  ⟨hl, fun _ => ⟨k, 0, rfl, hB, fun j u hu => by
    rw [cell_of_row w k (0 + j) xs.toArray e (0, 0) h, Nat.zero_add]
    simpa using hu⟩⟩
theorem lit_new (w : World) (o : Obj) : (w.alloc o).heap[w.heap.size]? = some o := heap_alloc_new w o
theorem need_good {F : Int} {us : List P2} (hr : rightB F us = true) (hf : firstNeed F us = none) : needN F us = needL us ∧ needE F us = 0 := by
  simp [needN, needE, hr, hf, needAt_all]
theorem needs_three {F s : Int} {us : List P2} (hr : rightB F us = true) (h0 : 0 ≤ s) (h1 : s ≤ F) (hf : firstLow F s us = none) (hl : us.length ≤ 60) {k : Nat} (hk : k ≤ us.length) :
    (needN F us = needL us ∧ needE F us = 0) ∧ (needN F (idle us k) = needL us ∧ needE F (idle us k) = 0) ∧ (needN F (us.drop k) = needL (us.drop k) ∧ needE F (us.drop k) = 0) ∧ needL (us.drop k) ≤ lowAt F s us k := by
  have hF : 0 ≤ F := Int.le_trans h0 h1
  have hn := ((low_iff hF h0 h1).1 hf).1
  obtain ⟨i1, i2⟩ := idle_need hF k hn
  have hd : firstNeed F (us.drop k) = none := (firstNeed_iff hF).2 fun a b e => (firstNeed_iff hF).1 hn (us.take k ++ a) b (by rw [List.append_assoc, ← e, List.take_append_drop])
  refine ⟨need_good hr hn, ?_, need_good (right_drop hr k) hd, ?_⟩
  · rw [← i2]
    exact need_good (right_idle hr hl k) i1
  · have := need_le_low h0 (firstLow_none hf) (us.length - k) (by omega)
    rw [needAt_drop us _ (by omega), show us.length - (us.length - k) = k from by omega] at this
    exact this
theorem idle_two {w : World} {B : Nat} {A : Option Addr} {us : List P2} {k n : Nat} {xs : List Value} (h : Shows w B 2 A n xs) (hn : n = us.length + 1) (hk : k ≤ us.length)
    (hx : xs = P2.cells (us.take k) ++ [.int .i64 0, .int .i64 0] ++ P2.cells (us.drop k)) : Two w B A (idle us k) ∧ (idle us k).length = n := by
  have e1 : (idle us k).length = n := by simp [idle]; omega
  have e2 : P2.cells (idle us k) = xs := by rw [hx, idle, P2.append, P2.append]; rfl
  refine ⟨?_, e1⟩
  unfold Two
  rw [e1, e2]
  exact h
theorem own_second {w : World} {o : Obj} {k : Nat} {e : TypeId} (hk : k = w.heap.size + 1) : ((w.alloc o).alloc (.cells #[] e)).drew.ownsRow w.heap.size e 2 (.slice (some ⟨k, 0, none⟩) 0 0) 0 [] := by
  subst hk
  have h := (World.ownsRow_lit (base := w.heap.size) (e := e) (size := 2) (w.alloc o) #[] 0 (by simp) (by decide) rfl).drew
  rw [size_alloc] at h
  exact h
theorem lit_first {w : World} {o o' : Obj} {w' : World} {r : Option Nat} (hg : ((w.alloc o).alloc o').drew.grownBy w' r) (hv : some w.heap.size ≠ r) : w'.heap[w.heap.size]? = some o :=
  (hg.block _ (by simp; omega) hv).trans ((Below.heap_alloc (w.alloc o) o' _ (by simp)).trans (heap_alloc_new w o))
theorem lit_second {w : World} {o o' : Obj} {w' : World} {r : Option Nat} {k : Nat} (hk : k = w.heap.size + 1) (hg : ((w.alloc o).alloc o').drew.grownBy w' r) (hv : some k ≠ r) : w'.heap[k]? = some o' := by
  subst hk
  have h1 := heap_alloc_new (w.alloc o) o'
  rw [size_alloc] at h1
  exact (hg.block _ (by simp) hv).trans h1
end Go.Proofs.Ytlbndoddkialkaa
