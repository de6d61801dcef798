/-
  Words for memory that the walks of this seat share: a slice that shows a list of cells; what stays when memory only grows. Conditions: none.
-/
import Derived.WalkKit
import Derived.Outline
import Derived.Deep.QuietTactic
import Derived.BigQuiet
import Derived.Lib.Hide
namespace Go.Proofs.Ytabaflklognhaaa
open Go.RowKit

/-- The slice value with address A and n elements of s cells each shows the cells xs, in a block below B. -/
def Shows (w : World) (B s : Nat) (A : Option Addr) (n : Nat) (xs : List Value) : Prop :=
  xs.length = n * s ∧ (0 < n → ∃ b o, A = some ⟨b, o, none⟩ ∧ b < B ∧ ∀ j u, xs[j]? = some u → w.cell? ⟨b, o + j, none⟩ = some u)

section
variable {w w' : World} {B B' s n : Nat} {A : Option Addr} {xs : List Value}
theorem Shows.empty (w : World) (B s : Nat) (A : Option Addr) : Shows w B s A 0 [] := ⟨by simp, fun h => absurd h (by omega)⟩
theorem Shows.keep (h : Shows w B s A n xs) (hk : ∀ b o, b < B → w'.cell? ⟨b, o, none⟩ = w.cell? ⟨b, o, none⟩) : Shows w' B s A n xs :=
  ⟨h.1, fun hn => by
    obtain ⟨b, o, e, hb, hc⟩ := h.2 hn
    exact ⟨b, o, e, hb, fun j u hu => (hk _ _ hb).trans (hc j u hu)⟩⟩
theorem Shows.more (h : Shows w B s A n xs) (hB : B ≤ B') : Shows w B' s A n xs :=
  ⟨h.1, fun hn => by
    obtain ⟨b, o, e, hb, hc⟩ := h.2 hn
    exact ⟨b, o, e, by omega, hc⟩⟩
theorem Shows.below (h : Shows w B s A n xs) (hb : Below B w w') : Shows w' B s A n xs := h.keep fun _ _ hp => hb.cell (p := ⟨_, _, none⟩) hp
theorem Shows.alloc (h : Shows w B s A n xs) (hB : B ≤ w.heap.size) (o : Obj) : Shows (w.alloc o) B s A n xs := h.below ((Below.refl B w).alloc hB o)
theorem Shows.len (h : Shows w B s A n xs) : xs.length = n * s := h.1
end

/-- What was there below B reads as it did: two rules for the walk. -/
theorem bcell {B : Nat} {W w1 : World} (hb : Below B W w1) : (∀ b o, b < B → w1.cell? ⟨b, o, none⟩ = W.cell? ⟨b, o, none⟩) ∧ (∀ b o, b < B → w1.frozen? ⟨b, o, none⟩ = W.frozen? ⟨b, o, none⟩) :=
  ⟨fun b o h => hb.cell (p := ⟨b, o, none⟩) h, fun b o h => hb.frozen (p := ⟨b, o, none⟩) h⟩

theorem heap_at (w : World) (o : Obj) (g : Nat) (h : g = w.heap.size) : (w.alloc o).heap[g]? = some o := by subst h; exact heap_alloc_new w o
theorem size_alloc (w : World) (o : Obj) : (w.alloc o).heap.size = w.heap.size + 1 := by simp
theorem below_drewN {B : Nat} {a w : World} (h : Below B a w) (n : Nat) : Below B a (w.drewN n) := ⟨h.os, h.tape, h.output, h.size, h.block⟩

theorem ret_int {k : IntKind} {a b : Int} (h : a = b) : Ending.returned (.int k a) = .returned (.int k b) := by rw [h]
theorem ret_bool {a b : Bool} (h : a = b) : Ending.returned (.bool a) = .returned (.bool b) := by rw [h]

/-- A struct of two ints. -/
structure P2 where
  a : Int
  b : Int
  deriving DecidableEq
def P2.cells (l : List P2) : List Value := l.flatMap fun x => [.int .i64 x.a, .int .i64 x.b]
theorem P2.length (l : List P2) : (P2.cells l).length = l.length * 2 := by
  induction l with
  | nil => rfl
  | cons x l ih => simp only [P2.cells, List.flatMap_cons, List.length_append, List.length_cons, List.length_nil] at ih ⊢; omega
theorem P2.get (l : List P2) (k : Nat) (hk : k < l.length) : (P2.cells l)[k * 2]? = some (.int .i64 l[k].a) ∧ (P2.cells l)[k * 2 + 1]? = some (.int .i64 l[k].b) := by
  induction l generalizing k with
  | nil => simp at hk
  | cons x l ih =>
    cases k with
    | zero => exact ⟨rfl, rfl⟩
    | succ k =>
      have := ih k (by simpa using hk)
      simp only [P2.cells, List.flatMap_cons] at this ⊢
      rw [show (k + 1) * 2 = k * 2 + 2 from by omega]
      simpa using this
/-- The slice (A, n) shows the structs l. -/
def Two (w : World) (B : Nat) (A : Option Addr) (l : List P2) : Prop := Shows w B 2 A l.length (P2.cells l)
theorem Two.at_ {w : World} {B : Nat} {A : Option Addr} {l : List P2} (h : Two w B A l) {k : Nat} (hk : k < l.length) :
    ∃ b o, A = some ⟨b, o, none⟩ ∧ b < B ∧ w.cell? ⟨b, o + k * 2, none⟩ = some (.int .i64 l[k].a) ∧ w.cell? ⟨b, o + k * 2 + 1, none⟩ = some (.int .i64 l[k].b) := by
  obtain ⟨b, o, e, hb, hc⟩ := h.2 (by omega)
  exact ⟨b, o, e, hb, hc _ _ (P2.get l k hk).1, hc _ _ (P2.get l k hk).2⟩
theorem Two.below {w w' : World} {B : Nat} {A : Option Addr} {l : List P2} (h : Two w B A l) (hb : Below B w w') : Two w' B A l := Shows.below h hb

def ints (l : List Int) : List Value := l.map (Value.int .i64)
theorem ints_length (l : List Int) : (ints l).length = l.length := by simp [ints]
theorem ints_get (l : List Int) (k : Nat) (hk : k < l.length) : (ints l)[k]? = some (.int .i64 l[k]) := by simp [ints, hk]
/-- The slice (A, n) shows the ints l. -/
def Nums (w : World) (B : Nat) (A : Option Addr) (l : List Int) : Prop := Shows w B 1 A l.length (ints l)
theorem Nums.at_ {w : World} {B : Nat} {A : Option Addr} {l : List Int} (h : Nums w B A l) {k : Nat} (hk : k < l.length) :
    ∃ b o, A = some ⟨b, o, none⟩ ∧ b < B ∧ w.cell? ⟨b, o + k, none⟩ = some (.int .i64 l[k]) := by
  obtain ⟨b, o, e, hb, hc⟩ := h.2 (by omega)
  exact ⟨b, o, e, hb, hc _ _ (ints_get l k hk)⟩
theorem Nums.below {w w' : World} {B : Nat} {A : Option Addr} {l : List Int} (h : Nums w B A l) (hb : Below B w w') : Nums w' B A l := Shows.below h hb
theorem Nums.more {w : World} {B B' : Nat} {A : Option Addr} {l : List Int} (h : Nums w B A l) (hB : B ≤ B') : Nums w B' A l := Shows.more h hB

theorem shows_of_own {w : World} {base s n : Nat} {e : TypeId} {v : Value} {xs : List Value} (h : w.ownsRow base e s v n xs) :
    ∃ A c, v = .slice A n c ∧ Shows w w.heap.size s A n xs := by
  obtain ⟨hl, ⟨rfl, rfl⟩ | ⟨g, cap, cur, rfl, hb, hg, hn, hc, hsz, ht⟩⟩ := h
  · exact ⟨none, 0, rfl, hl, fun h => absurd h (by omega)⟩
  · refine ⟨_, _, rfl, hl, fun _ => ⟨g, 0, rfl, (Array.getElem?_eq_some_iff.1 hg).1, fun j u hu => ?_⟩⟩
    rw [cell_of_row w g (0 + j) cur e (0, 0) hg, Nat.zero_add]
    rw [← ht, List.getElem?_take] at hu
    split at hu
    · simpa using hu
    · cases hu

theorem cell_alloc_add (w : World) (news : List Value) (e : TypeId) (j : Nat) (u : Value) (hu : news[j]? = some u) :
    (w.alloc (.cells news.toArray e)).cell? ((⟨w.heap.size, 0, none⟩ : Addr).add j) = some u := by
  have hadd : (⟨w.heap.size, 0, none⟩ : Addr).add j = ⟨w.heap.size, j, none⟩ := by unfold Addr.add; split <;> simp_all
  rw [hadd, cell_of_row _ w.heap.size j news.toArray e (0, 0) (heap_alloc_new w _)]
  simpa using hu

/-- append of what a slice literal has just made, onto a slice of the call's own. -/
theorem push_own {P : Program} {ops : Array Oper} {rest : List Oper} {o : Oper} {a : Act} {Q : Exit → Act → World → Prop} (hgd : o.guard = none) (s x : Operand) (t : TypeId)
    (ho : o.op = .call { callee := .builtin .append, args := #[s, x], argTypes := #[t, t] })
    (base : Nat) (e : TypeId) (i : TypeInfo) (z : Value) (size bytes : Nat) (ht : P.underlying t = some (.slice e)) (hi : P.info? e = some i) (hz : i.zero = some z)
    (hsize : i.size = size) (hby : i.bytes = bytes) (hzs : z.cells.size = size) (hsz : 0 < size) (w : World)
    (v : Value) (n : Nat) (xs : List Value) (hs : a.eval s = v) (hown : w.ownsRow base e size v n xs)
    (m c : Nat) (news : List Value) (hx : a.eval x = .slice (some ⟨w.heap.size, 0, none⟩) m c) (hl : news.length = m * size) (h1 : ∀ u ∈ news, u.oneCell' = true)
    (hbase : base ≤ w.heap.size) (h63 : n + m ≤ 140737488355328) (hbytes : (n + m) * bytes ≤ 140737488355328)
    (h : ∀ v' w', w'.ownsRow base e size v' (n + m) (xs ++ news) → Below base w w' → w.grownBy w' v.ownBlock → wpList P ops Q rest (a.put o.dst v') w') :
    wpList P ops Q (o :: rest) a (w.alloc (.cells news.toArray e)) := by
  refine wpList_append_own _ hgd s x t ho base e i z size bytes ht hi hz hsize hby hzs hsz v n xs hs (hown.alloc _) ⟨w.heap.size, 0, none⟩ m c news hx hl (fun j u hu => cell_alloc_add w news e j u hu) h1 (by unfold maxLen; omega) hbytes (by simp; omega) ?_
  intro v' w' h2 h3 _
  have hg : w.grownBy w' v.ownBlock := ⟨h3.os, h3.tape, h3.output, Nat.le_trans (by simp) h3.size, fun k hk hne => (h3.block k (by simp; omega) hne).trans (Below.heap_alloc w _ k hk)⟩
  exact h v' w' h2 ((Below.refl base w).grown hg hbase (fun k e => (hown.lt k e).1)) hg

theorem wp_push {P : Program} {o : Oper} {a : Act} {K : Act → World → Prop} {Q : Exit → Act → World → Prop} (s x : Operand) (t : TypeId)
    (ho : o.op = .call { callee := .builtin .append, args := #[s, x], argTypes := #[t, t] })
    (base : Nat) (e : TypeId) (i : TypeInfo) (z : Value) (size bytes : Nat) (ht : P.underlying t = some (.slice e)) (hi : P.info? e = some i) (hz : i.zero = some z)
    (hsize : i.size = size) (hby : i.bytes = bytes) (hzs : z.cells.size = size) (hsz : 0 < size) (w : World)
    (v : Value) (n : Nat) (xs : List Value) (hs : a.eval s = v) (hown : w.ownsRow base e size v n xs)
    (m c : Nat) (news : List Value) (hx : a.eval x = .slice (some ⟨w.heap.size, 0, none⟩) m c) (hl : news.length = m * size) (h1 : ∀ u ∈ news, u.oneCell' = true)
    (hbase : base ≤ w.heap.size) (h63 : n + m ≤ 140737488355328) (hbytes : (n + m) * bytes ≤ 140737488355328)
    (h : ∀ v' w', w'.ownsRow base e size v' (n + m) (xs ++ news) → (w.alloc (.cells news.toArray e)).grownBy w' v.ownBlock → Below base (w.alloc (.cells news.toArray e)) w' → K (a.put o.dst v') w') :
    o.wp P a (w.alloc (.cells news.toArray e)) K Q := by
  refine wp_append_own _ s x t ho base e i z size bytes ht hi hz hsize hby hzs hsz v n xs hs (hown.alloc _) ⟨w.heap.size, 0, none⟩ m c news hx hl (fun j u hu => cell_alloc_add w news e j u hu) h1 (by unfold maxLen; omega) hbytes (by simp; omega) ?_
  intro v' w' h2 h3 _
  exact h v' w' h2 h3 ((Below.refl base _).grown h3 (by simp; omega) (fun k e => (hown.lt k e).1))

/-- append of a slice that shows cells, onto a slice of the call's own. -/
theorem wp_app {P : Program} {o : Oper} {a : Act} {K : Act → World → Prop} {Q : Exit → Act → World → Prop} (s x : Operand) (t : TypeId)
    (ho : o.op = .call { callee := .builtin .append, args := #[s, x], argTypes := #[t, t] })
    (base : Nat) (e : TypeId) (i : TypeInfo) (z : Value) (size bytes : Nat) (ht : P.underlying t = some (.slice e)) (hi : P.info? e = some i) (hz : i.zero = some z)
    (hsize : i.size = size) (hby : i.bytes = bytes) (hzs : z.cells.size = size) (hsz : 0 < size) (w : World)
    (v : Value) (n : Nat) (xs : List Value) (hs : a.eval s = v) (hown : w.ownsRow base e size v n xs)
    (B : Nat) (A : Option Addr) (m c : Nat) (news : List Value) (hx : a.eval x = .slice A m c) (hnew : Shows w B size A m news) (h1 : ∀ u ∈ news, u.oneCell' = true)
    (hbase : base ≤ w.heap.size) (h63 : n + m ≤ 140737488355328) (hbytes : (n + m) * bytes ≤ 140737488355328)
    (h : ∀ v' w', w'.ownsRow base e size v' (n + m) (xs ++ news) → Below base w w' → w.grownBy w' v.ownBlock → K (a.put o.dst v') w') : o.wp P a w K Q := by
  have some_ : ∀ (ad : Addr), A = some ad → (∀ j u, news[j]? = some u → w.cell? (ad.add j) = some u) → o.wp P a w K Q := by
    intro ad hA hc
    subst hA
    refine wp_append_own w s x t ho base e i z size bytes ht hi hz hsize hby hzs hsz v n xs hs hown ad m c news hx hnew.1 hc h1 (by unfold maxLen; omega) hbytes hbase ?_
    intro v' w' h2 h3 _
    exact h v' w' h2 ((Below.refl base w).grown h3 hbase (fun k e => (hown.lt k e).1)) h3
  by_cases hm : m = 0
  · subst hm
    have hn : news = [] := List.eq_nil_of_length_eq_zero (by simpa using hnew.1)
    subst hn
    cases A with
    | some ad => exact some_ ad rfl (fun j u hu => by simp at hu)
    | none =>
      have hrun : (Builtin.append_ #[t, t] o.type #[v, .slice none 0 c]).run P w = .ok v w := by
        rcases hown.2 with ⟨rfl, rfl⟩ | ⟨g, cap, cur, rfl, _, _, hnc, _⟩
        · simp [Builtin.append_, run_underlying ht, sizeOf, typeInfo, hi, Builtin.lenOf, Builtin.firstCells]
        · simp [Builtin.append_, run_underlying ht, sizeOf, typeInfo, hi, Builtin.lenOf, Builtin.firstCells, hnc, storeCells]
      have hk := h v w (by simpa using hown) (Below.refl _ _) ⟨rfl, rfl, rfl, Nat.le_refl _, fun _ _ _ => rfl⟩
      unfold Oper.wp
      simp [execOp, ho, resolve, invoke, builtin, hs, hx, hrun, Result.andThen]
      exact hk
  · obtain ⟨b, o', rfl, hb, hc⟩ := hnew.2 (by omega)
    refine some_ _ rfl (fun j u hu => ?_)
    have hadd : (⟨b, o', none⟩ : Addr).add j = ⟨b, o' + j, none⟩ := by unfold Addr.add; split <;> simp_all
    rw [hadd]
    exact hc j u hu
theorem wpList_app {P : Program} {ops : Array Oper} {rest : List Oper} {o : Oper} {a : Act} {Q : Exit → Act → World → Prop} (hgd : o.guard = none) (s x : Operand) (t : TypeId)
    (ho : o.op = .call { callee := .builtin .append, args := #[s, x], argTypes := #[t, t] })
    (base : Nat) (e : TypeId) (i : TypeInfo) (z : Value) (size bytes : Nat) (ht : P.underlying t = some (.slice e)) (hi : P.info? e = some i) (hz : i.zero = some z)
    (hsize : i.size = size) (hby : i.bytes = bytes) (hzs : z.cells.size = size) (hsz : 0 < size) (w : World)
    (v : Value) (n : Nat) (xs : List Value) (hs : a.eval s = v) (hown : w.ownsRow base e size v n xs)
    (B : Nat) (A : Option Addr) (m c : Nat) (news : List Value) (hx : a.eval x = .slice A m c) (hnew : Shows w B size A m news) (h1 : ∀ u ∈ news, u.oneCell' = true)
    (hbase : base ≤ w.heap.size) (h63 : n + m ≤ 140737488355328) (hbytes : (n + m) * bytes ≤ 140737488355328)
    (h : ∀ v' w', w'.ownsRow base e size v' (n + m) (xs ++ news) → Below base w w' → w.grownBy w' v.ownBlock → wpList P ops Q rest (a.put o.dst v') w') : wpList P ops Q (o :: rest) a w :=
  wpList_plain hgd fun _ hK => wp_app s x t ho base e i z size bytes ht hi hz hsize hby hzs hsz w v n xs hs hown B A m c news hx hnew h1 hbase h63 hbytes fun v' w' h2 h3 h4 => hK _ _ (h v' w' h2 h3 h4)

theorem P2.oneCells (l : List P2) : ∀ u ∈ P2.cells l, u.oneCell' = true := by
  intro u hu
  obtain ⟨x, _, hx⟩ := List.mem_flatMap.1 hu
  simp at hx
  rcases hx with rfl | rfl <;> rfl
theorem P2.append (l r : List P2) : P2.cells (l ++ r) = P2.cells l ++ P2.cells r := by simp [P2.cells]
theorem P2.set_b (l : List P2) (k : Nat) (hk : k < l.length) (x : Int) : (P2.cells l).set (k * 2 + 1) (.int .i64 x) = P2.cells (l.set k ⟨l[k].a, x⟩) := by
  induction l generalizing k with
  | nil => simp at hk
  | cons y l ih =>
    cases k with
    | zero => rfl
    | succ k =>
      have := ih k (by simpa using hk)
      simp only [P2.cells, List.flatMap_cons, List.set_cons_succ, List.getElem_cons_succ] at this ⊢
      rw [← this, show (k + 1) * 2 + 1 = k * 2 + 1 + 1 + 1 from by omega]
      rfl
theorem P2.set_a (l : List P2) (k : Nat) (hk : k < l.length) (x : Int) : (P2.cells l).set (k * 2) (.int .i64 x) = P2.cells (l.set k ⟨x, l[k].b⟩) := by
  induction l generalizing k with
  | nil => simp at hk
  | cons y l ih =>
    cases k with
    | zero => rfl
    | succ k =>
      have := ih k (by simpa using hk)
      simp only [P2.cells, List.flatMap_cons, List.set_cons_succ, List.getElem_cons_succ] at this ⊢
      rw [← this, show (k + 1) * 2 = k * 2 + 1 + 1 from by omega]
      rfl
/-- A row of the call's own that is not empty: its block. -/
theorem own_form {w : World} {base : Nat} {e : TypeId} {size n : Nat} {v : Value} {xs : List Value} (h : w.ownsRow base e size v n xs) (hn : 0 < n) :
    ∃ g cap, v = .slice (some ⟨g, 0, none⟩) n cap ∧ base ≤ g ∧ g < w.heap.size ∧ n ≤ cap := by
  rcases h.2 with ⟨_, h0⟩ | ⟨g, cap, cur, rfl, hb, hg, hc, _⟩
  · omega
  · exact ⟨g, cap, rfl, hb, (Array.getElem?_eq_some_iff.1 hg).1, hc⟩
theorem own_below {w w' : World} {base : Nat} {e : TypeId} {size n : Nat} {v : Value} {xs : List Value} (h : w.ownsRow base e size v n xs) (hb : Below w.heap.size w w') : w'.ownsRow base e size v n xs :=
  h.kept ⟨hb.os, hb.tape, hb.output, hb.size, fun k hk _ => hb.block k hk⟩ (by cases v.ownBlock <;> simp : v.ownBlock = none ∨ v.ownBlock ≠ none)

theorem find_range_some {p : Nat → Bool} {n i : Nat} (hi : i < n) (hp : p i = true) (hb : ∀ j, j < i → p j = false) : (List.range n).find? p = some i := by
  rw [List.find?_eq_some_iff_getElem]
  refine ⟨hp, i, by simpa using hi, by simp, fun j hj => by simpa using hb j hj⟩
theorem find_range_none {p : Nat → Bool} {n : Nat} (hb : ∀ j, j < n → p j = false) : (List.range n).find? p = none := by
  rw [List.find?_eq_none]
  intro x hx
  simp [hb x (by simpa using hx)]
theorem take_snoc {α : Type} (l : List α) (k : Nat) (hk : k < l.length) : l.take (k + 1) = l.take k ++ [l[k]] := by
  rw [List.take_succ_eq_append_getElem hk]
end Go.Proofs.Ytabaflklognhaaa
