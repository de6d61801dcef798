/-
  Words for memory that the walks of this seat share: a slice that shows a list of cells; what stays when memory only grows. Conditions: none.
  What a type is, in short: its cells, its zero, its fields. Conditions: none.
  What the types of this seat are. Conditions: none.
-/
import Derived.WalkKit
import Derived.Outline
import Derived.Deep.QuietTactic
import Derived.BigQuiet
import Derived.Lib.Hide
import Derived.Test.YtabaflklognhaaaProg
import Derived.KernelRfl
section
namespace Go.Proofs.Ytabaflklognhaaa
open Go.RowKit

/-- The slice value with address A and n elements of s cells each shows the cells xs, in a block below B. -/
def Shows (w : World) (B s : Nat) (A : Option Addr) (n : Nat) (xs : List Value) : Prop :=
  xs.length = n * s ∧ (0 < n → ∃ b o, A = some ⟨b, o, none⟩ ∧ b < B ∧ ∀ j u, xs[j]? = some u → w.cell? ⟨b, o + j, none⟩ = some u)

section
variable {w w' : World} {B B' s n : Nat} {A : Option Addr} {xs : List Value}
theorem Shows.empty (w : World) (B s : Nat) (A : Option Addr) : Shows w B s A 0 [] := ⟨by simp, fun h => absurd h (by omega)⟩
theorem Shows.keep (h : Shows w B s A n xs) (hk : ∀ b o, b < B → w'.cell? ⟨b, o, none⟩ = w.cell? ⟨b, o, none⟩) : Shows w' B s A n xs :=
  ⟨h.1, fun hn => by
    obtain ⟨b, o, e, hb, hc⟩ := h.2 hn
    exact ⟨b, o, e, hb, fun j u hu => (hk _ _ hb).trans (hc j u hu)⟩⟩
theorem Shows.more (h : Shows w B s A n xs) (hB : B ≤ B') : Shows w B' s A n xs :=
  ⟨h.1, fun hn => by
    obtain ⟨b, o, e, hb, hc⟩ := h.2 hn
    exact ⟨b, o, e, by omega, hc⟩⟩
theorem Shows.below (h : Shows w B s A n xs) (hb : Below B w w') : Shows w' B s A n xs := h.keep fun _ _ hp => hb.cell (p := ⟨_, _, none⟩) hp
theorem Shows.alloc (h : Shows w B s A n xs) (hB : B ≤ w.heap.size) (o : Obj) : Shows (w.alloc o) B s A n xs := h.below ((Below.refl B w).alloc hB o)
theorem Shows.len (h : Shows w B s A n xs) : xs.length = n * s := h.1
end

/-- What was there below B reads as it did: two rules for the walk. -/
theorem bcell {B : Nat} {W w1 : World} (hb : Below B W w1) : (∀ b o, b < B → w1.cell? ⟨b, o, none⟩ = W.cell? ⟨b, o, none⟩) ∧ (∀ b o, b < B → w1.frozen? ⟨b, o, none⟩ = W.frozen? ⟨b, o, none⟩) :=
  ⟨fun b o h => hb.cell (p := ⟨b, o, none⟩) h, fun b o h => hb.frozen (p := ⟨b, o, none⟩) h⟩

theorem heap_at (w : World) (o : Obj) (g : Nat) (h : g = w.heap.size) : (w.alloc o).heap[g]? = some o := by subst h; exact heap_alloc_new w o
theorem size_alloc (w : World) (o : Obj) : (w.alloc o).heap.size = w.heap.size + 1 := by simp
theorem below_drewN {B : Nat} {a w : World} (h : Below B a w) (n : Nat) : Below B a (w.drewN n) := ⟨h.os, h.tape, h.output, h.size, h.block⟩

theorem ret_int {k : IntKind} {a b : Int} (h : a = b) : Ending.returned (.int k a) = .returned (.int k b) := by rw [h]
theorem ret_bool {a b : Bool} (h : a = b) : Ending.returned (.bool a) = .returned (.bool b) := by rw [h]

/-- A struct of two ints. -/
structure P2 where
  a : Int
  b : Int
  deriving DecidableEq
def P2.cells (l : List P2) : List Value := l.flatMap fun x => [.int .i64 x.a, .int .i64 x.b]
theorem P2.length (l : List P2) : (P2.cells l).length = l.length * 2 := by
  induction l with
  | nil => rfl
  | cons x l ih => simp only [P2.cells, List.flatMap_cons, List.length_append, List.length_cons, List.length_nil] at ih ⊢; omega
theorem P2.get (l : List P2) (k : Nat) (hk : k < l.length) : (P2.cells l)[k * 2]? = some (.int .i64 l[k].a) ∧ (P2.cells l)[k * 2 + 1]? = some (.int .i64 l[k].b) := by
  induction l generalizing k with
  | nil => simp at hk
  | cons x l ih =>
    cases k with
    | zero => exact ⟨rfl, rfl⟩
    | succ k =>
      have := ih k (by simpa using hk)
      simp only [P2.cells, List.flatMap_cons] at this ⊢
      rw [show (k + 1) * 2 = k * 2 + 2 from by omega]
      simpa using this
/-- The slice (A, n) shows the structs l. -/
def Two (w : World) (B : Nat) (A : Option Addr) (l : List P2) : Prop := Shows w B 2 A l.length (P2.cells l)
theorem Two.at_ {w : World} {B : Nat} {A : Option Addr} {l : List P2} (h : Two w B A l) {k : Nat} (hk : k < l.length) :
    ∃ b o, A = some ⟨b, o, none⟩ ∧ b < B ∧ w.cell? ⟨b, o + k * 2, none⟩ = some (.int .i64 l[k].a) ∧ w.cell? ⟨b, o + k * 2 + 1, none⟩ = some (.int .i64 l[k].b) := by
  obtain ⟨b, o, e, hb, hc⟩ := h.2 (by omega)
  exact ⟨b, o, e, hb, hc _ _ (P2.get l k hk).1, hc _ _ (P2.get l k hk).2⟩
theorem Two.below {w w' : World} {B : Nat} {A : Option Addr} {l : List P2} (h : Two w B A l) (hb : Below B w w') : Two w' B A l := Shows.below h hb

def ints (l : List Int) : List Value := l.map (Value.int .i64)
theorem ints_length (l : List Int) : (ints l).length = l.length := by simp [ints]
theorem ints_get (l : List Int) (k : Nat) (hk : k < l.length) : (ints l)[k]? = some (.int .i64 l[k]) := by simp [ints, hk]
/-- The slice (A, n) shows the ints l. -/
def Nums (w : World) (B : Nat) (A : Option Addr) (l : List Int) : Prop := Shows w B 1 A l.length (ints l)
theorem Nums.at_ {w : World} {B : Nat} {A : Option Addr} {l : List Int} (h : Nums w B A l) {k : Nat} (hk : k < l.length) :
    ∃ b o, A = some ⟨b, o, none⟩ ∧ b < B ∧ w.cell? ⟨b, o + k, none⟩ = some (.int .i64 l[k]) := by
  obtain ⟨b, o, e, hb, hc⟩ := h.2 (by omega)
  exact ⟨b, o, e, hb, hc _ _ (ints_get l k hk)⟩
theorem Nums.below {w w' : World} {B : Nat} {A : Option Addr} {l : List Int} (h : Nums w B A l) (hb : Below B w w') : Nums w' B A l := Shows.below h hb
theorem Nums.more {w : World} {B B' : Nat} {A : Option Addr} {l : List Int} (h : Nums w B A l) (hB : B ≤ B') : Nums w B' A l := Shows.more h hB

theorem shows_of_own {w : World} {base s n : Nat} {e : TypeId} {v : Value} {xs : List Value} (h : w.ownsRow base e s v n xs) :
    ∃ A c, v = .slice A n c ∧ Shows w w.heap.size s A n xs := by
  obtain ⟨hl, ⟨rfl, rfl⟩ | ⟨g, cap, cur, rfl, hb, hg, hn, hc, hsz, ht⟩⟩ := h
  · exact ⟨none, 0, rfl, hl, fun h => absurd h (by omega)⟩
  · refine ⟨_, _, rfl, hl, fun _ => ⟨g, 0, rfl, (Array.getElem?_eq_some_iff.1 hg).1, fun j u hu => ?_⟩⟩
    rw [cell_of_row w g (0 + j) cur e (0, 0) hg, Nat.zero_add]
    rw [← ht, List.getElem?_take] at hu
    split at hu
    · simpa using hu
    · cases hu

theorem cell_alloc_add (w : World) (news : List Value) (e : TypeId) (j : Nat) (u : Value) (hu : news[j]? = some u) :
    (w.alloc (.cells news.toArray e)).cell? ((⟨w.heap.size, 0, none⟩ : Addr).add j) = some u := by
  have hadd : (⟨w.heap.size, 0, none⟩ : Addr).add j = ⟨w.heap.size, j, none⟩ := by unfold Addr.add; split <;> simp_all
  rw [hadd, cell_of_row _ w.heap.size j news.toArray e (0, 0) (heap_alloc_new w _)]
  simpa using hu

/-- append of what a slice literal has just made, onto a slice of the call's own. -/
theorem push_own {P : Program} {ops : Array Oper} {rest : List Oper} {o : Oper} {a : Act} {Q : Exit → Act → World → Prop} (hgd : o.guard = none) (s x : Operand) (t : TypeId)
    (ho : o.op = .call { callee := .builtin .append, args := #[s, x], argTypes := #[t, t] })
    (base : Nat) (e : TypeId) (i : TypeInfo) (z : Value) (size bytes : Nat) (ht : P.underlying t = some (.slice e)) (hi : P.info? e = some i) (hz : i.zero = some z)
    (hsize : i.size = size) (hby : i.bytes = bytes) (hzs : z.cells.size = size) (hsz : 0 < size) (w : World)
    (v : Value) (n : Nat) (xs : List Value) (hs : a.eval s = v) (hown : w.ownsRow base e size v n xs)
    (m c : Nat) (news : List Value) (hx : a.eval x = .slice (some ⟨w.heap.size, 0, none⟩) m c) (hl : news.length = m * size) (h1 : ∀ u ∈ news, u.oneCell' = true)
    (hbase : base ≤ w.heap.size) (h63 : n + m ≤ 140737488355328) (hbytes : (n + m) * bytes ≤ 140737488355328)
    (h : ∀ v' w', w'.ownsRow base e size v' (n + m) (xs ++ news) → Below base w w' → w.grownBy w' v.ownBlock → wpList P ops Q rest (a.put o.dst v') w') :
    wpList P ops Q (o :: rest) a (w.alloc (.cells news.toArray e)) := by
  refine wpList_append_own _ hgd s x t ho base e i z size bytes ht hi hz hsize hby hzs hsz v n xs hs (hown.alloc _) ⟨w.heap.size, 0, none⟩ m c news hx hl (fun j u hu => cell_alloc_add w news e j u hu) h1 (by unfold maxLen; omega) hbytes (by simp; omega) ?_
  intro v' w' h2 h3 _
  have hg : w.grownBy w' v.ownBlock := ⟨h3.os, h3.tape, h3.output, Nat.le_trans (by simp) h3.size, fun k hk hne => (h3.block k (by simp; omega) hne).trans (Below.heap_alloc w _ k hk)⟩
  exact h v' w' h2 ((Below.refl base w).grown hg hbase (fun k e => (hown.lt k e).1)) hg

theorem wp_push {P : Program} {o : Oper} {a : Act} {K : Act → World → Prop} {Q : Exit → Act → World → Prop} (s x : Operand) (t : TypeId)
    (ho : o.op = .call { callee := .builtin .append, args := #[s, x], argTypes := #[t, t] })
    (base : Nat) (e : TypeId) (i : TypeInfo) (z : Value) (size bytes : Nat) (ht : P.underlying t = some (.slice e)) (hi : P.info? e = some i) (hz : i.zero = some z)
    (hsize : i.size = size) (hby : i.bytes = bytes) (hzs : z.cells.size = size) (hsz : 0 < size) (w : World)
    (v : Value) (n : Nat) (xs : List Value) (hs : a.eval s = v) (hown : w.ownsRow base e size v n xs)
    (m c : Nat) (news : List Value) (hx : a.eval x = .slice (some ⟨w.heap.size, 0, none⟩) m c) (hl : news.length = m * size) (h1 : ∀ u ∈ news, u.oneCell' = true)
    (hbase : base ≤ w.heap.size) (h63 : n + m ≤ 140737488355328) (hbytes : (n + m) * bytes ≤ 140737488355328)
    (h : ∀ v' w', w'.ownsRow base e size v' (n + m) (xs ++ news) → (w.alloc (.cells news.toArray e)).grownBy w' v.ownBlock → Below base (w.alloc (.cells news.toArray e)) w' → K (a.put o.dst v') w') :
    o.wp P a (w.alloc (.cells news.toArray e)) K Q := by
  refine wp_append_own _ s x t ho base e i z size bytes ht hi hz hsize hby hzs hsz v n xs hs (hown.alloc _) ⟨w.heap.size, 0, none⟩ m c news hx hl (fun j u hu => cell_alloc_add w news e j u hu) h1 (by unfold maxLen; omega) hbytes (by simp; omega) ?_
  intro v' w' h2 h3 _
  exact h v' w' h2 h3 ((Below.refl base _).grown h3 (by simp; omega) (fun k e => (hown.lt k e).1))

/-- append of a slice that shows cells, onto a slice of the call's own. -/
theorem wp_app {P : Program} {o : Oper} {a : Act} {K : Act → World → Prop} {Q : Exit → Act → World → Prop} (s x : Operand) (t : TypeId)
    (ho : o.op = .call { callee := .builtin .append, args := #[s, x], argTypes := #[t, t] })
    (base : Nat) (e : TypeId) (i : TypeInfo) (z : Value) (size bytes : Nat) (ht : P.underlying t = some (.slice e)) (hi : P.info? e = some i) (hz : i.zero = some z)
    (hsize : i.size = size) (hby : i.bytes = bytes) (hzs : z.cells.size = size) (hsz : 0 < size) (w : World)
    (v : Value) (n : Nat) (xs : List Value) (hs : a.eval s = v) (hown : w.ownsRow base e size v n xs)
    (B : Nat) (A : Option Addr) (m c : Nat) (news : List Value) (hx : a.eval x = .slice A m c) (hnew : Shows w B size A m news) (h1 : ∀ u ∈ news, u.oneCell' = true)
    (hbase : base ≤ w.heap.size) (h63 : n + m ≤ 140737488355328) (hbytes : (n + m) * bytes ≤ 140737488355328)
    (h : ∀ v' w', w'.ownsRow base e size v' (n + m) (xs ++ news) → Below base w w' → w.grownBy w' v.ownBlock → K (a.put o.dst v') w') : o.wp P a w K Q := by
  have some_ : ∀ (ad : Addr), A = some ad → (∀ j u, news[j]? = some u → w.cell? (ad.add j) = some u) → o.wp P a w K Q := by
    intro ad hA hc
    subst hA
    refine wp_append_own w s x t ho base e i z size bytes ht hi hz hsize hby hzs hsz v n xs hs hown ad m c news hx hnew.1 hc h1 (by unfold maxLen; omega) hbytes hbase ?_
    intro v' w' h2 h3 _
    exact h v' w' h2 ((Below.refl base w).grown h3 hbase (fun k e => (hown.lt k e).1)) h3
  by_cases hm : m = 0
  · subst hm
    have hn : news = [] := List.eq_nil_of_length_eq_zero (by simpa using hnew.1)
    subst hn
    cases A with
    | some ad => exact some_ ad rfl (fun j u hu => by simp at hu)
    | none =>
      have hrun : (Builtin.append_ #[t, t] o.type #[v, .slice none 0 c]).run P w = .ok v w := by
        rcases hown.2 with ⟨rfl, rfl⟩ | ⟨g, cap, cur, rfl, _, _, hnc, _⟩
        · simp [Builtin.append_, run_underlying ht, sizeOf, typeInfo, hi, Builtin.lenOf, Builtin.firstCells]
        · simp [Builtin.append_, run_underlying ht, sizeOf, typeInfo, hi, Builtin.lenOf, Builtin.firstCells, hnc, storeCells]
      have hk := h v w (by simpa using hown) (Below.refl _ _) ⟨rfl, rfl, rfl, Nat.le_refl _, fun _ _ _ => rfl⟩
      unfold Oper.wp
      simp [execOp, ho, resolve, invoke, builtin, hs, hx, hrun, Result.andThen]
      exact hk
  · obtain ⟨b, o', rfl, hb, hc⟩ := hnew.2 (by omega)
    refine some_ _ rfl (fun j u hu => ?_)
    have hadd : (⟨b, o', none⟩ : Addr).add j = ⟨b, o' + j, none⟩ := by unfold Addr.add; split <;> simp_all
    rw [hadd]
    exact hc j u hu
theorem wpList_app {P : Program} {ops : Array Oper} {rest : List Oper} {o : Oper} {a : Act} {Q : Exit → Act → World → Prop} (hgd : o.guard = none) (s x : Operand) (t : TypeId)
    (ho : o.op = .call { callee := .builtin .append, args := #[s, x], argTypes := #[t, t] })
    (base : Nat) (e : TypeId) (i : TypeInfo) (z : Value) (size bytes : Nat) (ht : P.underlying t = some (.slice e)) (hi : P.info? e = some i) (hz : i.zero = some z)
    (hsize : i.size = size) (hby : i.bytes = bytes) (hzs : z.cells.size = size) (hsz : 0 < size) (w : World)
    (v : Value) (n : Nat) (xs : List Value) (hs : a.eval s = v) (hown : w.ownsRow base e size v n xs)
    (B : Nat) (A : Option Addr) (m c : Nat) (news : List Value) (hx : a.eval x = .slice A m c) (hnew : Shows w B size A m news) (h1 : ∀ u ∈ news, u.oneCell' = true)
    (hbase : base ≤ w.heap.size) (h63 : n + m ≤ 140737488355328) (hbytes : (n + m) * bytes ≤ 140737488355328)
    (h : ∀ v' w', w'.ownsRow base e size v' (n + m) (xs ++ news) → Below base w w' → w.grownBy w' v.ownBlock → wpList P ops Q rest (a.put o.dst v') w') : wpList P ops Q (o :: rest) a w :=
  wpList_plain hgd fun _ hK => wp_app s x t ho base e i z size bytes ht hi hz hsize hby hzs hsz w v n xs hs hown B A m c news hx hnew h1 hbase h63 hbytes fun v' w' h2 h3 h4 => hK _ _ (h v' w' h2 h3 h4)

theorem P2.oneCells (l : List P2) : ∀ u ∈ P2.cells l, u.oneCell' = true := by
  intro u hu
  obtain ⟨x, _, hx⟩ := List.mem_flatMap.1 hu
  simp at hx
  rcases hx with rfl | rfl <;> rfl
theorem P2.append (l r : List P2) : P2.cells (l ++ r) = P2.cells l ++ P2.cells r := by simp [P2.cells]
theorem P2.set_b (l : List P2) (k : Nat) (hk : k < l.length) (x : Int) : (P2.cells l).set (k * 2 + 1) (.int .i64 x) = P2.cells (l.set k ⟨l[k].a, x⟩) := by
  induction l generalizing k with
  | nil => simp at hk
  | cons y l ih =>
    cases k with
    | zero => rfl
    | succ k =>
      have := ih k (by simpa using hk)
      simp only [P2.cells, List.flatMap_cons, List.set_cons_succ, List.getElem_cons_succ] at this ⊢
      rw [← this, show (k + 1) * 2 + 1 = k * 2 + 1 + 1 + 1 from by omega]
      rfl
theorem P2.set_a (l : List P2) (k : Nat) (hk : k < l.length) (x : Int) : (P2.cells l).set (k * 2) (.int .i64 x) = P2.cells (l.set k ⟨x, l[k].b⟩) := by
  induction l generalizing k with
  | nil => simp at hk
  | cons y l ih =>
    cases k with
    | zero => rfl
    | succ k =>
      have := ih k (by simpa using hk)
      simp only [P2.cells, List.flatMap_cons, List.set_cons_succ, List.getElem_cons_succ] at this ⊢
      rw [← this, show (k + 1) * 2 = k * 2 + 1 + 1 from by omega]
      rfl
/-- A row of the call's own that is not empty: its block. -/
theorem own_form {w : World} {base : Nat} {e : TypeId} {size n : Nat} {v : Value} {xs : List Value} (h : w.ownsRow base e size v n xs) (hn : 0 < n) :
    ∃ g cap, v = .slice (some ⟨g, 0, none⟩) n cap ∧ base ≤ g ∧ g < w.heap.size ∧ n ≤ cap := by
  rcases h.2 with ⟨_, h0⟩ | ⟨g, cap, cur, rfl, hb, hg, hc, _⟩
  · omega
  · exact ⟨g, cap, rfl, hb, (Array.getElem?_eq_some_iff.1 hg).1, hc⟩
theorem own_below {w w' : World} {base : Nat} {e : TypeId} {size n : Nat} {v : Value} {xs : List Value} (h : w.ownsRow base e size v n xs) (hb : Below w.heap.size w w') : w'.ownsRow base e size v n xs :=
  h.kept ⟨hb.os, hb.tape, hb.output, hb.size, fun k hk _ => hb.block k hk⟩ (by cases v.ownBlock <;> simp : v.ownBlock = none ∨ v.ownBlock ≠ none)

theorem find_range_some {p : Nat → Bool} {n i : Nat} (hi : i < n) (hp : p i = true) (hb : ∀ j, j < i → p j = false) : (List.range n).find? p = some i := by
  rw [List.find?_eq_some_iff_getElem]
  refine ⟨hp, i, by simpa using hi, by simp, fun j hj => by simpa using hb j hj⟩
theorem find_range_none {p : Nat → Bool} {n : Nat} (hb : ∀ j, j < n → p j = false) : (List.range n).find? p = none := by
  rw [List.find?_eq_none]
  intro x hx
  simp [hb x (by simpa using hx)]
theorem take_snoc {α : Type} (l : List α) (k : Nat) (hk : k < l.length) : l.take (k + 1) = l.take k ++ [l[k]] := by
  rw [List.take_succ_eq_append_getElem hk]
end Go.Proofs.Ytabaflklognhaaa
end
section
namespace Go.Proofs.Ytabaflklognhaaa
open Go.RowKit

inductive TI where
  | no
  | one (z : Value)
  | st (z : List Value) (fs : List (Nat × Nat × Nat))
  | ar (n e es : Nat) (z : List Value)
  | sl (e es eb : Nat) (ez : Value)

def tiOf (P : Program) (t : TypeId) : TI :=
  match P.info? t, P.underlying t with
  | some i, some (.struct fs) =>
    match i.zero, fs.toList.mapM (fun f => (P.info? f.type).map fun j => (f.offset, j.size, f.type)) with
    | some (.agg z), some pl => if z.size = i.size then .st z.toList pl else .no
    | _, _ => .no
  | some i, some (.array n e) =>
    match i.zero, P.info? e with
    | some (.agg z), some j => if z.size = i.size then .ar n e j.size z.toList else .no
    | _, _ => .no
  | some i, some (.slice e) =>
    match P.info? e with
    | some j => match j.zero with
      | some ez => if i.size = 1 ∧ ez.cells.size = j.size then .sl e j.size j.bytes ez else .no
      | none => .no
    | none => .no
  | some i, some _ => match i.zero with
    | some z => if i.size = 1 ∧ z.oneCell' = true then .one z else .no
    | none => .no
  | _, _ => .no
end Go.Proofs.Ytabaflklognhaaa
end
section
namespace Go.Proofs.Ytabaflklognhaaa

def ti : Nat → TI
  | 1 => .one (.nilFunc)
  | 2 => .one (.int .i64 0)
  | 3 => .one (.int .i64 0)
  | 4 => .one (.bool Bool.false)
  | 5 => .one (.int .u8 0)
  | 6 => .one (.int .u8 0)
  | 7 => .st [.int .i64 0, .int .i64 0, .bool Bool.false, .int .u8 0] [(0, 1, 2), (1, 1, 3), (2, 1, 4), (3, 1, 6)]
  | 8 => .st [.int .i64 0, .int .i64 0, .bool Bool.false, .int .u8 0] [(0, 1, 2), (1, 1, 3), (2, 1, 4), (3, 1, 6)]
  | 9 => .one (.string ⟨#[]⟩)
  | 10 => .one (.string ⟨#[]⟩)
  | 11 => .one (.string ⟨#[]⟩)
  | 12 => .one (.int .u64 0)
  | 13 => .st [.string ⟨#[]⟩, .int .u64 0] [(0, 1, 9), (1, 1, 12)]
  | 14 => .st [.string ⟨#[]⟩, .int .u64 0] [(0, 1, 9), (1, 1, 12)]
  | 15 => .one (.pointer none)
  | 16 => .one (.pointer none)
  | 17 => .one (.pointer none)
  | 18 => .st [.pointer none] [(0, 1, 17)]
  | 19 => .st [.pointer none] [(0, 1, 17)]
  | 20 => .one (.nilIface)
  | 21 => .one (.int .i32 0)
  | 22 => .sl 33 5 64 (.agg #[.int .i64 0, .int .i64 0, .int .i64 0, .string ⟨#[]⟩, .slice none 0 0])
  | 23 => .one (.nilFunc)
  | 24 => .one (.nilFunc)
  | 25 => .one (.pointer none)
  | 26 => .one (.nilFunc)
  | 27 => .one (.pointer none)
  | 28 => .one (.nilFunc)
  | 29 => .one (.int .i64 0)
  | 30 => .one (.nilFunc)
  | 31 => .sl 3 1 8 (.int .i64 0)
  | 32 => .st [.int .i64 0, .int .i64 0, .int .i64 0, .string ⟨#[]⟩, .slice none 0 0] [(0, 1, 3), (1, 1, 3), (2, 1, 3), (3, 1, 9), (4, 1, 31)]
  | 33 => .st [.int .i64 0, .int .i64 0, .int .i64 0, .string ⟨#[]⟩, .slice none 0 0] [(0, 1, 3), (1, 1, 3), (2, 1, 3), (3, 1, 9), (4, 1, 31)]
  | 34 => .one (.nilFunc)
  | 35 => .one (.nilFunc)
  | 36 => .one (.nilFunc)
  | 38 => .one (.nilFunc)
  | 39 => .one (.nilFunc)
  | 40 => .one (.nilFunc)
  | 42 => .one (.nilFunc)
  | 43 => .one (.nilFunc)
  | 44 => .one (.nilFunc)
  | 45 => .one (.nilFunc)
  | 46 => .one (.nilFunc)
  | 47 => .one (.nilFunc)
  | 48 => .one (.nilFunc)
  | 49 => .one (.nilFunc)
  | 50 => .one (.nilFunc)
  | 51 => .one (.nilFunc)
  | 52 => .one (.map none)
  | 53 => .one (.map none)
  | 54 => .sl 70 2 16 (.agg #[.int .i64 0, .int .i64 0])
  | 55 => .st [.map none, .slice none 0 0, .map none, .int .i64 0, .bool Bool.false, .int .i64 0, .slice none 0 0] [(0, 1, 52), (1, 1, 54), (2, 1, 53), (3, 1, 3), (4, 1, 4), (5, 1, 3), (6, 1, 31)]
  | 56 => .st [.map none, .slice none 0 0, .map none, .int .i64 0, .bool Bool.false, .int .i64 0, .slice none 0 0] [(0, 1, 52), (1, 1, 54), (2, 1, 53), (3, 1, 3), (4, 1, 4), (5, 1, 3), (6, 1, 31)]
  | 57 => .sl 65 3 40 (.agg #[.int .i64 0, .string ⟨#[]⟩, .string ⟨#[]⟩])
  | 58 => .sl 78 2 16 (.agg #[.int .i64 0, .int .i64 0])
  | 59 => .st [.slice none 0 0, .slice none 0 0, .int .i64 0, .bool Bool.false, .int .i64 0, .slice none 0 0] [(0, 1, 57), (1, 1, 58), (2, 1, 3), (3, 1, 4), (4, 1, 3), (5, 1, 31)]
  | 60 => .st [.slice none 0 0, .slice none 0 0, .int .i64 0, .bool Bool.false, .int .i64 0, .slice none 0 0] [(0, 1, 57), (1, 1, 58), (2, 1, 3), (3, 1, 4), (4, 1, 3), (5, 1, 31)]
  | 61 => .one (.nilFunc)
  | 62 => .st [.string ⟨#[]⟩, .string ⟨#[]⟩] [(0, 1, 9), (1, 1, 9)]
  | 63 => .st [.string ⟨#[]⟩, .string ⟨#[]⟩] [(0, 1, 9), (1, 1, 9)]
  | 64 => .st [.int .i64 0, .string ⟨#[]⟩, .string ⟨#[]⟩] [(0, 1, 3), (1, 1, 9), (2, 1, 9)]
  | 65 => .st [.int .i64 0, .string ⟨#[]⟩, .string ⟨#[]⟩] [(0, 1, 3), (1, 1, 9), (2, 1, 9)]
  | 66 => .one (.nilFunc)
  | 67 => .one (.nilFunc)
  | 68 => .one (.nilFunc)
  | 69 => .st [.int .i64 0, .int .i64 0] [(0, 1, 3), (1, 1, 3)]
  | 70 => .st [.int .i64 0, .int .i64 0] [(0, 1, 3), (1, 1, 3)]
  | 71 => .one (.nilFunc)
  | 72 => .one (.nilFunc)
  | 73 => .one (.nilFunc)
  | 74 => .one (.nilFunc)
  | 75 => .one (.nilFunc)
  | 76 => .one (.nilFunc)
  | 77 => .st [.int .i64 0, .int .i64 0] [(0, 1, 3), (1, 1, 3)]
  | 78 => .st [.int .i64 0, .int .i64 0] [(0, 1, 3), (1, 1, 3)]
  | 79 => .one (.nilFunc)
  | 80 => .one (.nilFunc)
  | 81 => .one (.nilFunc)
  | 82 => .one (.nilFunc)
  | 83 => .one (.nilFunc)
  | 84 => .one (.nilFunc)
  | 85 => .sl 5 1 1 (.int .u8 0)
  | 86 => .one (.nilFunc)
  | 87 => .one (.nilFunc)
  | 88 => .one (.nilFunc)
  | 89 => .one (.nilFunc)
  | 90 => .st [.pointer none, .pointer none, .pointer none, .string ⟨#[]⟩] [(0, 1, 17), (1, 1, 17), (2, 1, 17), (3, 1, 9)]
  | 91 => .st [.pointer none, .pointer none, .pointer none, .string ⟨#[]⟩] [(0, 1, 17), (1, 1, 17), (2, 1, 17), (3, 1, 9)]
  | 92 => .ar 0 16 1 []
  | 93 => .st [] [(0, 0, 92)]
  | 94 => .st [] [(0, 0, 92)]
  | 95 => .one (.nilFunc)
  | 96 => .one (.int .u32 0)
  | 97 => .one (.int .u8 0)
  | 98 => .one (.int .u8 0)
  | 99 => .one (.nilFunc)
  | 100 => .one (.pointer none)
  | 101 => .one (.int .i32 0)
  | 102 => .one (.int .i32 0)
  | 103 => .st [.int .u64 0, .int .u64 0, .int .u32 0, .int .u8 0, .int .u8 0, .int .u8 0, .int .u8 0, .nilFunc, .pointer none, .int .i32 0, .int .i32 0] [(0, 1, 12), (1, 1, 12), (2, 1, 96), (3, 1, 97), (4, 1, 5), (5, 1, 5), (6, 1, 98), (7, 1, 99), (8, 1, 100), (9, 1, 101), (10, 1, 102)]
  | 104 => .st [.int .u64 0, .int .u64 0, .int .u32 0, .int .u8 0, .int .u8 0, .int .u8 0, .int .u8 0, .nilFunc, .pointer none, .int .i32 0, .int .i32 0] [(0, 1, 12), (1, 1, 12), (2, 1, 96), (3, 1, 97), (4, 1, 5), (5, 1, 5), (6, 1, 98), (7, 1, 99), (8, 1, 100), (9, 1, 101), (10, 1, 102)]
  | 105 => .one (.pointer none)
  | _ => .no
theorem ti1 : tiOf Try.prog 1 = ti 1 := by kernel_rfl
theorem ti2 : tiOf Try.prog 2 = ti 2 := by kernel_rfl
theorem ti3 : tiOf Try.prog 3 = ti 3 := by kernel_rfl
theorem ti4 : tiOf Try.prog 4 = ti 4 := by kernel_rfl
theorem ti5 : tiOf Try.prog 5 = ti 5 := by kernel_rfl
theorem ti6 : tiOf Try.prog 6 = ti 6 := by kernel_rfl
theorem ti7 : tiOf Try.prog 7 = ti 7 := by kernel_rfl
theorem ti8 : tiOf Try.prog 8 = ti 8 := by kernel_rfl
theorem ti9 : tiOf Try.prog 9 = ti 9 := by kernel_rfl
theorem ti10 : tiOf Try.prog 10 = ti 10 := by kernel_rfl
theorem ti11 : tiOf Try.prog 11 = ti 11 := by kernel_rfl
theorem ti12 : tiOf Try.prog 12 = ti 12 := by kernel_rfl
theorem ti13 : tiOf Try.prog 13 = ti 13 := by kernel_rfl
theorem ti14 : tiOf Try.prog 14 = ti 14 := by kernel_rfl
theorem ti15 : tiOf Try.prog 15 = ti 15 := by kernel_rfl
theorem ti16 : tiOf Try.prog 16 = ti 16 := by kernel_rfl
theorem ti17 : tiOf Try.prog 17 = ti 17 := by kernel_rfl
theorem ti18 : tiOf Try.prog 18 = ti 18 := by kernel_rfl
theorem ti19 : tiOf Try.prog 19 = ti 19 := by kernel_rfl
theorem ti20 : tiOf Try.prog 20 = ti 20 := by kernel_rfl
theorem ti21 : tiOf Try.prog 21 = ti 21 := by kernel_rfl
theorem ti22 : tiOf Try.prog 22 = ti 22 := by kernel_rfl
theorem ti23 : tiOf Try.prog 23 = ti 23 := by kernel_rfl
theorem ti24 : tiOf Try.prog 24 = ti 24 := by kernel_rfl
theorem ti25 : tiOf Try.prog 25 = ti 25 := by kernel_rfl
theorem ti26 : tiOf Try.prog 26 = ti 26 := by kernel_rfl
theorem ti27 : tiOf Try.prog 27 = ti 27 := by kernel_rfl
theorem ti28 : tiOf Try.prog 28 = ti 28 := by kernel_rfl
theorem ti29 : tiOf Try.prog 29 = ti 29 := by kernel_rfl
theorem ti30 : tiOf Try.prog 30 = ti 30 := by kernel_rfl
theorem ti31 : tiOf Try.prog 31 = ti 31 := by kernel_rfl
theorem ti32 : tiOf Try.prog 32 = ti 32 := by kernel_rfl
theorem ti33 : tiOf Try.prog 33 = ti 33 := by kernel_rfl
theorem ti34 : tiOf Try.prog 34 = ti 34 := by kernel_rfl
theorem ti35 : tiOf Try.prog 35 = ti 35 := by kernel_rfl
theorem ti36 : tiOf Try.prog 36 = ti 36 := by kernel_rfl
theorem ti38 : tiOf Try.prog 38 = ti 38 := by kernel_rfl
theorem ti39 : tiOf Try.prog 39 = ti 39 := by kernel_rfl
theorem ti40 : tiOf Try.prog 40 = ti 40 := by kernel_rfl
theorem ti42 : tiOf Try.prog 42 = ti 42 := by kernel_rfl
theorem ti43 : tiOf Try.prog 43 = ti 43 := by kernel_rfl
theorem ti44 : tiOf Try.prog 44 = ti 44 := by kernel_rfl
theorem ti45 : tiOf Try.prog 45 = ti 45 := by kernel_rfl
theorem ti46 : tiOf Try.prog 46 = ti 46 := by kernel_rfl
theorem ti47 : tiOf Try.prog 47 = ti 47 := by kernel_rfl
theorem ti48 : tiOf Try.prog 48 = ti 48 := by kernel_rfl
theorem ti49 : tiOf Try.prog 49 = ti 49 := by kernel_rfl
theorem ti50 : tiOf Try.prog 50 = ti 50 := by kernel_rfl
theorem ti51 : tiOf Try.prog 51 = ti 51 := by kernel_rfl
theorem ti52 : tiOf Try.prog 52 = ti 52 := by kernel_rfl
theorem ti53 : tiOf Try.prog 53 = ti 53 := by kernel_rfl
theorem ti54 : tiOf Try.prog 54 = ti 54 := by kernel_rfl
theorem ti55 : tiOf Try.prog 55 = ti 55 := by kernel_rfl
theorem ti56 : tiOf Try.prog 56 = ti 56 := by kernel_rfl
theorem ti57 : tiOf Try.prog 57 = ti 57 := by kernel_rfl
theorem ti58 : tiOf Try.prog 58 = ti 58 := by kernel_rfl
theorem ti59 : tiOf Try.prog 59 = ti 59 := by kernel_rfl
theorem ti60 : tiOf Try.prog 60 = ti 60 := by kernel_rfl
theorem ti61 : tiOf Try.prog 61 = ti 61 := by kernel_rfl
theorem ti62 : tiOf Try.prog 62 = ti 62 := by kernel_rfl
theorem ti63 : tiOf Try.prog 63 = ti 63 := by kernel_rfl
theorem ti64 : tiOf Try.prog 64 = ti 64 := by kernel_rfl
theorem ti65 : tiOf Try.prog 65 = ti 65 := by kernel_rfl
theorem ti66 : tiOf Try.prog 66 = ti 66 := by kernel_rfl
theorem ti67 : tiOf Try.prog 67 = ti 67 := by kernel_rfl
theorem ti68 : tiOf Try.prog 68 = ti 68 := by kernel_rfl
theorem ti69 : tiOf Try.prog 69 = ti 69 := by kernel_rfl
theorem ti70 : tiOf Try.prog 70 = ti 70 := by kernel_rfl
theorem ti71 : tiOf Try.prog 71 = ti 71 := by kernel_rfl
theorem ti72 : tiOf Try.prog 72 = ti 72 := by kernel_rfl
theorem ti73 : tiOf Try.prog 73 = ti 73 := by kernel_rfl
theorem ti74 : tiOf Try.prog 74 = ti 74 := by kernel_rfl
theorem ti75 : tiOf Try.prog 75 = ti 75 := by kernel_rfl
theorem ti76 : tiOf Try.prog 76 = ti 76 := by kernel_rfl
theorem ti77 : tiOf Try.prog 77 = ti 77 := by kernel_rfl
theorem ti78 : tiOf Try.prog 78 = ti 78 := by kernel_rfl
theorem ti79 : tiOf Try.prog 79 = ti 79 := by kernel_rfl
theorem ti80 : tiOf Try.prog 80 = ti 80 := by kernel_rfl
theorem ti81 : tiOf Try.prog 81 = ti 81 := by kernel_rfl
theorem ti82 : tiOf Try.prog 82 = ti 82 := by kernel_rfl
theorem ti83 : tiOf Try.prog 83 = ti 83 := by kernel_rfl
theorem ti84 : tiOf Try.prog 84 = ti 84 := by kernel_rfl
theorem ti85 : tiOf Try.prog 85 = ti 85 := by kernel_rfl
theorem ti86 : tiOf Try.prog 86 = ti 86 := by kernel_rfl
theorem ti87 : tiOf Try.prog 87 = ti 87 := by kernel_rfl
theorem ti88 : tiOf Try.prog 88 = ti 88 := by kernel_rfl
theorem ti89 : tiOf Try.prog 89 = ti 89 := by kernel_rfl
theorem ti90 : tiOf Try.prog 90 = ti 90 := by kernel_rfl
theorem ti91 : tiOf Try.prog 91 = ti 91 := by kernel_rfl
theorem ti92 : tiOf Try.prog 92 = ti 92 := by kernel_rfl
theorem ti93 : tiOf Try.prog 93 = ti 93 := by kernel_rfl
theorem ti94 : tiOf Try.prog 94 = ti 94 := by kernel_rfl
theorem ti95 : tiOf Try.prog 95 = ti 95 := by kernel_rfl
theorem ti96 : tiOf Try.prog 96 = ti 96 := by kernel_rfl
theorem ti97 : tiOf Try.prog 97 = ti 97 := by kernel_rfl
theorem ti98 : tiOf Try.prog 98 = ti 98 := by kernel_rfl
theorem ti99 : tiOf Try.prog 99 = ti 99 := by kernel_rfl
theorem ti100 : tiOf Try.prog 100 = ti 100 := by kernel_rfl
theorem ti101 : tiOf Try.prog 101 = ti 101 := by kernel_rfl
theorem ti102 : tiOf Try.prog 102 = ti 102 := by kernel_rfl
theorem ti103 : tiOf Try.prog 103 = ti 103 := by kernel_rfl
theorem ti104 : tiOf Try.prog 104 = ti 104 := by kernel_rfl
theorem ti105 : tiOf Try.prog 105 = ti 105 := by kernel_rfl
theorem tiok : ∀ t, ti t ≠ .no → tiOf Try.prog t = ti t := by
  intro t h
  unfold ti at h
  split at h
  · exact ti1
  · exact ti2
  · exact ti3
  · exact ti4
  · exact ti5
  · exact ti6
  · exact ti7
  · exact ti8
  · exact ti9
  · exact ti10
  · exact ti11
  · exact ti12
  · exact ti13
  · exact ti14
  · exact ti15
  · exact ti16
  · exact ti17
  · exact ti18
  · exact ti19
  · exact ti20
  · exact ti21
  · exact ti22
  · exact ti23
  · exact ti24
  · exact ti25
  · exact ti26
  · exact ti27
  · exact ti28
  · exact ti29
  · exact ti30
  · exact ti31
  · exact ti32
  · exact ti33
  · exact ti34
  · exact ti35
  · exact ti36
  · exact ti38
  · exact ti39
  · exact ti40
  · exact ti42
  · exact ti43
  · exact ti44
  · exact ti45
  · exact ti46
  · exact ti47
  · exact ti48
  · exact ti49
  · exact ti50
  · exact ti51
  · exact ti52
  · exact ti53
  · exact ti54
  · exact ti55
  · exact ti56
  · exact ti57
  · exact ti58
  · exact ti59
  · exact ti60
  · exact ti61
  · exact ti62
  · exact ti63
  · exact ti64
  · exact ti65
  · exact ti66
  · exact ti67
  · exact ti68
  · exact ti69
  · exact ti70
  · exact ti71
  · exact ti72
  · exact ti73
  · exact ti74
  · exact ti75
  · exact ti76
  · exact ti77
  · exact ti78
  · exact ti79
  · exact ti80
  · exact ti81
  · exact ti82
  · exact ti83
  · exact ti84
  · exact ti85
  · exact ti86
  · exact ti87
  · exact ti88
  · exact ti89
  · exact ti90
  · exact ti91
  · exact ti92
  · exact ti93
  · exact ti94
  · exact ti95
  · exact ti96
  · exact ti97
  · exact ti98
  · exact ti99
  · exact ti100
  · exact ti101
  · exact ti102
  · exact ti103
  · exact ti104
  · exact ti105
  · exact absurd rfl h
def ki : Nat → Option IntKind
  | 2 => some .i64
  | 3 => some .i64
  | 5 => some .u8
  | 6 => some .u8
  | 12 => some .u64
  | 21 => some .i32
  | 29 => some .i64
  | 96 => some .u32
  | 97 => some .u8
  | 98 => some .u8
  | 101 => some .i32
  | 102 => some .i32
  | _ => none
theorem ki2 : Try.prog.underlying 2 = some (.int .i64) := by kernel_rfl
theorem ki3 : Try.prog.underlying 3 = some (.int .i64) := by kernel_rfl
theorem ki5 : Try.prog.underlying 5 = some (.int .u8) := by kernel_rfl
theorem ki6 : Try.prog.underlying 6 = some (.int .u8) := by kernel_rfl
theorem ki12 : Try.prog.underlying 12 = some (.int .u64) := by kernel_rfl
theorem ki21 : Try.prog.underlying 21 = some (.int .i32) := by kernel_rfl
theorem ki29 : Try.prog.underlying 29 = some (.int .i64) := by kernel_rfl
theorem ki96 : Try.prog.underlying 96 = some (.int .u32) := by kernel_rfl
theorem ki97 : Try.prog.underlying 97 = some (.int .u8) := by kernel_rfl
theorem ki98 : Try.prog.underlying 98 = some (.int .u8) := by kernel_rfl
theorem ki101 : Try.prog.underlying 101 = some (.int .i32) := by kernel_rfl
theorem ki102 : Try.prog.underlying 102 = some (.int .i32) := by kernel_rfl
theorem kiok : ∀ t k, ki t = some k → Try.prog.underlying t = some (.int k) := by
  intro t k h
  unfold ki at h
  split at h
  · cases h; exact ki2
  · cases h; exact ki3
  · cases h; exact ki5
  · cases h; exact ki6
  · cases h; exact ki12
  · cases h; exact ki21
  · cases h; exact ki29
  · cases h; exact ki96
  · cases h; exact ki97
  · cases h; exact ki98
  · cases h; exact ki101
  · cases h; exact ki102
  · cases h
end Go.Proofs.Ytabaflklognhaaa
end
