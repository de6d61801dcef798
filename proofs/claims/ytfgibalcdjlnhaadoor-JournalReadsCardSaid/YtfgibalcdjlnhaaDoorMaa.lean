/-
  Words for memory that the walks of this seat share: a slice that shows a list of cells; what stays when memory only grows. Conditions: none.
  What a type is, in short: its cells, its zero, its fields. Conditions: none.
  What the types of this seat are. Conditions: none.
-/
import Derived.WalkKit
import Derived.Outline
import Derived.Deep.QuietTactic
import Derived.BigQuiet
import Derived.Lib.Hide
import Derived.Test.YtfgibalcdjlnhaaDoorProg
import Derived.KernelRfl
section
namespace Go.Proofs.YtfgibalcdjlnhaaDoor
open Go.RowKit

/-- The slice value with address A and n elements of s cells each shows the cells xs, in a block below B. -/
def Shows (w : World) (B s : Nat) (A : Option Addr) (n : Nat) (xs : List Value) : Prop :=
  xs.length = n * s ∧ (0 < n → ∃ b o, A = some ⟨b, o, none⟩ ∧ b < B ∧ ∀ j u, xs[j]? = some u → w.cell? ⟨b, o + j, none⟩ = some u)

section
variable {w w' : World} {B B' s n : Nat} {A : Option Addr} {xs : List Value}
theorem Shows.empty (w : World) (B s : Nat) (A : Option Addr) : Shows w B s A 0 [] := ⟨by simp, fun h => absurd h (by omega)⟩
theorem Shows.keep (h : Shows w B s A n xs) (hk : ∀ b o, b < B → w'.cell? ⟨b, o, none⟩ = w.cell? ⟨b, o, none⟩) : Shows w' B s A n xs :=
  ⟨h.1, fun hn => by
    obtain ⟨b, o, e, hb, hc⟩ := h.2 hn
    exact ⟨b, o, e, hb, fun j u hu => (hk _ _ hb).trans (hc j u hu)⟩⟩
theorem Shows.more (h : Shows w B s A n xs) (hB : B ≤ B') : Shows w B' s A n xs :=
  ⟨h.1, fun hn => by
    obtain ⟨b, o, e, hb, hc⟩ := h.2 hn
    exact ⟨b, o, e, by omega, hc⟩⟩
theorem Shows.below (h : Shows w B s A n xs) (hb : Below B w w') : Shows w' B s A n xs := h.keep fun _ _ hp => hb.cell (p := ⟨_, _, none⟩) hp
theorem Shows.alloc (h : Shows w B s A n xs) (hB : B ≤ w.heap.size) (o : Obj) : Shows (w.alloc o) B s A n xs := h.below ((Below.refl B w).alloc hB o)
theorem Shows.len (h : Shows w B s A n xs) : xs.length = n * s := h.1
end

/-- What was there below B reads as it did: two rules for the walk. -/
theorem bcell {B : Nat} {W w1 : World} (hb : Below B W w1) : (∀ b o, b < B → w1.cell? ⟨b, o, none⟩ = W.cell? ⟨b, o, none⟩) ∧ (∀ b o, b < B → w1.frozen? ⟨b, o, none⟩ = W.frozen? ⟨b, o, none⟩) :=
  ⟨fun b o h => hb.cell (p := ⟨b, o, none⟩) h, fun b o h => hb.frozen (p := ⟨b, o, none⟩) h⟩

theorem heap_at (w : World) (o : Obj) (g : Nat) (h : g = w.heap.size) : (w.alloc o).heap[g]? = some o := by subst h; exact heap_alloc_new w o
theorem size_alloc (w : World) (o : Obj) : (w.alloc o).heap.size = w.heap.size + 1 := by simp
theorem below_drewN {B : Nat} {a w : World} (h : Below B a w) (n : Nat) : Below B a (w.drewN n) := ⟨h.os, h.tape, h.output, h.size, h.block⟩

theorem ret_int {k : IntKind} {a b : Int} (h : a = b) : Ending.returned (.int k a) = .returned (.int k b) := by rw [h]
theorem ret_bool {a b : Bool} (h : a = b) : Ending.returned (.bool a) = .returned (.bool b) := by rw [h]

/-- A struct of two ints. -/
structure P2 where
  a : Int
  b : Int
  deriving DecidableEq
def P2.cells (l : List P2) : List Value := l.flatMap fun x => [.int .i64 x.a, .int .i64 x.b]
theorem P2.length (l : List P2) : (P2.cells l).length = l.length * 2 := by
  induction l with
  | nil => rfl
  | cons x l ih => simp only [P2.cells, List.flatMap_cons, List.length_append, List.length_cons, List.length_nil] at ih ⊢; omega
theorem P2.get (l : List P2) (k : Nat) (hk : k < l.length) : (P2.cells l)[k * 2]? = some (.int .i64 l[k].a) ∧ (P2.cells l)[k * 2 + 1]? = some (.int .i64 l[k].b) := by
  induction l generalizing k with
  | nil => simp at hk
  | cons x l ih =>
    cases k with
    | zero => exact ⟨rfl, rfl⟩
    | succ k =>
      have := ih k (by simpa using hk)
      simp only [P2.cells, List.flatMap_cons] at this ⊢
      rw [show (k + 1) * 2 = k * 2 + 2 from by omega]
      simpa using this
/-- The slice (A, n) shows the structs l. -/
def Two (w : World) (B : Nat) (A : Option Addr) (l : List P2) : Prop := Shows w B 2 A l.length (P2.cells l)
theorem Two.at_ {w : World} {B : Nat} {A : Option Addr} {l : List P2} (h : Two w B A l) {k : Nat} (hk : k < l.length) :
    ∃ b o, A = some ⟨b, o, none⟩ ∧ b < B ∧ w.cell? ⟨b, o + k * 2, none⟩ = some (.int .i64 l[k].a) ∧ w.cell? ⟨b, o + k * 2 + 1, none⟩ = some (.int .i64 l[k].b) := by
  obtain ⟨b, o, e, hb, hc⟩ := h.2 (by omega)
  exact ⟨b, o, e, hb, hc _ _ (P2.get l k hk).1, hc _ _ (P2.get l k hk).2⟩
theorem Two.below {w w' : World} {B : Nat} {A : Option Addr} {l : List P2} (h : Two w B A l) (hb : Below B w w') : Two w' B A l := Shows.below h hb

def ints (l : List Int) : List Value := l.map (Value.int .i64)
theorem ints_length (l : List Int) : (ints l).length = l.length := by simp [ints]
theorem ints_get (l : List Int) (k : Nat) (hk : k < l.length) : (ints l)[k]? = some (.int .i64 l[k]) := by simp [ints, hk]
/-- The slice (A, n) shows the ints l. -/
def Nums (w : World) (B : Nat) (A : Option Addr) (l : List Int) : Prop := Shows w B 1 A l.length (ints l)
theorem Nums.at_ {w : World} {B : Nat} {A : Option Addr} {l : List Int} (h : Nums w B A l) {k : Nat} (hk : k < l.length) :
    ∃ b o, A = some ⟨b, o, none⟩ ∧ b < B ∧ w.cell? ⟨b, o + k, none⟩ = some (.int .i64 l[k]) := by
  obtain ⟨b, o, e, hb, hc⟩ := h.2 (by omega)
  exact ⟨b, o, e, hb, hc _ _ (ints_get l k hk)⟩
theorem Nums.below {w w' : World} {B : Nat} {A : Option Addr} {l : List Int} (h : Nums w B A l) (hb : Below B w w') : Nums w' B A l := Shows.below h hb
theorem Nums.more {w : World} {B B' : Nat} {A : Option Addr} {l : List Int} (h : Nums w B A l) (hB : B ≤ B') : Nums w B' A l := Shows.more h hB

theorem shows_of_own {w : World} {base s n : Nat} {e : TypeId} {v : Value} {xs : List Value} (h : w.ownsRow base e s v n xs) :
    ∃ A c, v = .slice A n c ∧ Shows w w.heap.size s A n xs := by
  obtain ⟨hl, ⟨rfl, rfl⟩ | ⟨g, cap, cur, rfl, hb, hg, hn, hc, hsz, ht⟩⟩ := h
  · exact ⟨none, 0, rfl, hl, fun h => absurd h (by omega)⟩
  · refine ⟨_, _, rfl, hl, fun _ => ⟨g, 0, rfl, (Array.getElem?_eq_some_iff.1 hg).1, fun j u hu => ?_⟩⟩
    rw [cell_of_row w g (0 + j) cur e (0, 0) hg, Nat.zero_add]
    rw [← ht, List.getElem?_take] at hu
    split at hu
    · simpa using hu
    · cases hu

theorem cell_alloc_add (w : World) (news : List Value) (e : TypeId) (j : Nat) (u : Value) (hu : news[j]? = some u) :
    (w.alloc (.cells news.toArray e)).cell? ((⟨w.heap.size, 0, none⟩ : Addr).add j) = some u := by
  have hadd : (⟨w.heap.size, 0, none⟩ : Addr).add j = ⟨w.heap.size, j, none⟩ := by unfold Addr.add; split <;> simp_all
  rw [hadd, cell_of_row _ w.heap.size j news.toArray e (0, 0) (heap_alloc_new w _)]
  simpa using hu

/-- append of what a slice literal has just made, onto a slice of the call's own. -/
theorem push_own {P : Program} {ops : Array Oper} {rest : List Oper} {o : Oper} {a : Act} {Q : Exit → Act → World → Prop} (hgd : o.guard = none) (s x : Operand) (t : TypeId)
    (ho : o.op = .call { callee := .builtin .append, args := #[s, x], argTypes := #[t, t] })
    (base : Nat) (e : TypeId) (i : TypeInfo) (z : Value) (size bytes : Nat) (ht : P.underlying t = some (.slice e)) (hi : P.info? e = some i) (hz : i.zero = some z)
    (hsize : i.size = size) (hby : i.bytes = bytes) (hzs : z.cells.size = size) (hsz : 0 < size) (w : World)
    (v : Value) (n : Nat) (xs : List Value) (hs : a.eval s = v) (hown : w.ownsRow base e size v n xs)
    (m c : Nat) (news : List Value) (hx : a.eval x = .slice (some ⟨w.heap.size, 0, none⟩) m c) (hl : news.length = m * size) (h1 : ∀ u ∈ news, u.oneCell' = true)
    (hbase : base ≤ w.heap.size) (h63 : n + m ≤ 140737488355328) (hbytes : (n + m) * bytes ≤ 140737488355328)
    (h : ∀ v' w', w'.ownsRow base e size v' (n + m) (xs ++ news) → Below base w w' → w.grownBy w' v.ownBlock → wpList P ops Q rest (a.put o.dst v') w') :
    wpList P ops Q (o :: rest) a (w.alloc (.cells news.toArray e)) := by
  refine wpList_append_own _ hgd s x t ho base e i z size bytes ht hi hz hsize hby hzs hsz v n xs hs (hown.alloc _) ⟨w.heap.size, 0, none⟩ m c news hx hl (fun j u hu => cell_alloc_add w news e j u hu) h1 (by unfold maxLen; omega) hbytes (by simp; omega) ?_
  intro v' w' h2 h3 _
  have hg : w.grownBy w' v.ownBlock := ⟨h3.os, h3.tape, h3.output, Nat.le_trans (by simp) h3.size, fun k hk hne => (h3.block k (by simp; omega) hne).trans (Below.heap_alloc w _ k hk)⟩
  exact h v' w' h2 ((Below.refl base w).grown hg hbase (fun k e => (hown.lt k e).1)) hg

theorem wp_push {P : Program} {o : Oper} {a : Act} {K : Act → World → Prop} {Q : Exit → Act → World → Prop} (s x : Operand) (t : TypeId)
    (ho : o.op = .call { callee := .builtin .append, args := #[s, x], argTypes := #[t, t] })
    (base : Nat) (e : TypeId) (i : TypeInfo) (z : Value) (size bytes : Nat) (ht : P.underlying t = some (.slice e)) (hi : P.info? e = some i) (hz : i.zero = some z)
    (hsize : i.size = size) (hby : i.bytes = bytes) (hzs : z.cells.size = size) (hsz : 0 < size) (w : World)
    (v : Value) (n : Nat) (xs : List Value) (hs : a.eval s = v) (hown : w.ownsRow base e size v n xs)
    (m c : Nat) (news : List Value) (hx : a.eval x = .slice (some ⟨w.heap.size, 0, none⟩) m c) (hl : news.length = m * size) (h1 : ∀ u ∈ news, u.oneCell' = true)
    (hbase : base ≤ w.heap.size) (h63 : n + m ≤ 140737488355328) (hbytes : (n + m) * bytes ≤ 140737488355328)
    (h : ∀ v' w', w'.ownsRow base e size v' (n + m) (xs ++ news) → (w.alloc (.cells news.toArray e)).grownBy w' v.ownBlock → Below base (w.alloc (.cells news.toArray e)) w' → K (a.put o.dst v') w') :
    o.wp P a (w.alloc (.cells news.toArray e)) K Q := by
  refine wp_append_own _ s x t ho base e i z size bytes ht hi hz hsize hby hzs hsz v n xs hs (hown.alloc _) ⟨w.heap.size, 0, none⟩ m c news hx hl (fun j u hu => cell_alloc_add w news e j u hu) h1 (by unfold maxLen; omega) hbytes (by simp; omega) ?_
  intro v' w' h2 h3 _
  exact h v' w' h2 h3 ((Below.refl base _).grown h3 (by simp; omega) (fun k e => (hown.lt k e).1))

/-- append of a slice that shows cells, onto a slice of the call's own. -/
theorem wp_app {P : Program} {o : Oper} {a : Act} {K : Act → World → Prop} {Q : Exit → Act → World → Prop} (s x : Operand) (t : TypeId)
    (ho : o.op = .call { callee := .builtin .append, args := #[s, x], argTypes := #[t, t] })
    (base : Nat) (e : TypeId) (i : TypeInfo) (z : Value) (size bytes : Nat) (ht : P.underlying t = some (.slice e)) (hi : P.info? e = some i) (hz : i.zero = some z)
    (hsize : i.size = size) (hby : i.bytes = bytes) (hzs : z.cells.size = size) (hsz : 0 < size) (w : World)
    (v : Value) (n : Nat) (xs : List Value) (hs : a.eval s = v) (hown : w.ownsRow base e size v n xs)
    (B : Nat) (A : Option Addr) (m c : Nat) (news : List Value) (hx : a.eval x = .slice A m c) (hnew : Shows w B size A m news) (h1 : ∀ u ∈ news, u.oneCell' = true)
    (hbase : base ≤ w.heap.size) (h63 : n + m ≤ 140737488355328) (hbytes : (n + m) * bytes ≤ 140737488355328)
    (h : ∀ v' w', w'.ownsRow base e size v' (n + m) (xs ++ news) → Below base w w' → w.grownBy w' v.ownBlock → K (a.put o.dst v') w') : o.wp P a w K Q := by
  have some_ : ∀ (ad : Addr), A = some ad → (∀ j u, news[j]? = some u → w.cell? (ad.add j) = some u) → o.wp P a w K Q := by
    intro ad hA hc
    subst hA
    refine wp_append_own w s x t ho base e i z size bytes ht hi hz hsize hby hzs hsz v n xs hs hown ad m c news hx hnew.1 hc h1 (by unfold maxLen; omega) hbytes hbase ?_
    intro v' w' h2 h3 _
    exact h v' w' h2 ((Below.refl base w).grown h3 hbase (fun k e => (hown.lt k e).1)) h3
  by_cases hm : m = 0
  · subst hm
    have hn : news = [] := List.eq_nil_of_length_eq_zero (by simpa using hnew.1)
    subst hn
    cases A with
    | some ad => exact some_ ad rfl (fun j u hu => by simp at hu)
    | none =>
      have hrun : (Builtin.append_ #[t, t] o.type #[v, .slice none 0 c]).run P w = .ok v w := by
        rcases hown.2 with ⟨rfl, rfl⟩ | ⟨g, cap, cur, rfl, _, _, hnc, _⟩
        · simp [Builtin.append_, run_underlying ht, sizeOf, typeInfo, hi, Builtin.lenOf, Builtin.firstCells]
        · simp [Builtin.append_, run_underlying ht, sizeOf, typeInfo, hi, Builtin.lenOf, Builtin.firstCells, hnc, storeCells]
      have hk := h v w (by simpa using hown) (Below.refl _ _) ⟨rfl, rfl, rfl, Nat.le_refl _, fun _ _ _ => rfl⟩
      unfold Oper.wp
      simp [execOp, ho, resolve, invoke, builtin, hs, hx, hrun, Result.andThen]
      exact hk
  · obtain ⟨b, o', rfl, hb, hc⟩ := hnew.2 (by omega)
    refine some_ _ rfl (fun j u hu => ?_)
    have hadd : (⟨b, o', none⟩ : Addr).add j = ⟨b, o' + j, none⟩ := by unfold Addr.add; split <;> simp_all
    rw [hadd]
    exact hc j u hu
theorem wpList_app {P : Program} {ops : Array Oper} {rest : List Oper} {o : Oper} {a : Act} {Q : Exit → Act → World → Prop} (hgd : o.guard = none) (s x : Operand) (t : TypeId)
    (ho : o.op = .call { callee := .builtin .append, args := #[s, x], argTypes := #[t, t] })
    (base : Nat) (e : TypeId) (i : TypeInfo) (z : Value) (size bytes : Nat) (ht : P.underlying t = some (.slice e)) (hi : P.info? e = some i) (hz : i.zero = some z)
    (hsize : i.size = size) (hby : i.bytes = bytes) (hzs : z.cells.size = size) (hsz : 0 < size) (w : World)
    (v : Value) (n : Nat) (xs : List Value) (hs : a.eval s = v) (hown : w.ownsRow base e size v n xs)
    (B : Nat) (A : Option Addr) (m c : Nat) (news : List Value) (hx : a.eval x = .slice A m c) (hnew : Shows w B size A m news) (h1 : ∀ u ∈ news, u.oneCell' = true)
    (hbase : base ≤ w.heap.size) (h63 : n + m ≤ 140737488355328) (hbytes : (n + m) * bytes ≤ 140737488355328)
    (h : ∀ v' w', w'.ownsRow base e size v' (n + m) (xs ++ news) → Below base w w' → w.grownBy w' v.ownBlock → wpList P ops Q rest (a.put o.dst v') w') : wpList P ops Q (o :: rest) a w :=
  wpList_plain hgd fun _ hK => wp_app s x t ho base e i z size bytes ht hi hz hsize hby hzs hsz w v n xs hs hown B A m c news hx hnew h1 hbase h63 hbytes fun v' w' h2 h3 h4 => hK _ _ (h v' w' h2 h3 h4)

theorem P2.oneCells (l : List P2) : ∀ u ∈ P2.cells l, u.oneCell' = true := by
  intro u hu
  obtain ⟨x, _, hx⟩ := List.mem_flatMap.1 hu
  simp at hx
  rcases hx with rfl | rfl <;> rfl
theorem P2.append (l r : List P2) : P2.cells (l ++ r) = P2.cells l ++ P2.cells r := by simp [P2.cells]
theorem P2.set_b (l : List P2) (k : Nat) (hk : k < l.length) (x : Int) : (P2.cells l).set (k * 2 + 1) (.int .i64 x) = P2.cells (l.set k ⟨l[k].a, x⟩) := by
  induction l generalizing k with
  | nil => simp at hk
  | cons y l ih =>
    cases k with
    | zero => rfl
    | succ k =>
      have := ih k (by simpa using hk)
      simp only [P2.cells, List.flatMap_cons, List.set_cons_succ, List.getElem_cons_succ] at this ⊢
      rw [← this, show (k + 1) * 2 + 1 = k * 2 + 1 + 1 + 1 from by omega]
      rfl
theorem P2.set_a (l : List P2) (k : Nat) (hk : k < l.length) (x : Int) : (P2.cells l).set (k * 2) (.int .i64 x) = P2.cells (l.set k ⟨x, l[k].b⟩) := by
  induction l generalizing k with
  | nil => simp at hk
  | cons y l ih =>
    cases k with
    | zero => rfl
    | succ k =>
      have := ih k (by simpa using hk)
      simp only [P2.cells, List.flatMap_cons, List.set_cons_succ, List.getElem_cons_succ] at this ⊢
      rw [← this, show (k + 1) * 2 = k * 2 + 1 + 1 from by omega]
      rfl
/-- A row of the call's own that is not empty: its block. -/
theorem own_form {w : World} {base : Nat} {e : TypeId} {size n : Nat} {v : Value} {xs : List Value} (h : w.ownsRow base e size v n xs) (hn : 0 < n) :
    ∃ g cap, v = .slice (some ⟨g, 0, none⟩) n cap ∧ base ≤ g ∧ g < w.heap.size ∧ n ≤ cap := by
  rcases h.2 with ⟨_, h0⟩ | ⟨g, cap, cur, rfl, hb, hg, hc, _⟩
  · omega
  · exact ⟨g, cap, rfl, hb, (Array.getElem?_eq_some_iff.1 hg).1, hc⟩
theorem own_below {w w' : World} {base : Nat} {e : TypeId} {size n : Nat} {v : Value} {xs : List Value} (h : w.ownsRow base e size v n xs) (hb : Below w.heap.size w w') : w'.ownsRow base e size v n xs :=
  h.kept ⟨hb.os, hb.tape, hb.output, hb.size, fun k hk _ => hb.block k hk⟩ (by cases v.ownBlock <;> simp : v.ownBlock = none ∨ v.ownBlock ≠ none)

theorem find_range_some {p : Nat → Bool} {n i : Nat} (hi : i < n) (hp : p i = true) (hb : ∀ j, j < i → p j = false) : (List.range n).find? p = some i := by
  rw [List.find?_eq_some_iff_getElem]
  refine ⟨hp, i, by simpa using hi, by simp, fun j hj => by simpa using hb j hj⟩
theorem find_range_none {p : Nat → Bool} {n : Nat} (hb : ∀ j, j < n → p j = false) : (List.range n).find? p = none := by
  rw [List.find?_eq_none]
  intro x hx
  simp [hb x (by simpa using hx)]
theorem take_snoc {α : Type} (l : List α) (k : Nat) (hk : k < l.length) : l.take (k + 1) = l.take k ++ [l[k]] := by
  rw [List.take_succ_eq_append_getElem hk]
end Go.Proofs.YtfgibalcdjlnhaaDoor
end
section
namespace Go.Proofs.YtfgibalcdjlnhaaDoor
open Go.RowKit

inductive TI where
  | no
  | one (z : Value)
  | st (z : List Value) (fs : List (Nat × Nat × Nat))
  | ar (n e es : Nat) (z : List Value)
  | sl (e es eb : Nat) (ez : Value)

def tiOf (P : Program) (t : TypeId) : TI :=
  match P.info? t, P.underlying t with
  | some i, some (.struct fs) =>
    match i.zero, fs.toList.mapM (fun f => (P.info? f.type).map fun j => (f.offset, j.size, f.type)) with
    | some (.agg z), some pl => if z.size = i.size then .st z.toList pl else .no
    | _, _ => .no
  | some i, some (.array n e) =>
    match i.zero, P.info? e with
    | some (.agg z), some j => if z.size = i.size then .ar n e j.size z.toList else .no
    | _, _ => .no
  | some i, some (.slice e) =>
    match P.info? e with
    | some j => match j.zero with
      | some ez => if i.size = 1 ∧ ez.cells.size = j.size then .sl e j.size j.bytes ez else .no
      | none => .no
    | none => .no
  | some i, some _ => match i.zero with
    | some z => if i.size = 1 ∧ z.oneCell' = true then .one z else .no
    | none => .no
  | _, _ => .no
end Go.Proofs.YtfgibalcdjlnhaaDoor
end
section
namespace Go.Proofs.YtfgibalcdjlnhaaDoor

def ti : Nat → TI
  | 1 => .one (.nilFunc)
  | 2 => .one (.int .i64 0)
  | 3 => .one (.int .i64 0)
  | 4 => .one (.bool Bool.false)
  | 5 => .one (.int .u8 0)
  | 6 => .one (.int .u8 0)
  | 7 => .st [.int .i64 0, .int .i64 0, .bool Bool.false, .int .u8 0] [(0, 1, 2), (1, 1, 3), (2, 1, 4), (3, 1, 6)]
  | 8 => .st [.int .i64 0, .int .i64 0, .bool Bool.false, .int .u8 0] [(0, 1, 2), (1, 1, 3), (2, 1, 4), (3, 1, 6)]
  | 9 => .one (.string ⟨#[]⟩)
  | 10 => .one (.string ⟨#[]⟩)
  | 11 => .one (.string ⟨#[]⟩)
  | 12 => .one (.int .u64 0)
  | 13 => .st [.string ⟨#[]⟩, .int .u64 0] [(0, 1, 9), (1, 1, 12)]
  | 14 => .st [.string ⟨#[]⟩, .int .u64 0] [(0, 1, 9), (1, 1, 12)]
  | 15 => .one (.pointer none)
  | 16 => .one (.pointer none)
  | 17 => .one (.pointer none)
  | 18 => .st [.pointer none] [(0, 1, 17)]
  | 19 => .st [.pointer none] [(0, 1, 17)]
  | 20 => .one (.nilIface)
  | 21 => .one (.int .i32 0)
  | 22 => .sl 9 1 16 (.string ⟨#[]⟩)
  | 23 => .sl 3 1 8 (.int .i64 0)
  | 24 => .one (.nilFunc)
  | 25 => .one (.nilFunc)
  | 26 => .one (.pointer none)
  | 27 => .one (.nilFunc)
  | 28 => .one (.pointer none)
  | 29 => .one (.int .i64 0)
  | 31 => .one (.nilFunc)
  | 32 => .one (.nilFunc)
  | 33 => .one (.nilFunc)
  | 35 => .one (.nilFunc)
  | 36 => .sl 5 1 1 (.int .u8 0)
  | 37 => .one (.nilFunc)
  | 38 => .one (.nilFunc)
  | 39 => .one (.nilFunc)
  | 40 => .one (.nilFunc)
  | 41 => .one (.nilFunc)
  | 42 => .one (.nilFunc)
  | 43 => .one (.pointer none)
  | 44 => .one (.nilFunc)
  | 45 => .one (.nilFunc)
  | 46 => .one (.nilFunc)
  | 47 => .one (.nilFunc)
  | 48 => .one (.nilFunc)
  | 49 => .sl 52 4 56 (.agg #[.int .i64 0, .string ⟨#[]⟩, .int .i64 0, .slice none 0 0])
  | 50 => .one (.nilFunc)
  | 51 => .st [.int .i64 0, .string ⟨#[]⟩, .int .i64 0, .slice none 0 0] [(0, 1, 3), (1, 1, 9), (2, 1, 3), (3, 1, 23)]
  | 52 => .st [.int .i64 0, .string ⟨#[]⟩, .int .i64 0, .slice none 0 0] [(0, 1, 3), (1, 1, 9), (2, 1, 3), (3, 1, 23)]
  | 53 => .one (.nilFunc)
  | 54 => .one (.nilFunc)
  | 55 => .one (.nilFunc)
  | 56 => .one (.nilFunc)
  | 57 => .one (.nilFunc)
  | 58 => .one (.nilFunc)
  | 59 => .one (.nilFunc)
  | 60 => .one (.map none)
  | 61 => .one (.map none)
  | 62 => .sl 78 2 16 (.agg #[.int .i64 0, .int .i64 0])
  | 63 => .st [.map none, .slice none 0 0, .map none, .int .i64 0, .bool Bool.false, .int .i64 0, .slice none 0 0] [(0, 1, 60), (1, 1, 62), (2, 1, 61), (3, 1, 3), (4, 1, 4), (5, 1, 3), (6, 1, 23)]
  | 64 => .st [.map none, .slice none 0 0, .map none, .int .i64 0, .bool Bool.false, .int .i64 0, .slice none 0 0] [(0, 1, 60), (1, 1, 62), (2, 1, 61), (3, 1, 3), (4, 1, 4), (5, 1, 3), (6, 1, 23)]
  | 65 => .one (.nilFunc)
  | 67 => .one (.nilFunc)
  | 68 => .one (.nilFunc)
  | 69 => .st [.pointer none, .int .i64 0, .slice none 0 0, .int .i64 0, .bool Bool.false] [(0, 1, 26), (1, 1, 3), (2, 1, 22), (3, 1, 3), (4, 1, 4)]
  | 70 => .st [.pointer none, .int .i64 0, .slice none 0 0, .int .i64 0, .bool Bool.false] [(0, 1, 26), (1, 1, 3), (2, 1, 22), (3, 1, 3), (4, 1, 4)]
  | 71 => .st [.string ⟨#[]⟩, .string ⟨#[]⟩] [(0, 1, 9), (1, 1, 9)]
  | 72 => .st [.string ⟨#[]⟩, .string ⟨#[]⟩] [(0, 1, 9), (1, 1, 9)]
  | 73 => .st [.string ⟨#[]⟩, .bool Bool.false] [(0, 1, 9), (1, 1, 4)]
  | 74 => .st [.string ⟨#[]⟩, .bool Bool.false] [(0, 1, 9), (1, 1, 4)]
  | 75 => .one (.nilFunc)
  | 76 => .one (.nilFunc)
  | 77 => .st [.int .i64 0, .int .i64 0] [(0, 1, 3), (1, 1, 3)]
  | 78 => .st [.int .i64 0, .int .i64 0] [(0, 1, 3), (1, 1, 3)]
  | 79 => .one (.nilFunc)
  | 80 => .one (.nilFunc)
  | 81 => .one (.nilFunc)
  | 82 => .one (.nilFunc)
  | 83 => .one (.nilIface)
  | 84 => .one (.nilIface)
  | 86 => .one (.nilFunc)
  | 88 => .one (.nilFunc)
  | 89 => .one (.nilFunc)
  | 90 => .one (.nilFunc)
  | 91 => .one (.nilFunc)
  | 92 => .one (.nilFunc)
  | 93 => .one (.nilFunc)
  | 94 => .one (.nilFunc)
  | 95 => .one (.nilFunc)
  | 96 => .one (.int .i64 0)
  | 98 => .one (.nilFunc)
  | 99 => .one (.pointer none)
  | 100 => .one (.nilFunc)
  | 101 => .one (.nilFunc)
  | 102 => .one (.nilFunc)
  | 103 => .ar 24 5 1 [.int .u8 0, .int .u8 0, .int .u8 0, .int .u8 0, .int .u8 0, .int .u8 0, .int .u8 0, .int .u8 0, .int .u8 0, .int .u8 0, .int .u8 0, .int .u8 0, .int .u8 0, .int .u8 0, .int .u8 0, .int .u8 0, .int .u8 0, .int .u8 0, .int .u8 0, .int .u8 0, .int .u8 0, .int .u8 0, .int .u8 0, .int .u8 0]
  | 104 => .one (.int .u64 0)
  | 105 => .one (.nilFunc)
  | 106 => .one (.nilFunc)
  | 108 => .one (.nilFunc)
  | 110 => .one (.nilFunc)
  | 111 => .one (.int .u64 0)
  | 112 => .st [.string ⟨#[]⟩, .string ⟨#[]⟩, .nilIface] [(0, 1, 9), (1, 1, 9), (2, 1, 84)]
  | 113 => .st [.string ⟨#[]⟩, .string ⟨#[]⟩, .nilIface] [(0, 1, 9), (1, 1, 9), (2, 1, 84)]
  | 114 => .one (.nilFunc)
  | 115 => .one (.nilFunc)
  | 116 => .ar 20 104 1 [.int .u64 0, .int .u64 0, .int .u64 0, .int .u64 0, .int .u64 0, .int .u64 0, .int .u64 0, .int .u64 0, .int .u64 0, .int .u64 0, .int .u64 0, .int .u64 0, .int .u64 0, .int .u64 0, .int .u64 0, .int .u64 0, .int .u64 0, .int .u64 0, .int .u64 0, .int .u64 0]
  | 117 => .one (.int .u32 0)
  | 119 => .one (.nilFunc)
  | 120 => .one (.nilFunc)
  | 121 => .one (.nilFunc)
  | 122 => .one (.pointer none)
  | 123 => .one (.pointer none)
  | 124 => .st [.string ⟨#[]⟩] [(0, 1, 9)]
  | 125 => .st [.string ⟨#[]⟩] [(0, 1, 9)]
  | 126 => .one (.nilFunc)
  | 127 => .ar 32 5 1 [.int .u8 0, .int .u8 0, .int .u8 0, .int .u8 0, .int .u8 0, .int .u8 0, .int .u8 0, .int .u8 0, .int .u8 0, .int .u8 0, .int .u8 0, .int .u8 0, .int .u8 0, .int .u8 0, .int .u8 0, .int .u8 0, .int .u8 0, .int .u8 0, .int .u8 0, .int .u8 0, .int .u8 0, .int .u8 0, .int .u8 0, .int .u8 0, .int .u8 0, .int .u8 0, .int .u8 0, .int .u8 0, .int .u8 0, .int .u8 0, .int .u8 0, .int .u8 0]
  | 128 => .ar 64 5 1 [.int .u8 0, .int .u8 0, .int .u8 0, .int .u8 0, .int .u8 0, .int .u8 0, .int .u8 0, .int .u8 0, .int .u8 0, .int .u8 0, .int .u8 0, .int .u8 0, .int .u8 0, .int .u8 0, .int .u8 0, .int .u8 0, .int .u8 0, .int .u8 0, .int .u8 0, .int .u8 0, .int .u8 0, .int .u8 0, .int .u8 0, .int .u8 0, .int .u8 0, .int .u8 0, .int .u8 0, .int .u8 0, .int .u8 0, .int .u8 0, .int .u8 0, .int .u8 0, .int .u8 0, .int .u8 0, .int .u8 0, .int .u8 0, .int .u8 0, .int .u8 0, .int .u8 0, .int .u8 0, .int .u8 0, .int .u8 0, .int .u8 0, .int .u8 0, .int .u8 0, .int .u8 0, .int .u8 0, .int .u8 0, .int .u8 0, .int .u8 0, .int .u8 0, .int .u8 0, .int .u8 0, .int .u8 0, .int .u8 0, .int .u8 0, .int .u8 0, .int .u8 0, .int .u8 0, .int .u8 0, .int .u8 0, .int .u8 0, .int .u8 0, .int .u8 0]
  | 129 => .st [.pointer none, .pointer none, .pointer none, .string ⟨#[]⟩] [(0, 1, 17), (1, 1, 17), (2, 1, 17), (3, 1, 9)]
  | 130 => .st [.pointer none, .pointer none, .pointer none, .string ⟨#[]⟩] [(0, 1, 17), (1, 1, 17), (2, 1, 17), (3, 1, 9)]
  | 131 => .ar 0 16 1 []
  | 132 => .st [] [(0, 0, 131)]
  | 133 => .st [] [(0, 0, 131)]
  | 134 => .one (.int .u8 0)
  | 135 => .one (.int .u8 0)
  | 136 => .one (.nilFunc)
  | 137 => .one (.int .i32 0)
  | 138 => .one (.int .i32 0)
  | 139 => .st [.int .u64 0, .int .u64 0, .int .u32 0, .int .u8 0, .int .u8 0, .int .u8 0, .int .u8 0, .nilFunc, .pointer none, .int .i32 0, .int .i32 0] [(0, 1, 12), (1, 1, 12), (2, 1, 117), (3, 1, 134), (4, 1, 5), (5, 1, 5), (6, 1, 135), (7, 1, 136), (8, 1, 122), (9, 1, 137), (10, 1, 138)]
  | 140 => .st [.int .u64 0, .int .u64 0, .int .u32 0, .int .u8 0, .int .u8 0, .int .u8 0, .int .u8 0, .nilFunc, .pointer none, .int .i32 0, .int .i32 0] [(0, 1, 12), (1, 1, 12), (2, 1, 117), (3, 1, 134), (4, 1, 5), (5, 1, 5), (6, 1, 135), (7, 1, 136), (8, 1, 122), (9, 1, 137), (10, 1, 138)]
  | 141 => .one (.pointer none)
  | _ => .no
theorem ti1 : tiOf Tryd.prog 1 = ti 1 := by kernel_rfl
theorem ti2 : tiOf Tryd.prog 2 = ti 2 := by kernel_rfl
theorem ti3 : tiOf Tryd.prog 3 = ti 3 := by kernel_rfl
theorem ti4 : tiOf Tryd.prog 4 = ti 4 := by kernel_rfl
theorem ti5 : tiOf Tryd.prog 5 = ti 5 := by kernel_rfl
theorem ti6 : tiOf Tryd.prog 6 = ti 6 := by kernel_rfl
theorem ti7 : tiOf Tryd.prog 7 = ti 7 := by kernel_rfl
theorem ti8 : tiOf Tryd.prog 8 = ti 8 := by kernel_rfl
theorem ti9 : tiOf Tryd.prog 9 = ti 9 := by kernel_rfl
theorem ti10 : tiOf Tryd.prog 10 = ti 10 := by kernel_rfl
theorem ti11 : tiOf Tryd.prog 11 = ti 11 := by kernel_rfl
theorem ti12 : tiOf Tryd.prog 12 = ti 12 := by kernel_rfl
theorem ti13 : tiOf Tryd.prog 13 = ti 13 := by kernel_rfl
theorem ti14 : tiOf Tryd.prog 14 = ti 14 := by kernel_rfl
theorem ti15 : tiOf Tryd.prog 15 = ti 15 := by kernel_rfl
theorem ti16 : tiOf Tryd.prog 16 = ti 16 := by kernel_rfl
theorem ti17 : tiOf Tryd.prog 17 = ti 17 := by kernel_rfl
theorem ti18 : tiOf Tryd.prog 18 = ti 18 := by kernel_rfl
theorem ti19 : tiOf Tryd.prog 19 = ti 19 := by kernel_rfl
theorem ti20 : tiOf Tryd.prog 20 = ti 20 := by kernel_rfl
theorem ti21 : tiOf Tryd.prog 21 = ti 21 := by kernel_rfl
theorem ti22 : tiOf Tryd.prog 22 = ti 22 := by kernel_rfl
theorem ti23 : tiOf Tryd.prog 23 = ti 23 := by kernel_rfl
theorem ti24 : tiOf Tryd.prog 24 = ti 24 := by kernel_rfl
theorem ti25 : tiOf Tryd.prog 25 = ti 25 := by kernel_rfl
theorem ti26 : tiOf Tryd.prog 26 = ti 26 := by kernel_rfl
theorem ti27 : tiOf Tryd.prog 27 = ti 27 := by kernel_rfl
theorem ti28 : tiOf Tryd.prog 28 = ti 28 := by kernel_rfl
theorem ti29 : tiOf Tryd.prog 29 = ti 29 := by kernel_rfl
theorem ti31 : tiOf Tryd.prog 31 = ti 31 := by kernel_rfl
theorem ti32 : tiOf Tryd.prog 32 = ti 32 := by kernel_rfl
theorem ti33 : tiOf Tryd.prog 33 = ti 33 := by kernel_rfl
theorem ti35 : tiOf Tryd.prog 35 = ti 35 := by kernel_rfl
theorem ti36 : tiOf Tryd.prog 36 = ti 36 := by kernel_rfl
theorem ti37 : tiOf Tryd.prog 37 = ti 37 := by kernel_rfl
theorem ti38 : tiOf Tryd.prog 38 = ti 38 := by kernel_rfl
theorem ti39 : tiOf Tryd.prog 39 = ti 39 := by kernel_rfl
theorem ti40 : tiOf Tryd.prog 40 = ti 40 := by kernel_rfl
theorem ti41 : tiOf Tryd.prog 41 = ti 41 := by kernel_rfl
theorem ti42 : tiOf Tryd.prog 42 = ti 42 := by kernel_rfl
theorem ti43 : tiOf Tryd.prog 43 = ti 43 := by kernel_rfl
theorem ti44 : tiOf Tryd.prog 44 = ti 44 := by kernel_rfl
theorem ti45 : tiOf Tryd.prog 45 = ti 45 := by kernel_rfl
theorem ti46 : tiOf Tryd.prog 46 = ti 46 := by kernel_rfl
theorem ti47 : tiOf Tryd.prog 47 = ti 47 := by kernel_rfl
theorem ti48 : tiOf Tryd.prog 48 = ti 48 := by kernel_rfl
theorem ti49 : tiOf Tryd.prog 49 = ti 49 := by kernel_rfl
theorem ti50 : tiOf Tryd.prog 50 = ti 50 := by kernel_rfl
theorem ti51 : tiOf Tryd.prog 51 = ti 51 := by kernel_rfl
theorem ti52 : tiOf Tryd.prog 52 = ti 52 := by kernel_rfl
theorem ti53 : tiOf Tryd.prog 53 = ti 53 := by kernel_rfl
theorem ti54 : tiOf Tryd.prog 54 = ti 54 := by kernel_rfl
theorem ti55 : tiOf Tryd.prog 55 = ti 55 := by kernel_rfl
theorem ti56 : tiOf Tryd.prog 56 = ti 56 := by kernel_rfl
theorem ti57 : tiOf Tryd.prog 57 = ti 57 := by kernel_rfl
theorem ti58 : tiOf Tryd.prog 58 = ti 58 := by kernel_rfl
theorem ti59 : tiOf Tryd.prog 59 = ti 59 := by kernel_rfl
theorem ti60 : tiOf Tryd.prog 60 = ti 60 := by kernel_rfl
theorem ti61 : tiOf Tryd.prog 61 = ti 61 := by kernel_rfl
theorem ti62 : tiOf Tryd.prog 62 = ti 62 := by kernel_rfl
theorem ti63 : tiOf Tryd.prog 63 = ti 63 := by kernel_rfl
theorem ti64 : tiOf Tryd.prog 64 = ti 64 := by kernel_rfl
theorem ti65 : tiOf Tryd.prog 65 = ti 65 := by kernel_rfl
theorem ti67 : tiOf Tryd.prog 67 = ti 67 := by kernel_rfl
theorem ti68 : tiOf Tryd.prog 68 = ti 68 := by kernel_rfl
theorem ti69 : tiOf Tryd.prog 69 = ti 69 := by kernel_rfl
theorem ti70 : tiOf Tryd.prog 70 = ti 70 := by kernel_rfl
theorem ti71 : tiOf Tryd.prog 71 = ti 71 := by kernel_rfl
theorem ti72 : tiOf Tryd.prog 72 = ti 72 := by kernel_rfl
theorem ti73 : tiOf Tryd.prog 73 = ti 73 := by kernel_rfl
theorem ti74 : tiOf Tryd.prog 74 = ti 74 := by kernel_rfl
theorem ti75 : tiOf Tryd.prog 75 = ti 75 := by kernel_rfl
theorem ti76 : tiOf Tryd.prog 76 = ti 76 := by kernel_rfl
theorem ti77 : tiOf Tryd.prog 77 = ti 77 := by kernel_rfl
theorem ti78 : tiOf Tryd.prog 78 = ti 78 := by kernel_rfl
theorem ti79 : tiOf Tryd.prog 79 = ti 79 := by kernel_rfl
theorem ti80 : tiOf Tryd.prog 80 = ti 80 := by kernel_rfl
theorem ti81 : tiOf Tryd.prog 81 = ti 81 := by kernel_rfl
theorem ti82 : tiOf Tryd.prog 82 = ti 82 := by kernel_rfl
theorem ti83 : tiOf Tryd.prog 83 = ti 83 := by kernel_rfl
theorem ti84 : tiOf Tryd.prog 84 = ti 84 := by kernel_rfl
theorem ti86 : tiOf Tryd.prog 86 = ti 86 := by kernel_rfl
theorem ti88 : tiOf Tryd.prog 88 = ti 88 := by kernel_rfl
theorem ti89 : tiOf Tryd.prog 89 = ti 89 := by kernel_rfl
theorem ti90 : tiOf Tryd.prog 90 = ti 90 := by kernel_rfl
theorem ti91 : tiOf Tryd.prog 91 = ti 91 := by kernel_rfl
theorem ti92 : tiOf Tryd.prog 92 = ti 92 := by kernel_rfl
theorem ti93 : tiOf Tryd.prog 93 = ti 93 := by kernel_rfl
theorem ti94 : tiOf Tryd.prog 94 = ti 94 := by kernel_rfl
theorem ti95 : tiOf Tryd.prog 95 = ti 95 := by kernel_rfl
theorem ti96 : tiOf Tryd.prog 96 = ti 96 := by kernel_rfl
theorem ti98 : tiOf Tryd.prog 98 = ti 98 := by kernel_rfl
theorem ti99 : tiOf Tryd.prog 99 = ti 99 := by kernel_rfl
theorem ti100 : tiOf Tryd.prog 100 = ti 100 := by kernel_rfl
theorem ti101 : tiOf Tryd.prog 101 = ti 101 := by kernel_rfl
theorem ti102 : tiOf Tryd.prog 102 = ti 102 := by kernel_rfl
theorem ti103 : tiOf Tryd.prog 103 = ti 103 := by kernel_rfl
theorem ti104 : tiOf Tryd.prog 104 = ti 104 := by kernel_rfl
theorem ti105 : tiOf Tryd.prog 105 = ti 105 := by kernel_rfl
theorem ti106 : tiOf Tryd.prog 106 = ti 106 := by kernel_rfl
theorem ti108 : tiOf Tryd.prog 108 = ti 108 := by kernel_rfl
theorem ti110 : tiOf Tryd.prog 110 = ti 110 := by kernel_rfl
theorem ti111 : tiOf Tryd.prog 111 = ti 111 := by kernel_rfl
theorem ti112 : tiOf Tryd.prog 112 = ti 112 := by kernel_rfl
theorem ti113 : tiOf Tryd.prog 113 = ti 113 := by kernel_rfl
theorem ti114 : tiOf Tryd.prog 114 = ti 114 := by kernel_rfl
theorem ti115 : tiOf Tryd.prog 115 = ti 115 := by kernel_rfl
theorem ti116 : tiOf Tryd.prog 116 = ti 116 := by kernel_rfl
theorem ti117 : tiOf Tryd.prog 117 = ti 117 := by kernel_rfl
theorem ti119 : tiOf Tryd.prog 119 = ti 119 := by kernel_rfl
theorem ti120 : tiOf Tryd.prog 120 = ti 120 := by kernel_rfl
theorem ti121 : tiOf Tryd.prog 121 = ti 121 := by kernel_rfl
theorem ti122 : tiOf Tryd.prog 122 = ti 122 := by kernel_rfl
theorem ti123 : tiOf Tryd.prog 123 = ti 123 := by kernel_rfl
theorem ti124 : tiOf Tryd.prog 124 = ti 124 := by kernel_rfl
theorem ti125 : tiOf Tryd.prog 125 = ti 125 := by kernel_rfl
theorem ti126 : tiOf Tryd.prog 126 = ti 126 := by kernel_rfl
theorem ti127 : tiOf Tryd.prog 127 = ti 127 := by kernel_rfl
theorem ti128 : tiOf Tryd.prog 128 = ti 128 := by kernel_rfl
theorem ti129 : tiOf Tryd.prog 129 = ti 129 := by kernel_rfl
theorem ti130 : tiOf Tryd.prog 130 = ti 130 := by kernel_rfl
theorem ti131 : tiOf Tryd.prog 131 = ti 131 := by kernel_rfl
theorem ti132 : tiOf Tryd.prog 132 = ti 132 := by kernel_rfl
theorem ti133 : tiOf Tryd.prog 133 = ti 133 := by kernel_rfl
theorem ti134 : tiOf Tryd.prog 134 = ti 134 := by kernel_rfl
theorem ti135 : tiOf Tryd.prog 135 = ti 135 := by kernel_rfl
theorem ti136 : tiOf Tryd.prog 136 = ti 136 := by kernel_rfl
theorem ti137 : tiOf Tryd.prog 137 = ti 137 := by kernel_rfl
theorem ti138 : tiOf Tryd.prog 138 = ti 138 := by kernel_rfl
theorem ti139 : tiOf Tryd.prog 139 = ti 139 := by kernel_rfl
theorem ti140 : tiOf Tryd.prog 140 = ti 140 := by kernel_rfl
theorem ti141 : tiOf Tryd.prog 141 = ti 141 := by kernel_rfl
theorem tiok : ∀ t, ti t ≠ .no → tiOf Tryd.prog t = ti t := by
  intro t h
  unfold ti at h
  split at h
  · exact ti1
  · exact ti2
  · exact ti3
  · exact ti4
  · exact ti5
  · exact ti6
  · exact ti7
  · exact ti8
  · exact ti9
  · exact ti10
  · exact ti11
  · exact ti12
  · exact ti13
  · exact ti14
  · exact ti15
  · exact ti16
  · exact ti17
  · exact ti18
  · exact ti19
  · exact ti20
  · exact ti21
  · exact ti22
  · exact ti23
  · exact ti24
  · exact ti25
  · exact ti26
  · exact ti27
  · exact ti28
  · exact ti29
  · exact ti31
  · exact ti32
  · exact ti33
  · exact ti35
  · exact ti36
  · exact ti37
  · exact ti38
  · exact ti39
  · exact ti40
  · exact ti41
  · exact ti42
  · exact ti43
  · exact ti44
  · exact ti45
  · exact ti46
  · exact ti47
  · exact ti48
  · exact ti49
  · exact ti50
  · exact ti51
  · exact ti52
  · exact ti53
  · exact ti54
  · exact ti55
  · exact ti56
  · exact ti57
  · exact ti58
  · exact ti59
  · exact ti60
  · exact ti61
  · exact ti62
  · exact ti63
  · exact ti64
  · exact ti65
  · exact ti67
  · exact ti68
  · exact ti69
  · exact ti70
  · exact ti71
  · exact ti72
  · exact ti73
  · exact ti74
  · exact ti75
  · exact ti76
  · exact ti77
  · exact ti78
  · exact ti79
  · exact ti80
  · exact ti81
  · exact ti82
  · exact ti83
  · exact ti84
  · exact ti86
  · exact ti88
  · exact ti89
  · exact ti90
  · exact ti91
  · exact ti92
  · exact ti93
  · exact ti94
  · exact ti95
  · exact ti96
  · exact ti98
  · exact ti99
  · exact ti100
  · exact ti101
  · exact ti102
  · exact ti103
  · exact ti104
  · exact ti105
  · exact ti106
  · exact ti108
  · exact ti110
  · exact ti111
  · exact ti112
  · exact ti113
  · exact ti114
  · exact ti115
  · exact ti116
  · exact ti117
  · exact ti119
  · exact ti120
  · exact ti121
  · exact ti122
  · exact ti123
  · exact ti124
  · exact ti125
  · exact ti126
  · exact ti127
  · exact ti128
  · exact ti129
  · exact ti130
  · exact ti131
  · exact ti132
  · exact ti133
  · exact ti134
  · exact ti135
  · exact ti136
  · exact ti137
  · exact ti138
  · exact ti139
  · exact ti140
  · exact ti141
  · exact absurd rfl h
def ki : Nat → Option IntKind
  | 2 => some .i64
  | 3 => some .i64
  | 5 => some .u8
  | 6 => some .u8
  | 12 => some .u64
  | 21 => some .i32
  | 29 => some .i64
  | 96 => some .i64
  | 104 => some .u64
  | 111 => some .u64
  | 117 => some .u32
  | 134 => some .u8
  | 135 => some .u8
  | 137 => some .i32
  | 138 => some .i32
  | _ => none
theorem ki2 : Tryd.prog.underlying 2 = some (.int .i64) := by kernel_rfl
theorem ki3 : Tryd.prog.underlying 3 = some (.int .i64) := by kernel_rfl
theorem ki5 : Tryd.prog.underlying 5 = some (.int .u8) := by kernel_rfl
theorem ki6 : Tryd.prog.underlying 6 = some (.int .u8) := by kernel_rfl
theorem ki12 : Tryd.prog.underlying 12 = some (.int .u64) := by kernel_rfl
theorem ki21 : Tryd.prog.underlying 21 = some (.int .i32) := by kernel_rfl
theorem ki29 : Tryd.prog.underlying 29 = some (.int .i64) := by kernel_rfl
theorem ki96 : Tryd.prog.underlying 96 = some (.int .i64) := by kernel_rfl
theorem ki104 : Tryd.prog.underlying 104 = some (.int .u64) := by kernel_rfl
theorem ki111 : Tryd.prog.underlying 111 = some (.int .u64) := by kernel_rfl
theorem ki117 : Tryd.prog.underlying 117 = some (.int .u32) := by kernel_rfl
theorem ki134 : Tryd.prog.underlying 134 = some (.int .u8) := by kernel_rfl
theorem ki135 : Tryd.prog.underlying 135 = some (.int .u8) := by kernel_rfl
theorem ki137 : Tryd.prog.underlying 137 = some (.int .i32) := by kernel_rfl
theorem ki138 : Tryd.prog.underlying 138 = some (.int .i32) := by kernel_rfl
theorem kiok : ∀ t k, ki t = some k → Tryd.prog.underlying t = some (.int k) := by
  intro t k h
  unfold ki at h
  split at h
  · cases h; exact ki2
  · cases h; exact ki3
  · cases h; exact ki5
  · cases h; exact ki6
  · cases h; exact ki12
  · cases h; exact ki21
  · cases h; exact ki29
  · cases h; exact ki96
  · cases h; exact ki104
  · cases h; exact ki111
  · cases h; exact ki117
  · cases h; exact ki134
  · cases h; exact ki135
  · cases h; exact ki137
  · cases h; exact ki138
  · cases h
end Go.Proofs.YtfgibalcdjlnhaaDoor
end
