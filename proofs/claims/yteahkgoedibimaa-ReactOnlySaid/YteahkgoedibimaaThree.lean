/-
  A slice of structs of three ints that came in. Conditions: none.
-/
import Derived.Test.YteahkgoedibimaaLift
namespace Go.Proofs.Yteahkgoedibimaa
open Go.ChangeShapes Go.WideShapes Go.ChangeAt Go.RowKit Go.Deep Go.Joins

/-- A struct of three ints. -/
structure P3 where
  a : Int
  b : Int
  c : Int
  deriving DecidableEq
def P3.cells (l : List P3) : List Value := l.flatMap fun x => [.int .i64 x.a, .int .i64 x.b, .int .i64 x.c]
theorem P3.length (l : List P3) : (P3.cells l).length = l.length * 3 := by
  induction l with
  | nil => rfl
  | cons x l ih => simp only [P3.cells, List.flatMap_cons, List.length_append, List.length_cons, List.length_nil] at ih ⊢; omega
theorem P3.get (l : List P3) (k : Nat) (hk : k < l.length) : (P3.cells l)[k * 3]? = some (.int .i64 l[k].a) ∧ (P3.cells l)[k * 3 + 1]? = some (.int .i64 l[k].b) ∧ (P3.cells l)[k * 3 + 2]? = some (.int .i64 l[k].c) := by
  induction l generalizing k with
  | nil => simp at hk
  | cons x l ih =>
    cases k with
    | zero => exact ⟨rfl, rfl, rfl⟩
    | succ k =>
      have := ih k (by simpa using hk)
      simp only [P3.cells, List.flatMap_cons] at this ⊢
      rw [show (k + 1) * 3 = k * 3 + 3 from by omega]
      simpa using this
/-- The slice (A, n) shows the structs l. -/
def Three (w : World) (B : Nat) (A : Option Addr) (l : List P3) : Prop := Shows w B 3 A l.length (P3.cells l)
theorem Three.at_ {w : World} {B : Nat} {A : Option Addr} {l : List P3} (h : Three w B A l) {k : Nat} (hk : k < l.length) :
    ∃ b o, A = some ⟨b, o, none⟩ ∧ b < B ∧ w.cell? ⟨b, o + k * 3, none⟩ = some (.int .i64 l[k].a) ∧ w.cell? ⟨b, o + k * 3 + 1, none⟩ = some (.int .i64 l[k].b) ∧ w.cell? ⟨b, o + k * 3 + 2, none⟩ = some (.int .i64 l[k].c) := by
  obtain ⟨b, o, e, hb, hc⟩ := h.2 (by omega)
  have := P3.get l k hk
  exact ⟨b, o, e, hb, hc _ _ this.1, hc _ _ this.2.1, hc _ _ this.2.2⟩
theorem Three.below {w w' : World} {B : Nat} {A : Option Addr} {l : List P3} (h : Three w B A l) (hb : Below B w w') : Three w' B A l := Shows.below h hb
theorem three_ext {w w' : World} {A : Option Addr} {l : List P3} (h : Three w w.heap.size A l) (hb : Below w.heap.size w w') : Three w' w'.heap.size A l := Shows.more (h.below hb) hb.size
theorem P3.oneCells (l : List P3) : ∀ u ∈ P3.cells l, u.oneCell' = true := by
  intro u hu
  obtain ⟨x, _, hx⟩ := List.mem_flatMap.1 hu
  simp at hx
  rcases hx with rfl | rfl | rfl <;> rfl
theorem P3.append (l r : List P3) : P3.cells (l ++ r) = P3.cells l ++ P3.cells r := by simp [P3.cells]

theorem P3.set_c (l : List P3) (k : Nat) (hk : k < l.length) (x : Int) : (P3.cells l).set (k * 3 + 2) (.int .i64 x) = P3.cells (l.set k ⟨l[k].a, l[k].b, x⟩) := by
  induction l generalizing k with
  | nil => simp at hk
  | cons y l ih =>
    cases k with
    | zero => rfl
    | succ k =>
      have := ih k (by simpa using hk)
      simp only [P3.cells, List.flatMap_cons, List.set_cons_succ, List.getElem_cons_succ] at this ⊢
      rw [← this, show (k + 1) * 3 + 2 = k * 3 + 2 + 1 + 1 + 1 from by omega]
      rfl
theorem three_own {w : World} {base : Nat} {e : TypeId} {v : Value} {l : List P3} (h : w.ownsRow base e 3 v l.length (P3.cells l)) : ∃ A c, v = .slice A l.length c ∧ Three w w.heap.size A l := shows_of_own h

section
variable {H : Type} {enc : TypeId × Value → H} {P : Program}
theorem open_three {w : World} {base : Nat} {t e ti : TypeId} {f0 f1 f2 : Field} {fuel : Nat} {A : Option Addr} {n c : Nat} {x : DataW H × List MemPlace} {B : Nat}
    (ht : P.underlying t = some (.slice e)) (he : P.underlying e = some (.struct #[f0, f1, f2])) (h0 : f0.type = ti) (h1 : f1.type = ti) (h2 : f2.type = ti) (hi : P.underlying ti = some (.int .i64))
    (ce : P.cellsOf e = 3) (o0 : f0.offset = 0) (o1 : f1.offset = 1) (o2 : f2.offset = 2) (ci : P.cellsOf ti = 1)
    (hlt : ∀ y ∈ x.2, y.block < B) (h : DataW.trod enc P w base (fun _ => true) true fuel t [.slice A n c] = some x) :
    ∃ l : List P3, l.length = n ∧ Three w B A l ∧ n ≤ c ∧ c ≤ maxLen := by
  rcases open_slice ht h with ⟨hcs, _⟩ | ⟨a, len, cap, m, k, D, Pl, hcs, hb, hl, hm, hmm, hx, hf⟩
  · simp only [List.cons.injEq, Value.slice.injEq, and_true] at hcs
    obtain ⟨rfl, rfl, rfl⟩ := hcs
    exact ⟨[], rfl, Shows.empty _ _ _ _, Nat.le_refl _, Nat.zero_le _⟩
  · simp only [List.cons.injEq, Value.slice.injEq, and_true] at hcs
    obtain ⟨rfl, rfl, rfl⟩ := hcs
    simp only [if_true] at hmm
    subst hmm
    have hint : ∀ i, i < n → ∃ p : P3, w.cell? (a.add (i * 3)) = some (.int .i64 p.a) ∧ w.cell? (a.add (i * 3 + 1)) = some (.int .i64 p.b) ∧ w.cell? (a.add (i * 3 + 2)) = some (.int .i64 p.c) := by
      intro i hin
      obtain ⟨cs', q1, q2⟩ := hf i (by omega)
      rw [ce] at q1
      obtain ⟨_, hlen, hcell⟩ := World.cells?_some q1
      obtain ⟨xs, k', hk, hxy, _, hxl, hg⟩ := DataW.trod_struct he q2
      match xs, hxl, cs', hlen with
      | [y0, y1, y2], _, [v0, v1, v2], _ =>
        have g0 := hg 0 f0 rfl
        have g1 := hg 1 f1 rfl
        have g2 := hg 2 f2 rfl
        simp [o0, o1, o2, h0, h1, h2, ci] at g0 g1 g2
        have e0 := hcell 0 (by omega)
        have e1 := hcell 1 (by omega)
        have e2 := hcell 2 (by omega)
        rw [add_add] at e0 e1 e2
        obtain ⟨z0, d0, _⟩ := DataW.trod_int hi g0
        obtain ⟨z1, d1, _⟩ := DataW.trod_int hi g1
        obtain ⟨z2, d2, _⟩ := DataW.trod_int hi g2
        simp only [List.cons.injEq, and_true] at d0 d1 d2
        subst d0 d1 d2
        exact ⟨⟨z0, z1, z2⟩, by simpa using e0, by simpa using e1, by simpa using e2⟩
    haveI : Inhabited P3 := ⟨⟨0, 0, 0⟩⟩
    obtain ⟨p, hp⟩ := choose_lt hint
    have hlen : ((List.range n).map p).length = n := by simp
    refine ⟨(List.range n).map p, hlen, ⟨P3.length _, fun hn => ?_⟩, hl, hm⟩
    rw [hlen] at hn
    obtain ⟨b, o, spot⟩ := a
    have hc0 := (hp 0 (by omega)).1
    have hspot : spot = none := by simpa [Addr.add] using World.cell?_spot hc0
    subst hspot
    refine ⟨b, o, rfl, hlt (.cell b o) ?_, fun j u hu => ?_⟩
    · rw [hx, ce]
      exact List.mem_append_left _ (MemPlace.mem_row.2 ⟨0, by omega, by simp⟩)
    · have hj : j < n * 3 := by
        have := (List.getElem?_eq_some_iff.1 hu).1
        rw [P3.length, hlen] at this
        exact this
      obtain ⟨k, hk⟩ : ∃ k, j = k * 3 ∨ j = k * 3 + 1 ∨ j = k * 3 + 2 := ⟨j / 3, by omega⟩
      have hkn : k < n := by omega
      have hg := P3.get ((List.range n).map p) k (by rw [hlen]; exact hkn)
      obtain ⟨c0, c1, c2⟩ := hp k hkn
      rw [add_plain] at c0 c1 c2
      rcases hk with rfl | rfl | rfl
      · rw [hg.1] at hu
        cases hu
        rw [c0]
        simp
      · rw [hg.2.1] at hu
        cases hu
        rw [c1]
        simp
      · rw [hg.2.2] at hu
        cases hu
        rw [c2]
        simp
end
end Go.Proofs.Yteahkgoedibimaa
