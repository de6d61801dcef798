/-
  Tokens that came in. Conditions: none.
-/
import Derived.Test.YtchdjdipiiijkaaDoorAbsOpen
import Derived.Test.YtchdjdipiiijkaaDoorWalkG
namespace Go.Proofs.YtchdjdipiiijkaaDoor
open Go.ChangeShapes Go.WideShapes Go.ChangeAt Go.RowKit Go.Deep Go.Joins

section
variable {H : Type} {enc : TypeId × Value → H}
theorem cut_one {cs : List Value} {j : Nat} {v : Value} (h : (cs.drop j).take 1 = [v]) : cs[j]? = some v := by
  have := congrArg (fun l => l[0]?) h
  simpa [List.getElem?_take, List.getElem?_drop] using this
theorem open_toks {w : World} {base : Nat} {fuel : Nat} {A : Option Addr} {n c : Nat} {x : DataW H × List MemPlace}
    (h : DataW.trod enc Tryd.prog w base (fun _ => true) true fuel 22 [.slice A n c] = some x) :
    ∃ l : List Tok, l.length = n ∧ n ≤ maxLen ∧ RepD w (fun b _ => b < w.heap.size) (.slice A n c) (.list 4 (l.map Tok.cells)) := by
  rcases open_slice Tryd.underlying22 h with ⟨hcs, _⟩ | ⟨a, len, cap, m, k, D, Pl, hcs, hb, hl, hm, hmm, hx, hf⟩
  · simp only [List.cons.injEq, Value.slice.injEq, and_true] at hcs
    obtain ⟨rfl, rfl, rfl⟩ := hcs
    exact ⟨[], rfl, Nat.zero_le _, .nil _ _ _ (Nat.zero_le _)⟩
  · simp only [List.cons.injEq, Value.slice.injEq, and_true] at hcs
    obtain ⟨rfl, e1, e2⟩ := hcs
    subst e1
    subst e2
    simp only [if_true] at hmm
    subst hmm
    haveI : Inhabited Tok := ⟨Tok.zero⟩
    have c1 : Tryd.prog.cellsOf 3 = 1 := by kernel_rfl
    have c2 : Tryd.prog.cellsOf 9 = 1 := by kernel_rfl
    have c4 : Tryd.prog.cellsOf 25 = 4 := by kernel_rfl
    rw [c4] at hf
    obtain ⟨l, h1, _, h3⟩ := rep_rows (w := w) (base := base) (es := 4) (n := n) (c := _) (a := a) Tok.cells (fun _ => True) (by decide) hl hm fun i hi => by
      obtain ⟨cs, hcell, htr⟩ := hf i (by omega)
      obtain ⟨xs, fu, _, _, hlen, hxl, hat⟩ := DataW.trod_struct Tryd.underlying25 htr
      have e0 := hat 0 _ rfl
      have e1 := hat 1 _ rfl
      have e2 := hat 2 _ rfl
      have e3 := hat 3 _ rfl
      have hxl4 : xs.length = 4 := hxl
      obtain ⟨y0, g0⟩ : ∃ y, xs[0]? = some y := ⟨_, List.getElem?_eq_getElem (by omega)⟩
      obtain ⟨y1, g1⟩ : ∃ y, xs[1]? = some y := ⟨_, List.getElem?_eq_getElem (by omega)⟩
      obtain ⟨y2, g2⟩ : ∃ y, xs[2]? = some y := ⟨_, List.getElem?_eq_getElem (by omega)⟩
      obtain ⟨y3, g3⟩ : ∃ y, xs[3]? = some y := ⟨_, List.getElem?_eq_getElem (by omega)⟩
      have d0 : DataW.trod enc Tryd.prog w base (fun _ => true) true fu 3 ((cs.drop 0).take (Tryd.prog.cellsOf 3)) = xs[0]? := e0
      have d1 : DataW.trod enc Tryd.prog w base (fun _ => true) true fu 9 ((cs.drop 1).take (Tryd.prog.cellsOf 9)) = xs[1]? := e1
      have d2 : DataW.trod enc Tryd.prog w base (fun _ => true) true fu 3 ((cs.drop 2).take (Tryd.prog.cellsOf 3)) = xs[2]? := e2
      have d3 : DataW.trod enc Tryd.prog w base (fun _ => true) true fu 3 ((cs.drop 3).take (Tryd.prog.cellsOf 3)) = xs[3]? := e3
      rw [c1] at d0 d2 d3
      rw [c2] at d1
      obtain ⟨z0, q0, _⟩ := DataW.trod_int Tryd.underlying3 (d0.trans g0)
      obtain ⟨z1, q1, _⟩ := DataW.trod_string Tryd.underlying9 (d1.trans g1)
      obtain ⟨z2, q2, _⟩ := DataW.trod_int Tryd.underlying3 (d2.trans g2)
      obtain ⟨z3, q3, _⟩ := DataW.trod_int Tryd.underlying3 (d3.trans g3)
      refine ⟨⟨z0, z1, z2, z3⟩, cs, trivial, hcell, rfl, fun j hj => ?_⟩
      match j, hj with
      | 0, _ => exact ⟨_, cut_one q0, rfl⟩
      | 1, _ => exact ⟨_, cut_one q1, rfl⟩
      | 2, _ => exact ⟨_, cut_one q2, rfl⟩
      | 3, _ => exact ⟨_, cut_one q3, rfl⟩
    exact ⟨l, h1, by omega, h3⟩
end
end Go.Proofs.YtchdjdipiiijkaaDoor
