/-
  The package's variables, as the rows list them. Conditions: none.
-/
import Derived.Test.YtchdjdipiiijkaaDoorLift
import Derived.Test.YtchdjdipiiijkaaDoorAbsRet
import Derived.LaidLaws
import Derived.Handed
namespace Go.Proofs.YtchdjdipiiijkaaDoor
open Go.ChangeShapes Go.WideShapes Go.ChangeAt Go.RowKit Go.Deep Go.Joins

theorem signsN : Tryd.prog.globalNamed "tonneau/lex.signs" = some 0 := by kernel_rfl
theorem signsT : (Tryd.prog.globals[0]?).map (·.type) = some 44 := by kernel_rfl
theorem signsA : Tryd.prog.underlying 44 = some (.array 11 9) := by kernel_rfl
theorem signsC : Tryd.prog.cellsOf 9 = 1 := by kernel_rfl
theorem signsZ : Tryd.prog.cellsOf 44 = 11 := by kernel_rfl
abbrev laidL : List (String × DataW Unit) := [("tonneau/lex.signs", Rows.laid_tonneau_lex_signs)]
/-- From the row's list to what the walks ask. -/
theorem env_of_laid {W : World} (h : laidMet Tryd.prog laidL W) (Pr : Prot) (hP : ∀ o, Pr 0 o) : EnvOk W Pr := by
  obtain ⟨ps, ⟨g, t, cs, fuel, p, q, hg, ht, hvar, hd, _, _⟩, _⟩ := h
  obtain rfl := Option.some.inj (signsN.symm.trans hg)
  obtain rfl := Option.some.inj (signsT.symm.trans ht)
  obtain ⟨xs, m, _, hx, hl, hn, hat⟩ := DataW.trod_array signsA hd
  rw [signsZ] at hl
  have hmap : xs.map (·.1) = signsL.map fun s => DataW.lit (.string s.data.toList) := by
    have := congrArg Prod.fst hx
    injection this with this
    exact this.symm
  intro g l hgl j d hj
  obtain ⟨rfl, rfl⟩ : g = 0 ∧ l = signsL.map D.str := by
    rcases List.mem_singleton.1 hgl with e
    cases e
    exact ⟨rfl, rfl⟩
  rw [List.getElem?_map, Option.map_eq_some_iff] at hj
  obtain ⟨s, hs, rfl⟩ := hj
  have hj11 : j < 11 := (List.getElem?_eq_some_iff.1 hs).1
  have h1 := hat j hj11
  rw [signsC, Nat.mul_one] at h1
  obtain ⟨x, hx2⟩ : ∃ x, xs[j]? = some x := ⟨_, List.getElem?_eq_getElem (by omega)⟩
  rw [hx2] at h1
  obtain ⟨z, hz, hx3, _⟩ := DataW.trod_string Tryd.underlying9 h1
  have h2 : (xs.map (·.1))[j]? = some x.1 := by rw [List.getElem?_map, hx2]; rfl
  rw [hmap, List.getElem?_map, hs, hx3] at h2
  have h3 : s = z := by
    simp only [Option.map_some, Option.some.injEq, DataW.lit.injEq, Lit.string.injEq] at h2
    apply ByteArray.ext
    exact Array.toList_inj.1 h2
  have h4 : cs[j]? = some (.string z) := by
    have h5 := congrArg (fun l => l[0]?) hz
    simpa [List.getElem?_take, List.getElem?_drop] using h5
  refine ⟨.string z, (World.var?_cell hg hvar j).trans h4, hP j, ?_⟩
  rw [h3]
  exact .val _
/-- The settled world, with the variables as they are listed. -/
noncomputable def laidWorld (os : Os) : World :=
  let w0 := World.holding Tryd.prog os ⟨#[], #[], []⟩
  { w0 with heap := w0.heap.modify 0 fun
      | .cells _ t frozen => .cells (signsL.map Value.string).toArray t frozen
      | o => o }
theorem laid_met (os : Os) (args : Array Value) : laidMet Tryd.prog laidL ((laidWorld os).forCall (fun _ _ => 0) ⟨#[], args, []⟩).memory :=
  laidMet_of_run (ps := [.cell 0 0, .cell 0 1, .cell 0 2, .cell 0 3, .cell 0 4, .cell 0 5, .cell 0 6, .cell 0 7, .cell 0 8, .cell 0 9, .cell 0 10]) 8 (by kernel_rfl) (by kernel_rfl) (by kernel_rfl)
/-- What a walk of a law over abstract values says of a call. -/
theorem law_call {f : FuncId} {ds : List D} {w : World} {vs : List Value} (h : PureC f ds (· = .bool true)) (hL : laidMet Tryd.prog laidL w) (h0 : 0 < w.heap.size) (hl : vs.length = ds.length)
    (hr : ∀ (i : Nat) (v : Value) (d : D), vs[i]? = some v → ds[i]? = some d → RepD w (fun b _ => b < w.heap.size) v d) :
    Calls Tryd.prog f vs.toArray w fun e w' => e = .returned (.bool true) ∧ Below w.heap.size w w' := by
  refine (h.2 w (fun b _ => b < w.heap.size) vs (fun _ _ h => h) (env_of_laid hL _ fun _ => h0) hl hr).mono fun e w' ⟨v, r, he, hp, hrep, hb⟩ => ?_
  subst hp
  cases hrep
  exact ⟨he, hb⟩
theorem laid_block {w : World} (hL : laidMet Tryd.prog laidL w) : 0 < w.heap.size := by
  obtain ⟨u, h1, _⟩ := env_of_laid hL (fun _ _ => True) (fun _ => trivial) 0 _ (List.mem_singleton.2 rfl) 0 _ rfl
  exact World.block_lt_of_cell? w _ h1
end Go.Proofs.YtchdjdipiiijkaaDoor
