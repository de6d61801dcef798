/-
  Conditions: none.
-/
import Derived.Test.YtedoeogopmenpaaGreatDoorRows
import Derived.LaidLaws
import Derived.Handed
import Derived.Lib.LaidTab
import Derived.Stop.LaidErr
import Derived.Test.YtedoeogopmenpaaGreatDoorMba
set_option maxHeartbeats 16000000
set_option maxRecDepth 20000
namespace Go.Proofs.YtedoeogopmenpaaGreatDoor
section
open Go.ChangeShapes Go.WideShapes Go.ChangeAt Go.RowKit Go.Deep Go.Joins
abbrev laidL : List (String × DataW Unit) := [("math/bits.deBruijn32tab", Rows.laid_math_bits_deBruijn32tab), ("math/bits.deBruijn64tab", Rows.laid_math_bits_deBruijn64tab), ("internal/strconv.uint64pow10", Rows.laid_internal_strconv_uint64pow10), ("tonneau/lex.signs", Rows.laid_tonneau_lex_signs)]
theorem gP : Tryz.prog.globalNamed "internal/strconv.uint64pow10" = some 2 := by kernel_rfl
theorem signsN : Tryz.prog.globalNamed "tonneau/lex.signs" = some 0 := by kernel_rfl
theorem signsT : (Tryz.prog.globals[0]?).map (·.type) = some 138 := by kernel_rfl
theorem signsA : Tryz.prog.underlying 138 = some (.array 11 9) := by kernel_rfl
theorem signsC : Tryz.prog.cellsOf 9 = 1 := by kernel_rfl
theorem signsZ : Tryz.prog.cellsOf 138 = 11 := by kernel_rfl
theorem pow_data : (Rows.laid_internal_strconv_uint64pow10 : DataW Unit) = Lib.tabData .u64 Lib.pow10Tab := by
 unfold Rows.laid_internal_strconv_uint64pow10 Lib.tabData
 kernel_rfl
theorem env_cells {W : World} {Pr : Prot} {name : String} {g : Nat} {vs : List Value} {ds : List D} (hg : Tryz.prog.globalNamed name = some g) (hv : W.var? Tryz.prog name = some vs.toArray) (hP : ∀ o, Pr g o) (hl : vs.length = ds.length) (hr : ∀ (i : Nat) (v : Value) (d : D), vs[i]? = some v → ds[i]? = some d → RepD W Pr v d) :
  (∀ (j : Nat) (d : D), ds[j]? = some d → ∃ u, W.cell? ⟨g, j, none⟩ = some u ∧ Pr g j ∧ RepD W Pr u d) ∧ ∀ j, ds[j]? = none → W.cell? ⟨g, j, none⟩ = none ∧ Pr g j := by
 refine ⟨fun j d hd => ?_, fun j hd => ?_⟩
 ·have hj : j < vs.length := by rw [hl]; exact (List.getElem?_eq_some_iff.1 hd).1
  refine ⟨vs[j], (World.var?_cell hg hv j).trans (by simp [hj]), hP j, hr j _ d (List.getElem?_eq_getElem hj) hd⟩
 ·have hj : ds.length ≤ j := List.getElem?_eq_none_iff.1 hd
  exact ⟨(World.var?_cell hg hv j).trans (by simp; omega), hP j⟩
theorem var_lt {W : World} {name : String} {g : Nat} {cs : Array Value} (hg : Tryz.prog.globalNamed name = some g) (hv : W.var? Tryz.prog name = some cs) : g < W.heap.size := by
 simp only [World.var?, hg, Option.bind_some] at hv
 cases hh : W.heap[g]? with
 | none => rw [hh] at hv; cases hv
 | some o => exact (Array.getElem?_eq_some_iff.1 hh).1
theorem signs_cells {W : World} {rest : List (String × DataW Unit)} (h : laidMet Tryz.prog (("tonneau/lex.signs", Rows.laid_tonneau_lex_signs) :: rest) W) : W.var? Tryz.prog "tonneau/lex.signs" = some (signsL.map Value.string).toArray := by
 obtain ⟨ps, ⟨g, t, cs, fuel, p, q, hg, ht, hvar, hd, _, _⟩, _⟩ := h
 obtain rfl := Option.some.inj (signsN.symm.trans hg)
 obtain rfl := Option.some.inj (signsT.symm.trans ht)
 obtain ⟨xs, m, _, hx, hl, hn, hat⟩ := DataW.trod_array signsA hd
 rw [signsZ] at hl
 have hmap : xs.map (·.1) = signsL.map fun s => DataW.lit (.string s.data.toList) := by
  have := congrArg Prod.fst hx
  injection this with this
  exact this.symm
 rw [hvar]
 congr 1
 apply Array.ext'
 apply List.ext_getElem?
 intro j
 by_cases hj11 : j < 11
 ·obtain ⟨s, hs⟩ : ∃ s, signsL[j]? = some s := ⟨_, List.getElem?_eq_getElem (show j < signsL.length from hj11)⟩
  have h1 := hat j hj11
  rw [signsC, Nat.mul_one] at h1
  obtain ⟨x, hx2⟩ : ∃ x, xs[j]? = some x := ⟨_, List.getElem?_eq_getElem (by omega)⟩
  rw [hx2] at h1
  obtain ⟨z, hz, hx3, _⟩ := DataW.trod_string Tryz.underlying9 h1
  have h2 : (xs.map (·.1))[j]? = some x.1 := by rw [List.getElem?_map, hx2]; rfl
  rw [hmap, List.getElem?_map, hs, hx3] at h2
  have h3 : s = z := by
   simp only [Option.map_some, Option.some.injEq, DataW.lit.injEq, Lit.string.injEq] at h2
   apply ByteArray.ext
   exact Array.toList_inj.1 h2
  have h4 : cs.toList[j]? = some (.string z) := by
   have h5 := congrArg (fun l => l[0]?) hz
   simpa [List.getElem?_take, List.getElem?_drop] using h5
  rw [h4, List.getElem?_map, hs, h3]
  rfl
 ·rw [List.getElem?_eq_none (by omega), List.getElem?_eq_none (by rw [List.length_map]; show 11 ≤ j; omega)]
theorem env_of_laid {W : World} (h : laidMet Tryz.prog laidL W) : EnvOk W (fun b _ => b < W.heap.size) := by
 have h2 := h.tail.tail
 have hp := Lib.tabIs_of_head (t := 159) (e := 153) (n := 20) gP (by kernel_rfl) (by kernel_rfl) (by kernel_rfl) (by kernel_rfl) (by kernel_rfl) (pow_data ▸ h2)
 have hs := signs_cells h2.tail
 intro g l hm
 unfold laidG at hm
 rcases List.mem_cons.1 hm with e | hm
 ·cases e
  refine env_cells (Pr := fun b _ => b < W.heap.size) signsN hs (fun _ => var_lt signsN hs) (by simp) (fun i v d h1 h2 => ?_)
  rw [List.getElem?_map, Option.map_eq_some_iff] at h1 h2
  obtain ⟨s, h3, rfl⟩ := h1
  obtain ⟨s', h4, rfl⟩ := h2
  rw [h3] at h4
  cases h4
  exact .val _
 rcases List.mem_cons.1 hm with e | hm
 ·cases e
  refine env_cells (Pr := fun b _ => b < W.heap.size) gP hp (fun _ => var_lt gP hp) (by simp) (fun i v d h1 h2 => ?_)
  rw [List.getElem?_map, h1] at h2
  cases h2
  exact .val _
 ·cases hm
def dataVals : DataW Unit → List Value
 | .agg l => l.map fun
  | .lit (.int k z) => .int k z
  | _ => .nilFunc
 | _ => []
def setVar (h : Array Obj) (g : Nat) (vs : List Value) : Array Obj := h.modify g fun
 | .cells _ t frozen => .cells vs.toArray t frozen
 | o => o
noncomputable def laidWorld (os : Os) : World :=
 let w0 := World.holding Tryz.prog os ⟨#[], #[], []⟩
 { w0 with heap := setVar (setVar (setVar (setVar w0.heap 3 (dataVals Rows.laid_math_bits_deBruijn32tab)) 4 (dataVals Rows.laid_math_bits_deBruijn64tab)) 2 (dataVals Rows.laid_internal_strconv_uint64pow10)) 0 (signsL.map Value.string) }
theorem laid_met (os : Os) (args : Array Value) : laidMet Tryz.prog laidL ((laidWorld os).forCall (fun _ _ => 0) ⟨#[], args, []⟩).memory :=
 laidMet_of_run (ps := (List.range 32).map (MemPlace.cell 3) ++ (List.range 64).map (MemPlace.cell 4) ++ (List.range 20).map (MemPlace.cell 2) ++ (List.range 11).map (MemPlace.cell 0)) 8 (by kernel_rfl) (by kernel_rfl) (by kernel_rfl)
theorem law_call {f : FuncId} {ds : List D} {w : World} {vs : List Value} (h : PureC f ds (· = .bool true)) (hL : laidMet Tryz.prog laidL w) (hl : vs.length = ds.length)
  (hr : ∀ (i : Nat) (v : Value) (d : D), vs[i]? = some v → ds[i]? = some d → RepD w (fun b _ => b < w.heap.size) v d) :
  Calls Tryz.prog f vs.toArray w fun e w' => e = .returned (.bool true) ∧ Below w.heap.size w w' := by
 refine (h.2 w (fun b _ => b < w.heap.size) vs (fun _ _ h => h) (env_of_laid hL) hl hr).mono fun e w' ⟨v, r, he, hp, hrep, hb⟩ => ?_
 subst hp
 cases hrep
 exact ⟨he, hb⟩
end
section
open Go.ChangeShapes Go.WideShapes Go.ChangeAt Go.RowKit Go.Deep Go.Joins
section
variable {H : Type} {enc : TypeId × Value → H} {w : World} {base : Nat}
theorem cameL_of {a : List Ex} (h : ∀ x ∈ a, Ex.came x) : Ex.cameL a := by
 induction a with
 | nil => trivial
 | cons x r ih => exact ⟨h x (by simp), ih fun y hy => h y (by simp [hy])⟩
theorem maxLen_le {n : Nat} (h : n ≤ maxLen) : n ≤ 9223372036854775807 := by
 unfold maxLen at h
 omega
theorem showB_exp : ∀ N : Nat, ShowB N enc Tryz.prog w base 26 5 (fun e : Ex => exC e) Ex.came
 | 0 => fun fuel cs x hN _ => by
  have := data_pos x.1
  omega
 | N + 1 => by
  have ih := showB_exp N
  have hl := showB_list (t := 24) Tryz.underlying24 (by kernel_rfl) (by decide) ih
  exact (showB_struct Tryz.underlying26 (by kernel_rfl) (showsB_cons ((show_int Tryz.underlying3).b N) rfl (by kernel_rfl) (showsB_cons ((show_int Tryz.underlying3).b N) rfl (by kernel_rfl)
   (showsB_cons ((show_int Tryz.underlying3).b N) rfl (by kernel_rfl) (showsB_cons ((show_string Tryz.underlying9).b N) rfl (by kernel_rfl) (showsB_cons hl rfl (by kernel_rfl) showsB_nil)))))).as (fun e : Ex => exC e) _
   (fun x => .mk x.1 x.2.1 x.2.2.1 x.2.2.2.1 x.2.2.2.2.1) (fun a => congrArg (fun r => [D.int a.1, D.int a.2.1, D.int a.2.2.1, D.str a.2.2.2.1, D.list 5 r]) (rows_map a.2.2.2.2.1)) (fun x ⟨_, _, _, h4, h5, _⟩ => ⟨maxLen_le h4, maxLen_le h5.1, cameL_of h5.2⟩)
theorem show_exp : Show enc Tryz.prog w base 26 5 (fun e : Ex => exC e) Ex.came := ShowB.all showB_exp
end
end
end Go.Proofs.YtedoeogopmenpaaGreatDoor
