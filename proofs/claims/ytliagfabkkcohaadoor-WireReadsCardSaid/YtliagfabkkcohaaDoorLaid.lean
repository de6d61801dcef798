/-
  The package's variables, as the rows list them. Conditions: none.
-/
import Derived.Test.YtliagfabkkcohaaDoorLift
import Derived.Test.YtliagfabkkcohaaDoorAbsRet
import Derived.Test.YtliagfabkkcohaaDoorRows
import Derived.LaidLaws
import Derived.Handed
import Derived.Lib.LaidTab
import Derived.Stop.LaidErr
namespace Go.Proofs.YtliagfabkkcohaaDoor
open Go.ChangeShapes Go.WideShapes Go.ChangeAt Go.RowKit Go.Deep Go.Joins

abbrev laidL : List (String × DataW Unit) := [("math/bits.deBruijn32tab", Rows.laid_math_bits_deBruijn32tab), ("math/bits.deBruijn64tab", Rows.laid_math_bits_deBruijn64tab), ("internal/strconv.uint64pow10", Rows.laid_internal_strconv_uint64pow10), ("strconv.ErrRange", Rows.laid_strconv_ErrRange), ("strconv.ErrSyntax", Rows.laid_strconv_ErrSyntax)]
theorem gP : Tryd.prog.globalNamed "internal/strconv.uint64pow10" = some 0 := by kernel_rfl
theorem gR : Tryd.prog.globalNamed "strconv.ErrRange" = some 3 := by kernel_rfl
theorem gS : Tryd.prog.globalNamed "strconv.ErrSyntax" = some 2 := by kernel_rfl
theorem rowE : ∀ u, Tryd.prog.typeName? 3 u = some "*errors.errorString" → u = 110 := fun u h => by
  have star : "*" ++ "errors.errorString" = "*errors.errorString" := by decide
  exact typeName_ptr_named (nm := "errors.errorString") (by rw [star]; kernel_rfl) (by kernel_rfl) (by decide) u (by rw [star]; exact h)
theorem pow_data : (Rows.laid_internal_strconv_uint64pow10 : DataW Unit) = Lib.tabData .u64 Lib.pow10Tab := by
  unfold Rows.laid_internal_strconv_uint64pow10 Lib.tabData
  kernel_rfl
theorem env_cells {W : World} {Pr : Prot} {name : String} {g : Nat} {vs : List Value} {ds : List D} (hg : Tryd.prog.globalNamed name = some g) (hv : W.var? Tryd.prog name = some vs.toArray) (hP : ∀ o, Pr g o) (hl : vs.length = ds.length) (hr : ∀ (i : Nat) (v : Value) (d : D), vs[i]? = some v → ds[i]? = some d → RepD W Pr v d) :
    (∀ (j : Nat) (d : D), ds[j]? = some d → ∃ u, W.cell? ⟨g, j, none⟩ = some u ∧ Pr g j ∧ RepD W Pr u d) ∧ ∀ j, ds[j]? = none → W.cell? ⟨g, j, none⟩ = none ∧ Pr g j := by
  refine ⟨fun j d hd => ?_, fun j hd => ?_⟩
  · have hj : j < vs.length := by rw [hl]; exact (List.getElem?_eq_some_iff.1 hd).1
    refine ⟨vs[j], (World.var?_cell hg hv j).trans (by simp [hj]), hP j, hr j _ d (List.getElem?_eq_getElem hj) hd⟩
  · have hj : ds.length ≤ j := List.getElem?_eq_none_iff.1 hd
    exact ⟨(World.var?_cell hg hv j).trans (by simp; omega), hP j⟩
theorem reps_cons' {w : World} {Pr : Prot} {v : Value} {d : D} (h : RepD w Pr v d) : ∀ (i : Nat) (u : Value) (e : D), [v][i]? = some u → [d][i]? = some e → RepD w Pr u e
  | 0, _, _, h1, h2 => by cases h1; cases h2; exact h
  | i + 1, _, _, h1, _ => by simp at h1
theorem var_lt {W : World} {name : String} {g : Nat} {cs : Array Value} (hg : Tryd.prog.globalNamed name = some g) (hv : W.var? Tryd.prog name = some cs) : g < W.heap.size := by
  simp only [World.var?, hg, Option.bind_some] at hv
  cases hh : W.heap[g]? with
  | none => rw [hh] at hv; cases hv
  | some o => exact (Array.getElem?_eq_some_iff.1 hh).1
theorem env_of_laid {W : World} (h : laidMet Tryd.prog laidL W) : EnvOk W (fun b _ => b < W.heap.size) := by
  have h2 := h.tail.tail
  have hp := Lib.tabIs_of_head (t := 96) (e := 81) (n := 20) gP (by kernel_rfl) (by kernel_rfl) (by kernel_rfl) (by kernel_rfl) (by kernel_rfl) (pow_data ▸ h2)
  obtain ⟨a0, s0, hv0, -, -, -⟩ := laid_sentinel h2.tail gR (ti := 69) (by kernel_rfl) Tryd.underlying69 rowE Tryd.underlying110 Tryd.underlying112 rfl rfl Tryd.underlying9 (by kernel_rfl) (by kernel_rfl)
  obtain ⟨a1, s1, hv1, -, -, -⟩ := laid_sentinel h2.tail.tail gS (ti := 69) (by kernel_rfl) Tryd.underlying69 rowE Tryd.underlying110 Tryd.underlying112 rfl rfl Tryd.underlying9 (by kernel_rfl) (by kernel_rfl)
  intro g l hm
  unfold laidG at hm
  rcases List.mem_cons.1 hm with e | hm
  · cases e
    refine env_cells (Pr := fun b _ => b < W.heap.size) gP hp (fun _ => var_lt gP hp) (by simp) (fun i v d h1 h2 => ?_)
    rw [List.getElem?_map, h1] at h2
    cases h2
    exact .val _
  rcases List.mem_cons.1 hm with e | hm
  · cases e
    refine env_cells (Pr := fun b _ => b < W.heap.size) (vs := [_]) gS hv1 (fun _ => var_lt gS hv1) rfl (reps_cons' (.err _ _))
  rcases List.mem_cons.1 hm with e | hm
  · cases e
    refine env_cells (Pr := fun b _ => b < W.heap.size) (vs := [_]) gR hv0 (fun _ => var_lt gR hv0) rfl (reps_cons' (.err _ _))
  · cases hm
def dataVals : DataW Unit → List Value
  | .agg l => l.map fun
    | .lit (.int k z) => .int k z
    | _ => .nilFunc
  | _ => []
abbrev synS : ByteArray := { data := #[105, 110, 118, 97, 108, 105, 100, 32, 115, 121, 110, 116, 97, 120] }
abbrev rngS : ByteArray := { data := #[118, 97, 108, 117, 101, 32, 111, 117, 116, 32, 111, 102, 32, 114, 97, 110, 103, 101] }
/-- So many blocks has the settled world. -/
noncomputable def low : Nat := (World.holding Tryd.prog default ⟨#[], #[], []⟩).heap.size
def setVar (h : Array Obj) (g : Nat) (vs : List Value) : Array Obj := h.modify g fun
  | .cells _ t frozen => .cells vs.toArray t frozen
  | o => o
/-- The settled world, with the variables as they are listed. -/
noncomputable def laidWorld (os : Os) : World :=
  let w0 := World.holding Tryd.prog os ⟨#[.cells #[.string rngS] 112, .cells #[.string synS] 112], #[], []⟩
  { w0 with heap := setVar (setVar (setVar (setVar (setVar w0.heap 4 (dataVals Rows.laid_math_bits_deBruijn32tab)) 5 (dataVals Rows.laid_math_bits_deBruijn64tab)) 0 (dataVals Rows.laid_internal_strconv_uint64pow10))
      3 [.iface 110 (.pointer (some ⟨low, 0, none⟩))]) 2 [.iface 110 (.pointer (some ⟨low + 1, 0, none⟩))] }
theorem laid_met (os : Os) (args : Array Value) : laidMet Tryd.prog laidL ((laidWorld os).forCall (fun _ _ => 0) ⟨#[], args, []⟩).memory :=
  laidMet_of_run (ps := (List.range 32).map (MemPlace.cell 4) ++ (List.range 64).map (MemPlace.cell 5) ++ (List.range 20).map (MemPlace.cell 0) ++ [.cell 3 0, .cell low 0, .cell 2 0, .cell (low + 1) 0]) 8 (by kernel_rfl) (by kernel_rfl) (by kernel_rfl)
/-- What a walk of a law over abstract values says of a call. -/
theorem law_call {f : FuncId} {ds : List D} {w : World} {vs : List Value} (h : PureC f ds (· = .bool true)) (hL : laidMet Tryd.prog laidL w) (hl : vs.length = ds.length)
    (hr : ∀ (i : Nat) (v : Value) (d : D), vs[i]? = some v → ds[i]? = some d → RepD w (fun b _ => b < w.heap.size) v d) :
    Calls Tryd.prog f vs.toArray w fun e w' => e = .returned (.bool true) ∧ Below w.heap.size w w' := by
  refine (h.2 w (fun b _ => b < w.heap.size) vs (fun _ _ h => h) (env_of_laid hL) hl hr).mono fun e w' ⟨v, r, he, hp, hrep, hb⟩ => ?_
  subst hp
  cases hrep
  exact ⟨he, hb⟩
end Go.Proofs.YtliagfabkkcohaaDoor
