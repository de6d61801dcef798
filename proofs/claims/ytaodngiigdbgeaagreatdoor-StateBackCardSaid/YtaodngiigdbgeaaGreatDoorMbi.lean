/-
  Conditions: none.
-/
import Derived.Test.YtaodngiigdbgeaaGreatDoorRows
import Derived.LaidLaws
import Derived.Handed
import Derived.Lib.LaidTab
import Derived.Stop.LaidErr
import Derived.Test.YtaodngiigdbgeaaGreatDoorMaa
import Derived.Test.YtaodngiigdbgeaaGreatDoorMaf
import Derived.Test.YtaodngiigdbgeaaGreatDoorMal
import Derived.Test.YtaodngiigdbgeaaGreatDoorMao
import Derived.Test.YtaodngiigdbgeaaGreatDoorMbb
import Derived.Test.YtaodngiigdbgeaaGreatDoorMbf
set_option maxHeartbeats 16000000
set_option maxRecDepth 20000
set_option linter.unusedSimpArgs false
set_option linter.unusedVariables false
namespace Go.Proofs.YtaodngiigdbgeaaGreatDoor
section
open Go.ChangeShapes Go.WideShapes Go.ChangeAt Go.RowKit Go.Deep Go.Joins
section
variable {H : Type} {enc : TypeId × Value → H} {w : World} {base : Nat}
theorem iZ {n : Nat} (h : n ≤ maxLen) : n ≤ 9223372036854775807 := by
 unfold maxLen at h
 omega
abbrev i64Q (n : Int) : Prop := IntKind.min .i64 ≤ n ∧ n ≤ IntKind.max .i64
theorem cI : Show enc Tryz.prog w base 3 1 (fun n : Int => [D.int n]) i64Q := aQq Tryz.underlying3
theorem aOd {n : Int} (h : i64Q n) : -9223372036854775808 ≤ n ∧ n ≤ 9223372036854775807 := by simpa [i64Q, IntKind.min, IntKind.max, IntKind.signed, IntKind.bits] using h
theorem aJq {t : TypeId} (ht : Tryz.prog.underlying t = some .bool) : Show enc Tryz.prog w base t 1 (fun b : Bool => [.bool b]) (fun _ => True) :=
 sZ (g := fun b : Bool => .bool b) fun fuel cs x hx => by
  obtain ⟨b, rfl, _⟩ := DataW.trod_bool ht hx
  exact ⟨_, b, rfl, trivial, .val _⟩
theorem oL : Show enc Tryz.prog w base 26 1 (fun l : List Int => [intsL l]) (fun l => l.length ≤ 9223372036854775807 ∧ ∀ n ∈ l, isInt n) :=
 (fI Tryz.underlying26 zp zg cI).as _ _ (fun x => x) (fun _ => rfl) (fun x h => ⟨iZ h.1, fun n hn => aOd (h.2 n hn)⟩)
theorem aQm : Show enc Tryz.prog w base 9 1 (fun s : ByteArray => [.str s]) (fun s => s.size ≤ maxLen) := aFv Tryz.underlying9
theorem sh_arc : Show enc Tryz.prog w base 46 4 (fun a : SArc => a.c) (fun a => a.lo.length ≤ 9223372036854775807 ∧ a.hi.length ≤ 9223372036854775807) :=
 (dE Tryz.underlying46 zp (aQ cI rfl zp (aQ cI rfl zp (aQ oL rfl zp (aQ oL rfl zp eY))))).as (fun a : SArc => a.c) _
  (fun x => ⟨x.1, x.2.1, x.2.2.1, x.2.2.2.1⟩) (fun _ => rfl) (fun x ⟨_, _, h3, h4, _⟩ => ⟨h3.1, h4.1⟩)
theorem aWy : Show enc Tryz.prog w base 62 2 (fun a : SObs => a.c) (fun _ => True) :=
 (dE Tryz.underlying62 zp (aQ cI rfl zp (aQ cI rfl zp eY))).as (fun a : SObs => a.c) _
  (fun x => ⟨x.1, x.2.1⟩) (fun _ => rfl) (fun _ _ => trivial)
theorem aUq : Show enc Tryz.prog w base 68 2 (fun a : SStop => a.c) (fun _ => True) :=
 (dE Tryz.underlying68 zp (aQ cI rfl zp (aQ (aJq Tryz.underlying4) rfl zp eY))).as (fun a : SStop => a.c) _
  (fun x => ⟨x.1, x.2.1⟩) (fun _ => rfl) (fun _ _ => trivial)
theorem aWx : Show enc Tryz.prog w base 151 2 (fun a : SLeg => a.c) (fun _ => True) :=
 (dE Tryz.underlying151 zp (aQ cI rfl zp (aQ cI rfl zp eY))).as (fun a : SLeg => a.c) _
  (fun x => ⟨x.1, x.2.1⟩) (fun _ => rfl) (fun _ _ => trivial)
theorem aQl : Show enc Tryz.prog w base 80 2 (fun a : SShare => a.c) (fun _ => True) :=
 (dE Tryz.underlying80 zp (aQ cI rfl zp (aQ cI rfl zp eY))).as (fun a : SShare => a.c) _
  (fun x => ⟨x.1, x.2.1⟩) (fun _ => rfl) (fun _ _ => trivial)
theorem sh_ver : Show enc Tryz.prog w base 48 2 (fun a : SVer => a.c) (fun v => v.t.size ≤ 9223372036854775807) :=
 (dE Tryz.underlying48 zp (aQ cI rfl zp (aQ aQm rfl zp eY))).as (fun a : SVer => a.c) _
  (fun x => ⟨x.1, x.2.1⟩) (fun _ => rfl) (fun x ⟨_, h, _⟩ => iZ h)
theorem aWw : Show enc Tryz.prog w base 94 9 (fun a : SCar => a.c) (fun _ => True) :=
 (dE Tryz.underlying94 zp (aQ cI rfl zp (aQ cI rfl zp (aQ cI rfl zp (aQ cI rfl zp (aQ cI rfl zp (aQ cI rfl zp (aQ cI rfl zp (aQ cI rfl zp (aQ cI rfl zp eY)))))))))).as (fun a : SCar => a.c) _
  (fun x => ⟨x.1, x.2.1, x.2.2.1, x.2.2.2.1, x.2.2.2.2.1, x.2.2.2.2.2.1, x.2.2.2.2.2.2.1, x.2.2.2.2.2.2.2.1, x.2.2.2.2.2.2.2.2.1⟩) (fun _ => rfl) (fun _ _ => trivial)
theorem aWz : Show enc Tryz.prog w base 70 10 (fun a : SReq => a.c) (fun _ => True) :=
 (dE Tryz.underlying70 zp (aQ cI rfl zp (aQ cI rfl zp (aQ cI rfl zp (aQ cI rfl zp (aQ cI rfl zp (aQ cI rfl zp (aQ cI rfl zp (aQ cI rfl zp (aQ cI rfl zp (aQ cI rfl zp eY))))))))))).as (fun a : SReq => a.c) _
  (fun x => ⟨x.1, x.2.1, x.2.2.1, x.2.2.2.1, x.2.2.2.2.1, x.2.2.2.2.2.1, x.2.2.2.2.2.2.1, x.2.2.2.2.2.2.2.1, x.2.2.2.2.2.2.2.2.1, x.2.2.2.2.2.2.2.2.2.1⟩) (fun _ => rfl) (fun _ _ => trivial)
theorem aUo : Show enc Tryz.prog w base 72 15 (fun a : SProm => a.c) (fun _ => True) :=
 (dE Tryz.underlying72 zp (aQ aWz rfl zp (aQ cI rfl zp (aQ cI rfl zp (aQ cI rfl zp (aQ cI rfl zp (aQ cI rfl zp eY))))))).as (fun a : SProm => a.c) _
  (fun x => ⟨x.1, x.2.1, x.2.2.1, x.2.2.2.1, x.2.2.2.2.1, x.2.2.2.2.2.1⟩) (fun _ => rfl) (fun _ _ => trivial)
theorem sh_pool : Show enc Tryz.prog w base 29 6 (fun a : SPool => a.c) (fun a => isInt a.mo) :=
 (dE Tryz.underlying29 zp (aQ cI rfl zp (aQ cI rfl zp (aQ cI rfl zp (aQ cI rfl zp (aQ cI rfl zp (aQ cI rfl zp eY))))))).as (fun a : SPool => a.c) _
  (fun x => ⟨x.1, x.2.1, x.2.2.1, x.2.2.2.1, x.2.2.2.2.1, x.2.2.2.2.2.1⟩) (fun _ => rfl) (fun x h => aOd h.1)
theorem aUn : Show enc Tryz.prog w base 66 4 (fun a : SPlan => a.c) (fun p => p.st.length ≤ 9223372036854775807 ∧ p.le.length ≤ 9223372036854775807 ∧ p.lv.length ≤ 9223372036854775807) :=
 (dE Tryz.underlying66 zp (aQ cI rfl zp (aQ (fI Tryz.underlying63 zp zg aUq) rfl zp (aQ (fI Tryz.underlying64 zp zg aWx) rfl zp (aQ oL rfl zp eY))))).as (fun a : SPlan => a.c) _
  (fun x => ⟨x.1, x.2.1, x.2.2.1, x.2.2.2.1⟩) (fun _ => rfl) (fun x ⟨_, h2, h3, h4, _⟩ => ⟨iZ h2.1, iZ h3.1, h4.1⟩)
theorem aUm : Show enc Tryz.prog w base 78 2 (fun a : SCard => a.c) (fun c => c.sh.length ≤ 9223372036854775807) :=
 (dE Tryz.underlying78 zp (aQ cI rfl zp (aQ (fI Tryz.underlying76 zp zg aQl) rfl zp eY))).as (fun a : SCard => a.c) _
  (fun x => ⟨x.1, x.2.1⟩) (fun _ => rfl) (fun x ⟨_, h, _⟩ => iZ h.1)
theorem aWv : Show enc Tryz.prog w base 75 4 (fun a : SBal => a.c) (fun b => b.t.size ≤ 9223372036854775807 ∧ b.ca.length ≤ 9223372036854775807 ∧ ∀ c ∈ b.ca, c.sh.length ≤ 9223372036854775807) :=
 (dE Tryz.underlying75 zp (aQ aQm rfl zp (aQ cI rfl zp (aQ (fI Tryz.underlying73 zp zg aUm) rfl zp (aQ (aJq Tryz.underlying4) rfl zp eY))))).as (fun a : SBal => a.c) _
  (fun x => ⟨x.1, x.2.1, x.2.2.1, x.2.2.2.1⟩) (fun _ => rfl) (fun x ⟨h1, _, h3, _⟩ => ⟨iZ h1, iZ h3.1, h3.2⟩)
theorem aUp : Show enc Tryz.prog w base 60 1 (fun l : List SObs => seenC l) (fun l => l.length ≤ 9223372036854775807) :=
 (fI Tryz.underlying60 zp zg aWy).as (fun l : List SObs => seenC l) _ (fun x => x) (fun _ => rfl) (fun x h => iZ h.1)
theorem show_state : Show enc Tryz.prog w base 33 18 (fun a : SSt => a.c) SSt.came :=
 (dE Tryz.underlying33 zp (aQ cI rfl zp (aQ (fI Tryz.underlying22 zp zg sh_arc) rfl zp (aQ (fI Tryz.underlying23 zp zg aUp) rfl zp
  (aQ (fI Tryz.underlying24 zp zg aWw) rfl zp (aQ (fI Tryz.underlying25 zp zg aUn) rfl zp (aQ oL rfl zp (aQ oL rfl zp
  (aQ (fI Tryz.underlying27 zp zg aUo) rfl zp (aQ oL rfl zp (aQ sh_pool rfl zp (aQ oL rfl zp (aQ (fI Tryz.underlying30 zp zg sh_ver) rfl zp
  (aQ (fI Tryz.underlying31 zp zg aWv) rfl zp eY)))))))))))))).as (fun a : SSt => a.c) _
  (fun x => ⟨x.1, x.2.1, x.2.2.1, x.2.2.2.1, x.2.2.2.2.1, x.2.2.2.2.2.1, x.2.2.2.2.2.2.1, x.2.2.2.2.2.2.2.1, x.2.2.2.2.2.2.2.2.1, x.2.2.2.2.2.2.2.2.2.1, x.2.2.2.2.2.2.2.2.2.2.1, x.2.2.2.2.2.2.2.2.2.2.2.1, x.2.2.2.2.2.2.2.2.2.2.2.2.1⟩) (fun _ => rfl)
  (fun x ⟨_, h1, h2, h3, h4, h5, h6, h7, h8, _, h10, h11, h12, _⟩ => ⟨iZ h1.1, h1.2, iZ h2.1, h2.2, iZ h3.1, iZ h4.1, h4.2, h5.1, h6.1, iZ h7.1, h8.1, h10.1, iZ h11.1, h11.2, iZ h12.1, h12.2⟩)
end
end
section
open Go.ChangeShapes Go.WideShapes Go.ChangeAt Go.RowKit Go.Deep Go.Joins
abbrev laidL : List (String × DataW Unit) := [("math/bits.deBruijn32tab", Rows.laid_math_bits_deBruijn32tab), ("math/bits.deBruijn64tab", Rows.laid_math_bits_deBruijn64tab), ("internal/strconv.uint64pow10", Rows.laid_internal_strconv_uint64pow10), ("strconv.ErrRange", Rows.laid_strconv_ErrRange), ("strconv.ErrSyntax", Rows.laid_strconv_ErrSyntax), ("tonneau/lex.signs", Rows.laid_tonneau_lex_signs)]
theorem gP : Tryz.prog.globalNamed "internal/strconv.uint64pow10" = some 4 := by kernel_rfl
theorem gR : Tryz.prog.globalNamed "strconv.ErrRange" = some 3 := by kernel_rfl
theorem gS : Tryz.prog.globalNamed "strconv.ErrSyntax" = some 2 := by kernel_rfl
theorem rowE : ∀ u, Tryz.prog.typeName? 3 u = some "*errors.errorString" → u = 343 := fun u h => by
 have star : "*" ++ "errors.errorString" = "*errors.errorString" := by decide
 exact typeName_ptr_named (nm := "errors.errorString") (by rw [star]; kernel_rfl) zp zg u (by rw [star]; exact h)
theorem signsN : Tryz.prog.globalNamed "tonneau/lex.signs" = some 0 := by kernel_rfl
theorem signsT : (Tryz.prog.globals[0]?).map (·.type) = some 303 := by kernel_rfl
theorem aXa : Tryz.prog.underlying 303 = some (.array 11 9) := by kernel_rfl
theorem aXb : Tryz.prog.cellsOf 9 = 1 := by kernel_rfl
theorem aXc : Tryz.prog.cellsOf 303 = 11 := by kernel_rfl
theorem aPn : (Rows.laid_internal_strconv_uint64pow10 : DataW Unit) = Lib.tabData .u64 Lib.pow10Tab := by
 unfold Rows.laid_internal_strconv_uint64pow10 Lib.tabData
 kernel_rfl
theorem pV {W : World} {Pr : Prot} {name : String} {g : Nat} {vs : List Value} {ds : List D} (hg : Tryz.prog.globalNamed name = some g) (hv : W.var? Tryz.prog name = some vs.toArray) (hP : ∀ o, Pr g o) (hl : vs.length = ds.length) (hr : ∀ (i : Nat) (v : Value) (d : D), vs[i]? = some v → ds[i]? = some d → RepD W Pr v d) :
  (∀ (j : Nat) (d : D), ds[j]? = some d → ∃ u, W.cell? ⟨g, j, none⟩ = some u ∧ Pr g j ∧ RepD W Pr u d) ∧ ∀ j, ds[j]? = none → W.cell? ⟨g, j, none⟩ = none ∧ Pr g j := by
 refine ⟨fun j d hd => ?_, fun j hd => ?_⟩
 ·have hj : j < vs.length := by rw [hl]; exact (List.getElem?_eq_some_iff.1 hd).1
  refine ⟨vs[j], (World.var?_cell hg hv j).trans (by simp [hj]), hP j, hr j _ d (List.getElem?_eq_getElem hj) hd⟩
 ·have hj : ds.length ≤ j := List.getElem?_eq_none_iff.1 hd
  exact ⟨(World.var?_cell hg hv j).trans jv, hP j⟩
theorem yB {w : World} {Pr : Prot} {v : Value} {d : D} (h : RepD w Pr v d) : ∀ (i : Nat) (u : Value) (e : D), [v][i]? = some u → [d][i]? = some e → RepD w Pr u e
 | 0, _, _, h1, h2 => by cases h1; cases h2; exact h
 | i + 1, _, _, h1, _ => by simp at h1
theorem aDc {W : World} {name : String} {g : Nat} {cs : Array Value} (hg : Tryz.prog.globalNamed name = some g) (hv : W.var? Tryz.prog name = some cs) : g < W.heap.size := by
 simp only [World.var?, hg, Option.bind_some] at hv
 cases hh : W.heap[g]? with
 | none => rw [hh] at hv; cases hv
 | some o => exact (Array.getElem?_eq_some_iff.1 hh).1
theorem aFw {W : World} {rest : List (String × DataW Unit)} (h : laidMet Tryz.prog (("tonneau/lex.signs", Rows.laid_tonneau_lex_signs) :: rest) W) : W.var? Tryz.prog "tonneau/lex.signs" = some (signsL.map Value.string).toArray := by
 obtain ⟨ps, ⟨g, t, cs, fuel, p, q, hg, ht, hvar, hd, _, _⟩, _⟩ := h
 obtain rfl := Option.some.inj (signsN.symm.trans hg)
 obtain rfl := Option.some.inj (signsT.symm.trans ht)
 obtain ⟨xs, m, _, hx, hl, hn, hat⟩ := DataW.trod_array aXa hd
 rw [aXc] at hl
 have hmap : xs.map (·.1) = signsL.map fun s => DataW.lit (.string s.data.toList) := by
  have := congrArg Prod.fst hx
  injection this with this
  exact this.symm
 rw [hvar]
 congr 1
 apply Array.ext'
 apply List.ext_getElem?
 intro j
 by_cases hj11 : j < 11
 ·obtain ⟨s, hs⟩ : ∃ s, signsL[j]? = some s := ⟨_, List.getElem?_eq_getElem (show j < signsL.length from hj11)⟩
  have h1 := hat j hj11
  rw [aXb, Nat.mul_one] at h1
  obtain ⟨x, hx2⟩ : ∃ x, xs[j]? = some x := ⟨_, List.getElem?_eq_getElem zb⟩
  rw [hx2] at h1
  obtain ⟨z, hz, hx3, _⟩ := DataW.trod_string Tryz.underlying9 h1
  have h2 : (xs.map (·.1))[j]? = some x.1 := by rw [List.getElem?_map, hx2]; rfl
  rw [hmap, List.getElem?_map, hs, hx3] at h2
  have h3 : s = z := by
   simp only [Option.map_some, Option.some.injEq, DataW.lit.injEq, Lit.string.injEq] at h2
   apply ByteArray.ext
   exact Array.toList_inj.1 h2
  have h4 : cs.toList[j]? = some (.string z) := by
   have h5 := congrArg (fun l => l[0]?) hz
   simpa [List.getElem?_take, List.getElem?_drop] using h5
  rw [h4, List.getElem?_map, hs, h3]
  rfl
 ·rw [List.getElem?_eq_none zb, List.getElem?_eq_none (by rw [List.length_map]; show 11 ≤ j; omega)]
theorem aDv {W : World} (h : laidMet Tryz.prog laidL W) : EnvOk W (fun b _ => b < W.heap.size) := by
 have h2 := h.tail.tail
 have hp := Lib.tabIs_of_head (t := 338) (e := 325) (n := 20) gP zp zp zp zp zp (aPn ▸ h2)
 obtain ⟨a0, s0, hv0, -, -, -⟩ := laid_sentinel h2.tail gR (ti := 246) zp Tryz.underlying246 rowE Tryz.underlying343 Tryz.underlying345 rfl rfl Tryz.underlying9 zp zp
 obtain ⟨a1, s1, hv1, -, -, -⟩ := laid_sentinel h2.tail.tail gS (ti := 246) zp Tryz.underlying246 rowE Tryz.underlying343 Tryz.underlying345 rfl rfl Tryz.underlying9 zp zp
 have hs := aFw h2.tail.tail.tail
 intro g l hm
 unfold laidG at hm
 rcases List.mem_cons.1 hm with e | hm
 ·cases e
  refine pV (Pr := fun b _ => b < W.heap.size) signsN hs (fun _ => aDc signsN hs) (by simp) (fun i v d h1 h2 => ?_)
  rw [List.getElem?_map, Option.map_eq_some_iff] at h1 h2
  obtain ⟨s, h3, rfl⟩ := h1
  obtain ⟨s', h4, rfl⟩ := h2
  rw [h3] at h4
  cases h4
  exact .val _
 rcases List.mem_cons.1 hm with e | hm
 ·cases e
  refine pV (Pr := fun b _ => b < W.heap.size) gP hp (fun _ => aDc gP hp) (by simp) (fun i v d h1 h2 => ?_)
  rw [List.getElem?_map, h1] at h2
  cases h2
  exact .val _
 rcases List.mem_cons.1 hm with e | hm
 ·cases e
  refine pV (Pr := fun b _ => b < W.heap.size) (vs := [_]) gS hv1 (fun _ => aDc gS hv1) rfl (yB (.err _ _))
 rcases List.mem_cons.1 hm with e | hm
 ·cases e
  refine pV (Pr := fun b _ => b < W.heap.size) (vs := [_]) gR hv0 (fun _ => aDc gR hv0) rfl (yB (.err _ _))
 ·cases hm
def dataVals : DataW Unit → List Value
 | .agg l => l.map fun
  | .lit (.int k z) => .int k z
  | _ => .nilFunc
 | _ => []
abbrev synS : ByteArray := { data := #[105, 110, 118, 97, 108, 105, 100, 32, 115, 121, 110, 116, 97, 120] }
abbrev rngS : ByteArray := { data := #[118, 97, 108, 117, 101, 32, 111, 117, 116, 32, 111, 102, 32, 114, 97, 110, 103, 101] }
noncomputable def low : Nat := (World.holding Tryz.prog default ⟨#[], #[], []⟩).heap.size
def setVar (h : Array Obj) (g : Nat) (vs : List Value) : Array Obj := h.modify g fun
 | .cells _ t frozen => .cells vs.toArray t frozen
 | o => o
noncomputable def laidWorld (os : Os) : World :=
 let w0 := World.holding Tryz.prog os ⟨#[.cells #[.string rngS] 345, .cells #[.string synS] 345], #[], []⟩
 { w0 with heap := setVar (setVar (setVar (setVar (setVar (setVar w0.heap 5 (dataVals Rows.laid_math_bits_deBruijn32tab)) 6 (dataVals Rows.laid_math_bits_deBruijn64tab)) 4 (dataVals Rows.laid_internal_strconv_uint64pow10))
   3 [.iface 343 (.pointer (some ⟨low, 0, none⟩))]) 2 [.iface 343 (.pointer (some ⟨low + 1, 0, none⟩))]) 0 (signsL.map Value.string) }
theorem laid_met (os : Os) (args : Array Value) : laidMet Tryz.prog laidL ((laidWorld os).forCall (fun _ _ => 0) ⟨#[], args, []⟩).memory :=
 laidMet_of_run (ps := (List.range 32).map (MemPlace.cell 5) ++ (List.range 64).map (MemPlace.cell 6) ++ (List.range 20).map (MemPlace.cell 4) ++ [.cell 3 0, .cell low 0, .cell 2 0, .cell (low + 1) 0] ++ (List.range 11).map (MemPlace.cell 0)) 8 zp zp zp
theorem law_call {f : FuncId} {ds : List D} {w : World} {vs : List Value} (h : PureC f ds (· = .bool true)) (hL : laidMet Tryz.prog laidL w) (hl : vs.length = ds.length)
  (hr : ∀ (i : Nat) (v : Value) (d : D), vs[i]? = some v → ds[i]? = some d → RepD w (fun b _ => b < w.heap.size) v d) :
  Calls Tryz.prog f vs.toArray w fun e w' => e = .returned (.bool true) ∧ Below w.heap.size w w' := by
 refine (h.2 w (fun b _ => b < w.heap.size) vs (fun _ _ h => h) (aDv hL) hl hr).mono fun e w' ⟨v, r, he, hp, hrep, hb⟩ => ?_
 subst hp
 cases hrep
 exact ⟨he, hb⟩
end
end Go.Proofs.YtaodngiigdbgeaaGreatDoor
