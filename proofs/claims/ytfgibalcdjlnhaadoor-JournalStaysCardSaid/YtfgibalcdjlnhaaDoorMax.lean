/-
  The plain law of the journal: a journal and its file, where no crash is scheduled. Conditions: none.
  The journal's laws: contracts with given results, where no crash is scheduled. Conditions: none.
  The package's variables, as the rows list them. Conditions: none.
  What comes in: lists of numbers, of texts, of operations. Conditions: none.
-/
import Derived.Test.YtfgibalcdjlnhaaDoorRows
import Derived.LaidLaws
import Derived.Handed
import Derived.Lib.LaidTab
import Derived.Stop.LaidErr
import Derived.Test.YtfgibalcdjlnhaaDoorMaw
section
namespace Go.Proofs.YtfgibalcdjlnhaaDoor
open Go.RowKit

structure JInv (st : DS) (f : Int) (j : Option JS) (A : List ByteArray) (n : Nat) : Prop where
  fin : FInv st f A []
  up : Up st
  small : ∀ t ∈ A, t.size ≤ 200
  len : A.length ≤ n
  js : ∀ js, j = some js → js.f = f ∧ (∀ t ∈ js.rs, t.size ≤ 200) ∧ js.rs.length ≤ n ∧ (js.bad = false → js.rs = A ∧ ∃ D, Cl st f js.rs D)
theorem JInv.mono {st : DS} {f : Int} {j : Option JS} {A : List ByteArray} {n : Nat} (h : JInv st f j A n) : JInv st f j A (n + 1) :=
  ⟨h.fin, h.up, h.small, by have := h.len; omega, fun js hj => by obtain ⟨a, b, c, d⟩ := h.js js hj; exact ⟨a, b, by omega, d⟩⟩
theorem app_bad {js : JS} (h : js.bad = true) (st : DS) (s : ByteArray) : appJ js st s = (7, js, st) := if_pos h
theorem sync_bad {js : JS} (h : js.bad = true) (st : DS) : syncJ js st = (7, js, st) := if_pos h
/-- Append -/
theorem JInv.app {st : DS} {f : Int} {js : JS} {A : List ByteArray} {n : Nat} (h : JInv st f (some js) A n) (hf : 0 ≤ f ∧ f ≤ 15) (hn : n ≤ 100) {s : ByteArray} (hs : s.size ≤ 200) :
    ∃ e ju su A', appJ js st s = (e, ju, su) ∧ JInv su f (some ju) A' (n + 1) ∧ ((e = 7 ∧ js.bad = true ∧ ju = js) ∨ (e = 0 ∧ js.bad = false ∧ ju = { js with rs := js.rs ++ [s] })) ∧ su.lost = st.lost := by
  obtain ⟨h1, h2, h3, h4⟩ := h.js js rfl
  cases hb : js.bad
  · obtain ⟨h5, D, h6⟩ := h4 hb
    have hbd := forms_bd js.rs h2
    have hfz := formB_size s (by omega)
    subst h1
    obtain ⟨su, a1, a2, a3, a4, a5, a6⟩ := app_plain hb h.up hf h6.now (s := s) (by omega) (by omega)
    have hC : Cl su js.f (js.rs ++ [s]) D := ⟨a4, by rw [a6]; exact h6.last, h6.pre.trans (List.prefix_append _ _)⟩
    have hsm : ∀ t ∈ js.rs ++ [s], t.size ≤ 200 := fun t ht => by
      rcases List.mem_append.1 ht with ht | ht
      · exact h2 t ht
      · simp at ht
        subst ht
        exact hs
    refine ⟨0, _, su, js.rs ++ [s], a1, ⟨.inl ⟨_, D, hC, List.prefix_refl _, List.nil_prefix⟩, a2, hsm, by simp; omega, fun ju hj => ?_⟩, .inr ⟨rfl, rfl, by rw [← hb]⟩, a3⟩
    cases hj
    exact ⟨rfl, hsm, by simp; omega, fun _ => ⟨rfl, D, hC⟩⟩
  · exact ⟨7, js, st, A, app_bad hb st s, h.mono, .inl ⟨rfl, rfl, rfl⟩, rfl⟩
/-- Sync -/
theorem JInv.sync {st : DS} {f : Int} {js : JS} {A : List ByteArray} {n : Nat} (h : JInv st f (some js) A n) (hok : st.Ok) (hf : 0 ≤ f ∧ f ≤ 15) :
    ∃ e ju su, syncJ js st = (e, ju, su) ∧ JInv su f (some ju) A n ∧ ju.rs = js.rs ∧ (e = 0 → ju = js ∧ L (su.F f).now = forms js.rs ∧ (su.F f).last = (su.F f).now ∧ ∀ p ∈ su.Q, p.1 ≠ f) := by
  obtain ⟨h1, h2, h3, h4⟩ := h.js js rfl
  cases hb : js.bad
  · obtain ⟨h5, D, h6⟩ := h4 hb
    subst h1
    have hl := jsync_law hb hok h6 h5 List.nil_prefix h.small hf
    have hS := sync_law h.fin hok h.small hf
    have hup : Up (syncJ js st).2.2 := by
      unfold syncJ
      rw [if_neg (by rw [hb]; decide)]
      exact h.up.sync js.f
    have h2' : (syncJ js st).2.2 = (syncR st js.f).2 ∧ (syncJ js st).1 = (syncR st js.f).1 := by
      unfold syncJ
      rw [if_neg (by rw [hb]; decide)]
      exact ⟨rfl, rfl⟩
    obtain ⟨e, ju, su, hE⟩ : ∃ e ju su, syncJ js st = (e, ju, su) := ⟨_, _, _, rfl⟩
    rw [hE] at hl hup h2'
    dsimp only at hl hup h2'
    refine ⟨e, ju, su, hE, ?_⟩
    rcases hl with ⟨k1, k2, k3⟩ | ⟨k1, k2, k3⟩
    · obtain rfl : ju = js := k2
      refine ⟨⟨.inl ⟨_, _, k3, by rw [h5]; exact List.prefix_refl _, List.nil_prefix⟩, hup, h.small, h.len, fun ju hj => ?_⟩, rfl, fun he => ⟨rfl, k3.now, ?_, ?_⟩⟩
      · cases hj
        exact ⟨rfl, h2, h3, fun _ => ⟨h5, _, k3⟩⟩
      · exact ba_ext (k3.last.trans k3.now.symm)
      · have := hS.2.2.1 (by rw [← h2'.2]; exact he)
        rw [h2'.1]
        exact this.2.1
    · obtain rfl : ju = { js with bad := true } := k2
      refine ⟨⟨k3, hup, h.small, h.len, fun ju hj => ?_⟩, rfl, fun he => absurd he k1⟩
      cases hj
      exact ⟨rfl, h2, h3, fun hc => by cases hc⟩
  · refine ⟨7, js, st, sync_bad hb st, h, rfl, fun he => by cases he⟩
theorem JInv.lose {st : DS} {f : Int} {j : Option JS} {A : List ByteArray} {n : Nat} (h : JInv st f j A n) (m : Int) : JInv { st with lost := m } f j A n :=
  ⟨h.fin.of rfl (fun p hp _ => hp), h.up, h.small, h.len, fun js hj => by
    obtain ⟨a, b, c, d⟩ := h.js js hj
    exact ⟨a, b, c, fun hb => by obtain ⟨e, D, hC⟩ := d hb; exact ⟨e, D, hC.of rfl⟩⟩⟩
theorem JInv.crash {st : DS} {f : Int} {j : Option JS} {A : List ByteArray} {n : Nat} (h : JInv st f j A n) (hok : st.Ok) (keep : List Int) : JInv (upS (crashS st keep)) f none A n :=
  ⟨(h.fin.crash hok h.small keep).of rfl (fun p hp _ => hp), h.up.crash keep, h.small, h.len, fun js hj => by cases hj⟩
theorem JInv.open_ {st : DS} {f : Int} {A : List ByteArray} {n : Nat} (h : JInv st f none A n) (hok : st.Ok) (hok2 : (syncR st f).2.Ok) (hf : 0 ≤ f ∧ f ≤ 15) : ∃ e j su A', openJ st f = (e, j, su) ∧ JInv su f j A' n ∧ (j ≠ none → e = 0) := by
  obtain ⟨e, j, su, hE⟩ : ∃ e j su, openJ st f = (e, j, su) := ⟨_, _, _, rfl⟩
  have hl := open_law h.fin hok hok2 h.small hf
  have hup := h.up.open_ f
  rw [hE] at hl hup
  rcases hl with ⟨js, k1, k2, k3, k4, k5, k6, _⟩ | ⟨k1, k2, k3, _⟩
  · obtain rfl : j = some js := k2
    have hsm : ∀ t ∈ js.rs, t.size ≤ 200 := fun t ht => h.small t (k6.subset ht)
    have hle : js.rs.length ≤ n := Nat.le_trans k6.length_le h.len
    refine ⟨e, _, su, js.rs, hE, ⟨.inl ⟨_, _, k5, List.prefix_refl _, List.nil_prefix⟩, hup, hsm, hle, fun ju hj => ?_⟩, fun _ => k1⟩
    cases hj
    exact ⟨k3, hsm, hle, fun _ => ⟨rfl, _, k5⟩⟩
  · obtain rfl : j = none := k2
    exact ⟨e, none, su, A, hE, ⟨k3, hup, h.small, h.len, fun ju hj => by cases hj⟩, fun h => absurd rfl h⟩
theorem JInv.jok {st : DS} {f : Int} {js : JS} {A : List ByteArray} {n : Nat} (h : JInv st f (some js) A n) (hf : 0 ≤ f ∧ f ≤ 15) (hn : n ≤ 100) : js.Ok := by
  obtain ⟨h1, h2, h3, _⟩ := h.js js rfl
  have := forms_bd js.rs h2
  exact ⟨by rw [h1]; exact hf, fun t ht => by have := h2 t ht; omega, by omega⟩
/-- what is durable stays through a crash -/
theorem crash_dur {st : DS} {f : Int} (h1 : (st.F f).last = (st.F f).now) (h2 : ∀ p ∈ st.Q, p.1 ≠ f) (keep : List Int) : ((upS (crashS st keep)).F f).now = (st.F f).now := by
  unfold crashS upS
  split
  · rfl
  · show (survs keep 0 st.Q st.F f).last = _
    rw [survs_sub st.Q 0 st.F h2]
    exact h1
theorem crash_lost (st : DS) (keep : List Int) : (upS (crashS st keep)).lost = st.lost := by
  unfold crashS upS
  split <;> rfl
end Go.Proofs.YtfgibalcdjlnhaaDoor
end
section
namespace Go.Proofs.YtfgibalcdjlnhaaDoor
open Go.RowKit Go.ChangeMaps

section
variable {kk k cm cs : Nat} {lm ls : List ME} {st su : DS} {js ju : JS}
theorem jsync_is {e : Int} (h : js.Ok) (hD : DkOk lm ls st) (hu : Up st) (hq : syncJ js st = (e, ju, su)) : ObC 27 [.box 1004 0] (jrn 1004 1005 kk js 1000 1001 1002 1003 k cm cs lm ls st) [] (fun x o => x = .d (.int e) ∧ JOut ju su o) :=
  (jsync_up h hD hu.ends.1).mono fun x o h => by
    rw [hq] at h
    exact h
theorem jopen_is {f e : Int} {j : Option JS} (hD : DkOk lm ls st) (hu : Up st) (hq : openJ st f = (e, j, su)) : ObC 10 [.box 1000 0, .d (.int f)] (dsk 1000 1001 1002 1003 k cm cs lm ls st) [57, 9] (fun x o => ∃ (kk k cm cs : Nat) (lm ls : List ME), DkOk lm ls su ∧
    ((j = none ∧ x = .tup [.d (.val (.pointer none)), .d (.int e)] ∧ o = dsk 1000 1001 1002 1003 k cm cs lm ls su) ∨ ∃ js : JS, j = some js ∧ js.Ok ∧ x = .tup [.box 57 0, .d (.int e)] ∧ o = jrn 57 9 kk js 1000 1001 1002 1003 k cm cs lm ls su)) :=
  (jopen_up hD hu f).mono fun x o h => by
    rw [hq] at h
    exact h
theorem DkOk.lose (h : DkOk lm ls st) {n : Int} (hn : i64 n) : DkOk lm ls { st with lost := max n 0 } := ⟨h.f, h.s, ⟨h.ok.now, h.ok.last, h.ok.out, h.ok.nodup, h.ok.file, h.ok.num, (by show 0 ≤ max n 0 ∧ max n 0 ≤ _; unfold i64 at hn; omega), h.ok.armed0, h.ok.keepl⟩⟩
end
theorem DS.Ok.syncup {st : DS} (h : st.Ok) (hu : Up st) {f : Int} (hf : 0 ≤ f ∧ f ≤ 15) : (syncR st f).2.Ok := by
  unfold syncR
  rw [hu.ends.1, hu.ends.2, if_neg (by decide)]
  split
  · exact h
  · split
    · have := h.lost0
      exact ⟨h.now, h.last, h.out, h.nodup, h.file, h.num, (by show 0 ≤ st.lost - 1 ∧ st.lost - 1 ≤ _; omega), h.armed0, h.keepl⟩
    · exact h.settle (by omega) (h.now f)
end Go.Proofs.YtfgibalcdjlnhaaDoor
end
section
namespace Go.Proofs.YtfgibalcdjlnhaaDoor
open Go.ChangeShapes Go.WideShapes Go.ChangeAt Go.RowKit Go.Deep Go.Joins

abbrev laidL : List (String × DataW Unit) := [("math/bits.deBruijn32tab", Rows.laid_math_bits_deBruijn32tab), ("math/bits.deBruijn64tab", Rows.laid_math_bits_deBruijn64tab), ("internal/strconv.uint64pow10", Rows.laid_internal_strconv_uint64pow10), ("strconv.ErrRange", Rows.laid_strconv_ErrRange), ("strconv.ErrSyntax", Rows.laid_strconv_ErrSyntax)]
theorem gP : Tryd.prog.globalNamed "internal/strconv.uint64pow10" = some 3 := by kernel_rfl
theorem gR : Tryd.prog.globalNamed "strconv.ErrRange" = some 2 := by kernel_rfl
theorem gS : Tryd.prog.globalNamed "strconv.ErrSyntax" = some 1 := by kernel_rfl
theorem rowE : ∀ u, Tryd.prog.typeName? 3 u = some "*errors.errorString" → u = 123 := fun u h => by
  have star : "*" ++ "errors.errorString" = "*errors.errorString" := by decide
  exact typeName_ptr_named (nm := "errors.errorString") (by rw [star]; kernel_rfl) (by kernel_rfl) (by decide) u (by rw [star]; exact h)
theorem pow_data : (Rows.laid_internal_strconv_uint64pow10 : DataW Unit) = Lib.tabData .u64 Lib.pow10Tab := by
  unfold Rows.laid_internal_strconv_uint64pow10 Lib.tabData
  kernel_rfl
theorem env_cells {W : World} {Pr : Prot} {name : String} {g : Nat} {vs : List Value} {ds : List D} (hg : Tryd.prog.globalNamed name = some g) (hv : W.var? Tryd.prog name = some vs.toArray) (hP : ∀ o, Pr g o) (hl : vs.length = ds.length) (hr : ∀ (i : Nat) (v : Value) (d : D), vs[i]? = some v → ds[i]? = some d → RepD W Pr v d) :
    (∀ (j : Nat) (d : D), ds[j]? = some d → ∃ u, W.cell? ⟨g, j, none⟩ = some u ∧ Pr g j ∧ RepD W Pr u d) ∧ ∀ j, ds[j]? = none → W.cell? ⟨g, j, none⟩ = none ∧ Pr g j := by
  refine ⟨fun j d hd => ?_, fun j hd => ?_⟩
  · have hj : j < vs.length := by rw [hl]; exact (List.getElem?_eq_some_iff.1 hd).1
    refine ⟨vs[j], (World.var?_cell hg hv j).trans (by simp [hj]), hP j, hr j _ d (List.getElem?_eq_getElem hj) hd⟩
  · have hj : ds.length ≤ j := List.getElem?_eq_none_iff.1 hd
    exact ⟨(World.var?_cell hg hv j).trans (by simp; omega), hP j⟩
theorem reps_cons' {w : World} {Pr : Prot} {v : Value} {d : D} (h : RepD w Pr v d) : ∀ (i : Nat) (u : Value) (e : D), [v][i]? = some u → [d][i]? = some e → RepD w Pr u e
  | 0, _, _, h1, h2 => by cases h1; cases h2; exact h
  | i + 1, _, _, h1, _ => by simp at h1
theorem var_lt {W : World} {name : String} {g : Nat} {cs : Array Value} (hg : Tryd.prog.globalNamed name = some g) (hv : W.var? Tryd.prog name = some cs) : g < W.heap.size := by
  simp only [World.var?, hg, Option.bind_some] at hv
  cases hh : W.heap[g]? with
  | none => rw [hh] at hv; cases hv
  | some o => exact (Array.getElem?_eq_some_iff.1 hh).1
theorem env_of_laid {W : World} (h : laidMet Tryd.prog laidL W) : EnvOk W (fun b _ => b < W.heap.size) := by
  have h2 := h.tail.tail
  have hp := Lib.tabIs_of_head (t := 116) (e := 104) (n := 20) gP (by kernel_rfl) (by kernel_rfl) (by kernel_rfl) (by kernel_rfl) (by kernel_rfl) (pow_data ▸ h2)
  obtain ⟨a0, s0, hv0, -, -, -⟩ := laid_sentinel h2.tail gR (ti := 84) (by kernel_rfl) Tryd.underlying84 rowE Tryd.underlying123 Tryd.underlying125 rfl rfl Tryd.underlying9 (by kernel_rfl) (by kernel_rfl)
  obtain ⟨a1, s1, hv1, -, -, -⟩ := laid_sentinel h2.tail.tail gS (ti := 84) (by kernel_rfl) Tryd.underlying84 rowE Tryd.underlying123 Tryd.underlying125 rfl rfl Tryd.underlying9 (by kernel_rfl) (by kernel_rfl)
  intro g l hm
  unfold laidG at hm
  rcases List.mem_cons.1 hm with e | hm
  · cases e
    refine env_cells (Pr := fun b _ => b < W.heap.size) gP hp (fun _ => var_lt gP hp) (by simp) (fun i v d h1 h2 => ?_)
    rw [List.getElem?_map, h1] at h2
    cases h2
    exact .val _
  rcases List.mem_cons.1 hm with e | hm
  · cases e
    refine env_cells (Pr := fun b _ => b < W.heap.size) (vs := [_]) gS hv1 (fun _ => var_lt gS hv1) rfl (reps_cons' (.err _ _))
  rcases List.mem_cons.1 hm with e | hm
  · cases e
    refine env_cells (Pr := fun b _ => b < W.heap.size) (vs := [_]) gR hv0 (fun _ => var_lt gR hv0) rfl (reps_cons' (.err _ _))
  · cases hm
def dataVals : DataW Unit → List Value
  | .agg l => l.map fun
    | .lit (.int k z) => .int k z
    | _ => .nilFunc
  | _ => []
abbrev synS : ByteArray := { data := #[105, 110, 118, 97, 108, 105, 100, 32, 115, 121, 110, 116, 97, 120] }
abbrev rngS : ByteArray := { data := #[118, 97, 108, 117, 101, 32, 111, 117, 116, 32, 111, 102, 32, 114, 97, 110, 103, 101] }
/-- So many blocks has the settled world. -/
noncomputable def low : Nat := (World.holding Tryd.prog default ⟨#[], #[], []⟩).heap.size
def setVar (h : Array Obj) (g : Nat) (vs : List Value) : Array Obj := h.modify g fun
  | .cells _ t frozen => .cells vs.toArray t frozen
  | o => o
/-- The settled world, with the variables as they are listed. -/
noncomputable def laidWorld (os : Os) : World :=
  let w0 := World.holding Tryd.prog os ⟨#[.cells #[.string rngS] 125, .cells #[.string synS] 125], #[], []⟩
  { w0 with heap := setVar (setVar (setVar (setVar (setVar w0.heap 4 (dataVals Rows.laid_math_bits_deBruijn32tab)) 5 (dataVals Rows.laid_math_bits_deBruijn64tab)) 3 (dataVals Rows.laid_internal_strconv_uint64pow10))
      2 [.iface 123 (.pointer (some ⟨low, 0, none⟩))]) 1 [.iface 123 (.pointer (some ⟨low + 1, 0, none⟩))] }
theorem laid_met (os : Os) (args : Array Value) : laidMet Tryd.prog laidL ((laidWorld os).forCall (fun _ _ => 0) ⟨#[], args, []⟩).memory :=
  laidMet_of_run (ps := (List.range 32).map (MemPlace.cell 4) ++ (List.range 64).map (MemPlace.cell 5) ++ (List.range 20).map (MemPlace.cell 3) ++ [.cell 2 0, .cell low 0, .cell 1 0, .cell (low + 1) 0]) 8 (by kernel_rfl) (by kernel_rfl) (by kernel_rfl)
/-- What a walk of a law over abstract values says of a call. -/
theorem law_call {f : FuncId} {ds : List D} {w : World} {vs : List Value} (h : PureC f ds (· = .bool true)) (hL : laidMet Tryd.prog laidL w) (hl : vs.length = ds.length)
    (hr : ∀ (i : Nat) (v : Value) (d : D), vs[i]? = some v → ds[i]? = some d → RepD w (fun b _ => b < w.heap.size) v d) :
    Calls Tryd.prog f vs.toArray w fun e w' => e = .returned (.bool true) ∧ Below w.heap.size w w' := by
  refine (h.2 w (fun b _ => b < w.heap.size) vs (fun _ _ h => h) (env_of_laid hL) hl hr).mono fun e w' ⟨v, r, he, hp, hrep, hb⟩ => ?_
  subst hp
  cases hrep
  exact ⟨he, hb⟩
end Go.Proofs.YtfgibalcdjlnhaaDoor
end
section
namespace Go.Proofs.YtfgibalcdjlnhaaDoor
open Go.ChangeShapes Go.WideShapes Go.ChangeAt Go.RowKit Go.Deep Go.Joins

theorem i64_of {n : Int} (h : IntKind.i64.min ≤ n ∧ n ≤ IntKind.i64.max) : i64 n := by simpa [i64, IntKind.min, IntKind.max, IntKind.signed, IntKind.bits] using h
theorem max_of {n : Nat} (h : n ≤ maxLen) : n ≤ 9223372036854775807 := by unfold maxLen at h; omega
section
variable {H : Type} {enc : TypeId × Value → H} {w : World} {base : Nat}
theorem show_ints : Show enc Tryd.prog w base 23 1 (fun l : List Int => [.list 1 (l.map fun n => [.int n])]) (fun l => l.length ≤ maxLen ∧ ∀ e ∈ l, IntKind.i64.min ≤ e ∧ e ≤ IntKind.i64.max) :=
  show_list Tryd.underlying23 (by kernel_rfl) (by decide) (show_int Tryd.underlying3)
theorem show_texts : Show enc Tryd.prog w base 22 1 (fun l : List ByteArray => [.list 1 (l.map fun s => [.str s])]) (fun l => l.length ≤ maxLen ∧ ∀ e ∈ l, e.size ≤ maxLen) :=
  show_list Tryd.underlying22 (by kernel_rfl) (by decide) (show_string Tryd.underlying9)
/-- what comes in as an operation -/
structure Opn.In (o : Opn) : Prop where
  kind : i64 o.kind
  s : o.s.size ≤ 9223372036854775807
  n : i64 o.n
  keep : o.keep.length ≤ 9223372036854775807
theorem show_op : Show enc Tryd.prog w base 52 4 Opn.cells Opn.In :=
  (show_struct Tryd.underlying52 (by kernel_rfl) (shows_cons (show_int Tryd.underlying3) rfl (by kernel_rfl) (shows_cons (show_string Tryd.underlying9) rfl (by kernel_rfl) (shows_cons (show_int Tryd.underlying3) rfl (by kernel_rfl) (shows_cons show_ints rfl (by kernel_rfl) shows_nil))))).as Opn.cells _
    (fun x => ⟨x.1, x.2.1, x.2.2.1, x.2.2.2.1⟩) (fun _ => rfl) (fun x h => ⟨i64_of h.1, max_of h.2.1, i64_of h.2.2.1, max_of h.2.2.2.1.1⟩)
theorem show_ops : Show enc Tryd.prog w base 49 1 (fun l : List Opn => [.list 4 (l.map Opn.cells)]) (fun l => l.length ≤ maxLen ∧ ∀ e ∈ l, e.In) :=
  show_list Tryd.underlying49 (by kernel_rfl) (by decide) show_op
end
end Go.Proofs.YtfgibalcdjlnhaaDoor
end
