/-
  The documentation's examples; lists of acts that came in. Conditions: none.
-/
import Derived.Test.YtabaflklognhaaaMba
set_option linter.unusedSimpArgs false
set_option linter.unusedVariables false
namespace Go.Proofs.Ytabaflklognhaaa
open Go.ChangeShapes Go.WideShapes Go.ChangeAt Go.RowKit Go.Deep Go.Joins Go.ChangeMaps

theorem smW {k cm cs : Nat} {lm ls : List ME} {st su : DS} {f at_ r : Int} {s : ByteArray} (h : DkOk lm ls st) (hr : (writeR st f at_ s).1 = r) (hs : (writeR st f at_ s).2 = su) : ObC 29 [.box 1000 0, .d (.int f), .d (.int at_), .d (.str s)] (dsk 1000 1001 1002 1003 k cm cs lm ls st) [24] (fun x o => x = .d (.int r) ∧ OutN 24 su o) := hr ▸ hs ▸ Write_any h f at_ s
theorem smS {k cm cs : Nat} {lm ls : List ME} {st su : DS} {f r : Int} (h : DkOk lm ls st) (hf : i64 f) (hr : (syncR st f).1 = r) (hs : (syncR st f).2 = su) : ObC 19 [.box 1000 0, .d (.int f)] (dsk 1000 1001 1002 1003 k cm cs lm ls st) [13] (fun x o => x = .d (.int r) ∧ OutN 13 su o) := hr ▸ hs ▸ Sync_any h hf
theorem smC {k cm cs : Nat} {lm ls : List ME} {st su : DS} {keep : List Int} (h : DkOk lm ls st) (hk : keep.length ≤ 1000000) (hs : crashS st keep = su) : ObC 25 [.box 1000 0, .d (keepD keep)] (dsk 1000 1001 1002 1003 k cm cs lm ls st) [106] (fun x o => x = .tup [] ∧ OutN 106 su o) := hs ▸ crash_any h hk
theorem smU {k cm cs : Nat} {lm ls : List ME} {st su : DS} (h : DkOk lm ls st) (hs : upS st = su) : ObC 26 [.box 1000 0] (dsk 1000 1001 1002 1003 k cm cs lm ls st) [] (fun x o => x = .tup [] ∧ o = dsk 1000 1001 1002 1003 k cm cs lm ls su) := by
  have _ := h
  exact hs ▸ start_any
theorem smR {k cm cs : Nat} {lm ls : List ME} {st : DS} {f at_ size e : Int} {s : ByteArray} (h : DkOk lm ls st) (hf : i64 f) (hr : readP st f at_ size = (s, e)) : ObC 20 [.box 1000 0, .d (.int f), .d (.int at_), .d (.int size)] (dsk 1000 1001 1002 1003 k cm cs lm ls st) [] (fun x o => x = .tup [.d (.str s), .d (.int e)] ∧ o = dsk 1000 1001 1002 1003 k cm cs lm ls st) := by
  have := readp_any (k := k) (cm := cm) (cs := cs) (at_ := at_) (size := size) h hf
  rwa [hr] at this
theorem DkOk.is {lm ls : List ME} {st su : DS} (h : DkOk lm ls st) (e : st = su) : DkOk lm ls su := e ▸ h
attribute [local irreducible] sm1 sm2 sm3 sm4 sm5 sc1 sc2 sc3 sc4 readP writeR syncR crashS upS
set_option maxHeartbeats 16000000 in
set_option maxRecDepth 20000 in
theorem small_any : PureC 8 [] (· = .bool true) := by
  obtain ⟨f1, f2, f3, f4, f5, f6, f7, f8, f9, f10, f11⟩ := sm_facts
  have f4' : readP sm4 0 0 9 = ((readP sm4 0 0 9).1, 8) := by rw [← f4]
  generalize (readP sm4 0 0 9).1 = sx at f4'
  have e1 : (writeR DS.new 0 0 sABC).2 = sm1 := by unfold sm1; rfl
  have e2 : (syncR sm1 0).2 = sm2 := by unfold sm2; rfl
  have e3 : (writeR sm2 0 1 ⟨#[88, 89]⟩).2 = sm3 := by unfold sm3; rfl
  have e4 : crashS sm3 [1] = sm4 := by unfold sm4; rfl
  have e5 : upS sm4 = sm5 := by unfold sm5; rfl
  have c1 : upS (crashS sm3 [0]) = sc1 := by unfold sc1; rfl
  have c2 : (writeR sc1 1 62 ⟨#[97, 98, 99, 100]⟩).2 = sc2 := by unfold sc2; rfl
  have c3 : upS (crashS sc2 [0, 1]) = sc3 := by unfold sc3; rfl
  have c4 : (writeR sc3 16 0 ⟨#[]⟩).2 = sc4 := by unfold sc4; rfl
  have f0 : (writeR sm2 0 1 ⟨#[88, 89]⟩).1 = (writeR sm2 0 1 ⟨#[88, 89]⟩).1 := rfl
  have z0 : i64 0 := by unfold i64; omega
  have z1 : i64 1 := by unfold i64; omega
  refine pure_enter Try.func8 rfl (by decide) _ Try.ntmps8 (le_ok rfl) (fun w Pr hE => ?_)
  dsimp only [slotsOf, Nat.zero_add, Nat.reduceAdd]
  repeat' (first | (apply at_call; refine k_ocall [(4, 16), (1, 17), (3, 18), (2, 19)] (new_any) hE ?_; rintro _ _ ⟨rfl, rfl⟩ <;> (intro _ _ h1 h2; simp only [renEqs, Nat.reduceBEq, renL_app, renL_ds, renL_und] at h1 h2; subst h1 h2)) | (apply at_op (.binOp .eql _ _ _ _); refine al_y (y_boxnil rfl ptrD) (lt_ok rfl) ?_) | (apply at_call; refine k_ocall [(1000, 16), (1001, 17), (1002, 18), (1003, 19), (24, 20)] (smW DS.new_ok f1 e1) hE ?_; rintro _ _ ⟨rfl, s3, k3, cm3, cs3, lm3, ls3, hs3, hD3, rfl⟩ _ _ rfl rfl; refine disk_merge (b := 16) (m := 17) (r := 18) (s := 19) (Y := 20) (X := 24) hs3 (by decide) rfl rfl rfl rfl rfl ?_; simp only [renEqs, Nat.reduceBEq]) | (apply at_call; refine k_ocall [(1000, 16), (1001, 17), (1002, 18), (1003, 19), (13, 20)] (smS hD3 z0 f2 e2) hE ?_; rintro _ _ ⟨rfl, s3, k3, cm3, cs3, lm3, ls3, hs3, hD3, rfl⟩ _ _ rfl rfl; refine disk_merge (b := 16) (m := 17) (r := 18) (s := 19) (Y := 20) (X := 13) hs3 (by decide) rfl rfl rfl rfl rfl ?_; simp only [renEqs, Nat.reduceBEq]) | (apply at_call; refine k_ocall [(1000, 16), (1001, 17), (1002, 18), (1003, 19), (24, 20)] (smW hD3 f0 e3) hE ?_; rintro _ _ ⟨rfl, s3, k3, cm3, cs3, lm3, ls3, hs3, hD3, rfl⟩ _ _ rfl rfl; refine disk_merge (b := 16) (m := 17) (r := 18) (s := 19) (Y := 20) (X := 24) hs3 (by decide) rfl rfl rfl rfl rfl ?_; simp only [renEqs, Nat.reduceBEq]) | (apply at_call; refine k_ocall [(1000, 16), (1001, 17), (1002, 18), (1003, 19), (3, 21), (11, 22), (16, 23), (21, 24)] (copy_any hD3) hE ?_; rintro _ _ ⟨k2, rfl, rfl⟩ <;> (intro _ _ h1 h2; simp only [renEqs, Nat.reduceBEq, renL_app, renL_ds, renL_und] at h1 h2; subst h1 h2)) | apply aw_seq | apply aw_region | apply al_nil | apply aq_np | apply aq_then | apply aq_then_x | apply aq_then_r | apply aw_skip | apply aw_exit | apply aw_ret | (apply at_op (.move _); refine r_move ?_) | (apply at_op (.assign _); refine r_assign ?_) | (apply at_cond; first | refine c_t ?_ | refine c_f ?_ | (refine aw_cond rfl (fun hb => ?_) (fun hb => ?_) <;> ((first | have hq := of_decide_eq_true hb | have hq := of_decide_eq_false hb | have hq := dNT hb | have hq := dNF hb | skip); (try (exfalso; omega))))) | (apply at_op (.binOp .eql _ _ _ _); refine r_eql ?_))
  have hC := hD3
  repeat' (first | (apply at_call; refine k_ocall [(1000, 16), (1001, 17), (1002, 18), (1003, 19), (106, 20)] (smC hD3 (by decide) e4) hE ?_; rintro _ _ ⟨rfl, s3, k3, cm3, cs3, lm3, ls3, hs3, hD3, rfl⟩ _ _ rfl rfl; refine disk_merge (b := 16) (m := 17) (r := 18) (s := 19) (Y := 20) (X := 106) hs3 (by decide) rfl rfl rfl rfl rfl ?_; simp only [renEqs, Nat.reduceBEq]) | (apply at_call; refine k_ocall [(1000, 16), (1001, 17), (1002, 18), (1003, 19)] (down_any) hE ?_; rintro _ _ ⟨rfl, rfl⟩ <;> (intro _ _ h1 h2; simp only [renEqs, Nat.reduceBEq, renL_app, renL_ds, renL_und] at h1 h2; subst h1 h2)) | (apply at_call; refine k_ocall [(1000, 16), (1001, 17), (1002, 18), (1003, 19)] (smR hD3 z0 f4') hE ?_; rintro _ _ ⟨rfl, rfl⟩ <;> (intro _ _ h1 h2; simp only [renEqs, Nat.reduceBEq, renL_app, renL_ds, renL_und] at h1 h2; subst h1 h2)) | (apply at_call; refine k_ocall [(1000, 16), (1001, 17), (1002, 18), (1003, 19)] (smU hD3 e5) hE ?_; rintro _ _ ⟨rfl, rfl⟩ <;> (intro _ _ h1 h2; simp only [renEqs, Nat.reduceBEq, renL_app, renL_ds, renL_und] at h1 h2; subst h1 h2)) | (apply at_call; refine k_ocall [(1000, 16), (1001, 17), (1002, 18), (1003, 19)] (smR (hD3.up.is e5) z0 f5) hE ?_; rintro _ _ ⟨rfl, rfl⟩ <;> (intro _ _ h1 h2; simp only [renEqs, Nat.reduceBEq, renL_app, renL_ds, renL_und] at h1 h2; subst h1 h2)) | apply aw_seq | apply aw_region | apply al_nil | apply aq_np | apply aq_then | apply aq_then_x | apply aq_then_r | apply aw_skip | apply aw_exit | apply aw_ret | (apply at_op (.move _); refine r_move ?_) | (apply at_op (.assign _); refine r_assign ?_) | (apply at_cond; first | refine c_t ?_ | refine c_f ?_ | (refine aw_cond rfl (fun hb => ?_) (fun hb => ?_) <;> ((first | have hq := of_decide_eq_true hb | have hq := of_decide_eq_false hb | have hq := dNT hb | have hq := dNF hb | skip); (try (exfalso; omega))))) | (apply at_op (.extract _ _); refine r_extract ?_) | (apply at_op (.buildSlice _ _ _); refine r_lits ?_))
  have hD3 := hC
  clear hC
  repeat' (first | (apply at_call; refine k_ocall [(1000, 21), (1001, 22), (1002, 23), (1003, 24), (106, 20)] (smC hD3 (keep := [0]) (by decide) rfl) hE ?_; rintro _ _ ⟨rfl, s3, k3, cm3, cs3, lm3, ls3, hs3, hD3, rfl⟩ _ _ rfl rfl; refine disk_merge (b := 21) (m := 22) (r := 23) (s := 24) (Y := 20) (X := 106) hs3 (by decide) rfl rfl rfl rfl rfl ?_; simp only [renEqs, Nat.reduceBEq]) | (apply at_call; refine k_ocall [(1000, 21), (1001, 22), (1002, 23), (1003, 24)] (smU hD3 c1) hE ?_; rintro _ _ ⟨rfl, rfl⟩ <;> (intro _ _ h1 h2; simp only [renEqs, Nat.reduceBEq, renL_app, renL_ds, renL_und] at h1 h2; subst h1 h2)) | (apply at_call; refine k_ocall [(1000, 21), (1001, 22), (1002, 23), (1003, 24)] (smR (hD3.up.is c1) z0 f6) hE ?_; rintro _ _ ⟨rfl, rfl⟩ <;> (intro _ _ h1 h2; simp only [renEqs, Nat.reduceBEq, renL_app, renL_ds, renL_und] at h1 h2; subst h1 h2)) | apply aw_seq | apply aw_region | apply al_nil | apply aq_np | apply aq_then | apply aq_then_x | apply aq_then_r | apply aw_skip | apply aw_exit | apply aw_ret | (apply at_op (.move _); refine r_move ?_) | (apply at_op (.assign _); refine r_assign ?_) | (apply at_cond; first | refine c_t ?_ | refine c_f ?_ | (refine aw_cond rfl (fun hb => ?_) (fun hb => ?_) <;> ((first | have hq := of_decide_eq_true hb | have hq := of_decide_eq_false hb | have hq := dNT hb | have hq := dNF hb | skip); (try (exfalso; omega))))) | (apply at_op (.extract _ _); refine r_extract ?_) | (apply at_op (.buildSlice _ _ _); refine r_lits ?_))
  have hD3 := hD3.up.is c1
  repeat' (first | (apply at_call; refine k_ocall [(1000, 21), (1001, 22), (1002, 23), (1003, 24), (24, 20)] (smW hD3 f7 c2) hE ?_; rintro _ _ ⟨rfl, s3, k3, cm3, cs3, lm3, ls3, hs3, hD3, rfl⟩ _ _ rfl rfl; refine disk_merge (b := 21) (m := 22) (r := 23) (s := 24) (Y := 20) (X := 24) hs3 (by decide) rfl rfl rfl rfl rfl ?_; simp only [renEqs, Nat.reduceBEq]) | (apply at_call; refine k_ocall [(1000, 21), (1001, 22), (1002, 23), (1003, 24), (106, 20)] (smC hD3 (keep := [0, 1]) (by decide) rfl) hE ?_; rintro _ _ ⟨rfl, s3, k3, cm3, cs3, lm3, ls3, hs3, hD3, rfl⟩ _ _ rfl rfl; refine disk_merge (b := 21) (m := 22) (r := 23) (s := 24) (Y := 20) (X := 106) hs3 (by decide) rfl rfl rfl rfl rfl ?_; simp only [renEqs, Nat.reduceBEq]) | (apply at_call; refine k_ocall [(1000, 21), (1001, 22), (1002, 23), (1003, 24)] (smU hD3 c3) hE ?_; rintro _ _ ⟨rfl, rfl⟩ <;> (intro _ _ h1 h2; simp only [renEqs, Nat.reduceBEq, renL_app, renL_ds, renL_und] at h1 h2; subst h1 h2)) | (apply at_call; refine k_ocall [(1000, 21), (1001, 22), (1002, 23), (1003, 24)] (smR (hD3.up.is c3) z1 f8) hE ?_; rintro _ _ ⟨rfl, rfl⟩ <;> (intro _ _ h1 h2; simp only [renEqs, Nat.reduceBEq, renL_app, renL_ds, renL_und] at h1 h2; subst h1 h2)) | apply aw_seq | apply aw_region | apply al_nil | apply aq_np | apply aq_then | apply aq_then_x | apply aq_then_r | apply aw_skip | apply aw_exit | apply aw_ret | (apply at_op (.move _); refine r_move ?_) | (apply at_op (.assign _); refine r_assign ?_) | (apply at_cond; first | refine c_t ?_ | refine c_f ?_ | (refine aw_cond rfl (fun hb => ?_) (fun hb => ?_) <;> ((first | have hq := of_decide_eq_true hb | have hq := of_decide_eq_false hb | have hq := dNT hb | have hq := dNF hb | skip); (try (exfalso; omega))))) | (apply at_op (.extract _ _); refine r_extract ?_) | (apply at_op (.buildSlice _ _ _); refine r_lits ?_))
  have hD3 := hD3.up.is c3
  have hsz := fun k cm cs => size_any (k := k) (cm := cm) (cs := cs) hD3 z1
  rw [f9] at hsz
  have g1 : decide ((⟨#[97, 88, 89]⟩ : ByteArray) = ⟨#[97, 88, 89]⟩) = true := by decide
  have g2 : decide ((⟨#[98, 99]⟩ : ByteArray) = ⟨#[98, 99]⟩) = true := by decide
  have g3 : decide ((⟨#[0, 0, 0, 0, 99, 100]⟩ : ByteArray) = ⟨#[0, 0, 0, 0, 99, 100]⟩) = true := by decide
  repeat' (first | (apply at_call; refine k_ocall [(1000, 21), (1001, 22), (1002, 23), (1003, 24)] (hsz _ _ _) hE ?_; rintro _ _ ⟨rfl, rfl⟩ <;> (intro _ _ h1 h2; simp only [renEqs, Nat.reduceBEq, renL_app, renL_ds, renL_und] at h1 h2; subst h1 h2)) | (apply at_call; refine k_ocall [(1000, 21), (1001, 22), (1002, 23), (1003, 24), (24, 20)] (smW hD3 f10 c4) hE ?_; rintro _ _ ⟨rfl, s3, k3, cm3, cs3, lm3, ls3, hs3, hD3, rfl⟩ _ _ rfl rfl; refine disk_merge (b := 21) (m := 22) (r := 23) (s := 24) (Y := 20) (X := 24) hs3 (by decide) rfl rfl rfl rfl rfl ?_; simp only [renEqs, Nat.reduceBEq]) | (apply at_call; refine k_ocall [(1000, 21), (1001, 22), (1002, 23), (1003, 24), (24, 20)] (smW hD3 f11 rfl) hE ?_; rintro _ _ ⟨rfl, s3, k3, cm3, cs3, lm3, ls3, hs3, hD3, rfl⟩ _ _ rfl rfl; refine disk_merge (b := 21) (m := 22) (r := 23) (s := 24) (Y := 20) (X := 24) hs3 (by decide) rfl rfl rfl rfl rfl ?_; simp only [renEqs, Nat.reduceBEq]) | apply aw_seq | apply aw_region | apply al_nil | apply aq_np | apply aq_then | apply aq_then_x | apply aq_then_r | apply aw_skip | apply aw_exit | apply aw_ret | (apply at_op (.move _); refine r_move ?_) | (apply at_op (.assign _); refine r_assign ?_) | (apply at_cond; first | refine c_t ?_ | refine c_f ?_ | (refine aw_cond rfl (fun hb => ?_) (fun hb => ?_) <;> ((first | have hq := of_decide_eq_true hb | have hq := of_decide_eq_false hb | have hq := dNT hb | have hq := dNF hb | skip); (try (exfalso; omega))))) | (apply at_guard; first | refine g_go ?_ | refine g_nt ?_ | refine g_nf ?_ | refine g_nu ?_ | ((first | refine al_split_t rfl rfl (lt_ok rfl) (fun hb => ?_) (fun hb => ?_) | refine al_split_f rfl rfl (lt_ok rfl) (fun hb => ?_) (fun hb => ?_)) <;> ((first | have hq := of_decide_eq_true hb | have hq := of_decide_eq_false hb | have hq := dNT hb | have hq := dNF hb | skip); (try (exfalso; omega))))) | (apply at_op (.pick _ _ _); refine r_pick ?_) | (apply at_op (.binOp .eql _ _ _ _); refine r_eql ?_))
  refine ret_one (by rfl) (by first | exact ToD.d _ | exact ToD.row _ _ _ _ _ rfl) ?_
  rfl
section
variable {H : Type} {enc : TypeId × Value → H} {w : World} {base : Nat}
/-- what comes in as an act -/
structure Act.In (a : Act) : Prop where
  f : i64 a.f
  n : i64 a.n
  s : a.s.size ≤ 9223372036854775807
  keep : a.keep.length ≤ 9223372036854775807
theorem i64_of {n : Int} (h : IntKind.i64.min ≤ n ∧ n ≤ IntKind.i64.max) : i64 n := by simpa [i64, IntKind.min, IntKind.max, IntKind.signed, IntKind.bits] using h
theorem max_of {n : Nat} (h : n ≤ maxLen) : n ≤ 9223372036854775807 := by unfold maxLen at h; omega
theorem show_ints : Show enc Try.prog w base 31 1 (fun l : List Int => [.list 1 (l.map fun n => [.int n])]) (fun l => l.length ≤ maxLen ∧ ∀ e ∈ l, IntKind.i64.min ≤ e ∧ e ≤ IntKind.i64.max) :=
  show_list Try.underlying31 (by kernel_rfl) (by decide) (show_int Try.underlying3)
theorem show_act : Show enc Try.prog w base 33 5 Act.cells Act.In :=
  (show_struct Try.underlying33 (by kernel_rfl) (shows_cons (show_int Try.underlying3) rfl (by kernel_rfl) (shows_cons (show_int Try.underlying3) rfl (by kernel_rfl) (shows_cons (show_int Try.underlying3) rfl (by kernel_rfl) (shows_cons (show_string Try.underlying9) rfl (by kernel_rfl) (shows_cons show_ints rfl (by kernel_rfl) shows_nil)))))).as Act.cells _
    (fun x => ⟨x.1, x.2.1, x.2.2.1, x.2.2.2.1, x.2.2.2.2.1⟩) (fun _ => rfl) (fun x h => ⟨i64_of h.2.1, i64_of h.2.2.1, max_of h.2.2.2.1, max_of h.2.2.2.2.1.1⟩)
theorem show_acts : Show enc Try.prog w base 22 1 (fun l : List Act => [.list 5 (l.map Act.cells)]) (fun l => l.length ≤ maxLen ∧ ∀ e ∈ l, e.In) :=
  show_list Try.underlying22 (by kernel_rfl) (by decide) show_act
end
theorem acts_ok {l : List Act} (h : ∀ a ∈ l, a.In) (hs : ∀ a ∈ l, Small a) : ∀ a ∈ l, a.Ok := fun a ha => ⟨(h a ha).f, (h a ha).n, (h a ha).s, by have := (hs a ha).keep; omega⟩
/-- What a walk of a law over abstract values says of a call. -/
theorem law_call0 {f : FuncId} {ds : List D} {w : World} {vs : List Value} (hG : laidG = []) (h : PureC f ds (· = .bool true)) (hl : vs.length = ds.length)
    (hr : ∀ (i : Nat) (v : Value) (d : D), vs[i]? = some v → ds[i]? = some d → RepD w (fun b _ => b < w.heap.size) v d) :
    Calls Try.prog f vs.toArray w fun e w' => e = .returned (.bool true) ∧ Below w.heap.size w w' := by
  refine (h.2 w (fun b _ => b < w.heap.size) vs (fun _ _ h => h) (fun g l hm => by rw [hG] at hm; cases hm) hl hr).mono fun e w' ⟨v, r, he, hp, hrep, hb⟩ => ?_
  subst hp
  cases hrep
  exact ⟨he, hb⟩
end Go.Proofs.Ytabaflklognhaaa
