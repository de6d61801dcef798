/-
  The journal's laws: the documentation's examples. Conditions: none.
  The plain law of the journal: records whose forms have lost bytes, or have zeros in their place. Conditions: none.
  Bytes of strings that are put and cut. Conditions: none.
  Bytes behind the end of a file. Conditions: none.
  The journal's laws: opening a file on a disk without faults. Conditions: none.
  The journal's laws: appending on a disk without faults; bytes that become 0. Conditions: none.
  What a file is during a crash. Conditions: none.
  The plain law of the journal: what a journal's file holds, whatever happens. Conditions: none.
  The plain law of the journal: opening. Conditions: none.
-/
import Derived.Test.YtfgibalcdjlnhaaDoorMav
section
set_option linter.unusedSimpArgs false
set_option linter.unusedVariables false
namespace Go.Proofs.YtfgibalcdjlnhaaDoor
open Go.RowKit Go.ChangeMaps

theorem openJ_is {st su : DS} {f : Int} {s : ByteArray} {rs : List ByteArray} (hf : 0 ≤ f ∧ f ≤ 15) (h1 : (syncR st f).1 = 0) (h2 : (syncR st f).2 = su) (h3 : (su.F f).now = s) (h4 : Recs (L s) rs) :
    openJ st f = if (forms rs).length < s.size then if (truncR su f (forms rs).length).1 ≠ 0 then ((truncR su f (forms rs).length).1, none, (truncR su f (forms rs).length).2) else (0, some ⟨f, rs, false⟩, (truncR su f (forms rs).length).2) else (0, some ⟨f, rs, false⟩, su) := by
  have e : openJ st f = _ := if_neg (by omega : ¬ (f < 0 ∨ 15 < f))
  rw [e, if_neg (by simp [h1]), h2, h3, h4.eq]
abbrev jfAB : ByteArray := ⟨#[50, 58, 97, 98, 44, 50, 57, 51, 59]⟩
abbrev jfE : ByteArray := ⟨#[48, 58, 44, 48, 59]⟩
abbrev jsX : ByteArray := ⟨#[50, 58, 97, 98, 44, 50, 57, 51, 59, 49, 58, 97, 44, 57, 56, 59]⟩
theorem dec_small {u : Nat} (h : u < 10) : Lib.decDigits u = [UInt8.ofNat (48 + u)] := by rw [Lib.decDigits, dif_pos h]
theorem dec_big {u : Nat} (h : ¬ u < 10) : Lib.decDigits u = Lib.decDigits (u / 10) ++ [UInt8.ofNat (48 + u % 10)] := by rw [Lib.decDigits, dif_neg h]
theorem itoa_nat (u : Nat) : Lib.itoa (u : Int) = Lib.decDigits u := by
  unfold Lib.itoa
  rw [if_neg (by omega)]
  rfl
theorem form_of {s : ByteArray} {n m : Nat} (hn : s.size = n) (hm : sumB s = m) : L (formB s) = Lib.decDigits n ++ 58 :: (L s ++ [44]) ++ (Lib.decDigits m ++ [59]) := by
  rw [formB_L, textW_L, intW_L, hn, hm, itoa_nat, itoa_nat]
theorem form_AB : formB ⟨#[97, 98]⟩ = jfAB := by
  apply ba_ext
  show L (formB ⟨#[97, 98]⟩) = _
  rw [form_of (n := 2) (m := 293) rfl (by decide), dec_small (by decide : 2 < 10), dec_big (by decide : ¬ 293 < 10), dec_big (by decide : ¬ 293 / 10 < 10), dec_small (by decide : 293 / 10 / 10 < 10)]
  decide
theorem form_E : formB ⟨#[]⟩ = jfE := by
  apply ba_ext
  show L (formB ⟨#[]⟩) = _
  rw [form_of (n := 0) (m := 0) rfl (by decide), dec_small (by decide : 0 < 10)]
  decide
theorem noform_98 : NoForm [49, 58, 97, 44, 57, 56, 59] := by
  intro t ht hp
  obtain ⟨p, hp⟩ := hp
  have h1 := (form_read (by omega) hp.symm).1
  have h2 : L (textW ⟨#[97]⟩) = [49, 58, 97, 44] := by
    rw [textW_L, show (ByteArray.size ⟨#[97]⟩ : Int) = ((1 : Nat) : Int) from rfl, itoa_nat, dec_small (by decide : 1 < 10)]
    decide
  have h3 := text_of (s := ⟨#[97]⟩) (r := B [49, 58, 97, 44, 57, 56, 59]) (t := [57, 56, 59]) (by rw [h2]; rfl) (by decide)
  rw [h3] at h1
  have e : t = ⟨#[97]⟩ := by injection h1 with h1; exact h1.symm
  subst e
  rw [form_of (n := 1) (m := 97) rfl (by decide), dec_small (by decide : 1 < 10), dec_big (by decide : ¬ 97 < 10), dec_small (by decide : 97 / 10 < 10)] at hp
  have h97 : L ⟨#[97]⟩ = [97] := rfl
  rw [h97] at hp
  simp at hp
theorem recs_X : Recs (L jsX) [⟨#[97, 98]⟩] := by
  refine ⟨by intro t ht; simp at ht; subst ht; decide, [49, 58, 97, 44, 57, 56, 59], ?_, noform_98⟩
  simp only [forms, form_AB]
  rfl
def jm1 : DS := (syncR DS.new 3).2
def jm2 : DS := (writeR jm1 3 0 jfAB).2
def jm3 : DS := (writeR jm2 3 9 jfE).2
def jm4 : DS := (writeR jm3 4 0 jsX).2
def jm5 : DS := (syncR jm4 4).2
def jm6 : DS := (truncR jm5 4 9).2
theorem jm_facts : ((syncR DS.new 3).1 = 0 ∧ (jm1.F 3).now = ⟨#[]⟩ ∧ (writeR jm1 3 0 jfAB).1 = 0 ∧ (writeR jm2 3 9 jfE).1 = 0 ∧ readP jm3 3 0 99 = (⟨#[50, 58, 97, 98, 44, 50, 57, 51, 59, 48, 58, 44, 48, 59]⟩, 0) ∧ (writeR jm3 4 0 jsX).1 = 0) ∧ (syncR jm4 4).1 = 0 ∧ (jm5.F 4).now = jsX ∧ (truncR jm5 4 9).1 = 0 ∧ (jm6.F 4).now.size = 9 := by
  decide +kernel
theorem jopen_some {k cm cs : Nat} {lm ls : List ME} {st su : DS} {f : Int} {js : JS} (hD : DkOk lm ls st) (hu : Up st) (hq : openJ st f = (0, some js, su)) : ObC 10 [.box 1000 0, .d (.int f)] (dsk 1000 1001 1002 1003 k cm cs lm ls st) [57, 9] (fun x o => ∃ (kk k cm cs : Nat) (lm ls : List ME), DkOk lm ls su ∧ js.Ok ∧ x = .tup [.box 57 0, .d (.int 0)] ∧ o = jrn 57 9 kk js 1000 1001 1002 1003 k cm cs lm ls su) :=
  (jopen_up hD hu f).mono fun x o h => by
    rw [hq] at h
    obtain ⟨kk, k, cm, cs, lm, ls, h1, h2 | ⟨js', h2, h3, h4, h5⟩⟩ := h
    · cases h2.1
    · cases h2
      exact ⟨kk, k, cm, cs, lm, ls, h1, h3, h4, h5⟩
theorem jappend_is {kk k cm cs : Nat} {lm ls : List ME} {st su : DS} {js ju : JS} {e : Int} {s : ByteArray} (h : js.Ok) (hD : DkOk lm ls st) (hu : Up st) (hs : s.size ≤ 1000000000) (hq : appJ js st s = (e, ju, su)) : ObC 11 [.box 1004 0, .d (.str s)] (jrn 1004 1005 kk js 1000 1001 1002 1003 k cm cs lm ls st) [] (fun x o => x = .d (.int e) ∧ JOut ju su o) :=
  (jappend_up h hD hu.ends.1 s hs).mono fun x o h => by
    rw [hq] at h
    exact h
theorem appJ_ok {js : JS} {st su : DS} {s f : ByteArray} {n : Nat} (hb : js.bad = false) (hs : s.size ≤ 20000) (hf : formB s = f) (hn : (forms js.rs).length = n) (h : n + f.size ≤ 1048576) (hw : (writeR st js.f n f).1 = 0) (hu : (writeR st js.f n f).2 = su) : appJ js st s = (0, { js with rs := js.rs ++ [s] }, su) := by
  unfold appJ
  rw [if_neg (by rw [hb]; decide), if_neg (by omega), hf, hn, if_neg (by omega), if_neg (by simp [hw]), hu]
theorem JS.Ok.add {js : JS} (h : js.Ok) {s : ByteArray} (hs : s.size ≤ 20000) (hl : (forms js.rs).length + (formB s).size ≤ 16777216) : JS.Ok { js with rs := js.rs ++ [s] } := by
  refine ⟨h.f, fun t ht => ?_, ?_⟩
  · rcases List.mem_append.1 ht with ht | ht
    · exact h.small t ht
    · simp at ht
      subst ht
      exact hs
  · show (forms (js.rs ++ [s])).length ≤ _
    rw [forms_app, List.length_append]
    simp [forms]
    omega
theorem ptrD : Tryd.prog.underlying 26 = some (.pointer 64) := Tryd.underlying26
theorem ptrJ : Tryd.prog.underlying 28 = some (.pointer 70) := Tryd.underlying28
theorem Write_is {k cm cs : Nat} {lm ls : List ME} {st su : DS} {f at_ e : Int} {s : ByteArray} (h : DkOk lm ls st) (hu : Up st) (h1 : (writeR st f at_ s).1 = e) (h2 : (writeR st f at_ s).2 = su) : ObC 14 [.box 1000 0, .d (.int f), .d (.int at_), .d (.str s)] (dsk 1000 1001 1002 1003 k cm cs lm ls st) [] (fun x o => x = .d (.int e) ∧ Out su o) := h1 ▸ h2 ▸ Write_up h hu.ends.1 f at_ s
theorem sm_1 : sumB ⟨#[]⟩ = 0 := by decide
theorem sm_2 : sumB ⟨#[97]⟩ = 97 := by decide
theorem sm_3 : sumB ⟨#[97, 98]⟩ = 293 := by decide
attribute [local irreducible] jm1 jm2 jm3 jm4 jm5 jm6 readP writeR syncR truncR crashS upS formB sumB recsOf openJ appJ
set_option maxHeartbeats 16000000 in
set_option maxRecDepth 20000 in
theorem small3_any : PureC 7 [] (· = .bool true) := by
  obtain ⟨⟨f1, f2, f3, f4, f5, f6⟩, f7, f8, f9, f10⟩ := jm_facts
  have d1 : (syncR DS.new 3).2 = jm1 := by unfold jm1; rfl
  have d2 : (writeR jm1 3 0 jfAB).2 = jm2 := by unfold jm2; rfl
  have d3 : (writeR jm2 3 9 jfE).2 = jm3 := by unfold jm3; rfl
  have d4 : (writeR jm3 4 0 jsX).2 = jm4 := by unfold jm4; rfl
  have d5 : (syncR jm4 4).2 = jm5 := by unfold jm5; rfl
  have d6 : (truncR jm5 4 9).2 = jm6 := by unfold jm6; rfl
  have u0 : Up DS.new := ⟨rfl, rfl⟩
  have u1 : Up jm1 := by rw [← d1]; exact u0.sync 3
  have u2 : Up jm2 := by rw [← d2]; exact u1.write 3 0 jfAB
  have u3 : Up jm3 := by rw [← d3]; exact u2.write 3 9 jfE
  have u4 : Up jm4 := by rw [← d4]; exact u3.write 4 0 jsX
  have o1 : openJ DS.new 3 = (0, some ⟨3, [], false⟩, jm1) := by
    rw [openJ_is (s := ⟨#[]⟩) (rs := []) (by decide) f1 d1 f2 ⟨by simp, [], rfl, noform_nil⟩]
    rfl
  have hfx : (forms [⟨#[97, 98]⟩]).length = 9 := by simp only [forms, form_AB]; rfl
  have o2 : openJ jm4 4 = (0, some ⟨4, [⟨#[97, 98]⟩], false⟩, jm6) := by
    rw [openJ_is (by decide) f7 d5 f8 recs_X, if_pos (by rw [hfx]; decide), hfx]
    rw [if_neg (by simpa using f9)]
    show (0, _, (truncR jm5 4 9).2) = _
    rw [d6]
  have a1 : appJ ⟨3, [], false⟩ jm1 ⟨#[97, 98]⟩ = (0, ⟨3, [⟨#[97, 98]⟩], false⟩, jm2) := appJ_ok (n := 0) rfl (by decide) form_AB rfl (by decide) f3 d2
  have a2 : appJ ⟨3, [⟨#[97, 98]⟩], false⟩ jm2 ⟨#[]⟩ = (0, ⟨3, [⟨#[97, 98]⟩, ⟨#[]⟩], false⟩, jm3) := appJ_ok (n := 9) rfl (by decide) form_E hfx (by decide) f4 d3
  have k1 : JS.Ok ⟨3, [⟨#[97, 98]⟩], false⟩ := ⟨by decide, by intro t ht; simp at ht; subst ht; decide, by show (forms [⟨#[97, 98]⟩]).length ≤ _; rw [hfx]; decide⟩
  have k2 : JS.Ok ⟨3, [⟨#[97, 98]⟩, ⟨#[]⟩], false⟩ := k1.add (s := ⟨#[]⟩) (by decide) (by show (forms [⟨#[97, 98]⟩]).length + _ ≤ _; rw [hfx, form_E]; decide)
  have c1 := sum_any ⟨#[]⟩ (by decide)
  have c2 := sum_any ⟨#[97]⟩ (by decide)
  have c3 := sum_any ⟨#[97, 98]⟩ (by decide)
  rw [sm_1] at c1
  rw [sm_2] at c2
  rw [sm_3] at c3
  have z4 : i64 4 := by unfold i64; omega
  have hst := sametexts_any [⟨#[97, 98]⟩] [⟨#[97, 98]⟩] (by decide)
  rw [show decide ([(⟨#[97, 98]⟩ : ByteArray)] = [⟨#[97, 98]⟩]) = true by decide] at hst
  have g1 : decide ((⟨#[50, 58, 97, 98, 44, 50, 57, 51, 59, 48, 58, 44, 48, 59]⟩ : ByteArray) = ⟨#[50, 58, 97, 98, 44, 50, 57, 51, 59, 48, 58, 44, 48, 59]⟩) = true := by decide
  have g2 : getJ [⟨#[97, 98]⟩, ⟨#[]⟩] 0 = ⟨#[97, 98]⟩ := rfl
  have g3 : decide ((⟨#[97, 98]⟩ : ByteArray) = ⟨#[97, 98]⟩) = true := by decide
  have hget := fun {kk k cm cs : Nat} {lm ls : List ME} {st : DS} => jget_any (kk := kk) (k := k) (cm := cm) (cs := cs) (lm := lm) (ls := ls) (st := st) k2 0
  rw [g2] at hget
  refine pure_enter Tryd.func7 rfl (by decide) _ Tryd.ntmps7 (le_ok rfl) (fun w Pr hE => ?_)
  dsimp only [slotsOf, Nat.zero_add, Nat.reduceAdd]
  repeat' (first | (apply at_call; refine k_ocall [(4, 40), (1, 41), (3, 42), (2, 43)] (new_any) hE ?_; rintro _ _ ⟨rfl, rfl⟩ <;> (intro _ _ h1 h2; simp only [renEqs, Nat.reduceBEq, renL_app, renL_ds, renL_und] at h1 h2; subst h1 h2)) | (apply at_op (.binOp .eql _ _ _ _); first | refine al_y (y_boxnil rfl ptrD) (lt_ok rfl) ?_ | refine al_y (y_boxnil rfl ptrJ) (lt_ok rfl) ?_) | (apply at_call; refine k_ocall [(1000, 40), (1001, 41), (1002, 42), (1003, 43), (57, 50), (9, 51)] (jopen_some DS.new_ok u0 o1) hE ?_; rintro _ _ ⟨kk1, k1', cm1, cs1, lm1, ls1, hD1, hj1, rfl, rfl⟩ <;> (intro _ _ h1 h2; simp only [renEqs, Nat.reduceBEq, renL_app, renL_ds, renL_und] at h1 h2; subst h1 h2)) | (apply at_call; refine k_ocall [(1000, 40), (1001, 41), (1002, 42), (1003, 43), (1004, 50), (1005, 51)] (jappend_is hj1 hD1 u1 (by decide) a1) hE ?_; rintro _ _ ⟨rfl, kk2, k2', cm2, cs2, lm2, ls2, hD2, rfl⟩ <;> (intro _ _ h1 h2; simp only [renEqs, Nat.reduceBEq, renL_app, renL_ds, renL_und] at h1 h2; subst h1 h2)) | (apply at_call; refine k_ocall [(1000, 40), (1001, 41), (1002, 42), (1003, 43), (1004, 50), (1005, 51)] (jappend_is k1 hD2 u2 (by decide) a2) hE ?_; rintro _ _ ⟨rfl, kk3, k3', cm3, cs3, lm3, ls3, hD3, rfl⟩ <;> (intro _ _ h1 h2; simp only [renEqs, Nat.reduceBEq, renL_app, renL_ds, renL_und] at h1 h2; subst h1 h2)) | (apply at_call; refine k_ocall [(1000, 40), (1001, 41), (1002, 42), (1003, 43)] (smR hD3 (by unfold i64; omega) f5) hE ?_; rintro _ _ ⟨rfl, rfl⟩ <;> (intro _ _ h1 h2; simp only [renEqs, Nat.reduceBEq, renL_app, renL_ds, renL_und] at h1 h2; subst h1 h2)) | apply aw_seq | apply aw_region | apply al_nil | apply aq_np | apply aq_then | apply aq_then_x | apply aq_then_r | apply aw_skip | apply aw_exit | apply aw_ret | (apply at_op (.move _); refine r_move ?_) | (apply at_op (.assign _); refine r_assign ?_) | (apply at_cond; first | refine c_t ?_ | refine c_f ?_ | (refine aw_cond rfl (fun hb => ?_) (fun hb => ?_) <;> ((first | have hq := of_decide_eq_true hb | have hq := of_decide_eq_false hb | have hq := dNT hb | have hq := dNF hb | skip); (try (exfalso; omega))))) | (apply at_op (.binOp .eql _ _ _ _); refine r_eql ?_) | (apply at_op (.extract _ _); refine r_extract ?_))
  repeat' (first | (apply at_op (.binOp .eql _ _ _ _); first | refine al_y (y_boxnil rfl ptrD) (lt_ok rfl) ?_ | refine al_y (y_boxnil rfl ptrJ) (lt_ok rfl) ?_) | (apply at_call; refine k_ocall [(1000, 40), (1001, 41), (1002, 42), (1003, 43)] (Write_is hD3 u3 f6 d4) hE ?_; rintro _ _ ⟨rfl, k4', cm4, cs4, lm4, ls4, hD4, rfl⟩ <;> (intro _ _ h1 h2; simp only [renEqs, Nat.reduceBEq, renL_app, renL_ds, renL_und] at h1 h2; subst h1 h2)) | (apply at_call; refine k_ocall [(1000, 40), (1001, 41), (1002, 42), (1003, 43), (57, 52), (9, 53)] (jopen_some hD4 u4 o2) hE ?_; rintro _ _ ⟨kk5, k5', cm5, cs5, lm5, ls5, hD5, hj5, rfl, rfl⟩ <;> (intro _ _ h1 h2; simp only [renEqs, Nat.reduceBEq, renL_app, renL_ds, renL_und] at h1 h2; subst h1 h2)) | apply aw_seq | apply aw_region | apply al_nil | apply aq_np | apply aq_then | apply aq_then_x | apply aq_then_r | apply aw_skip | apply aw_exit | apply aw_ret | (apply at_op (.move _); refine r_move ?_) | (apply at_op (.assign _); refine r_assign ?_) | (apply at_cond; first | refine c_t ?_ | refine c_f ?_ | (refine aw_cond rfl (fun hb => ?_) (fun hb => ?_) <;> ((first | have hq := of_decide_eq_true hb | have hq := of_decide_eq_false hb | have hq := dNT hb | have hq := dNF hb | skip); (try (exfalso; omega))))) | (apply at_op (.binOp .eql _ _ _ _); refine r_eql ?_) | (apply at_op (.extract _ _); refine r_extract ?_))
  have hsz := size_any (k := k5') (cm := cm5) (cs := cs5) hD5 z4
  rw [f10] at hsz
  have done0 := True.intro
  repeat' (first | (have _ := done2; apply at_call; refine k_call c3 hE ?_; rintro _ rfl) | (have _ := done1; apply at_call; refine k_call c2 hE ?_; rintro _ rfl; clear done1; have done2 := True.intro) | (have _ := done0; apply at_call; refine k_call c1 hE ?_; rintro _ rfl; clear done0; have done1 := True.intro) | (apply at_call; refine k_ocall [(1000, 40), (1001, 41), (1002, 42), (1003, 43), (1004, 50), (1005, 51)] (jlen_any k2) hE ?_; rintro _ _ ⟨rfl, rfl⟩ <;> (intro _ _ h1 h2; simp only [renEqs, Nat.reduceBEq, renL_app, renL_ds, renL_und] at h1 h2; subst h1 h2)) | (apply at_call; refine k_ocall [(1000, 40), (1001, 41), (1002, 42), (1003, 43), (1004, 50), (1005, 51)] (hget) hE ?_; rintro _ _ ⟨rfl, rfl⟩ <;> (intro _ _ h1 h2; simp only [renEqs, Nat.reduceBEq, renL_app, renL_ds, renL_und] at h1 h2; subst h1 h2)) | (apply at_call; refine k_ocall [(1000, 40), (1001, 41), (1002, 42), (1003, 43), (1004, 52), (1005, 53), (9, 80)] (jall_any hj5) hE ?_; rintro _ _ ⟨rfl, rfl⟩ <;> (intro _ _ h1 h2; simp only [renEqs, Nat.reduceBEq, renL_app, renL_ds, renL_und] at h1 h2; subst h1 h2)) | (apply at_call; refine k_call (hst) hE ?_; rintro _ rfl) | (apply at_call; refine k_ocall [(1000, 40), (1001, 41), (1002, 42), (1003, 43)] (hsz) hE ?_; rintro _ _ ⟨rfl, rfl⟩ <;> (intro _ _ h1 h2; simp only [renEqs, Nat.reduceBEq, renL_app, renL_ds, renL_und] at h1 h2; subst h1 h2)) | apply aw_seq | apply aw_region | apply al_nil | apply aq_np | apply aq_then | apply aq_then_x | apply aq_then_r | apply aw_skip | apply aw_exit | apply aw_ret | (apply at_op (.move _); refine r_move ?_) | (apply at_op (.assign _); refine r_assign ?_) | (apply at_cond; first | refine c_t ?_ | refine c_f ?_ | (refine aw_cond rfl (fun hb => ?_) (fun hb => ?_) <;> ((first | have hq := of_decide_eq_true hb | have hq := of_decide_eq_false hb | have hq := dNT hb | have hq := dNF hb | skip); (try (exfalso; omega))))) | (apply at_guard; first | refine g_go ?_ | refine g_nt ?_ | refine g_nf ?_ | refine g_nu ?_ | ((first | refine al_split_t rfl rfl (lt_ok rfl) (fun hb => ?_) (fun hb => ?_) | refine al_split_f rfl rfl (lt_ok rfl) (fun hb => ?_) (fun hb => ?_)) <;> ((first | have hq := of_decide_eq_true hb | have hq := of_decide_eq_false hb | have hq := dNT hb | have hq := dNF hb | skip); (try (exfalso; omega))))) | (apply at_op (.pick _ _ _); refine r_pick ?_) | (apply at_op (.binOp .eql _ _ _ _); refine r_eql ?_) | (apply at_op (.buildSlice _ _ _); refine r_lits ?_))
  refine ret_one (by rfl) (by first | exact ToD.d _ | exact ToD.row _ _ _ _ _ rfl) ?_
  rfl
end Go.Proofs.YtfgibalcdjlnhaaDoor
end
section
namespace Go.Proofs.YtfgibalcdjlnhaaDoor
open Go.RowKit

/-- some bytes are 0 now, or missing at the end -/
def Zd (c l : List UInt8) : Prop := c.length ≤ l.length ∧ ∀ (i : Nat) (x : UInt8), c[i]? = some x → l[i]? = some x ∨ x = 0
theorem Zd.refl (l : List UInt8) : Zd l l := ⟨Nat.le_refl _, fun _ _ h => .inl h⟩
theorem Zd.drop {a b c l : List UInt8} (h : Zd (a ++ c) (b ++ l)) (hab : a.length = b.length) : Zd c l := by
  refine ⟨?_, fun i x hx => ?_⟩
  · have := h.1
    simp only [List.length_append] at this
    omega
  · have := h.2 (a.length + i) x (by rw [List.getElem?_append_right (by omega)]; simpa using hx)
    rw [List.getElem?_append_right (by omega), ← hab] at this
    simpa using this
theorem Zd.left {a b c l : List UInt8} (h : Zd (a ++ c) (b ++ l)) (hab : a.length = b.length) : Zd a b := by
  refine ⟨by omega, fun i x hx => ?_⟩
  have hi : i < a.length := (List.getElem?_eq_some_iff.1 hx).1
  have := h.2 i x (by rw [List.getElem?_append_left hi]; exact hx)
  rw [List.getElem?_append_left (by omega)] at this
  exact this
/-- what has no 0 stands there still -/
theorem Zd.same {a c l : List UInt8} (h : Zd (a ++ c) l) (ha : ∀ x ∈ a, x ≠ 0) : a <+: l := by
  rw [List.prefix_iff_getElem?]
  intro i hi
  have := h.2 i a[i] (by rw [List.getElem?_append_left hi, List.getElem?_eq_getElem hi])
  exact this.resolve_right (ha _ (List.getElem_mem hi))
theorem pre_sep {a b l : List UInt8} {c : UInt8} (ha : c ∉ a) (hb : c ∉ b) (h1 : a ++ [c] <+: l) (h2 : b ++ [c] <+: l) : a = b := by
  obtain ⟨p, hp⟩ := h1
  obtain ⟨q, hq⟩ := h2
  rw [List.append_assoc] at hp hq
  have e1 := index_first (t := p) ha
  have e2 := index_first (t := q) hb
  have e : Lib.indexByte l c = a.length := by rw [← hp]; exact e1
  have e' : Lib.indexByte l c = b.length := by rw [← hq]; exact e2
  have hl : a.length = b.length := by omega
  have h3 : a = l.take a.length := by rw [← hp]; exact (List.take_left' rfl).symm
  have h4 : b = l.take b.length := by rw [← hq]; exact (List.take_left' rfl).symm
  rw [h3, h4, hl]
theorem itoa_inj {m n : Int} (hm : isInt m) (hn : isInt n) (h : Lib.itoa m = Lib.itoa n) : m = n := by
  have h1 := atoi_itoa hm
  rw [h, atoi_itoa hn] at h1
  injection h1 with h1
  exact h1.symm
theorem itoa_nz {n : Int} {c : UInt8} (hc : Sep c) (hc0 : c ≠ 0) : ∀ x ∈ Lib.itoa n ++ [c], x ≠ 0 := by
  intro x hx e
  subst e
  rcases List.mem_append.1 hx with h | h
  · rcases itoa_mem h with h | h
    · exact absurd h (by decide)
    · exact absurd h.1 (by decide)
  · simp at h
    exact hc0 h.symm
/-- the sum without its modulus -/
def rawS : List UInt8 → Nat → Nat
  | [], _ => 0
  | c :: r, i => c.toNat * (i + 1) + rawS r (i + 1)
theorem sum_raw : ∀ (l : List UInt8) (i n : Nat), n + rawS l i < 2147483647 → sumL l i n = n + rawS l i
  | [], _, _, _ => rfl
  | c :: r, i, n, h => by
    simp only [rawS, sumL] at h ⊢
    rw [Nat.mod_eq_of_lt (by omega), sum_raw r (i + 1) _ (by omega)]
    omega
theorem raw_le : ∀ (l : List UInt8) (i m : Nat), i + l.length ≤ m → rawS l i ≤ l.length * (255 * m)
  | [], _, _, _ => Nat.zero_le _
  | c :: r, i, m, h => by
    simp only [rawS, List.length_cons] at h ⊢
    have h1 := raw_le r (i + 1) m (by omega)
    have h2 : c.toNat * (i + 1) ≤ 255 * m := Nat.mul_le_mul (by have := c.toNat_lt; omega) (by omega)
    rw [Nat.add_mul]
    omega
theorem raw_eq : ∀ {u t : List UInt8} {i : Nat}, u.length = t.length → Zd u t → rawS u i ≤ rawS t i ∧ (rawS u i = rawS t i → u = t)
  | [], [], _, _, _ => ⟨Nat.le_refl _, fun _ => rfl⟩
  | [], _ :: _, _, h, _ => by simp at h
  | _ :: _, [], _, h, _ => by simp at h
  | a :: u, b :: t, i, h, hz => by
    have hz2 : Zd u t := Zd.drop (a := [a]) (b := [b]) hz rfl
    obtain ⟨h1, h2⟩ := raw_eq (i := i + 1) (by simpa using h) hz2
    have h3 := hz.2 0 a rfl
    simp only [rawS]
    rcases h3 with h3 | h3
    · simp at h3
      subst h3
      exact ⟨by omega, fun e => by rw [h2 (by omega)]⟩
    · subst h3
      have h0 : (0 : UInt8).toNat = 0 := rfl
      rw [h0, Nat.zero_mul]
      refine ⟨by omega, fun e => ?_⟩
      have hb : b.toNat * (i + 1) = 0 := by omega
      have hb : b.toNat = 0 := by
        rcases Nat.mul_eq_zero.1 hb with h | h
        · exact h
        · omega
      have hb : b = 0 := by
        apply UInt8.toNat_inj.1
        exact hb
      rw [hb, h2 (by omega)]
theorem sumB_raw {t : ByteArray} (h : t.size ≤ 200) : sumB t = rawS (L t) 0 := by
  show sumL (L t) 0 0 = _
  have h1 := raw_le (L t) 0 200 (by rw [L_len]; omega)
  rw [L_len] at h1
  have h2 : t.size * (255 * 200) ≤ 200 * (255 * 200) := Nat.mul_le_mul_right _ h
  rw [sum_raw _ _ _ (by omega)]
  omega
theorem form_parts (t : ByteArray) (q : List UInt8) : L (formB t) ++ q = (Lib.itoa t.size ++ [58]) ++ (L t ++ ([44] ++ ((Lib.itoa (sumB t) ++ [59]) ++ q))) := by
  rw [formB_L, textW_L, intW_L]
  simp
/-- A form that stands in a string of which bytes are 0 now stood there before. -/
theorem zd_form {t u : ByteArray} {c q : List UInt8} (ht : t.size ≤ 200) (hu : u.size ≤ 20000) (hz : Zd c (L (formB t) ++ q)) (hp : L (formB u) <+: c) : u = t := by
  obtain ⟨p, rfl⟩ := hp
  rw [form_parts, form_parts] at hz
  have h1 := hz.same (itoa_nz sep58 (by decide))
  have h2 : Lib.itoa t.size ++ [58] <+: (Lib.itoa t.size ++ [58]) ++ (L t ++ ([44] ++ ((Lib.itoa (sumB t) ++ [59]) ++ q))) := List.prefix_append _ _
  have e1 := itoa_inj (by unfold isInt; omega) (by unfold isInt; omega) (pre_sep (sep_not sep58) (sep_not sep58) h1 h2)
  have hsz : u.size = t.size := by omega
  have hz1 := hz.drop (by rw [hsz])
  have hl : (L u).length = (L t).length := by rw [L_len, L_len, hsz]
  have hz2 := hz1.left hl
  have hz3 := (hz1.drop hl).drop rfl
  have h3 := hz3.same (itoa_nz sep59 (by decide))
  have h4 : Lib.itoa (sumB t) ++ [59] <+: (Lib.itoa (sumB t) ++ [59]) ++ q := List.prefix_append _ _
  have e2 := itoa_inj (sum_int u) (sum_int t) (pre_sep (sep_not sep59) (sep_not sep59) h3 h4)
  have e3 : rawS (L u) 0 = rawS (L t) 0 := by
    rw [← sumB_raw ht, ← sumB_raw (by omega)]
    omega
  exact ba_ext ((raw_eq hl hz2).2 e3)
theorem formB_pos (t : ByteArray) (h : t.size ≤ 20000) : 5 ≤ (L (formB t)).length := by
  have := formB_size t (by omega)
  rw [L_len]
  omega
/-- The records of what is left are a beginning of those that there were. -/
theorem zd_recs : ∀ {l rs : List ByteArray} {c : List UInt8}, (∀ t ∈ l, t.size ≤ 200) → Zd c (forms l) → Recs c rs → rs <+: l
  | l, [], _, _, _, _ => List.nil_prefix
  | [], u :: us, c, _, hz, hr => by
    obtain ⟨q, hc, _⟩ := hr.rest
    have := formB_pos u (hr.small u (by simp))
    have h1 := hz.1
    rw [hc] at h1
    simp only [forms, List.length_append, List.length_nil] at h1
    omega
  | t :: l, u :: us, c, hl, hz, hr => by
    obtain ⟨q, hc, hq⟩ := hr.rest
    have hc2 : c = L (formB u) ++ (forms us ++ q) := by rw [hc]; simp [forms]
    have e : u = t := zd_form (hl t (by simp)) (hr.small u (by simp)) hz ⟨_, hc2.symm⟩
    subst e
    rw [hc2] at hz
    have hz2 : Zd (forms us ++ q) (forms l) := hz.drop rfl
    have := zd_recs (fun x hx => hl x (by simp [hx])) hz2 ⟨fun x hx => hr.small x (by simp [hx]), q, rfl, hq⟩
    exact (List.prefix_cons_inj u).2 this
theorem recs_pre {l rs : List ByteArray} {c : List UInt8} (hl : ∀ t ∈ l, t.size ≤ 20000) (h : forms l <+: c) (hr : Recs c rs) : l <+: rs := by
  obtain ⟨q, rfl⟩ := h
  have h2 := recsOf_is q
  obtain ⟨p, h3, h4⟩ := h2.rest
  have h5 : Recs (forms l ++ q) (l ++ recsOf q) := by
    refine ⟨fun x hx => ?_, p, by rw [forms_app, List.append_assoc, ← h3], h4⟩
    rcases List.mem_append.1 hx with hx | hx
    · exact hl x hx
    · exact h2.small x hx
  exact ⟨recsOf q, h5.uniq hr⟩
theorem recs_forms {l : List ByteArray} (hl : ∀ t ∈ l, t.size ≤ 20000) : Recs (forms l) l := ⟨hl, [], by simp, noform_nil⟩
end Go.Proofs.YtfgibalcdjlnhaaDoor
end
section
namespace Go.Proofs.YtfgibalcdjlnhaaDoor
open Go.RowKit Go.ChangeMaps

def bt (s : ByteArray) (i : Nat) : UInt8 := (s.data.toList[i]?).getD 0
theorem bx_list (s : ByteArray) (a b : Nat) : (s.extract a b).data.toList = (s.data.toList.drop a).take (b - a) := by
  simp only [ByteArray.data_extract, Array.toList_extract, List.extract_eq_take_drop]
theorem bt_out {s : ByteArray} {i : Nat} (h : s.size ≤ i) : bt s i = 0 := by
  have := Lib.size_eq s
  simp [bt, List.getElem?_eq_none (by omega : s.data.toList.length ≤ i)]
theorem bt_in {s : ByteArray} {i : Nat} (h : i < s.size) : s.data.toList[i]? = some (bt s i) := by
  have := Lib.size_eq s
  have h2 : i < s.data.toList.length := by omega
  simp [bt, List.getElem?_eq_getElem h2]
theorem bt_ext (s : ByteArray) (a b i : Nat) : bt (s.extract a b) i = if a + i < b then bt s (a + i) else 0 := by
  unfold bt
  rw [bx_list, List.getElem?_take]
  by_cases h : a + i < b
  · rw [if_pos h, if_pos (by omega), List.getElem?_drop]
  · rw [if_neg h, if_neg (by omega)]
    rfl
theorem splice_get {l m : List UInt8} {o i : Nat} (h : o + m.length ≤ l.length) : (splice l o m)[i]? = if o ≤ i ∧ i < o + m.length then m[i - o]? else l[i]? := by
  unfold splice
  rw [List.append_assoc]
  by_cases h1 : i < o
  · rw [List.getElem?_append_left (by simp; omega), List.getElem?_take, if_pos h1, if_neg (by omega)]
  · rw [List.getElem?_append_right (by simp; omega)]
    have e : (l.take o).length = o := by simp; omega
    rw [e]
    by_cases h2 : i - o < m.length
    · rw [List.getElem?_append_left h2, if_pos (by omega)]
    · rw [List.getElem?_append_right (by omega), List.getElem?_drop, if_neg (by omega)]
      congr 1
      omega
theorem bt_put (s : ByteArray) (at_ : Nat) (t : ByteArray) (i : Nat) : bt (putB s at_ t) i = if at_ ≤ i ∧ i < at_ + t.size then bt t (i - at_) else bt s i := by
  have h1 := Lib.size_eq s
  have h2 := Lib.size_eq t
  unfold putB
  by_cases h0 : t.size = 0
  · rw [if_pos h0, if_neg (by omega)]
  · rw [if_neg h0]
    have e1 : (List.replicate (max s.size (at_ + t.size)) (0 : UInt8)).length = max s.size (at_ + t.size) := by simp
    have e2 : (splice (List.replicate (max s.size (at_ + t.size)) 0) 0 s.data.toList).length = max s.size (at_ + t.size) := by rw [splice_len] <;> simp <;> omega
    show ((splice _ _ _)[i]?).getD 0 = _
    rw [splice_get (by rw [e2]; omega), ← h2]
    by_cases hc : at_ ≤ i ∧ i < at_ + t.size
    · rw [if_pos hc, if_pos hc]
      rfl
    · rw [if_neg hc, if_neg hc, splice_get (by rw [e1]; omega), ← h1]
      by_cases hi : i < s.size
      · rw [if_pos (by omega), Nat.sub_zero]
        rfl
      · rw [if_neg (by omega), bt_out (by omega)]
        rw [List.getElem?_replicate]
        split <;> rfl
end Go.Proofs.YtfgibalcdjlnhaaDoor
end
section
namespace Go.Proofs.YtfgibalcdjlnhaaDoor
open Go.RowKit

theorem bt_L {s : ByteArray} {i : Nat} {x : UInt8} (h : (L s)[i]? = some x) : bt s i = x := by
  unfold bt
  rw [show s.data.toList[i]? = some x from h]
  rfl
theorem L_bt {s : ByteArray} {i : Nat} (h : i < s.size) : (L s)[i]? = some (bt s i) := bt_in h
theorem put_end (s t : ByteArray) : L (putB s s.size t) = L s ++ L t := by
  by_cases h0 : t.size = 0
  · have : t = ⟨#[]⟩ := empty_of h0
    subst this
    have e : putB s s.size ⟨#[]⟩ = s := if_pos rfl
    rw [e]
    exact (List.append_nil _).symm
  · have hz := putB_size (s := s) (at_ := s.size) (t := t)
    rw [if_neg h0] at hz
    apply List.ext_getElem?
    intro i
    by_cases hi : i < s.size + t.size
    · rw [L_bt (by omega), bt_put]
      by_cases h1 : i < s.size
      · rw [if_neg (by omega), List.getElem?_append_left (by rw [L_len]; exact h1), L_bt h1]
      · rw [if_pos (by omega), List.getElem?_append_right (by rw [L_len]; omega), L_len, L_bt (by omega)]
    · rw [List.getElem?_eq_none (by rw [L_len]; omega), List.getElem?_eq_none (by rw [List.length_append, L_len, L_len]; omega)]
theorem upd_F {st : DS} (f : Int) (s : ByteArray) : (settleS st f s).F f = ⟨s, s⟩ := by
  unfold settleS
  simp only [upd_same]
theorem settle_pend (st : DS) (f : Int) (s : ByteArray) : ∀ p ∈ (settleS st f s).Q, p.1 ≠ f := by
  intro p hp
  have := (List.mem_filter.1 hp).2
  simpa using this
end Go.Proofs.YtfgibalcdjlnhaaDoor
end
section
namespace Go.Proofs.YtfgibalcdjlnhaaDoor
open Go.RowKit

theorem sync_plain {st : DS} {f : Int} (hu : Up st) (hl : st.lost = 0) (hf : 0 ≤ f ∧ f ≤ 15) : syncR st f = (0, settleS st f (st.F f).now) := by
  unfold syncR
  rw [hu.ends.1, hu.ends.2, if_neg (by decide), if_neg (by simp [hu.may hf]), if_neg (by omega)]
theorem trunc_plain {st : DS} {f n : Int} (hu : Up st) (hf : 0 ≤ f ∧ f ≤ 15) (h : 0 ≤ n ∧ n ≤ (st.F f).now.size) : truncR st f n = (0, settleS st f ((st.F f).now.extract 0 n.toNat)) := by
  unfold truncR
  rw [hu.ends.1, hu.ends.2, if_neg (by decide), if_neg (by simp [hu.may hf]), if_neg (by omega)]
theorem settle_other {st : DS} {f g : Int} (h : g ≠ f) (s : ByteArray) : (settleS st f s).F g = st.F g := by
  unfold settleS
  exact upd_ne _ _ h
/-- Open, where nothing fails -/
theorem open_plain {st : DS} {f : Int} (hu : Up st) (hl : st.lost = 0) (hf : 0 ≤ f ∧ f ≤ 15) :
    ∃ su, openJ st f = (0, some ⟨f, recsOf (L (st.F f).now), false⟩, su) ∧ L (su.F f).now = forms (recsOf (L (st.F f).now)) ∧ (su.F f).last = (su.F f).now ∧ Up su ∧ su.lost = 0 ∧ (∀ g, g ≠ f → su.F g = st.F g) ∧ ∀ p ∈ su.Q, p.1 ≠ f := by
  have hs := sync_plain hu hl hf
  have hR := recsOf_is (L (st.F f).now)
  have hle := hR.le
  rw [L_len] at hle
  have hF : (settleS st f (st.F f).now).F f = ⟨(st.F f).now, (st.F f).now⟩ := upd_F f _
  have h2 : (syncR st f).2 = settleS st f (st.F f).now := by rw [hs]
  have hO := openJ_is (rs := recsOf (L (st.F f).now)) hf (by rw [hs]) h2 (by rw [hF]) hR
  generalize recsOf (L (st.F f).now) = rs at hR hle hO ⊢
  by_cases hlt : (forms rs).length < (st.F f).now.size
  · have ht := trunc_plain (st := settleS st f (st.F f).now) (n := (forms rs).length) ⟨hu.1, hu.2⟩ hf (by rw [hF]; show 0 ≤ ((forms rs).length : Int) ∧ ((forms rs).length : Int) ≤ (st.F f).now.size; omega)
    rw [if_pos hlt, ht, if_neg (by simp)] at hO
    refine ⟨_, hO, ?_, by rw [upd_F], ⟨hu.1, hu.2⟩, hl, fun g hg => by rw [settle_other hg, settle_other hg], settle_pend _ _ _⟩
    rw [upd_F, hF]
    show L ((st.F f).now.extract 0 ((forms rs).length : Int).toNat) = _
    rw [Int.toNat_natCast]
    have : L ((st.F f).now.extract 0 (forms rs).length) = (L (st.F f).now).take (forms rs).length := ext_list _ _
    obtain ⟨q, h1, _⟩ := hR.rest
    rw [this, h1, List.take_left' rfl]
  · rw [if_neg hlt] at hO
    refine ⟨_, hO, ?_, by rw [upd_F], ⟨hu.1, hu.2⟩, hl, fun g hg => settle_other hg _, settle_pend _ _ _⟩
    rw [upd_F]
    obtain ⟨q, h1, _⟩ := hR.rest
    have h3 : q.length = 0 := by
      have := congrArg List.length h1
      rw [L_len, List.length_append] at this
      omega
    show L (st.F f).now = _
    rw [h1, List.eq_nil_of_length_eq_zero h3, List.append_nil]
end Go.Proofs.YtfgibalcdjlnhaaDoor
end
section
namespace Go.Proofs.YtfgibalcdjlnhaaDoor
open Go.RowKit

/-- Append, where nothing fails -/
theorem app_plain {js : JS} {st : DS} {s : ByteArray} (hb : js.bad = false) (hu : Up st) (hf : 0 ≤ js.f ∧ js.f ≤ 15) (hn : L (st.F js.f).now = forms js.rs) (hs : s.size ≤ 20000) (hl : (forms js.rs).length + (formB s).size ≤ 1048576) :
    ∃ su, appJ js st s = (0, { js with rs := js.rs ++ [s] }, su) ∧ Up su ∧ su.lost = st.lost ∧ L (su.F js.f).now = forms (js.rs ++ [s]) ∧ (∀ g, g ≠ js.f → su.F g = st.F g) ∧ (su.F js.f).last = (st.F js.f).last := by
  have hfz := formB_size s (by omega)
  have hw : wrE st js.f (forms js.rs).length (formB s) = 0 := by
    unfold wrE
    rw [if_neg (by simp [hu.may hf]), if_neg (by omega), if_neg (by omega)]
  have hW : writeR st js.f (forms js.rs).length (formB s) = (0, wrS st js.f (forms js.rs).length (formB s)) := by
    unfold writeR
    rw [hu.ends.1, hu.ends.2, if_neg (by decide), hw]
  have e : wrS st js.f (forms js.rs).length (formB s) = { st with F := upd st.F js.f ⟨putB (st.F js.f).now (forms js.rs).length (formB s), (st.F js.f).last⟩, Q := addSecs js.f (touch (forms js.rs).length (formB s)) (((forms js.rs).length : Int) / 64) st.Q } := by
    unfold wrS
    rw [if_neg (by rintro (h | h); exact h hw; omega), Int.toNat_natCast]
  refine ⟨_, appJ_ok hb hs rfl rfl hl (by rw [hW]) (by rw [hW]), ?_, ?_, ?_, fun g hg => ?_, ?_⟩
  · rw [e]
    exact hu
  · rw [e]
  · rw [e]
    have hz : (forms js.rs).length = (st.F js.f).now.size := by rw [← hn, L_len]
    show L (upd st.F js.f _ js.f).now = _
    rw [upd_same]
    show L (putB (st.F js.f).now (forms js.rs).length (formB s)) = _
    rw [hz, put_end, hn, forms_app]
    simp [forms]
  · rw [e]
    exact upd_ne _ _ hg
  · rw [e]
    show (upd st.F js.f _ js.f).last = _
    rw [upd_same]
theorem forms_bd : ∀ l : List ByteArray, (∀ t ∈ l, t.size ≤ 200) → (forms l).length ≤ 243 * l.length
  | [], _ => Nat.le_refl _
  | t :: l, h => by
    have h1 := formB_size t (by have := h t (by simp); omega)
    have h0 := h t (by simp)
    have h2 := forms_bd l (fun x hx => h x (by simp [hx]))
    simp only [forms, List.length_append, List.length_cons, L_len]
    omega
theorem Zd.set {c l : List UInt8} (h : Zd c l) (i : Nat) : Zd (c.set i 0) l := by
  refine ⟨by rw [List.length_set]; exact h.1, fun j x hx => ?_⟩
  rw [List.getElem?_set] at hx
  split at hx
  · split at hx
    · cases hx
      exact .inr rfl
    · cases hx
  · exact h.2 j x hx
theorem Zd.take {c l : List UInt8} (h : Zd c l) (n : Nat) : Zd (c.take n) l := by
  refine ⟨by rw [List.length_take]; have := h.1; omega, fun j x hx => ?_⟩
  rw [List.getElem?_take] at hx
  split at hx
  · exact h.2 j x hx
  · cases hx
/-- where the forms of records end -/
def endsL (l : List ByteArray) (i : Nat) : List Int := (List.range i).map fun j => ((forms (l.take (j + 1))).length : Int)
end Go.Proofs.YtfgibalcdjlnhaaDoor
end
section
namespace Go.Proofs.YtfgibalcdjlnhaaDoor
open Go.RowKit Go.ChangeMaps

/-- what the file f is during a crash: the sectors in S are survived -/
structure Mid (now last R : ByteArray) (S : Int → Prop) : Prop where
  lo : last.size ≤ R.size
  hi : R.size ≤ now.size
  yes : ∀ i : Nat, S ((i : Int) / 64) → bt R i = bt now i
  no : ∀ i : Nat, ¬ S ((i : Int) / 64) → bt R i = bt last i
  top : now.size ≠ 0 → S (((now.size : Int) - 1) / 64) → R.size = now.size
theorem Mid.start {now last : ByteArray} (h : last.size ≤ now.size) : Mid now last last (fun _ => False) := ⟨Nat.le_refl _, h, fun _ h => h.elim, fun _ _ => rfl, fun _ h => h.elim⟩
theorem Mid.add {now last R : ByteArray} {S : Int → Prop} (h : Mid now last R S) {n : Int} (hn : 0 ≤ n) : Mid now last (if n * 64 < now.size then putB R (n * 64).toNat (partB now n) else R) (fun m => S m ∨ m = n) := by
  by_cases hc : n * 64 < now.size
  · rw [if_pos hc]
    have hp : (partB now n).size = (min (n * 64 + 64) now.size).toNat - (n * 64).toNat := by
      unfold partB
      rw [ByteArray.size_extract]
      omega
    have hz := putB_size (s := R) (at_ := (n * 64).toNat) (t := partB now n)
    rw [if_neg (by omega)] at hz
    have hsz : (putB R (n * 64).toNat (partB now n)).size ≤ now.size := by have := h.hi; omega
    have hbt : ∀ i : Nat, bt (putB R (n * 64).toNat (partB now n)) i = if (n * 64).toNat ≤ i ∧ i < (n * 64).toNat + (partB now n).size then bt now i else bt R i := fun i => by
      rw [bt_put]
      by_cases hr : (n * 64).toNat ≤ i ∧ i < (n * 64).toNat + (partB now n).size
      · rw [if_pos hr, if_pos hr]
        unfold partB
        rw [bt_ext, if_pos (by omega)]
        congr 1
        omega
      · rw [if_neg hr, if_neg hr]
    refine ⟨by have := h.lo; omega, hsz, fun i hi => ?_, fun i hi => ?_, fun h0 hS => ?_⟩
    · by_cases hin : i < (putB R (n * 64).toNat (partB now n)).size
      · rw [hbt]
        by_cases hr : (n * 64).toNat ≤ i ∧ i < (n * 64).toNat + (partB now n).size
        · rw [if_pos hr]
        · rw [if_neg hr]
          rcases hi with hi | hi
          · exact h.yes i hi
          · have : now.size ≤ i := by omega
            omega
      · by_cases hin2 : i < now.size
        · rcases hi with hi | hi
          · rw [hbt]
            split
            · rfl
            · exact h.yes i hi
          · omega
        · rw [bt_out (by omega), bt_out (by omega)]
    · rw [hbt, if_neg (fun hr => hi (.inr (by omega)))]
      exact h.no i (fun hS => hi (.inl hS))
    · rcases hS with hS | hS
      · have := h.top h0 hS
        omega
      · omega
  · rw [if_neg hc]
    refine ⟨h.lo, h.hi, fun i hi => ?_, fun i hi => h.no i (fun hS => hi (.inl hS)), fun h0 hS => ?_⟩
    · rcases hi with hi | hi
      · exact h.yes i hi
      · have := h.hi
        rw [bt_out (by omega), bt_out (by omega)]
    · rcases hS with hS | hS
      · exact h.top h0 hS
      · omega
theorem surv_off {F : Int → Fl} {p : Sec} {f : Int} (h : ¬ p.1 = f) : surv F p f = F f := by
  unfold surv
  split
  · exact upd_ne _ _ (Ne.symm h)
  · rfl
theorem survs_mid (keep : List Int) (f : Int) (now last : ByteArray) : ∀ (Q : List Sec) (i : Nat) (F : Int → Fl) (S : Int → Prop), (∀ p ∈ Q, 0 ≤ p.2) → (F f).now = now → Mid now last (F f).last S →
    ∃ S' : Int → Prop, Mid now last (survs keep i Q F f).last S' ∧ (∀ n, S n → S' n) ∧ ((∀ j, keepAt keep j = true) → ∀ n, (f, n) ∈ Q → S' n)
  | [], _, F, S, _, _, h => ⟨S, h, fun _ h => h, fun _ n hn => by cases hn⟩
  | p :: Q, i, F, S, h0, hn, h => by
    unfold survs
    cases hk : keepAt keep i
    · obtain ⟨S', h1, h2, h3⟩ := survs_mid keep f now last Q (i + 1) F S (fun q hq => h0 q (by simp [hq])) hn h
      exact ⟨S', by simpa using h1, h2, fun hall => by rw [hall i] at hk; cases hk⟩
    · by_cases hp : p.1 = f
      · have e : (surv F p f) = if p.2 * 64 < now.size then ⟨now, putB (F f).last (p.2 * 64).toNat (partB now p.2)⟩ else F f := by
          unfold surv
          rw [hp, hn]
          split
          · rw [upd_same]
          · rfl
        have hn' : (surv F p f).now = now := by
          rw [e]
          split
          · rfl
          · exact hn
        have hM := h.add (h0 p (by simp))
        have hl : (surv F p f).last = if p.2 * 64 < now.size then putB (F f).last (p.2 * 64).toNat (partB now p.2) else (F f).last := by
          rw [e]
          split <;> rfl
        rw [← hl] at hM
        obtain ⟨S', h1, h2, h3⟩ := survs_mid keep f now last Q (i + 1) (surv F p) _ (fun q hq => h0 q (by simp [hq])) hn' hM
        refine ⟨S', by simpa using h1, fun n hS => h2 n (.inl hS), fun hall n hm => ?_⟩
        rcases List.mem_cons.1 hm with hm | hm
        · exact h2 n (.inr (by rw [← hm]))
        · exact h3 hall n hm
      · have hsn := surv_off hp (F := F)
        obtain ⟨S', h1, h2, h3⟩ := survs_mid keep f now last Q (i + 1) (surv F p) S (fun q hq => h0 q (by simp [hq])) (by rw [hsn]; exact hn) (by rw [hsn]; exact h)
        refine ⟨S', by simpa using h1, h2, fun hall n hm => ?_⟩
        rcases List.mem_cons.1 hm with hm | hm
        · exact absurd (by rw [← hm]) hp
        · exact h3 hall n hm
end Go.Proofs.YtfgibalcdjlnhaaDoor
end
section
namespace Go.Proofs.YtfgibalcdjlnhaaDoor
open Go.RowKit

/-- a file of records, of which some are durable -/
structure Cl (st : DS) (f : Int) (N D : List ByteArray) : Prop where
  now : L (st.F f).now = forms N
  last : L (st.F f).last = forms D
  pre : D <+: N
/-- a file that a crash has left -/
structure To (st : DS) (f : Int) (R : List ByteArray) : Prop where
  same : (st.F f).now = (st.F f).last
  pend : ∀ p ∈ st.Q, p.1 ≠ f
  recs : Recs (L (st.F f).now) R
def FInv (st : DS) (f : Int) (A S : List ByteArray) : Prop := (∃ N D, Cl st f N D ∧ N <+: A ∧ S <+: D) ∨ ∃ R, To st f R ∧ R <+: A ∧ S <+: R
theorem Cl.of {st su : DS} {f : Int} {N D : List ByteArray} (h : Cl st f N D) (hF : su.F f = st.F f) : Cl su f N D := ⟨by rw [hF]; exact h.now, by rw [hF]; exact h.last, h.pre⟩
theorem To.of {st su : DS} {f : Int} {R : List ByteArray} (h : To st f R) (hF : su.F f = st.F f) (hQ : ∀ p ∈ su.Q, p.1 = f → p ∈ st.Q) : To su f R :=
  ⟨by rw [hF]; exact h.same, fun p hp e => h.pend p (hQ p hp e) e, by rw [hF]; exact h.recs⟩
theorem FInv.of {st su : DS} {f : Int} {A S : List ByteArray} (h : FInv st f A S) (hF : su.F f = st.F f) (hQ : ∀ p ∈ su.Q, p.1 = f → p ∈ st.Q) : FInv su f A S := by
  rcases h with ⟨N, D, h, h1, h2⟩ | ⟨R, h, h1, h2⟩
  · exact .inl ⟨N, D, h.of hF, h1, h2⟩
  · exact .inr ⟨R, h.of hF hQ, h1, h2⟩
theorem FInv.mono {st : DS} {f : Int} {A S : List ByteArray} (h : FInv st f A S) (t : List ByteArray) : FInv st f (A ++ t) S := by
  rcases h with ⟨N, D, h, h1, h2⟩ | ⟨R, h, h1, h2⟩
  · exact .inl ⟨N, D, h, h1.trans (List.prefix_append _ _), h2⟩
  · exact .inr ⟨R, h, h1.trans (List.prefix_append _ _), h2⟩
theorem survs_sub {keep : List Int} {f : Int} : ∀ (Q : List Sec) (i : Nat) (F : Int → Fl), (∀ p ∈ Q, p.1 ≠ f) → survs keep i Q F f = F f
  | [], _, _, _ => rfl
  | p :: Q, i, F, h => by
    unfold survs
    rw [survs_sub Q (i + 1) _ (fun q hq => h q (by simp [hq]))]
    split
    · exact surv_off (h p (by simp))
    · rfl
/-- a crash leaves a beginning of the records, with all that were durable -/
theorem FInv.crash {st : DS} {f : Int} {A S : List ByteArray} (h : FInv st f A S) (hok : st.Ok) (hA : ∀ t ∈ A, t.size ≤ 200) (keep : List Int) : FInv (crashS st keep) f A S := by
  unfold crashS
  by_cases hd : st.down = true
  · rw [if_pos hd]
    exact h
  · rw [if_neg hd]
    right
    have mk : ∀ R, Recs (L (survs keep 0 st.Q st.F f).last) R → To { st with F := lastF (survs keep 0 st.Q st.F), Q := [], down := true, armed := 0 } f R := fun R hR => ⟨rfl, (by intro p hp; cases hp), hR⟩
    rcases h with ⟨N, D, h, h1, h2⟩ | ⟨R, h, h1, h2⟩
    · have hN : ∀ t ∈ N, t.size ≤ 200 := fun t ht => hA t (h1.subset ht)
      have hD : ∀ t ∈ D, t.size ≤ 20000 := fun t ht => by have := hN t (h.pre.subset ht); omega
      obtain ⟨E, hE⟩ := h.pre
      have hln : L (st.F f).now = L (st.F f).last ++ forms E := by rw [h.now, h.last, ← hE, forms_app]
      have hle : (st.F f).last.size ≤ (st.F f).now.size := by
        rw [← L_len, ← L_len, hln, List.length_append]
        omega
      obtain ⟨S', hM, _, _⟩ := survs_mid keep f (st.F f).now (st.F f).last st.Q 0 st.F (fun _ => False) (fun p hp => (hok.num p hp).1) rfl (Mid.start hle)
      generalize (survs keep 0 st.Q st.F f).last = R at hM mk
      have hbt : ∀ i : Nat, i < (st.F f).last.size → bt (st.F f).now i = bt (st.F f).last i := fun i hi => by
        have h3 := L_bt hi
        apply bt_L
        rw [hln, List.getElem?_append_left (by rw [L_len]; exact hi)]
        exact h3
      have hz : Zd (L R) (forms N) := by
        rw [← h.now]
        refine ⟨by rw [L_len, L_len]; exact hM.hi, fun i x hx => ?_⟩
        have hi : i < R.size := by rw [← L_len]; exact (List.getElem?_eq_some_iff.1 hx).1
        have hi2 : i < (st.F f).now.size := Nat.lt_of_lt_of_le hi hM.hi
        have e := bt_L hx
        by_cases hS : S' ((i : Int) / 64)
        · left
          rw [L_bt hi2, ← hM.yes i hS, e]
        · have e2 := hM.no i hS
          by_cases hl : i < (st.F f).last.size
          · left
            rw [L_bt hi2, hbt i hl, ← e2, e]
          · right
            rw [← e, e2, bt_out (by omega)]
      have hp : forms D <+: L R := by
        rw [← h.last, List.prefix_iff_getElem?]
        intro i hi
        rw [L_len] at hi
        have hR : i < R.size := Nat.lt_of_lt_of_le hi hM.lo
        rw [L_bt hR]
        have h3 := L_bt hi
        rw [List.getElem?_eq_getElem (by rw [L_len]; exact hi)] at h3
        rw [h3]
        congr 1
        by_cases hS : S' ((i : Int) / 64)
        · rw [hM.yes i hS, hbt i hi]
        · exact hM.no i hS
      have hR := recsOf_is (L R)
      exact ⟨_, mk _ hR, (zd_recs hN hz hR).trans h1, h2.trans (recs_pre hD hp hR)⟩
    · have e := survs_sub (keep := keep) st.Q 0 st.F h.pend
      refine ⟨R, mk R ?_, h1, h2⟩
      rw [e, ← h.same]
      exact h.recs
theorem forms_nil_or (t : ByteArray) (ht : t.size ≤ 20000) : (formB t).size ≠ 0 := by
  have := formB_size t (by omega)
  omega
/-- a record is appended -/
theorem Cl.wr {st : DS} {f : Int} {N D : List ByteArray} (h : Cl st f N D) {t : ByteArray} (ht : t.size ≤ 20000) (hw : wrE st f (forms N).length (formB t) = 0) : Cl (wrS st f (forms N).length (formB t)) f (N ++ [t]) D := by
  have e : wrS st f (forms N).length (formB t) = { st with F := upd st.F f ⟨putB (st.F f).now (forms N).length (formB t), (st.F f).last⟩, Q := addSecs f (touch (forms N).length (formB t)) (((forms N).length : Int) / 64) st.Q } := by
    unfold wrS
    rw [if_neg (by rintro (h | h); exact h hw; exact forms_nil_or t ht h), Int.toNat_natCast]
  rw [e]
  have hl : (forms N).length = (st.F f).now.size := by rw [← h.now, L_len]
  refine ⟨?_, ?_, h.pre.trans (List.prefix_append _ _)⟩
  · simp only [upd_same]
    rw [hl, put_end, h.now, forms_app]
    simp [forms]
  · simp only [upd_same]
    exact h.last
theorem wrE_not {st : DS} {f at_ : Int} {s : ByteArray} (h : wrE st f at_ s ≠ 0) : wrS st f at_ s = st := if_pos (.inl h)
theorem ends_same {st : DS} {f : Int} : (endS st).F f = st.F f ∧ (endS st).Q = st.Q := ⟨by rw [(endS_f st).1], (endS_f st).2.1⟩
theorem FInv.ends {st : DS} {f : Int} {A S : List ByteArray} (h : FInv st f A S) : FInv (endS st) f A S := h.of ends_same.1 (fun p hp _ => by rw [ends_same (f := f)|>.2] at hp; exact hp)
theorem Cl.ends {st : DS} {f : Int} {N D : List ByteArray} (h : Cl st f N D) : Cl (endS st) f N D := h.of ends_same.1
theorem wrE_codes (st : DS) (f at_ : Int) (s : ByteArray) : wrE st f at_ s = 8 ∨ wrE st f at_ s = 1 ∨ wrE st f at_ s = 6 ∨ wrE st f at_ s = 0 := by
  have hm : mayE st f = 8 ∨ mayE st f = 1 ∨ mayE st f = 0 := by
    unfold mayE
    split
    · exact .inl rfl
    · split
      · exact .inr (.inl rfl)
      · exact .inr (.inr rfl)
  unfold wrE
  split
  · omega
  · split
    · omega
    · split <;> omega
/-- Append, of a journal that is right -/
theorem app_law {js : JS} {st : DS} {D A S : List ByteArray} (hb : js.bad = false) (hok : st.Ok) (hC : Cl st js.f js.rs D) (hA : js.rs = A) (hS : S <+: D) (hAs : ∀ t ∈ A, t.size ≤ 200) {s : ByteArray} (hs : s.size ≤ 200) :
    ((appJ js st s).1 = 0 ∧ (appJ js st s).2.1 = { js with rs := js.rs ++ [s] } ∧ Cl (appJ js st s).2.2 js.f (js.rs ++ [s]) D ∧ (appJ js st s).2.2.down = st.down) ∨
    ((appJ js st s).1 = 8 ∧ (appJ js st s).2.1 = { js with bad := true } ∧ FInv (appJ js st s).2.2 js.f (A ++ [s]) S) ∨
    ((appJ js st s).1 ≠ 0 ∧ (appJ js st s).1 ≠ 8 ∧ (appJ js st s).1 ≠ 9 ∧ (((appJ js st s).2.1 = js ∧ (appJ js st s).2.2 = st) ∨ ((appJ js st s).2.1 = { js with bad := true } ∧ FInv (appJ js st s).2.2 js.f A S))) := by
  subst hA
  have hF : FInv st js.f js.rs S := .inl ⟨_, _, hC, List.prefix_refl _, hS⟩
  unfold appJ
  rw [if_neg (by rw [hb]; decide), if_neg (by omega)]
  by_cases h2 : 1048576 < (forms js.rs).length + (formB s).size
  · rw [if_pos h2]
    exact .inr (.inr ⟨by simp, by simp, by simp, .inl ⟨rfl, rfl⟩⟩)
  · rw [if_neg h2]
    have hAs2 : ∀ t ∈ js.rs ++ [s], t.size ≤ 200 := fun t ht => by
      rcases List.mem_append.1 ht with ht | ht
      · exact hAs t ht
      · simp at ht
        subst ht
        exact hs
    cases he : endsB st
    · have hW : writeR st js.f (forms js.rs).length (formB s) = (wrE (endS st) js.f (forms js.rs).length (formB s), wrS (endS st) js.f (forms js.rs).length (formB s)) := by
        unfold writeR
        rw [he]
        rfl
      rw [hW]
      dsimp only
      by_cases hw : wrE (endS st) js.f (forms js.rs).length (formB s) = 0
      · left
        rw [if_neg (by simp [hw])]
        exact ⟨rfl, rfl, hC.ends.wr (by omega) hw, by rw [(wrS_f _ _ _ _).2, (endS_f st).2.2.2.2]⟩
      · right
        rw [if_pos hw]
        by_cases h8 : wrE (endS st) js.f (forms js.rs).length (formB s) = 8
        · left
          refine ⟨h8, rfl, ?_⟩
          show FInv (wrS _ _ _ _) _ _ _
          rw [wrE_not hw]
          exact hF.ends.mono _
        · right
          refine ⟨hw, h8, ?_, .inr ⟨rfl, ?_⟩⟩
          · intro h9
            have := wrE_codes (endS st) js.f (forms js.rs).length (formB s)
            omega
          · show FInv (wrS _ _ _ _) _ _ _
            rw [wrE_not hw]
            exact hF.ends
    · have hW : writeR st js.f (forms js.rs).length (formB s) = (8, crashS (wrS (endS st) js.f (forms js.rs).length (formB s)) st.keep) := by
        unfold writeR
        rw [he]
        rfl
      rw [hW]
      dsimp only
      rw [if_pos (by decide)]
      right
      left
      refine ⟨rfl, rfl, ?_⟩
      show FInv (crashS _ _) _ _ _
      by_cases hw : wrE (endS st) js.f (forms js.rs).length (formB s) = 0
      · exact FInv.crash (.inl ⟨_, _, hC.ends.wr (by omega) hw, List.prefix_refl _, hS⟩) ((endS_ok hok).wr _ _ _) hAs2 _
      · rw [wrE_not hw]
        exact (hF.ends.mono [s]).crash (endS_ok hok) hAs2 _
/-- Sync of the file -/
theorem sync_law {st : DS} {f : Int} {A S : List ByteArray} (hF : FInv st f A S) (hok : st.Ok) (hA : ∀ t ∈ A, t.size ≤ 200) (hf : 0 ≤ f ∧ f ≤ 15) :
    FInv (syncR st f).2 f A S ∧ ((syncR st f).1 = 0 ∨ (syncR st f).1 = 8 ∨ (syncR st f).1 = 9) ∧ ((syncR st f).1 = 0 → (syncR st f).2.F f = ⟨(st.F f).now, (st.F f).now⟩ ∧ (∀ p ∈ (syncR st f).2.Q, p.1 ≠ f) ∧ (syncR st f).2.down = st.down ∧ (syncR st f).2.armed = (endS st).armed ∧ (syncR st f).2.lost = st.lost) ∧ (st.down = false → st.armed = 0 → st.lost = 0 → (syncR st f).1 = 0) := by
  unfold syncR
  cases he : endsB st
  · rw [if_neg (by decide)]
    by_cases hm : mayE (endS st) f = 0
    · rw [if_neg (by simp [hm])]
      have hl := hok.lost0
      by_cases hlost : 0 < (endS st).lost
      · rw [if_pos hlost]
        refine ⟨hF.ends.of rfl (fun p hp _ => hp), .inr (.inr rfl), (by intro h; cases h), fun _ _ h0 => ?_⟩
        rw [(endS_f st).2.2.1] at hlost
        omega
      · rw [if_neg hlost]
        refine ⟨?_, .inl rfl, fun _ => ⟨?_, settle_pend _ _ _, (endS_f st).2.2.2.2, rfl, (endS_f st).2.2.1⟩, fun _ _ _ => rfl⟩
        · rcases hF.ends with ⟨N, D, h, h1, h2⟩ | ⟨R, h, h1, h2⟩
          · exact .inl ⟨N, N, ⟨by rw [upd_F]; exact h.now, by rw [upd_F]; exact h.now, List.prefix_refl _⟩, h1, h2.trans h.pre⟩
          · exact .inr ⟨R, ⟨by rw [upd_F], settle_pend _ _ _, by rw [upd_F]; exact h.recs⟩, h1, h2⟩
        · rw [upd_F, ends_same.1]
    · rw [if_pos hm]
      have h8 : mayE (endS st) f = 8 := by
        unfold mayE at hm ⊢
        split
        · rfl
        · rename_i hc
          rw [if_neg hc, if_neg (by omega)] at hm
          exact absurd rfl hm
      refine ⟨hF.ends, .inr (.inl h8), fun h => absurd h hm, fun hd _ _ => ?_⟩
      exfalso
      apply hm
      unfold mayE
      rw [(endS_f st).2.2.2.2, hd, if_neg (by decide), if_neg (by omega)]
  · rw [if_pos rfl]
    refine ⟨hF.ends.crash (endS_ok hok) hA _, .inr (.inl rfl), (by intro h; cases h), fun _ ha _ => ?_⟩
    unfold endsB at he
    rw [ha] at he
    simp at he
end Go.Proofs.YtfgibalcdjlnhaaDoor
end
section
namespace Go.Proofs.YtfgibalcdjlnhaaDoor
open Go.RowKit

theorem FInv.rec {st : DS} {f : Int} {A S : List ByteArray} (h : FInv st f A S) (hA : ∀ t ∈ A, t.size ≤ 200) : ∃ R, Recs (L (st.F f).now) R ∧ R <+: A ∧ S <+: R := by
  rcases h with ⟨N, D, h, h1, h2⟩ | ⟨R, h, h1, h2⟩
  · refine ⟨N, ?_, h1, h2.trans h.pre⟩
    rw [h.now]
    exact recs_forms (fun t ht => by have := hA t (h1.subset ht); omega)
  · exact ⟨R, h.recs, h1, h2⟩
theorem trunc_law {st : DS} {f : Int} {A S R : List ByteArray} (hF : FInv st f A S) (hok : st.Ok) (hA : ∀ t ∈ A, t.size ≤ 200) (hf : 0 ≤ f ∧ f ≤ 15) (hR : Recs (L (st.F f).now) R) :
    ((truncR st f (forms R).length).1 = 0 ∧ Cl (truncR st f (forms R).length).2 f R R ∧ (truncR st f (forms R).length).2.lost = st.lost ∧ (Up st → Up (truncR st f (forms R).length).2)) ∨
    ((truncR st f (forms R).length).1 = 8 ∧ FInv (truncR st f (forms R).length).2 f A S ∧ ¬ Up st) := by
  have hle := hR.le
  rw [L_len] at hle
  unfold truncR
  cases he : endsB st
  · rw [if_neg (by decide)]
    by_cases hm : mayE (endS st) f = 0
    · rw [if_neg (by simp [hm]), if_neg (by rw [ends_same.1]; omega)]
      left
      obtain ⟨q, h1, _⟩ := hR.rest
      have e : L (((endS st).F f).now.extract 0 ((forms R).length : Int).toNat) = forms R := by
        rw [ends_same.1, Int.toNat_natCast]
        have : L ((st.F f).now.extract 0 (forms R).length) = (L (st.F f).now).take (forms R).length := ext_list _ _
        rw [this, h1, List.take_left' rfl]
      refine ⟨rfl, ⟨by rw [upd_F]; exact e, by rw [upd_F]; exact e, List.prefix_refl _⟩, (endS_f st).2.2.1, fun hu => ?_⟩
      rw [hu.ends.2]
      exact hu
    · rw [if_pos hm]
      right
      have h8 : mayE (endS st) f = 8 := by
        unfold mayE at hm ⊢
        split
        · rfl
        · rename_i hc
          rw [if_neg hc, if_neg (by omega)] at hm
          exact absurd rfl hm
      refine ⟨h8, hF.ends, fun hu => hm ?_⟩
      rw [hu.ends.2]
      exact hu.may hf
  · rw [if_pos rfl]
    right
    refine ⟨rfl, hF.ends.crash (endS_ok hok) hA _, fun hu => ?_⟩
    rw [hu.ends.1] at he
    cases he
theorem open_law {st : DS} {f : Int} {A S : List ByteArray} (hF : FInv st f A S) (hok : st.Ok) (hok2 : (syncR st f).2.Ok) (hA : ∀ t ∈ A, t.size ≤ 200) (hf : 0 ≤ f ∧ f ≤ 15) :
    (∃ js, (openJ st f).1 = 0 ∧ (openJ st f).2.1 = some js ∧ js.f = f ∧ js.bad = false ∧ Cl (openJ st f).2.2 f js.rs js.rs ∧ js.rs <+: A ∧ S <+: js.rs ∧ (Up st → Up (openJ st f).2.2 ∧ (openJ st f).2.2.lost = st.lost)) ∨
    (((openJ st f).1 = 8 ∨ (openJ st f).1 = 9) ∧ (openJ st f).2.1 = none ∧ FInv (openJ st f).2.2 f A S ∧ (Up st → st.lost ≠ 0 ∧ Up (openJ st f).2.2)) := by
  have e0 : openJ st f = _ := if_neg (by omega : ¬ (f < 0 ∨ 15 < f))
  obtain ⟨s1, s2, s3, s4⟩ := sync_law hF hok hA hf
  by_cases he : (syncR st f).1 = 0
  · rw [if_neg (by simp [he])] at e0
    obtain ⟨t1, t2, t3, t4, t5⟩ := s3 he
    obtain ⟨R, r1, r2, r3⟩ := s1.rec hA
    have hup : Up st → Up (syncR st f).2 := fun hu => ⟨t3.trans hu.1, by rw [t4, hu.ends.2]; exact hu.2⟩
    rw [r1.eq] at e0
    have hle := r1.le
    rw [L_len] at hle
    by_cases hl : (forms R).length < ((syncR st f).2.F f).now.size
    · rw [if_pos hl] at e0
      rcases trunc_law s1 hok2 hA hf r1 with ⟨u1, u2, u3, u4⟩ | ⟨u1, u2, u3⟩
      · rw [if_neg (by simp [u1])] at e0
        left
        rw [e0]
        exact ⟨⟨f, R, false⟩, rfl, rfl, rfl, rfl, u2, r2, r3, fun hu => ⟨u4 (hup hu), u3.trans t5⟩⟩
      · rw [if_pos (by simp [u1])] at e0
        right
        rw [e0]
        exact ⟨.inl u1, rfl, u2, fun hu => absurd (hup hu) u3⟩
    · rw [if_neg hl] at e0
      left
      rw [e0]
      have hn : L ((syncR st f).2.F f).now = forms R := by
        obtain ⟨q, h1, _⟩ := r1.rest
        have h2 : q.length = 0 := by
          have := congrArg List.length h1
          rw [L_len, List.length_append] at this
          omega
        rw [h1, List.eq_nil_of_length_eq_zero h2, List.append_nil]
      refine ⟨⟨f, R, false⟩, rfl, rfl, rfl, rfl, ⟨hn, ?_, List.prefix_refl _⟩, r2, r3, fun hu => ⟨hup hu, t5⟩⟩
      rw [t1] at hn ⊢
      exact hn
  · rw [if_pos he] at e0
    right
    rw [e0]
    refine ⟨s2.resolve_left he, rfl, s1, fun hu => ⟨fun h0 => he (s4 hu.1 hu.2 h0), ?_⟩⟩
    show Up (syncR st f).2
    unfold syncR
    rw [hu.ends.1, hu.ends.2, if_neg (by decide), if_neg (by simp [hu.may hf])]
    by_cases hl : 0 < st.lost
    · rw [if_pos hl]
      exact hu
    · rw [if_neg hl]
      exact hu
/-- Sync of a journal that is right -/
theorem jsync_law {js : JS} {st : DS} {D A S : List ByteArray} (hb : js.bad = false) (hok : st.Ok) (hC : Cl st js.f js.rs D) (hA : js.rs = A) (hS : S <+: D) (hAs : ∀ t ∈ A, t.size ≤ 200) (hf : 0 ≤ js.f ∧ js.f ≤ 15) :
    ((syncJ js st).1 = 0 ∧ (syncJ js st).2.1 = js ∧ Cl (syncJ js st).2.2 js.f js.rs js.rs) ∨ ((syncJ js st).1 ≠ 0 ∧ (syncJ js st).2.1 = { js with bad := true } ∧ FInv (syncJ js st).2.2 js.f A S) := by
  have hF : FInv st js.f A S := .inl ⟨_, _, hC, by rw [hA]; exact List.prefix_refl _, hS⟩
  obtain ⟨s1, s2, s3, s4⟩ := sync_law hF hok hAs hf
  unfold syncJ
  rw [if_neg (by rw [hb]; decide)]
  by_cases he : (syncR st js.f).1 = 0
  · left
    obtain ⟨t1, _⟩ := s3 he
    refine ⟨he, ?_, ?_⟩
    · dsimp only
      rw [he]
      obtain ⟨f, rs, bad⟩ := js
      obtain rfl : bad = false := hb
      rfl
    · refine ⟨?_, ?_, List.prefix_refl _⟩ <;> (dsimp only; rw [t1]; exact hC.now)
  · right
    refine ⟨he, ?_, s1⟩
    dsimp only
    rw [decide_eq_false he]
    rfl
end Go.Proofs.YtfgibalcdjlnhaaDoor
end
