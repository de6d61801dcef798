/-
  The journal's laws: the documentation's examples. Conditions: none.
  The plain law of the journal: records whose forms have lost bytes, or have zeros in their place. Conditions: none.
  Bytes of strings that are put and cut. Conditions: none.
  Bytes behind the end of a file. Conditions: none.
  The journal's laws: opening a file on a disk without faults. Conditions: none.
  The journal's laws: appending on a disk without faults; bytes that become 0. Conditions: none.
  The package's variables, as the rows list them. Conditions: none.
-/
import Derived.Test.YtfgibalcdjlnhaaDoorRows
import Derived.LaidLaws
import Derived.Handed
import Derived.Lib.LaidTab
import Derived.Stop.LaidErr
import Derived.Test.YtfgibalcdjlnhaaDoorMau
section
set_option linter.unusedSimpArgs false
set_option linter.unusedVariables false
namespace Go.Proofs.YtfgibalcdjlnhaaDoor
open Go.RowKit Go.ChangeMaps

theorem openJ_is {st su : DS} {f : Int} {s : ByteArray} {rs : List ByteArray} (hf : 0 ≤ f ∧ f ≤ 15) (h1 : (syncR st f).1 = 0) (h2 : (syncR st f).2 = su) (h3 : (su.F f).now = s) (h4 : Recs (L s) rs) :
    openJ st f = if (forms rs).length < s.size then if (truncR su f (forms rs).length).1 ≠ 0 then ((truncR su f (forms rs).length).1, none, (truncR su f (forms rs).length).2) else (0, some ⟨f, rs, false⟩, (truncR su f (forms rs).length).2) else (0, some ⟨f, rs, false⟩, su) := by
  have e : openJ st f = _ := if_neg (by omega : ¬ (f < 0 ∨ 15 < f))
  rw [e, if_neg (by simp [h1]), h2, h3, h4.eq]
abbrev jfAB : ByteArray := ⟨#[50, 58, 97, 98, 44, 50, 57, 51, 59]⟩
abbrev jfE : ByteArray := ⟨#[48, 58, 44, 48, 59]⟩
abbrev jsX : ByteArray := ⟨#[50, 58, 97, 98, 44, 50, 57, 51, 59, 49, 58, 97, 44, 57, 56, 59]⟩
theorem dec_small {u : Nat} (h : u < 10) : Lib.decDigits u = [UInt8.ofNat (48 + u)] := by rw [Lib.decDigits, dif_pos h]
theorem dec_big {u : Nat} (h : ¬ u < 10) : Lib.decDigits u = Lib.decDigits (u / 10) ++ [UInt8.ofNat (48 + u % 10)] := by rw [Lib.decDigits, dif_neg h]
theorem itoa_nat (u : Nat) : Lib.itoa (u : Int) = Lib.decDigits u := by
  unfold Lib.itoa
  rw [if_neg (by omega)]
  rfl
theorem form_of {s : ByteArray} {n m : Nat} (hn : s.size = n) (hm : sumB s = m) : L (formB s) = Lib.decDigits n ++ 58 :: (L s ++ [44]) ++ (Lib.decDigits m ++ [59]) := by
  rw [formB_L, textW_L, intW_L, hn, hm, itoa_nat, itoa_nat]
theorem form_AB : formB ⟨#[97, 98]⟩ = jfAB := by
  apply ba_ext
  show L (formB ⟨#[97, 98]⟩) = _
  rw [form_of (n := 2) (m := 293) rfl (by decide), dec_small (by decide : 2 < 10), dec_big (by decide : ¬ 293 < 10), dec_big (by decide : ¬ 293 / 10 < 10), dec_small (by decide : 293 / 10 / 10 < 10)]
  decide
theorem form_E : formB ⟨#[]⟩ = jfE := by
  apply ba_ext
  show L (formB ⟨#[]⟩) = _
  rw [form_of (n := 0) (m := 0) rfl (by decide), dec_small (by decide : 0 < 10)]
  decide
theorem noform_98 : NoForm [49, 58, 97, 44, 57, 56, 59] := by
  intro t ht hp
  obtain ⟨p, hp⟩ := hp
  have h1 := (form_read (by omega) hp.symm).1
  have h2 : L (textW ⟨#[97]⟩) = [49, 58, 97, 44] := by
    rw [textW_L, show (ByteArray.size ⟨#[97]⟩ : Int) = ((1 : Nat) : Int) from rfl, itoa_nat, dec_small (by decide : 1 < 10)]
    decide
  have h3 := text_of (s := ⟨#[97]⟩) (r := B [49, 58, 97, 44, 57, 56, 59]) (t := [57, 56, 59]) (by rw [h2]; rfl) (by decide)
  rw [h3] at h1
  have e : t = ⟨#[97]⟩ := by injection h1 with h1; exact h1.symm
  subst e
  rw [form_of (n := 1) (m := 97) rfl (by decide), dec_small (by decide : 1 < 10), dec_big (by decide : ¬ 97 < 10), dec_small (by decide : 97 / 10 < 10)] at hp
  have h97 : L ⟨#[97]⟩ = [97] := rfl
  rw [h97] at hp
  simp at hp
theorem recs_X : Recs (L jsX) [⟨#[97, 98]⟩] := by
  refine ⟨by intro t ht; simp at ht; subst ht; decide, [49, 58, 97, 44, 57, 56, 59], ?_, noform_98⟩
  simp only [forms, form_AB]
  rfl
def jm1 : DS := (syncR DS.new 3).2
def jm2 : DS := (writeR jm1 3 0 jfAB).2
def jm3 : DS := (writeR jm2 3 9 jfE).2
def jm4 : DS := (writeR jm3 4 0 jsX).2
def jm5 : DS := (syncR jm4 4).2
def jm6 : DS := (truncR jm5 4 9).2
theorem jm_facts : ((syncR DS.new 3).1 = 0 ∧ (jm1.F 3).now = ⟨#[]⟩ ∧ (writeR jm1 3 0 jfAB).1 = 0 ∧ (writeR jm2 3 9 jfE).1 = 0 ∧ readP jm3 3 0 99 = (⟨#[50, 58, 97, 98, 44, 50, 57, 51, 59, 48, 58, 44, 48, 59]⟩, 0) ∧ (writeR jm3 4 0 jsX).1 = 0) ∧ (syncR jm4 4).1 = 0 ∧ (jm5.F 4).now = jsX ∧ (truncR jm5 4 9).1 = 0 ∧ (jm6.F 4).now.size = 9 := by
  decide +kernel
theorem jopen_some {k cm cs : Nat} {lm ls : List ME} {st su : DS} {f : Int} {js : JS} (hD : DkOk lm ls st) (hu : Up st) (hq : openJ st f = (0, some js, su)) : ObC 10 [.box 1000 0, .d (.int f)] (dsk 1000 1001 1002 1003 k cm cs lm ls st) [57, 9] (fun x o => ∃ (kk k cm cs : Nat) (lm ls : List ME), DkOk lm ls su ∧ js.Ok ∧ x = .tup [.box 57 0, .d (.int 0)] ∧ o = jrn 57 9 kk js 1000 1001 1002 1003 k cm cs lm ls su) :=
  (jopen_up hD hu f).mono fun x o h => by
    rw [hq] at h
    obtain ⟨kk, k, cm, cs, lm, ls, h1, h2 | ⟨js', h2, h3, h4, h5⟩⟩ := h
    · cases h2.1
    · cases h2
      exact ⟨kk, k, cm, cs, lm, ls, h1, h3, h4, h5⟩
theorem jappend_is {kk k cm cs : Nat} {lm ls : List ME} {st su : DS} {js ju : JS} {e : Int} {s : ByteArray} (h : js.Ok) (hD : DkOk lm ls st) (hu : Up st) (hs : s.size ≤ 1000000000) (hq : appJ js st s = (e, ju, su)) : ObC 11 [.box 1004 0, .d (.str s)] (jrn 1004 1005 kk js 1000 1001 1002 1003 k cm cs lm ls st) [] (fun x o => x = .d (.int e) ∧ JOut ju su o) :=
  (jappend_up h hD hu.ends.1 s hs).mono fun x o h => by
    rw [hq] at h
    exact h
theorem appJ_ok {js : JS} {st su : DS} {s f : ByteArray} {n : Nat} (hb : js.bad = false) (hs : s.size ≤ 20000) (hf : formB s = f) (hn : (forms js.rs).length = n) (h : n + f.size ≤ 1048576) (hw : (writeR st js.f n f).1 = 0) (hu : (writeR st js.f n f).2 = su) : appJ js st s = (0, { js with rs := js.rs ++ [s] }, su) := by
  unfold appJ
  rw [if_neg (by rw [hb]; decide), if_neg (by omega), hf, hn, if_neg (by omega), if_neg (by simp [hw]), hu]
theorem JS.Ok.add {js : JS} (h : js.Ok) {s : ByteArray} (hs : s.size ≤ 20000) (hl : (forms js.rs).length + (formB s).size ≤ 16777216) : JS.Ok { js with rs := js.rs ++ [s] } := by
  refine ⟨h.f, fun t ht => ?_, ?_⟩
  · rcases List.mem_append.1 ht with ht | ht
    · exact h.small t ht
    · simp at ht
      subst ht
      exact hs
  · show (forms (js.rs ++ [s])).length ≤ _
    rw [forms_app, List.length_append]
    simp [forms]
    omega
theorem ptrD : Tryd.prog.underlying 26 = some (.pointer 64) := Tryd.underlying26
theorem ptrJ : Tryd.prog.underlying 28 = some (.pointer 70) := Tryd.underlying28
theorem Write_is {k cm cs : Nat} {lm ls : List ME} {st su : DS} {f at_ e : Int} {s : ByteArray} (h : DkOk lm ls st) (hu : Up st) (h1 : (writeR st f at_ s).1 = e) (h2 : (writeR st f at_ s).2 = su) : ObC 14 [.box 1000 0, .d (.int f), .d (.int at_), .d (.str s)] (dsk 1000 1001 1002 1003 k cm cs lm ls st) [] (fun x o => x = .d (.int e) ∧ Out su o) := h1 ▸ h2 ▸ Write_up h hu.ends.1 f at_ s
theorem sm_1 : sumB ⟨#[]⟩ = 0 := by decide
theorem sm_2 : sumB ⟨#[97]⟩ = 97 := by decide
theorem sm_3 : sumB ⟨#[97, 98]⟩ = 293 := by decide
attribute [local irreducible] jm1 jm2 jm3 jm4 jm5 jm6 readP writeR syncR truncR crashS upS formB sumB recsOf openJ appJ
set_option maxHeartbeats 16000000 in
set_option maxRecDepth 20000 in
theorem small3_any : PureC 7 [] (· = .bool true) := by
  obtain ⟨⟨f1, f2, f3, f4, f5, f6⟩, f7, f8, f9, f10⟩ := jm_facts
  have d1 : (syncR DS.new 3).2 = jm1 := by unfold jm1; rfl
  have d2 : (writeR jm1 3 0 jfAB).2 = jm2 := by unfold jm2; rfl
  have d3 : (writeR jm2 3 9 jfE).2 = jm3 := by unfold jm3; rfl
  have d4 : (writeR jm3 4 0 jsX).2 = jm4 := by unfold jm4; rfl
  have d5 : (syncR jm4 4).2 = jm5 := by unfold jm5; rfl
  have d6 : (truncR jm5 4 9).2 = jm6 := by unfold jm6; rfl
  have u0 : Up DS.new := ⟨rfl, rfl⟩
  have u1 : Up jm1 := by rw [← d1]; exact u0.sync 3
  have u2 : Up jm2 := by rw [← d2]; exact u1.write 3 0 jfAB
  have u3 : Up jm3 := by rw [← d3]; exact u2.write 3 9 jfE
  have u4 : Up jm4 := by rw [← d4]; exact u3.write 4 0 jsX
  have o1 : openJ DS.new 3 = (0, some ⟨3, [], false⟩, jm1) := by
    rw [openJ_is (s := ⟨#[]⟩) (rs := []) (by decide) f1 d1 f2 ⟨by simp, [], rfl, noform_nil⟩]
    rfl
  have hfx : (forms [⟨#[97, 98]⟩]).length = 9 := by simp only [forms, form_AB]; rfl
  have o2 : openJ jm4 4 = (0, some ⟨4, [⟨#[97, 98]⟩], false⟩, jm6) := by
    rw [openJ_is (by decide) f7 d5 f8 recs_X, if_pos (by rw [hfx]; decide), hfx]
    rw [if_neg (by simpa using f9)]
    show (0, _, (truncR jm5 4 9).2) = _
    rw [d6]
  have a1 : appJ ⟨3, [], false⟩ jm1 ⟨#[97, 98]⟩ = (0, ⟨3, [⟨#[97, 98]⟩], false⟩, jm2) := appJ_ok (n := 0) rfl (by decide) form_AB rfl (by decide) f3 d2
  have a2 : appJ ⟨3, [⟨#[97, 98]⟩], false⟩ jm2 ⟨#[]⟩ = (0, ⟨3, [⟨#[97, 98]⟩, ⟨#[]⟩], false⟩, jm3) := appJ_ok (n := 9) rfl (by decide) form_E hfx (by decide) f4 d3
  have k1 : JS.Ok ⟨3, [⟨#[97, 98]⟩], false⟩ := ⟨by decide, by intro t ht; simp at ht; subst ht; decide, by show (forms [⟨#[97, 98]⟩]).length ≤ _; rw [hfx]; decide⟩
  have k2 : JS.Ok ⟨3, [⟨#[97, 98]⟩, ⟨#[]⟩], false⟩ := k1.add (s := ⟨#[]⟩) (by decide) (by show (forms [⟨#[97, 98]⟩]).length + _ ≤ _; rw [hfx, form_E]; decide)
  have c1 := sum_any ⟨#[]⟩ (by decide)
  have c2 := sum_any ⟨#[97]⟩ (by decide)
  have c3 := sum_any ⟨#[97, 98]⟩ (by decide)
  rw [sm_1] at c1
  rw [sm_2] at c2
  rw [sm_3] at c3
  have z4 : i64 4 := by unfold i64; omega
  have hst := sametexts_any [⟨#[97, 98]⟩] [⟨#[97, 98]⟩] (by decide)
  rw [show decide ([(⟨#[97, 98]⟩ : ByteArray)] = [⟨#[97, 98]⟩]) = true by decide] at hst
  have g1 : decide ((⟨#[50, 58, 97, 98, 44, 50, 57, 51, 59, 48, 58, 44, 48, 59]⟩ : ByteArray) = ⟨#[50, 58, 97, 98, 44, 50, 57, 51, 59, 48, 58, 44, 48, 59]⟩) = true := by decide
  have g2 : getJ [⟨#[97, 98]⟩, ⟨#[]⟩] 0 = ⟨#[97, 98]⟩ := rfl
  have g3 : decide ((⟨#[97, 98]⟩ : ByteArray) = ⟨#[97, 98]⟩) = true := by decide
  have hget := fun {kk k cm cs : Nat} {lm ls : List ME} {st : DS} => jget_any (kk := kk) (k := k) (cm := cm) (cs := cs) (lm := lm) (ls := ls) (st := st) k2 0
  rw [g2] at hget
  refine pure_enter Tryd.func7 rfl (by decide) _ Tryd.ntmps7 (le_ok rfl) (fun w Pr hE => ?_)
  dsimp only [slotsOf, Nat.zero_add, Nat.reduceAdd]
  repeat' (first | (apply at_call; refine k_ocall [(4, 40), (1, 41), (3, 42), (2, 43)] (new_any) hE ?_; rintro _ _ ⟨rfl, rfl⟩ <;> (intro _ _ h1 h2; simp only [renEqs, Nat.reduceBEq, renL_app, renL_ds, renL_und] at h1 h2; subst h1 h2)) | (apply at_op (.binOp .eql _ _ _ _); first | refine al_y (y_boxnil rfl ptrD) (lt_ok rfl) ?_ | refine al_y (y_boxnil rfl ptrJ) (lt_ok rfl) ?_) | (apply at_call; refine k_ocall [(1000, 40), (1001, 41), (1002, 42), (1003, 43), (57, 50), (9, 51)] (jopen_some DS.new_ok u0 o1) hE ?_; rintro _ _ ⟨kk1, k1', cm1, cs1, lm1, ls1, hD1, hj1, rfl, rfl⟩ <;> (intro _ _ h1 h2; simp only [renEqs, Nat.reduceBEq, renL_app, renL_ds, renL_und] at h1 h2; subst h1 h2)) | (apply at_call; refine k_ocall [(1000, 40), (1001, 41), (1002, 42), (1003, 43), (1004, 50), (1005, 51)] (jappend_is hj1 hD1 u1 (by decide) a1) hE ?_; rintro _ _ ⟨rfl, kk2, k2', cm2, cs2, lm2, ls2, hD2, rfl⟩ <;> (intro _ _ h1 h2; simp only [renEqs, Nat.reduceBEq, renL_app, renL_ds, renL_und] at h1 h2; subst h1 h2)) | (apply at_call; refine k_ocall [(1000, 40), (1001, 41), (1002, 42), (1003, 43), (1004, 50), (1005, 51)] (jappend_is k1 hD2 u2 (by decide) a2) hE ?_; rintro _ _ ⟨rfl, kk3, k3', cm3, cs3, lm3, ls3, hD3, rfl⟩ <;> (intro _ _ h1 h2; simp only [renEqs, Nat.reduceBEq, renL_app, renL_ds, renL_und] at h1 h2; subst h1 h2)) | (apply at_call; refine k_ocall [(1000, 40), (1001, 41), (1002, 42), (1003, 43)] (smR hD3 (by unfold i64; omega) f5) hE ?_; rintro _ _ ⟨rfl, rfl⟩ <;> (intro _ _ h1 h2; simp only [renEqs, Nat.reduceBEq, renL_app, renL_ds, renL_und] at h1 h2; subst h1 h2)) | apply aw_seq | apply aw_region | apply al_nil | apply aq_np | apply aq_then | apply aq_then_x | apply aq_then_r | apply aw_skip | apply aw_exit | apply aw_ret | (apply at_op (.move _); refine r_move ?_) | (apply at_op (.assign _); refine r_assign ?_) | (apply at_cond; first | refine c_t ?_ | refine c_f ?_ | (refine aw_cond rfl (fun hb => ?_) (fun hb => ?_) <;> ((first | have hq := of_decide_eq_true hb | have hq := of_decide_eq_false hb | have hq := dNT hb | have hq := dNF hb | skip); (try (exfalso; omega))))) | (apply at_op (.binOp .eql _ _ _ _); refine r_eql ?_) | (apply at_op (.extract _ _); refine r_extract ?_))
  repeat' (first | (apply at_op (.binOp .eql _ _ _ _); first | refine al_y (y_boxnil rfl ptrD) (lt_ok rfl) ?_ | refine al_y (y_boxnil rfl ptrJ) (lt_ok rfl) ?_) | (apply at_call; refine k_ocall [(1000, 40), (1001, 41), (1002, 42), (1003, 43)] (Write_is hD3 u3 f6 d4) hE ?_; rintro _ _ ⟨rfl, k4', cm4, cs4, lm4, ls4, hD4, rfl⟩ <;> (intro _ _ h1 h2; simp only [renEqs, Nat.reduceBEq, renL_app, renL_ds, renL_und] at h1 h2; subst h1 h2)) | (apply at_call; refine k_ocall [(1000, 40), (1001, 41), (1002, 42), (1003, 43), (57, 52), (9, 53)] (jopen_some hD4 u4 o2) hE ?_; rintro _ _ ⟨kk5, k5', cm5, cs5, lm5, ls5, hD5, hj5, rfl, rfl⟩ <;> (intro _ _ h1 h2; simp only [renEqs, Nat.reduceBEq, renL_app, renL_ds, renL_und] at h1 h2; subst h1 h2)) | apply aw_seq | apply aw_region | apply al_nil | apply aq_np | apply aq_then | apply aq_then_x | apply aq_then_r | apply aw_skip | apply aw_exit | apply aw_ret | (apply at_op (.move _); refine r_move ?_) | (apply at_op (.assign _); refine r_assign ?_) | (apply at_cond; first | refine c_t ?_ | refine c_f ?_ | (refine aw_cond rfl (fun hb => ?_) (fun hb => ?_) <;> ((first | have hq := of_decide_eq_true hb | have hq := of_decide_eq_false hb | have hq := dNT hb | have hq := dNF hb | skip); (try (exfalso; omega))))) | (apply at_op (.binOp .eql _ _ _ _); refine r_eql ?_) | (apply at_op (.extract _ _); refine r_extract ?_))
  have hsz := size_any (k := k5') (cm := cm5) (cs := cs5) hD5 z4
  rw [f10] at hsz
  have done0 := True.intro
  repeat' (first | (have _ := done2; apply at_call; refine k_call c3 hE ?_; rintro _ rfl) | (have _ := done1; apply at_call; refine k_call c2 hE ?_; rintro _ rfl; clear done1; have done2 := True.intro) | (have _ := done0; apply at_call; refine k_call c1 hE ?_; rintro _ rfl; clear done0; have done1 := True.intro) | (apply at_call; refine k_ocall [(1000, 40), (1001, 41), (1002, 42), (1003, 43), (1004, 50), (1005, 51)] (jlen_any k2) hE ?_; rintro _ _ ⟨rfl, rfl⟩ <;> (intro _ _ h1 h2; simp only [renEqs, Nat.reduceBEq, renL_app, renL_ds, renL_und] at h1 h2; subst h1 h2)) | (apply at_call; refine k_ocall [(1000, 40), (1001, 41), (1002, 42), (1003, 43), (1004, 50), (1005, 51)] (hget) hE ?_; rintro _ _ ⟨rfl, rfl⟩ <;> (intro _ _ h1 h2; simp only [renEqs, Nat.reduceBEq, renL_app, renL_ds, renL_und] at h1 h2; subst h1 h2)) | (apply at_call; refine k_ocall [(1000, 40), (1001, 41), (1002, 42), (1003, 43), (1004, 52), (1005, 53), (9, 80)] (jall_any hj5) hE ?_; rintro _ _ ⟨rfl, rfl⟩ <;> (intro _ _ h1 h2; simp only [renEqs, Nat.reduceBEq, renL_app, renL_ds, renL_und] at h1 h2; subst h1 h2)) | (apply at_call; refine k_call (hst) hE ?_; rintro _ rfl) | (apply at_call; refine k_ocall [(1000, 40), (1001, 41), (1002, 42), (1003, 43)] (hsz) hE ?_; rintro _ _ ⟨rfl, rfl⟩ <;> (intro _ _ h1 h2; simp only [renEqs, Nat.reduceBEq, renL_app, renL_ds, renL_und] at h1 h2; subst h1 h2)) | apply aw_seq | apply aw_region | apply al_nil | apply aq_np | apply aq_then | apply aq_then_x | apply aq_then_r | apply aw_skip | apply aw_exit | apply aw_ret | (apply at_op (.move _); refine r_move ?_) | (apply at_op (.assign _); refine r_assign ?_) | (apply at_cond; first | refine c_t ?_ | refine c_f ?_ | (refine aw_cond rfl (fun hb => ?_) (fun hb => ?_) <;> ((first | have hq := of_decide_eq_true hb | have hq := of_decide_eq_false hb | have hq := dNT hb | have hq := dNF hb | skip); (try (exfalso; omega))))) | (apply at_guard; first | refine g_go ?_ | refine g_nt ?_ | refine g_nf ?_ | refine g_nu ?_ | ((first | refine al_split_t rfl rfl (lt_ok rfl) (fun hb => ?_) (fun hb => ?_) | refine al_split_f rfl rfl (lt_ok rfl) (fun hb => ?_) (fun hb => ?_)) <;> ((first | have hq := of_decide_eq_true hb | have hq := of_decide_eq_false hb | have hq := dNT hb | have hq := dNF hb | skip); (try (exfalso; omega))))) | (apply at_op (.pick _ _ _); refine r_pick ?_) | (apply at_op (.binOp .eql _ _ _ _); refine r_eql ?_) | (apply at_op (.buildSlice _ _ _); refine r_lits ?_))
  refine ret_one (by rfl) (by first | exact ToD.d _ | exact ToD.row _ _ _ _ _ rfl) ?_
  rfl
end Go.Proofs.YtfgibalcdjlnhaaDoor
end
section
namespace Go.Proofs.YtfgibalcdjlnhaaDoor
open Go.RowKit

/-- some bytes are 0 now, or missing at the end -/
def Zd (c l : List UInt8) : Prop := c.length ≤ l.length ∧ ∀ (i : Nat) (x : UInt8), c[i]? = some x → l[i]? = some x ∨ x = 0
theorem Zd.refl (l : List UInt8) : Zd l l := ⟨Nat.le_refl _, fun _ _ h => .inl h⟩
theorem Zd.drop {a b c l : List UInt8} (h : Zd (a ++ c) (b ++ l)) (hab : a.length = b.length) : Zd c l := by
  refine ⟨?_, fun i x hx => ?_⟩
  · have := h.1
    simp only [List.length_append] at this
    omega
  · have := h.2 (a.length + i) x (by rw [List.getElem?_append_right (by omega)]; simpa using hx)
    rw [List.getElem?_append_right (by omega), ← hab] at this
    simpa using this
theorem Zd.left {a b c l : List UInt8} (h : Zd (a ++ c) (b ++ l)) (hab : a.length = b.length) : Zd a b := by
  refine ⟨by omega, fun i x hx => ?_⟩
  have hi : i < a.length := (List.getElem?_eq_some_iff.1 hx).1
  have := h.2 i x (by rw [List.getElem?_append_left hi]; exact hx)
  rw [List.getElem?_append_left (by omega)] at this
  exact this
/-- what has no 0 stands there still -/
theorem Zd.same {a c l : List UInt8} (h : Zd (a ++ c) l) (ha : ∀ x ∈ a, x ≠ 0) : a <+: l := by
  rw [List.prefix_iff_getElem?]
  intro i hi
  have := h.2 i a[i] (by rw [List.getElem?_append_left hi, List.getElem?_eq_getElem hi])
  exact this.resolve_right (ha _ (List.getElem_mem hi))
theorem pre_sep {a b l : List UInt8} {c : UInt8} (ha : c ∉ a) (hb : c ∉ b) (h1 : a ++ [c] <+: l) (h2 : b ++ [c] <+: l) : a = b := by
  obtain ⟨p, hp⟩ := h1
  obtain ⟨q, hq⟩ := h2
  rw [List.append_assoc] at hp hq
  have e1 := index_first (t := p) ha
  have e2 := index_first (t := q) hb
  have e : Lib.indexByte l c = a.length := by rw [← hp]; exact e1
  have e' : Lib.indexByte l c = b.length := by rw [← hq]; exact e2
  have hl : a.length = b.length := by omega
  have h3 : a = l.take a.length := by rw [← hp]; exact (List.take_left' rfl).symm
  have h4 : b = l.take b.length := by rw [← hq]; exact (List.take_left' rfl).symm
  rw [h3, h4, hl]
theorem itoa_inj {m n : Int} (hm : isInt m) (hn : isInt n) (h : Lib.itoa m = Lib.itoa n) : m = n := by
  have h1 := atoi_itoa hm
  rw [h, atoi_itoa hn] at h1
  injection h1 with h1
  exact h1.symm
theorem itoa_nz {n : Int} {c : UInt8} (hc : Sep c) (hc0 : c ≠ 0) : ∀ x ∈ Lib.itoa n ++ [c], x ≠ 0 := by
  intro x hx e
  subst e
  rcases List.mem_append.1 hx with h | h
  · rcases itoa_mem h with h | h
    · exact absurd h (by decide)
    · exact absurd h.1 (by decide)
  · simp at h
    exact hc0 h.symm
/-- the sum without its modulus -/
def rawS : List UInt8 → Nat → Nat
  | [], _ => 0
  | c :: r, i => c.toNat * (i + 1) + rawS r (i + 1)
theorem sum_raw : ∀ (l : List UInt8) (i n : Nat), n + rawS l i < 2147483647 → sumL l i n = n + rawS l i
  | [], _, _, _ => rfl
  | c :: r, i, n, h => by
    simp only [rawS, sumL] at h ⊢
    rw [Nat.mod_eq_of_lt (by omega), sum_raw r (i + 1) _ (by omega)]
    omega
theorem raw_le : ∀ (l : List UInt8) (i m : Nat), i + l.length ≤ m → rawS l i ≤ l.length * (255 * m)
  | [], _, _, _ => Nat.zero_le _
  | c :: r, i, m, h => by
    simp only [rawS, List.length_cons] at h ⊢
    have h1 := raw_le r (i + 1) m (by omega)
    have h2 : c.toNat * (i + 1) ≤ 255 * m := Nat.mul_le_mul (by have := c.toNat_lt; omega) (by omega)
    rw [Nat.add_mul]
    omega
theorem raw_eq : ∀ {u t : List UInt8} {i : Nat}, u.length = t.length → Zd u t → rawS u i ≤ rawS t i ∧ (rawS u i = rawS t i → u = t)
  | [], [], _, _, _ => ⟨Nat.le_refl _, fun _ => rfl⟩
  | [], _ :: _, _, h, _ => by simp at h
  | _ :: _, [], _, h, _ => by simp at h
  | a :: u, b :: t, i, h, hz => by
    have hz2 : Zd u t := Zd.drop (a := [a]) (b := [b]) hz rfl
    obtain ⟨h1, h2⟩ := raw_eq (i := i + 1) (by simpa using h) hz2
    have h3 := hz.2 0 a rfl
    simp only [rawS]
    rcases h3 with h3 | h3
    · simp at h3
      subst h3
      exact ⟨by omega, fun e => by rw [h2 (by omega)]⟩
    · subst h3
      have h0 : (0 : UInt8).toNat = 0 := rfl
      rw [h0, Nat.zero_mul]
      refine ⟨by omega, fun e => ?_⟩
      have hb : b.toNat * (i + 1) = 0 := by omega
      have hb : b.toNat = 0 := by
        rcases Nat.mul_eq_zero.1 hb with h | h
        · exact h
        · omega
      have hb : b = 0 := by
        apply UInt8.toNat_inj.1
        exact hb
      rw [hb, h2 (by omega)]
theorem sumB_raw {t : ByteArray} (h : t.size ≤ 200) : sumB t = rawS (L t) 0 := by
  show sumL (L t) 0 0 = _
  have h1 := raw_le (L t) 0 200 (by rw [L_len]; omega)
  rw [L_len] at h1
  have h2 : t.size * (255 * 200) ≤ 200 * (255 * 200) := Nat.mul_le_mul_right _ h
  rw [sum_raw _ _ _ (by omega)]
  omega
theorem form_parts (t : ByteArray) (q : List UInt8) : L (formB t) ++ q = (Lib.itoa t.size ++ [58]) ++ (L t ++ ([44] ++ ((Lib.itoa (sumB t) ++ [59]) ++ q))) := by
  rw [formB_L, textW_L, intW_L]
  simp
/-- A form that stands in a string of which bytes are 0 now stood there before. -/
theorem zd_form {t u : ByteArray} {c q : List UInt8} (ht : t.size ≤ 200) (hu : u.size ≤ 20000) (hz : Zd c (L (formB t) ++ q)) (hp : L (formB u) <+: c) : u = t := by
  obtain ⟨p, rfl⟩ := hp
  rw [form_parts, form_parts] at hz
  have h1 := hz.same (itoa_nz sep58 (by decide))
  have h2 : Lib.itoa t.size ++ [58] <+: (Lib.itoa t.size ++ [58]) ++ (L t ++ ([44] ++ ((Lib.itoa (sumB t) ++ [59]) ++ q))) := List.prefix_append _ _
  have e1 := itoa_inj (by unfold isInt; omega) (by unfold isInt; omega) (pre_sep (sep_not sep58) (sep_not sep58) h1 h2)
  have hsz : u.size = t.size := by omega
  have hz1 := hz.drop (by rw [hsz])
  have hl : (L u).length = (L t).length := by rw [L_len, L_len, hsz]
  have hz2 := hz1.left hl
  have hz3 := (hz1.drop hl).drop rfl
  have h3 := hz3.same (itoa_nz sep59 (by decide))
  have h4 : Lib.itoa (sumB t) ++ [59] <+: (Lib.itoa (sumB t) ++ [59]) ++ q := List.prefix_append _ _
  have e2 := itoa_inj (sum_int u) (sum_int t) (pre_sep (sep_not sep59) (sep_not sep59) h3 h4)
  have e3 : rawS (L u) 0 = rawS (L t) 0 := by
    rw [← sumB_raw ht, ← sumB_raw (by omega)]
    omega
  exact ba_ext ((raw_eq hl hz2).2 e3)
theorem formB_pos (t : ByteArray) (h : t.size ≤ 20000) : 5 ≤ (L (formB t)).length := by
  have := formB_size t (by omega)
  rw [L_len]
  omega
/-- The records of what is left are a beginning of those that there were. -/
theorem zd_recs : ∀ {l rs : List ByteArray} {c : List UInt8}, (∀ t ∈ l, t.size ≤ 200) → Zd c (forms l) → Recs c rs → rs <+: l
  | l, [], _, _, _, _ => List.nil_prefix
  | [], u :: us, c, _, hz, hr => by
    obtain ⟨q, hc, _⟩ := hr.rest
    have := formB_pos u (hr.small u (by simp))
    have h1 := hz.1
    rw [hc] at h1
    simp only [forms, List.length_append, List.length_nil] at h1
    omega
  | t :: l, u :: us, c, hl, hz, hr => by
    obtain ⟨q, hc, hq⟩ := hr.rest
    have hc2 : c = L (formB u) ++ (forms us ++ q) := by rw [hc]; simp [forms]
    have e : u = t := zd_form (hl t (by simp)) (hr.small u (by simp)) hz ⟨_, hc2.symm⟩
    subst e
    rw [hc2] at hz
    have hz2 : Zd (forms us ++ q) (forms l) := hz.drop rfl
    have := zd_recs (fun x hx => hl x (by simp [hx])) hz2 ⟨fun x hx => hr.small x (by simp [hx]), q, rfl, hq⟩
    exact (List.prefix_cons_inj u).2 this
theorem recs_pre {l rs : List ByteArray} {c : List UInt8} (hl : ∀ t ∈ l, t.size ≤ 20000) (h : forms l <+: c) (hr : Recs c rs) : l <+: rs := by
  obtain ⟨q, rfl⟩ := h
  have h2 := recsOf_is q
  obtain ⟨p, h3, h4⟩ := h2.rest
  have h5 : Recs (forms l ++ q) (l ++ recsOf q) := by
    refine ⟨fun x hx => ?_, p, by rw [forms_app, List.append_assoc, ← h3], h4⟩
    rcases List.mem_append.1 hx with hx | hx
    · exact hl x hx
    · exact h2.small x hx
  exact ⟨recsOf q, h5.uniq hr⟩
theorem recs_forms {l : List ByteArray} (hl : ∀ t ∈ l, t.size ≤ 20000) : Recs (forms l) l := ⟨hl, [], by simp, noform_nil⟩
end Go.Proofs.YtfgibalcdjlnhaaDoor
end
section
namespace Go.Proofs.YtfgibalcdjlnhaaDoor
open Go.RowKit Go.ChangeMaps

def bt (s : ByteArray) (i : Nat) : UInt8 := (s.data.toList[i]?).getD 0
theorem bt_out {s : ByteArray} {i : Nat} (h : s.size ≤ i) : bt s i = 0 := by
  have := Lib.size_eq s
  simp [bt, List.getElem?_eq_none (by omega : s.data.toList.length ≤ i)]
theorem bt_in {s : ByteArray} {i : Nat} (h : i < s.size) : s.data.toList[i]? = some (bt s i) := by
  have := Lib.size_eq s
  have h2 : i < s.data.toList.length := by omega
  simp [bt, List.getElem?_eq_getElem h2]
theorem splice_get {l m : List UInt8} {o i : Nat} (h : o + m.length ≤ l.length) : (splice l o m)[i]? = if o ≤ i ∧ i < o + m.length then m[i - o]? else l[i]? := by
  unfold splice
  rw [List.append_assoc]
  by_cases h1 : i < o
  · rw [List.getElem?_append_left (by simp; omega), List.getElem?_take, if_pos h1, if_neg (by omega)]
  · rw [List.getElem?_append_right (by simp; omega)]
    have e : (l.take o).length = o := by simp; omega
    rw [e]
    by_cases h2 : i - o < m.length
    · rw [List.getElem?_append_left h2, if_pos (by omega)]
    · rw [List.getElem?_append_right (by omega), List.getElem?_drop, if_neg (by omega)]
      congr 1
      omega
theorem bt_put (s : ByteArray) (at_ : Nat) (t : ByteArray) (i : Nat) : bt (putB s at_ t) i = if at_ ≤ i ∧ i < at_ + t.size then bt t (i - at_) else bt s i := by
  have h1 := Lib.size_eq s
  have h2 := Lib.size_eq t
  unfold putB
  by_cases h0 : t.size = 0
  · rw [if_pos h0, if_neg (by omega)]
  · rw [if_neg h0]
    have e1 : (List.replicate (max s.size (at_ + t.size)) (0 : UInt8)).length = max s.size (at_ + t.size) := by simp
    have e2 : (splice (List.replicate (max s.size (at_ + t.size)) 0) 0 s.data.toList).length = max s.size (at_ + t.size) := by rw [splice_len] <;> simp <;> omega
    show ((splice _ _ _)[i]?).getD 0 = _
    rw [splice_get (by rw [e2]; omega), ← h2]
    by_cases hc : at_ ≤ i ∧ i < at_ + t.size
    · rw [if_pos hc, if_pos hc]
      rfl
    · rw [if_neg hc, if_neg hc, splice_get (by rw [e1]; omega), ← h1]
      by_cases hi : i < s.size
      · rw [if_pos (by omega), Nat.sub_zero]
        rfl
      · rw [if_neg (by omega), bt_out (by omega)]
        rw [List.getElem?_replicate]
        split <;> rfl
end Go.Proofs.YtfgibalcdjlnhaaDoor
end
section
namespace Go.Proofs.YtfgibalcdjlnhaaDoor
open Go.RowKit

theorem L_bt {s : ByteArray} {i : Nat} (h : i < s.size) : (L s)[i]? = some (bt s i) := bt_in h
theorem put_end (s t : ByteArray) : L (putB s s.size t) = L s ++ L t := by
  by_cases h0 : t.size = 0
  · have : t = ⟨#[]⟩ := empty_of h0
    subst this
    have e : putB s s.size ⟨#[]⟩ = s := if_pos rfl
    rw [e]
    exact (List.append_nil _).symm
  · have hz := putB_size (s := s) (at_ := s.size) (t := t)
    rw [if_neg h0] at hz
    apply List.ext_getElem?
    intro i
    by_cases hi : i < s.size + t.size
    · rw [L_bt (by omega), bt_put]
      by_cases h1 : i < s.size
      · rw [if_neg (by omega), List.getElem?_append_left (by rw [L_len]; exact h1), L_bt h1]
      · rw [if_pos (by omega), List.getElem?_append_right (by rw [L_len]; omega), L_len, L_bt (by omega)]
    · rw [List.getElem?_eq_none (by rw [L_len]; omega), List.getElem?_eq_none (by rw [List.length_append, L_len, L_len]; omega)]
theorem upd_F {st : DS} (f : Int) (s : ByteArray) : (settleS st f s).F f = ⟨s, s⟩ := by
  unfold settleS
  simp only [upd_same]
theorem settle_pend (st : DS) (f : Int) (s : ByteArray) : ∀ p ∈ (settleS st f s).Q, p.1 ≠ f := by
  intro p hp
  have := (List.mem_filter.1 hp).2
  simpa using this
end Go.Proofs.YtfgibalcdjlnhaaDoor
end
section
namespace Go.Proofs.YtfgibalcdjlnhaaDoor
open Go.RowKit

theorem sync_plain {st : DS} {f : Int} (hu : Up st) (hl : st.lost = 0) (hf : 0 ≤ f ∧ f ≤ 15) : syncR st f = (0, settleS st f (st.F f).now) := by
  unfold syncR
  rw [hu.ends.1, hu.ends.2, if_neg (by decide), if_neg (by simp [hu.may hf]), if_neg (by omega)]
theorem trunc_plain {st : DS} {f n : Int} (hu : Up st) (hf : 0 ≤ f ∧ f ≤ 15) (h : 0 ≤ n ∧ n ≤ (st.F f).now.size) : truncR st f n = (0, settleS st f ((st.F f).now.extract 0 n.toNat)) := by
  unfold truncR
  rw [hu.ends.1, hu.ends.2, if_neg (by decide), if_neg (by simp [hu.may hf]), if_neg (by omega)]
theorem settle_other {st : DS} {f g : Int} (h : g ≠ f) (s : ByteArray) : (settleS st f s).F g = st.F g := by
  unfold settleS
  exact upd_ne _ _ h
/-- Open, where nothing fails -/
theorem open_plain {st : DS} {f : Int} (hu : Up st) (hl : st.lost = 0) (hf : 0 ≤ f ∧ f ≤ 15) :
    ∃ su, openJ st f = (0, some ⟨f, recsOf (L (st.F f).now), false⟩, su) ∧ L (su.F f).now = forms (recsOf (L (st.F f).now)) ∧ (su.F f).last = (su.F f).now ∧ Up su ∧ su.lost = 0 ∧ (∀ g, g ≠ f → su.F g = st.F g) ∧ ∀ p ∈ su.Q, p.1 ≠ f := by
  have hs := sync_plain hu hl hf
  have hR := recsOf_is (L (st.F f).now)
  have hle := hR.le
  rw [L_len] at hle
  have hF : (settleS st f (st.F f).now).F f = ⟨(st.F f).now, (st.F f).now⟩ := upd_F f _
  have h2 : (syncR st f).2 = settleS st f (st.F f).now := by rw [hs]
  have hO := openJ_is (rs := recsOf (L (st.F f).now)) hf (by rw [hs]) h2 (by rw [hF]) hR
  generalize recsOf (L (st.F f).now) = rs at hR hle hO ⊢
  by_cases hlt : (forms rs).length < (st.F f).now.size
  · have ht := trunc_plain (st := settleS st f (st.F f).now) (n := (forms rs).length) ⟨hu.1, hu.2⟩ hf (by rw [hF]; show 0 ≤ ((forms rs).length : Int) ∧ ((forms rs).length : Int) ≤ (st.F f).now.size; omega)
    rw [if_pos hlt, ht, if_neg (by simp)] at hO
    refine ⟨_, hO, ?_, by rw [upd_F], ⟨hu.1, hu.2⟩, hl, fun g hg => by rw [settle_other hg, settle_other hg], settle_pend _ _ _⟩
    rw [upd_F, hF]
    show L ((st.F f).now.extract 0 ((forms rs).length : Int).toNat) = _
    rw [Int.toNat_natCast]
    have : L ((st.F f).now.extract 0 (forms rs).length) = (L (st.F f).now).take (forms rs).length := ext_list _ _
    obtain ⟨q, h1, _⟩ := hR.rest
    rw [this, h1, List.take_left' rfl]
  · rw [if_neg hlt] at hO
    refine ⟨_, hO, ?_, by rw [upd_F], ⟨hu.1, hu.2⟩, hl, fun g hg => settle_other hg _, settle_pend _ _ _⟩
    rw [upd_F]
    obtain ⟨q, h1, _⟩ := hR.rest
    have h3 : q.length = 0 := by
      have := congrArg List.length h1
      rw [L_len, List.length_append] at this
      omega
    show L (st.F f).now = _
    rw [h1, List.eq_nil_of_length_eq_zero h3, List.append_nil]
theorem write_new {s : ByteArray} {f : Int} (hf : 0 ≤ f ∧ f ≤ 15) (hs : s.size ≤ 16777216) {st : DS} (hu : Up st) (hl : st.lost = 0) (h0 : (st.F f).now = ⟨#[]⟩) : (writeR st f 0 s).1 = 0 ∧ Up (writeR st f 0 s).2 ∧ (writeR st f 0 s).2.lost = 0 ∧ ((writeR st f 0 s).2.F f).now = s := by
  have hw : wrE st f 0 s = 0 := by
    unfold wrE
    rw [if_neg (by simp [hu.may hf]), if_neg (by omega), if_neg (by omega)]
  refine ⟨?_, hu.write _ _ _, ?_, ?_⟩ <;> unfold writeR <;> rw [hu.ends.1, hu.ends.2, if_neg (by decide)]
  · exact hw
  · show (wrS st f 0 s).lost = 0
    unfold wrS
    split <;> exact hl
  · show ((wrS st f 0 s).F f).now = s
    unfold wrS
    by_cases h : s.size = 0
    · rw [if_pos (.inr h), h0, empty_of h]
    · rw [if_neg (by simp [hw, h])]
      show (upd st.F f _ f).now = s
      rw [upd_same, h0]
      have := put_end ⟨#[]⟩ s
      exact ba_ext this
theorem read_all {st : DS} {f : Int} (hu : Up st) (hf : 0 ≤ f ∧ f ≤ 15) : readP st f 0 (st.F f).now.size = ((st.F f).now, 0) := by
  unfold readP
  rw [if_neg (by simp [hu.may hf]), if_neg (by omega)]
  generalize (st.F f).now = s
  have h1 := Lib.size_eq s
  congr 1
  apply ba_ext
  unfold cutB
  rw [show (min (0 : Int) s.size).toNat = 0 by omega, show (min ((0 : Int) + s.size) s.size).toNat = s.size by omega]
  rw [ext_list, List.take_of_length_le (by omega)]
end Go.Proofs.YtfgibalcdjlnhaaDoor
end
section
namespace Go.Proofs.YtfgibalcdjlnhaaDoor
open Go.RowKit

/-- Append, where nothing fails -/
theorem app_plain {js : JS} {st : DS} {s : ByteArray} (hb : js.bad = false) (hu : Up st) (hf : 0 ≤ js.f ∧ js.f ≤ 15) (hn : L (st.F js.f).now = forms js.rs) (hs : s.size ≤ 20000) (hl : (forms js.rs).length + (formB s).size ≤ 1048576) :
    ∃ su, appJ js st s = (0, { js with rs := js.rs ++ [s] }, su) ∧ Up su ∧ su.lost = st.lost ∧ L (su.F js.f).now = forms (js.rs ++ [s]) ∧ (∀ g, g ≠ js.f → su.F g = st.F g) ∧ (su.F js.f).last = (st.F js.f).last := by
  have hfz := formB_size s (by omega)
  have hw : wrE st js.f (forms js.rs).length (formB s) = 0 := by
    unfold wrE
    rw [if_neg (by simp [hu.may hf]), if_neg (by omega), if_neg (by omega)]
  have hW : writeR st js.f (forms js.rs).length (formB s) = (0, wrS st js.f (forms js.rs).length (formB s)) := by
    unfold writeR
    rw [hu.ends.1, hu.ends.2, if_neg (by decide), hw]
  have e : wrS st js.f (forms js.rs).length (formB s) = { st with F := upd st.F js.f ⟨putB (st.F js.f).now (forms js.rs).length (formB s), (st.F js.f).last⟩, Q := addSecs js.f (touch (forms js.rs).length (formB s)) (((forms js.rs).length : Int) / 64) st.Q } := by
    unfold wrS
    rw [if_neg (by rintro (h | h); exact h hw; omega), Int.toNat_natCast]
  refine ⟨_, appJ_ok hb hs rfl rfl hl (by rw [hW]) (by rw [hW]), ?_, ?_, ?_, fun g hg => ?_, ?_⟩
  · rw [e]
    exact hu
  · rw [e]
  · rw [e]
    have hz : (forms js.rs).length = (st.F js.f).now.size := by rw [← hn, L_len]
    show L (upd st.F js.f _ js.f).now = _
    rw [upd_same]
    show L (putB (st.F js.f).now (forms js.rs).length (formB s)) = _
    rw [hz, put_end, hn, forms_app]
    simp [forms]
  · rw [e]
    exact upd_ne _ _ hg
  · rw [e]
    show (upd st.F js.f _ js.f).last = _
    rw [upd_same]
theorem forms_bd : ∀ l : List ByteArray, (∀ t ∈ l, t.size ≤ 200) → (forms l).length ≤ 243 * l.length
  | [], _ => Nat.le_refl _
  | t :: l, h => by
    have h1 := formB_size t (by have := h t (by simp); omega)
    have h0 := h t (by simp)
    have h2 := forms_bd l (fun x hx => h x (by simp [hx]))
    simp only [forms, List.length_append, List.length_cons, L_len]
    omega
theorem Zd.set {c l : List UInt8} (h : Zd c l) (i : Nat) : Zd (c.set i 0) l := by
  refine ⟨by rw [List.length_set]; exact h.1, fun j x hx => ?_⟩
  rw [List.getElem?_set] at hx
  split at hx
  · split at hx
    · cases hx
      exact .inr rfl
    · cases hx
  · exact h.2 j x hx
theorem Zd.take {c l : List UInt8} (h : Zd c l) (n : Nat) : Zd (c.take n) l := by
  refine ⟨by rw [List.length_take]; have := h.1; omega, fun j x hx => ?_⟩
  rw [List.getElem?_take] at hx
  split at hx
  · exact h.2 j x hx
  · cases hx
/-- the records of what is left are the first ones -/
theorem torn_recs {l : List ByteArray} {c : List UInt8} {n : Nat} (hl : ∀ t ∈ l, t.size ≤ 200) (hz : Zd c (forms l)) (hn : n ≤ l.length) (h1 : forms (l.take n) <+: c) (h2 : n < l.length → ¬ forms (l.take (n + 1)) <+: c) : recsOf c = l.take n := by
  have hR := recsOf_is c
  generalize recsOf c = rs at hR
  have p1 := zd_recs hl hz hR
  have p2 := recs_pre (fun t ht => by have := hl t (List.mem_of_mem_take ht); omega) h1 hR
  have hk : rs = l.take rs.length := (List.prefix_iff_eq_take.1 p1)
  have q1 := p1.length_le
  have q2 := p2.length_le
  rw [List.length_take] at q2
  have q3 : rs.length ≤ n := by
    apply Decidable.byContradiction
    intro hc
    refine h2 (by omega) ?_
    obtain ⟨q, hq, _⟩ := hR.rest
    have h3 : l.take (n + 1) <+: rs := by
      rw [hk]
      exact List.take_prefix_take_left (by omega)
    obtain ⟨u, hu⟩ := h3
    exact ⟨forms u ++ q, by rw [← List.append_assoc, ← forms_app, hu]; exact hq.symm⟩
  rw [hk, show rs.length = n by omega]
theorem forms_take_le (l : List ByteArray) (n : Nat) : (forms (l.take n)).length ≤ (forms l).length := by
  conv => rhs; rw [← List.take_append_drop n l]
  rw [forms_app, List.length_append]
  omega
theorem forms_take_pre (l : List ByteArray) (n : Nat) : forms (l.take n) <+: forms l := by
  conv => rhs; rw [← List.take_append_drop n l]
  rw [forms_app]
  exact List.prefix_append _ _
theorem bytV_zero (l : List UInt8) (q : Nat) : (bytV l).set q (.int .u8 0) = bytV (l.set q 0) := by
  simp [bytV, List.map_set]
theorem str_nums (c : List UInt8) : strOfNums (c.map fun b => (b.toNat : Int)) = B c := by
  unfold strOfNums
  rw [List.map_map]
  have : ((fun n : Int => UInt8.ofNat n.toNat) ∘ fun b : UInt8 => (b.toNat : Int)) = id := by
    funext b
    simp
  rw [this, List.map_id]
/-- where the forms of records end -/
def endsL (l : List ByteArray) (i : Nat) : List Int := (List.range i).map fun j => ((forms (l.take (j + 1))).length : Int)
theorem endsL_snoc (l : List ByteArray) (i : Nat) : endsL l (i + 1) = endsL l i ++ [((forms (l.take (i + 1))).length : Int)] := by
  unfold endsL
  rw [List.range_succ, List.map_append]
  rfl
theorem endsL_len (l : List ByteArray) (i : Nat) : (endsL l i).length = i := by simp [endsL]
theorem endsL_get (l : List ByteArray) {i j : Nat} (h : j < i) : ((endsL l i).map fun n => [D.int n])[j]? = some [D.int (forms (l.take (j + 1))).length] := by
  simp [endsL, h]
theorem take_pre {t s : ByteArray} {f : List UInt8} (hs : f <+: L s) (ht : f.length ≤ t.size) : t.extract 0 f.length = s.extract 0 f.length ↔ f <+: L t := by
  have e1 : L (t.extract 0 f.length) = (L t).take f.length := ext_list _ _
  have e2 : L (s.extract 0 f.length) = f := by
    have : L (s.extract 0 f.length) = (L s).take f.length := ext_list _ _
    rw [this]
    exact (List.prefix_iff_eq_take.1 hs).symm
  constructor
  · intro h
    rw [h, e2] at e1
    rw [e1]
    exact List.take_prefix _ _
  · intro h
    apply ba_ext
    show L _ = L _
    rw [e1, e2]
    exact (List.prefix_iff_eq_take.1 h).symm
end Go.Proofs.YtfgibalcdjlnhaaDoor
end
section
namespace Go.Proofs.YtfgibalcdjlnhaaDoor
open Go.ChangeShapes Go.WideShapes Go.ChangeAt Go.RowKit Go.Deep Go.Joins

abbrev laidL : List (String × DataW Unit) := [("math/bits.deBruijn32tab", Rows.laid_math_bits_deBruijn32tab), ("math/bits.deBruijn64tab", Rows.laid_math_bits_deBruijn64tab), ("internal/strconv.uint64pow10", Rows.laid_internal_strconv_uint64pow10), ("strconv.ErrRange", Rows.laid_strconv_ErrRange), ("strconv.ErrSyntax", Rows.laid_strconv_ErrSyntax)]
theorem gP : Tryd.prog.globalNamed "internal/strconv.uint64pow10" = some 3 := by kernel_rfl
theorem gR : Tryd.prog.globalNamed "strconv.ErrRange" = some 2 := by kernel_rfl
theorem gS : Tryd.prog.globalNamed "strconv.ErrSyntax" = some 1 := by kernel_rfl
theorem rowE : ∀ u, Tryd.prog.typeName? 3 u = some "*errors.errorString" → u = 123 := fun u h => by
  have star : "*" ++ "errors.errorString" = "*errors.errorString" := by decide
  exact typeName_ptr_named (nm := "errors.errorString") (by rw [star]; kernel_rfl) (by kernel_rfl) (by decide) u (by rw [star]; exact h)
theorem pow_data : (Rows.laid_internal_strconv_uint64pow10 : DataW Unit) = Lib.tabData .u64 Lib.pow10Tab := by
  unfold Rows.laid_internal_strconv_uint64pow10 Lib.tabData
  kernel_rfl
theorem env_cells {W : World} {Pr : Prot} {name : String} {g : Nat} {vs : List Value} {ds : List D} (hg : Tryd.prog.globalNamed name = some g) (hv : W.var? Tryd.prog name = some vs.toArray) (hP : ∀ o, Pr g o) (hl : vs.length = ds.length) (hr : ∀ (i : Nat) (v : Value) (d : D), vs[i]? = some v → ds[i]? = some d → RepD W Pr v d) :
    (∀ (j : Nat) (d : D), ds[j]? = some d → ∃ u, W.cell? ⟨g, j, none⟩ = some u ∧ Pr g j ∧ RepD W Pr u d) ∧ ∀ j, ds[j]? = none → W.cell? ⟨g, j, none⟩ = none ∧ Pr g j := by
  refine ⟨fun j d hd => ?_, fun j hd => ?_⟩
  · have hj : j < vs.length := by rw [hl]; exact (List.getElem?_eq_some_iff.1 hd).1
    refine ⟨vs[j], (World.var?_cell hg hv j).trans (by simp [hj]), hP j, hr j _ d (List.getElem?_eq_getElem hj) hd⟩
  · have hj : ds.length ≤ j := List.getElem?_eq_none_iff.1 hd
    exact ⟨(World.var?_cell hg hv j).trans (by simp; omega), hP j⟩
theorem reps_cons' {w : World} {Pr : Prot} {v : Value} {d : D} (h : RepD w Pr v d) : ∀ (i : Nat) (u : Value) (e : D), [v][i]? = some u → [d][i]? = some e → RepD w Pr u e
  | 0, _, _, h1, h2 => by cases h1; cases h2; exact h
  | i + 1, _, _, h1, _ => by simp at h1
theorem var_lt {W : World} {name : String} {g : Nat} {cs : Array Value} (hg : Tryd.prog.globalNamed name = some g) (hv : W.var? Tryd.prog name = some cs) : g < W.heap.size := by
  simp only [World.var?, hg, Option.bind_some] at hv
  cases hh : W.heap[g]? with
  | none => rw [hh] at hv; cases hv
  | some o => exact (Array.getElem?_eq_some_iff.1 hh).1
theorem env_of_laid {W : World} (h : laidMet Tryd.prog laidL W) : EnvOk W (fun b _ => b < W.heap.size) := by
  have h2 := h.tail.tail
  have hp := Lib.tabIs_of_head (t := 116) (e := 104) (n := 20) gP (by kernel_rfl) (by kernel_rfl) (by kernel_rfl) (by kernel_rfl) (by kernel_rfl) (pow_data ▸ h2)
  obtain ⟨a0, s0, hv0, -, -, -⟩ := laid_sentinel h2.tail gR (ti := 84) (by kernel_rfl) Tryd.underlying84 rowE Tryd.underlying123 Tryd.underlying125 rfl rfl Tryd.underlying9 (by kernel_rfl) (by kernel_rfl)
  obtain ⟨a1, s1, hv1, -, -, -⟩ := laid_sentinel h2.tail.tail gS (ti := 84) (by kernel_rfl) Tryd.underlying84 rowE Tryd.underlying123 Tryd.underlying125 rfl rfl Tryd.underlying9 (by kernel_rfl) (by kernel_rfl)
  intro g l hm
  unfold laidG at hm
  rcases List.mem_cons.1 hm with e | hm
  · cases e
    refine env_cells (Pr := fun b _ => b < W.heap.size) gP hp (fun _ => var_lt gP hp) (by simp) (fun i v d h1 h2 => ?_)
    rw [List.getElem?_map, h1] at h2
    cases h2
    exact .val _
  rcases List.mem_cons.1 hm with e | hm
  · cases e
    refine env_cells (Pr := fun b _ => b < W.heap.size) (vs := [_]) gS hv1 (fun _ => var_lt gS hv1) rfl (reps_cons' (.err _ _))
  rcases List.mem_cons.1 hm with e | hm
  · cases e
    refine env_cells (Pr := fun b _ => b < W.heap.size) (vs := [_]) gR hv0 (fun _ => var_lt gR hv0) rfl (reps_cons' (.err _ _))
  · cases hm
def dataVals : DataW Unit → List Value
  | .agg l => l.map fun
    | .lit (.int k z) => .int k z
    | _ => .nilFunc
  | _ => []
abbrev synS : ByteArray := { data := #[105, 110, 118, 97, 108, 105, 100, 32, 115, 121, 110, 116, 97, 120] }
abbrev rngS : ByteArray := { data := #[118, 97, 108, 117, 101, 32, 111, 117, 116, 32, 111, 102, 32, 114, 97, 110, 103, 101] }
/-- So many blocks has the settled world. -/
noncomputable def low : Nat := (World.holding Tryd.prog default ⟨#[], #[], []⟩).heap.size
def setVar (h : Array Obj) (g : Nat) (vs : List Value) : Array Obj := h.modify g fun
  | .cells _ t frozen => .cells vs.toArray t frozen
  | o => o
/-- The settled world, with the variables as they are listed. -/
noncomputable def laidWorld (os : Os) : World :=
  let w0 := World.holding Tryd.prog os ⟨#[.cells #[.string rngS] 125, .cells #[.string synS] 125], #[], []⟩
  { w0 with heap := setVar (setVar (setVar (setVar (setVar w0.heap 4 (dataVals Rows.laid_math_bits_deBruijn32tab)) 5 (dataVals Rows.laid_math_bits_deBruijn64tab)) 3 (dataVals Rows.laid_internal_strconv_uint64pow10))
      2 [.iface 123 (.pointer (some ⟨low, 0, none⟩))]) 1 [.iface 123 (.pointer (some ⟨low + 1, 0, none⟩))] }
theorem laid_met (os : Os) (args : Array Value) : laidMet Tryd.prog laidL ((laidWorld os).forCall (fun _ _ => 0) ⟨#[], args, []⟩).memory :=
  laidMet_of_run (ps := (List.range 32).map (MemPlace.cell 4) ++ (List.range 64).map (MemPlace.cell 5) ++ (List.range 20).map (MemPlace.cell 3) ++ [.cell 2 0, .cell low 0, .cell 1 0, .cell (low + 1) 0]) 8 (by kernel_rfl) (by kernel_rfl) (by kernel_rfl)
/-- What a walk of a law over abstract values says of a call. -/
theorem law_call {f : FuncId} {ds : List D} {w : World} {vs : List Value} (h : PureC f ds (· = .bool true)) (hL : laidMet Tryd.prog laidL w) (hl : vs.length = ds.length)
    (hr : ∀ (i : Nat) (v : Value) (d : D), vs[i]? = some v → ds[i]? = some d → RepD w (fun b _ => b < w.heap.size) v d) :
    Calls Tryd.prog f vs.toArray w fun e w' => e = .returned (.bool true) ∧ Below w.heap.size w w' := by
  refine (h.2 w (fun b _ => b < w.heap.size) vs (fun _ _ h => h) (env_of_laid hL) hl hr).mono fun e w' ⟨v, r, he, hp, hrep, hb⟩ => ?_
  subst hp
  cases hrep
  exact ⟨he, hb⟩
end Go.Proofs.YtfgibalcdjlnhaaDoor
end
