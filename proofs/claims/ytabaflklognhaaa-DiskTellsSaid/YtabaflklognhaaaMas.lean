/-
  A disk: Write, Sync, Truncate, Copy. Conditions: none.
  A disk: Copy; acts. Conditions: none.
-/
import Derived.Test.YtabaflklognhaaaMar
section
set_option linter.unusedSimpArgs false
set_option linter.unusedVariables false
namespace Go.Proofs.Ytabaflklognhaaa
open Go.RowKit Go.ChangeMaps

def syncR (st : DS) (f : Int) : Int × DS :=
  if endsB st then (8, crashS (endS st) st.keep) else if mayE (endS st) f ≠ 0 then (mayE (endS st) f, endS st) else if 0 < (endS st).lost then (9, { endS st with lost := (endS st).lost - 1 }) else (0, settleS (endS st) f ((endS st).F f).now)
def writeR (st : DS) (f at_ : Int) (s : ByteArray) : Int × DS :=
  if endsB st then (8, crashS (wrS (endS st) f at_ s) st.keep) else (wrE (endS st) f at_ s, wrS (endS st) f at_ s)
def truncR (st : DS) (f size : Int) : Int × DS :=
  if endsB st then (8, crashS (endS st) st.keep) else if mayE (endS st) f ≠ 0 then (mayE (endS st) f, endS st) else if size < 0 ∨ (((endS st).F f).now.size : Int) < size then (1, endS st) else (0, settleS (endS st) f (((endS st).F f).now.extract 0 size.toNat))
theorem endS_ok {st : DS} (h : st.Ok) : (endS st).Ok := by
  unfold endS
  split
  · exact h
  · rename_i hc
    have := h.armed0
    have h0 : st.armed ≠ 0 := fun e => hc (.inr e)
    exact ⟨h.now, h.last, h.out, h.nodup, h.file, h.num, h.lost0, by show 0 ≤ st.armed - 1 ∧ st.armed - 1 ≤ _; omega, h.keepl⟩
theorem endS_f (st : DS) : (endS st).F = st.F ∧ (endS st).Q = st.Q ∧ (endS st).lost = st.lost ∧ (endS st).keep = st.keep ∧ (endS st).down = st.down := by
  unfold endS
  split <;> exact ⟨rfl, rfl, rfl, rfl, rfl⟩
theorem DkOk.ends {lm ls : List ME} {st : DS} (h : DkOk lm ls st) : DkOk lm ls (endS st) := ⟨by rw [(endS_f st).1]; exact h.f, by rw [(endS_f st).2.1]; exact h.s, endS_ok h.ok⟩
theorem wrS_f (st : DS) (f at_ : Int) (s : ByteArray) : (wrS st f at_ s).keep = st.keep ∧ (wrS st f at_ s).down = st.down := by
  unfold wrS
  split <;> exact ⟨rfl, rfl⟩
theorem Out.n {st : DS} {o : Objs} (h : Out st o) (X : Nat) : OutN X st o := by
  obtain ⟨k, cm, cs, lm, ls, h1, h2⟩ := h
  exact ⟨1003, k, cm, cs, lm, ls, .inl rfl, h1, h2⟩
section
variable {k cm cs : Nat} {lm ls : List ME} {st : DS}
theorem crash_any (h : DkOk lm ls st) {keep : List Int} (hkl : keep.length ≤ 1000000) : ObC 25 [.box 1000 0, .d (keepD keep)] (dsk 1000 1001 1002 1003 k cm cs lm ls st) [106] (fun x o => x = .tup [] ∧ OutN 106 (crashS st keep) o) := by
  cases hd : st.down
  · exact (crash_up h keep hkl hd).mono fun x o ⟨h1, k', cm', cs', lm', ls', h2, h3⟩ => ⟨h1, 106, k', cm', cs', lm', ls', .inr rfl, h2, h3⟩
  · refine (crash_down keep hd).mono fun x o ⟨h1, h2⟩ => ⟨h1, 1003, k, cm, cs, lm, ls, .inl rfl, ?_⟩
    unfold crashS
    rw [if_pos hd]
    exact ⟨h, h2⟩
theorem write_any (h : DkOk lm ls st) (f at_ : Int) (s : ByteArray) : ObC 49 [.box 1000 0, .d (.int f), .d (.int at_), .d (.str s)] (dsk 1000 1001 1002 1003 k cm cs lm ls st) [] (fun x o => x = .d (.int (wrE st f at_ s)) ∧ Out (wrS st f at_ s) o) := by
  by_cases he : errW st f at_ s
  · refine (write_err h he).mono fun x o ⟨h1, h2⟩ => ⟨h1, k, cm, cs, lm, ls, ?_⟩
    have e : wrS st f at_ s = st := if_pos he
    rw [e]
    exact ⟨h, h2⟩
  · have e : wrE st f at_ s = 0 := by
      apply Decidable.byContradiction
      intro e
      exact he (.inl e)
    rw [e]
    exact write_ok h he
set_option maxHeartbeats 8000000 in
set_option maxRecDepth 20000 in
theorem Write_any (h : DkOk lm ls st) (f at_ : Int) (s : ByteArray) : ObC 29 [.box 1000 0, .d (.int f), .d (.int at_), .d (.str s)] (dsk 1000 1001 1002 1003 k cm cs lm ls st) [24] (fun x o => x = .d (.int (writeR st f at_ s).1) ∧ OutN 24 (writeR st f at_ s).2 o) := by
  have h1 := ends_any (k := k) (cm := cm) (cs := cs) (lm := lm) (ls := ls) h.ok
  have h2 := fun k => write_any (k := k) (cm := cm) (cs := cs) h.ends f at_ s
  have hkeep : (wrS (endS st) f at_ s).keep = st.keep := (wrS_f _ _ _ _).1.trans (endS_f st).2.2.2.1
  unfold writeR
  cases he : endsB st
  · rw [he] at h1
    rw [if_neg (by decide)]
    refine ob_enter Try.func29 rfl (by decide) _ Try.ntmps29 (le_ok rfl) rfl (fun w Pr β κ hE => ?_)
    dsimp only [slotsV, Nat.zero_add, Nat.reduceAdd]
    repeat' (first | (apply at_call; refine k_ocall [(1000, 1000), (1001, 1001), (1002, 1002), (1003, 1003)] (h1) hE ?_; rintro _ _ ⟨rfl, rfl⟩ <;> (intro _ _ h1 h2; simp only [renEqs, Nat.reduceBEq, renL_app, renL_ds, renL_und] at h1 h2; subst h1 h2)) | (apply at_call; refine k_ocall [(1000, 1000), (1001, 1001), (1002, 1002), (1003, 1003)] (h2 k) hE ?_; rintro _ _ ⟨rfl, k2, cm2, cs2, lm2, ls2, hD, rfl⟩ <;> (intro _ _ h1 h2; simp only [renEqs, Nat.reduceBEq, renL_app, renL_ds, renL_und] at h1 h2; subst h1 h2)) | apply aw_seq | apply aw_region | apply al_nil | apply aq_np | apply aq_then | apply aq_then_x | apply aq_then_r | apply aw_skip | apply aw_exit | apply aw_ret | (apply at_op (.move _); refine r_move ?_) | (apply at_op (.assign _); refine r_assign ?_) | (apply at_cond; first | refine c_t ?_ | refine c_f ?_ | (refine aw_cond rfl (fun hb => ?_) (fun hb => ?_) <;> ((first | have hq := of_decide_eq_true hb | have hq := of_decide_eq_false hb | have hq := dNT hb | have hq := dNF hb | skip); (try (exfalso; omega))))) | (apply at_op (.load _ _); refine r_load ?_) | (apply at_op (.fieldAddr _ _ _); refine r_faddr ?_) | (apply at_op (.nilCheck _); refine r_nilck ?_))
    refine oret1 (dsk 1000 1001 1002 1003 k2 cm2 cs2 lm2 ls2 (wrS (endS st) f at_ s)) (by rfl) (by first | exact ResV.x _ _ (ResX.tmp _ _ (by first | exact ToD.d _ | exact ToD.row _ _ _ _ _ rfl | exact ToD.nil _)) | exact ResV.tmp _ _ rfl | exact ResV.x _ _ (ResX.cellA _ _ _ _ _ _ _ rfl rfl rfl (by first | (simp only [normV, normList, normMap]; rfl) | rfl) rfl)) (⟨rfl, Out.n ⟨k2, cm2, cs2, lm2, ls2, hD, rfl⟩ 24⟩) (by (repeat (first | exact obs_nil | (apply obs_cons; focus (first | rfl | (simp [find]; done)))))) (by first | (simp [okOut, V.within, V.withinL, O.within, keys, mem, look, nbeq_def, withinL_app, withinL_ds, withinL_und]; done) | rfl)
  · rw [he] at h1
    rw [if_pos rfl]
    refine ob_enter Try.func29 rfl (by decide) _ Try.ntmps29 (le_ok rfl) rfl (fun w Pr β κ hE => ?_)
    dsimp only [slotsV, Nat.zero_add, Nat.reduceAdd]
    repeat' (first | (apply at_call; refine k_ocall [(1000, 1000), (1001, 1001), (1002, 1002), (1003, 1003)] (h1) hE ?_; rintro _ _ ⟨rfl, rfl⟩ <;> (intro _ _ h1 h2; simp only [renEqs, Nat.reduceBEq, renL_app, renL_ds, renL_und] at h1 h2; subst h1 h2)) | (apply at_call; refine k_ocall [(1000, 1000), (1001, 1001), (1002, 1002), (1003, 1003)] (h2 k) hE ?_; rintro _ _ ⟨rfl, k2, cm2, cs2, lm2, ls2, hD, rfl⟩ <;> (intro _ _ h1 h2; simp only [renEqs, Nat.reduceBEq, renL_app, renL_ds, renL_und] at h1 h2; subst h1 h2)) | (apply at_call; refine k_ocall [(1000, 1000), (1001, 1001), (1002, 1002), (1003, 1003), (106, 24)] (crash_any hD (hkeep ▸ h.ok.keepl)) hE ?_; rintro _ _ ⟨rfl, s3, k3, cm3, cs3, lm3, ls3, hs3, hD3, rfl⟩; rcases hs3 with rfl | rfl <;> (intro _ _ h1 h2; simp only [renEqs, Nat.reduceBEq, renL_app, renL_ds, renL_und] at h1 h2; subst h1 h2)) | apply aw_seq | apply aw_region | apply al_nil | apply aq_np | apply aq_then | apply aq_then_x | apply aq_then_r | apply aw_skip | apply aw_exit | apply aw_ret | (apply at_op (.move _); refine r_move ?_) | (apply at_op (.assign _); refine r_assign ?_) | (apply at_cond; first | refine c_t ?_ | refine c_f ?_ | (refine aw_cond rfl (fun hb => ?_) (fun hb => ?_) <;> ((first | have hq := of_decide_eq_true hb | have hq := of_decide_eq_false hb | have hq := dNT hb | have hq := dNF hb | skip); (try (exfalso; omega))))) | (apply at_op (.load _ _); refine r_load ?_) | (apply at_op (.fieldAddr _ _ _); refine r_faddr ?_) | (apply at_op (.nilCheck _); refine r_nilck ?_))
    all_goals rw [← hkeep]
    · skip
      refine oret1 (dsk 1000 1001 1002 1003 k3 cm3 cs3 lm3 ls3 _) (by rfl) (by first | exact ResV.x _ _ (ResX.tmp _ _ (by first | exact ToD.d _ | exact ToD.row _ _ _ _ _ rfl | exact ToD.nil _)) | exact ResV.tmp _ _ rfl | exact ResV.x _ _ (ResX.cellA _ _ _ _ _ _ _ rfl rfl rfl (by first | (simp only [normV, normList, normMap]; rfl) | rfl) rfl)) (⟨rfl, 1003, k3, cm3, cs3, lm3, ls3, .inl rfl, hD3, rfl⟩) (by (repeat (first | exact obs_nil | (apply obs_cons; focus (first | rfl | (simp [find]; done)))))) (by first | (simp [okOut, V.within, V.withinL, O.within, keys, mem, look, nbeq_def, withinL_app, withinL_ds, withinL_und]; done) | rfl)
    · skip
      refine oret1 (dsk 1000 1001 1002 24 k3 cm3 cs3 lm3 ls3 _) (by rfl) (by first | exact ResV.x _ _ (ResX.tmp _ _ (by first | exact ToD.d _ | exact ToD.row _ _ _ _ _ rfl | exact ToD.nil _)) | exact ResV.tmp _ _ rfl | exact ResV.x _ _ (ResX.cellA _ _ _ _ _ _ _ rfl rfl rfl (by first | (simp only [normV, normList, normMap]; rfl) | rfl) rfl)) (⟨rfl, 24, k3, cm3, cs3, lm3, ls3, .inr rfl, hD3, rfl⟩) (by (repeat (first | exact obs_nil | (apply obs_cons; focus (first | rfl | (simp [find]; done)))))) (by first | (simp [okOut, V.within, V.withinL, O.within, keys, mem, look, nbeq_def, withinL_app, withinL_ds, withinL_und]; done) | rfl)
theorem may_down {st : DS} (h : st.down = true) (f : Int) : mayE st f = 8 := by simp [mayE, h]
theorem crash_isdown (st : DS) (keep : List Int) : (crashS st keep).down = true := by
  unfold crashS
  cases h : st.down
  · rfl
  · simpa using h
set_option maxHeartbeats 8000000 in
set_option maxRecDepth 20000 in
theorem Sync_any (h : DkOk lm ls st) {f : Int} (hf : i64 f) : ObC 19 [.box 1000 0, .d (.int f)] (dsk 1000 1001 1002 1003 k cm cs lm ls st) [13] (fun x o => x = .d (.int (syncR st f).1) ∧ OutN 13 (syncR st f).2 o) := by
  have h1 := ends_any (k := k) (cm := cm) (cs := cs) (lm := lm) (ls := ls) h.ok
  have hkeep : (endS st).keep = st.keep := (endS_f st).2.2.2.1
  have hck : (endS st).keep.length ≤ 1000000 := hkeep ▸ h.ok.keepl
  have hkey := int_key hf
  obtain ⟨bh, hhit⟩ := h.ends.f.hit f
  have hl := h.ends.ok.lost0
  unfold syncR
  cases he : endsB st
  · rw [he] at h1
    rw [if_neg (by decide)]
    have hm := may_any (k := k) (cm := cm) (cs := cs) (lm := lm) (ls := ls) (st := endS st) f
    by_cases hm0 : mayE (endS st) f = 0
    · rw [if_neg (by simp [hm0])]
      have hmf := (may_ok hm0).2
      rw [hm0] at hm
      have hm8 : (!decide ((0 : Int) = 0)) = false := rfl
      by_cases hlost : 0 < (endS st).lost
      · rw [if_pos hlost]
        have hq : decide (0 < (endS st).lost) = true := decide_eq_true hlost
        refine ob_enter Try.func19 rfl (by decide) _ Try.ntmps19 (le_ok rfl) rfl (fun w Pr β κ hE => ?_)
        dsimp only [slotsV, Nat.zero_add, Nat.reduceAdd]
        repeat' (first | (apply at_call; refine k_ocall [(1000, 1000), (1001, 1001), (1002, 1002), (1003, 1003)] (h1) hE ?_; rintro _ _ ⟨rfl, rfl⟩ <;> (intro _ _ h1 h2; simp only [renEqs, Nat.reduceBEq, renL_app, renL_ds, renL_und] at h1 h2; subst h1 h2)) | (apply at_call; refine k_ocall [(1000, 1000), (1001, 1001), (1002, 1002), (1003, 1003)] (hm) hE ?_; rintro _ _ ⟨rfl, rfl⟩ <;> (intro _ _ h1 h2; simp only [renEqs, Nat.reduceBEq, renL_app, renL_ds, renL_und] at h1 h2; subst h1 h2)) | apply aw_seq | apply aw_region | apply al_nil | apply aq_np | apply aq_then | apply aq_then_x | apply aq_then_r | apply aw_skip | apply aw_exit | apply aw_ret | (apply at_op (.move _); refine r_move ?_) | (apply at_op (.assign _); refine r_assign ?_) | (apply at_cond; first | refine c_t ?_ | refine c_f ?_ | (refine aw_cond rfl (fun hb => ?_) (fun hb => ?_) <;> ((first | have hq := of_decide_eq_true hb | have hq := of_decide_eq_false hb | have hq := dNT hb | have hq := dNF hb | skip); (try (exfalso; omega))))) | (apply at_op (.binOp .gtr _ _ _ _); refine r_gtr ?_) | (apply at_op (.binOp .neq _ _ _ _); refine r_neq ?_) | (apply at_op (.binOp .sub _ _ _ _); refine r_sub ?_) | (apply at_op (.load _ _); refine r_load ?_) | (apply at_op (.fieldAddr _ _ _); refine r_faddr ?_) | (apply at_op (.field _ _ _); refine r_field ?_) | (apply at_op (.nilCheck _); refine r_nilck ?_) | (apply at_op (.store _ _ _); refine r_store ?_))
        refine oret1 (dsk 1000 1001 1002 1003 k cm cs lm ls { endS st with lost := (endS st).lost - 1 }) (by rfl) (by first | exact ResV.x _ _ (ResX.tmp _ _ (by first | exact ToD.d _ | exact ToD.row _ _ _ _ _ rfl | exact ToD.nil _)) | exact ResV.tmp _ _ rfl | exact ResV.x _ _ (ResX.cellA _ _ _ _ _ _ _ rfl rfl rfl (by first | (simp only [normV, normList, normMap]; rfl) | rfl) rfl)) (⟨rfl, 1003, k, cm, cs, lm, ls, .inl rfl, ⟨h.ends.f, h.ends.s, ⟨h.ends.ok.now, h.ends.ok.last, h.ends.ok.out, h.ends.ok.nodup, h.ends.ok.file, h.ends.ok.num, (by show 0 ≤ (endS st).lost - 1 ∧ (endS st).lost - 1 ≤ _; omega), h.ends.ok.armed0, h.ends.ok.keepl⟩⟩, rfl⟩) (by (repeat (first | exact obs_nil | (apply obs_cons; focus (first | rfl | (simp [find]; done)))))) (by first | (simp [okOut, V.within, V.withinL, O.within, keys, mem, look, nbeq_def, withinL_app, withinL_ds, withinL_und]; done) | rfl)
      · rw [if_neg hlost]
        have hq : decide (0 < (endS st).lost) = false := decide_eq_false hlost
        have hs := fun k => settle_any (k := k) (cm := cm) (cs := cs) h.ends hmf (h.ends.ok.now f)
        refine ob_enter Try.func19 rfl (by decide) _ Try.ntmps19 (le_ok rfl) rfl (fun w Pr β κ hE => ?_)
        dsimp only [slotsV, Nat.zero_add, Nat.reduceAdd]
        repeat' (first | (apply at_call; refine k_ocall [(1000, 1000), (1001, 1001), (1002, 1002), (1003, 1003)] (h1) hE ?_; rintro _ _ ⟨rfl, rfl⟩ <;> (intro _ _ h1 h2; simp only [renEqs, Nat.reduceBEq, renL_app, renL_ds, renL_und] at h1 h2; subst h1 h2)) | (apply at_call; refine k_ocall [(1000, 1000), (1001, 1001), (1002, 1002), (1003, 1003)] (hm) hE ?_; rintro _ _ ⟨rfl, rfl⟩ <;> (intro _ _ h1 h2; simp only [renEqs, Nat.reduceBEq, renL_app, renL_ds, renL_und] at h1 h2; subst h1 h2)) | (apply at_op (.lookup _ _ _ _); refine al_y (y_lookup1 fileM rfl rfl rfl hkey hhit) (lt_ok rfl) ?_) | (apply at_call; refine k_ocall [(1000, 1000), (1001, 1001), (1002, 1002), (1003, 1003)] (hs k) hE ?_; rintro _ _ ⟨rfl, k2, cm2, cs2, lm2, ls2, hD, rfl⟩ <;> (intro _ _ h1 h2; simp only [renEqs, Nat.reduceBEq, renL_app, renL_ds, renL_und] at h1 h2; subst h1 h2)) | apply aw_seq | apply aw_region | apply al_nil | apply aq_np | apply aq_then | apply aq_then_x | apply aq_then_r | apply aw_skip | apply aw_exit | apply aw_ret | (apply at_op (.move _); refine r_move ?_) | (apply at_op (.assign _); refine r_assign ?_) | (apply at_cond; first | refine c_t ?_ | refine c_f ?_ | (refine aw_cond rfl (fun hb => ?_) (fun hb => ?_) <;> ((first | have hq := of_decide_eq_true hb | have hq := of_decide_eq_false hb | have hq := dNT hb | have hq := dNF hb | skip); (try (exfalso; omega))))) | (apply at_op (.binOp .gtr _ _ _ _); refine r_gtr ?_) | (apply at_op (.binOp .neq _ _ _ _); refine r_neq ?_) | (apply at_op (.binOp .sub _ _ _ _); refine r_sub ?_) | (apply at_op (.load _ _); refine r_load ?_) | (apply at_op (.fieldAddr _ _ _); refine r_faddr ?_) | (apply at_op (.field _ _ _); refine r_field ?_) | (apply at_op (.nilCheck _); refine r_nilck ?_) | (apply at_op (.store _ _ _); refine r_store ?_))
        refine oret1 (dsk 1000 1001 1002 1003 k2 cm2 cs2 lm2 ls2 _) (by rfl) (by first | exact ResV.x _ _ (ResX.tmp _ _ (by first | exact ToD.d _ | exact ToD.row _ _ _ _ _ rfl | exact ToD.nil _)) | exact ResV.tmp _ _ rfl | exact ResV.x _ _ (ResX.cellA _ _ _ _ _ _ _ rfl rfl rfl (by first | (simp only [normV, normList, normMap]; rfl) | rfl) rfl)) (⟨rfl, Out.n ⟨k2, cm2, cs2, lm2, ls2, hD, rfl⟩ 13⟩) (by (repeat (first | exact obs_nil | (apply obs_cons; focus (first | rfl | (simp [find]; done)))))) (by first | (simp [okOut, V.within, V.withinL, O.within, keys, mem, look, nbeq_def, withinL_app, withinL_ds, withinL_und]; done) | rfl)
    · rw [if_pos hm0]
      have hm8 : (!decide (mayE (endS st) f = 0)) = true := by rw [decide_eq_false hm0]; rfl
      refine ob_enter Try.func19 rfl (by decide) _ Try.ntmps19 (le_ok rfl) rfl (fun w Pr β κ hE => ?_)
      dsimp only [slotsV, Nat.zero_add, Nat.reduceAdd]
      repeat' (first | (apply at_call; refine k_ocall [(1000, 1000), (1001, 1001), (1002, 1002), (1003, 1003)] (h1) hE ?_; rintro _ _ ⟨rfl, rfl⟩ <;> (intro _ _ h1 h2; simp only [renEqs, Nat.reduceBEq, renL_app, renL_ds, renL_und] at h1 h2; subst h1 h2)) | (apply at_call; refine k_ocall [(1000, 1000), (1001, 1001), (1002, 1002), (1003, 1003)] (hm) hE ?_; rintro _ _ ⟨rfl, rfl⟩ <;> (intro _ _ h1 h2; simp only [renEqs, Nat.reduceBEq, renL_app, renL_ds, renL_und] at h1 h2; subst h1 h2)) | apply aw_seq | apply aw_region | apply al_nil | apply aq_np | apply aq_then | apply aq_then_x | apply aq_then_r | apply aw_skip | apply aw_exit | apply aw_ret | (apply at_op (.move _); refine r_move ?_) | (apply at_op (.assign _); refine r_assign ?_) | (apply at_cond; first | refine c_t ?_ | refine c_f ?_ | (refine aw_cond rfl (fun hb => ?_) (fun hb => ?_) <;> ((first | have hq := of_decide_eq_true hb | have hq := of_decide_eq_false hb | have hq := dNT hb | have hq := dNF hb | skip); (try (exfalso; omega))))) | (apply at_op (.binOp .gtr _ _ _ _); refine r_gtr ?_) | (apply at_op (.binOp .neq _ _ _ _); refine r_neq ?_) | (apply at_op (.binOp .sub _ _ _ _); refine r_sub ?_) | (apply at_op (.load _ _); refine r_load ?_) | (apply at_op (.fieldAddr _ _ _); refine r_faddr ?_) | (apply at_op (.field _ _ _); refine r_field ?_) | (apply at_op (.nilCheck _); refine r_nilck ?_) | (apply at_op (.store _ _ _); refine r_store ?_))
      refine oret1 (dsk 1000 1001 1002 1003 k cm cs lm ls (endS st)) (by rfl) (by first | exact ResV.x _ _ (ResX.tmp _ _ (by first | exact ToD.d _ | exact ToD.row _ _ _ _ _ rfl | exact ToD.nil _)) | exact ResV.tmp _ _ rfl | exact ResV.x _ _ (ResX.cellA _ _ _ _ _ _ _ rfl rfl rfl (by first | (simp only [normV, normList, normMap]; rfl) | rfl) rfl)) (⟨rfl, Out.n ⟨k, cm, cs, lm, ls, h.ends, rfl⟩ 13⟩) (by (repeat (first | exact obs_nil | (apply obs_cons; focus (first | rfl | (simp [find]; done)))))) (by first | (simp [okOut, V.within, V.withinL, O.within, keys, mem, look, nbeq_def, withinL_app, withinL_ds, withinL_und]; done) | rfl)
  · rw [he] at h1
    rw [if_pos rfl, ← hkeep]
    refine ob_enter Try.func19 rfl (by decide) _ Try.ntmps19 (le_ok rfl) rfl (fun w Pr β κ hE => ?_)
    dsimp only [slotsV, Nat.zero_add, Nat.reduceAdd]
    repeat' (first | (apply at_call; refine k_ocall [(1000, 1000), (1001, 1001), (1002, 1002), (1003, 1003)] (h1) hE ?_; rintro _ _ ⟨rfl, rfl⟩ <;> (intro _ _ h1 h2; simp only [renEqs, Nat.reduceBEq, renL_app, renL_ds, renL_und] at h1 h2; subst h1 h2)) | (apply at_call; refine k_ocall [(1000, 1000), (1001, 1001), (1002, 1002), (1003, 1003), (106, 13)] (crash_any h.ends hck) hE ?_; rintro _ _ ⟨rfl, s3, k3, cm3, cs3, lm3, ls3, hs3, hD3, rfl⟩; rcases hs3 with rfl | rfl <;> (intro _ _ h1 h2; simp only [renEqs, Nat.reduceBEq, renL_app, renL_ds, renL_und] at h1 h2; subst h1 h2)) | apply aw_seq | apply aw_region | apply al_nil | apply aq_np | apply aq_then | apply aq_then_x | apply aq_then_r | apply aw_skip | apply aw_exit | apply aw_ret | (apply at_op (.move _); refine r_move ?_) | (apply at_op (.assign _); refine r_assign ?_) | (apply at_cond; first | refine c_t ?_ | refine c_f ?_ | (refine aw_cond rfl (fun hb => ?_) (fun hb => ?_) <;> ((first | have hq := of_decide_eq_true hb | have hq := of_decide_eq_false hb | have hq := dNT hb | have hq := dNF hb | skip); (try (exfalso; omega))))) | (apply at_op (.binOp .gtr _ _ _ _); refine r_gtr ?_) | (apply at_op (.binOp .neq _ _ _ _); refine r_neq ?_) | (apply at_op (.binOp .sub _ _ _ _); refine r_sub ?_) | (apply at_op (.load _ _); refine r_load ?_) | (apply at_op (.fieldAddr _ _ _); refine r_faddr ?_) | (apply at_op (.field _ _ _); refine r_field ?_) | (apply at_op (.nilCheck _); refine r_nilck ?_) | (apply at_op (.store _ _ _); refine r_store ?_))
    rotate_left
    all_goals
      have hm := may_any (k := k3) (cm := cm3) (cs := cs3) (lm := lm3) (ls := ls3) (st := crashS (endS st) (endS st).keep) f
      rw [may_down (crash_isdown _ _)] at hm
      have hm8 : (!decide ((8 : Int) = 0)) = true := rfl
    · skip
      repeat' (first | (apply at_call; refine k_ocall [(1000, 1000), (1001, 1001), (1002, 1002), (1003, 13)] (hm) hE ?_; rintro _ _ ⟨rfl, rfl⟩ <;> (intro _ _ h1 h2; simp only [renEqs, Nat.reduceBEq, renL_app, renL_ds, renL_und] at h1 h2; subst h1 h2)) | apply aw_seq | apply aw_region | apply al_nil | apply aq_np | apply aq_then | apply aq_then_x | apply aq_then_r | apply aw_skip | apply aw_exit | apply aw_ret | (apply at_op (.move _); refine r_move ?_) | (apply at_op (.assign _); refine r_assign ?_) | (apply at_cond; first | refine c_t ?_ | refine c_f ?_ | (refine aw_cond rfl (fun hb => ?_) (fun hb => ?_) <;> ((first | have hq := of_decide_eq_true hb | have hq := of_decide_eq_false hb | have hq := dNT hb | have hq := dNF hb | skip); (try (exfalso; omega))))) | (apply at_op (.binOp .gtr _ _ _ _); refine r_gtr ?_) | (apply at_op (.binOp .neq _ _ _ _); refine r_neq ?_) | (apply at_op (.binOp .sub _ _ _ _); refine r_sub ?_) | (apply at_op (.load _ _); refine r_load ?_) | (apply at_op (.fieldAddr _ _ _); refine r_faddr ?_) | (apply at_op (.field _ _ _); refine r_field ?_) | (apply at_op (.nilCheck _); refine r_nilck ?_) | (apply at_op (.store _ _ _); refine r_store ?_))
      refine oret1 (dsk 1000 1001 1002 13 k3 cm3 cs3 lm3 ls3 _) (by rfl) (by first | exact ResV.x _ _ (ResX.tmp _ _ (by first | exact ToD.d _ | exact ToD.row _ _ _ _ _ rfl | exact ToD.nil _)) | exact ResV.tmp _ _ rfl | exact ResV.x _ _ (ResX.cellA _ _ _ _ _ _ _ rfl rfl rfl (by first | (simp only [normV, normList, normMap]; rfl) | rfl) rfl)) (⟨rfl, 13, k3, cm3, cs3, lm3, ls3, .inr rfl, hD3, rfl⟩) (by (repeat (first | exact obs_nil | (apply obs_cons; focus (first | rfl | (simp [find]; done)))))) (by first | (simp [okOut, V.within, V.withinL, O.within, keys, mem, look, nbeq_def, withinL_app, withinL_ds, withinL_und]; done) | rfl)
    · skip
      repeat' (first | (apply at_call; refine k_ocall [(1000, 1000), (1001, 1001), (1002, 1002), (1003, 1003)] (hm) hE ?_; rintro _ _ ⟨rfl, rfl⟩ <;> (intro _ _ h1 h2; simp only [renEqs, Nat.reduceBEq, renL_app, renL_ds, renL_und] at h1 h2; subst h1 h2)) | apply aw_seq | apply aw_region | apply al_nil | apply aq_np | apply aq_then | apply aq_then_x | apply aq_then_r | apply aw_skip | apply aw_exit | apply aw_ret | (apply at_op (.move _); refine r_move ?_) | (apply at_op (.assign _); refine r_assign ?_) | (apply at_cond; first | refine c_t ?_ | refine c_f ?_ | (refine aw_cond rfl (fun hb => ?_) (fun hb => ?_) <;> ((first | have hq := of_decide_eq_true hb | have hq := of_decide_eq_false hb | have hq := dNT hb | have hq := dNF hb | skip); (try (exfalso; omega))))) | (apply at_op (.binOp .gtr _ _ _ _); refine r_gtr ?_) | (apply at_op (.binOp .neq _ _ _ _); refine r_neq ?_) | (apply at_op (.binOp .sub _ _ _ _); refine r_sub ?_) | (apply at_op (.load _ _); refine r_load ?_) | (apply at_op (.fieldAddr _ _ _); refine r_faddr ?_) | (apply at_op (.field _ _ _); refine r_field ?_) | (apply at_op (.nilCheck _); refine r_nilck ?_) | (apply at_op (.store _ _ _); refine r_store ?_))
      refine oret1 (dsk 1000 1001 1002 1003 k3 cm3 cs3 lm3 ls3 _) (by rfl) (by first | exact ResV.x _ _ (ResX.tmp _ _ (by first | exact ToD.d _ | exact ToD.row _ _ _ _ _ rfl | exact ToD.nil _)) | exact ResV.tmp _ _ rfl | exact ResV.x _ _ (ResX.cellA _ _ _ _ _ _ _ rfl rfl rfl (by first | (simp only [normV, normList, normMap]; rfl) | rfl) rfl)) (⟨rfl, 1003, k3, cm3, cs3, lm3, ls3, .inl rfl, hD3, rfl⟩) (by (repeat (first | exact obs_nil | (apply obs_cons; focus (first | rfl | (simp [find]; done)))))) (by first | (simp [okOut, V.within, V.withinL, O.within, keys, mem, look, nbeq_def, withinL_app, withinL_ds, withinL_und]; done) | rfl)
set_option maxHeartbeats 8000000 in
set_option maxRecDepth 20000 in
theorem Truncate_any (h : DkOk lm ls st) {f : Int} (hf : i64 f) (size : Int) : ObC 30 [.box 1000 0, .d (.int f), .d (.int size)] (dsk 1000 1001 1002 1003 k cm cs lm ls st) [15] (fun x o => x = .d (.int (truncR st f size).1) ∧ OutN 15 (truncR st f size).2 o) := by
  have h1 := ends_any (k := k) (cm := cm) (cs := cs) (lm := lm) (ls := ls) h.ok
  have hkeep : (endS st).keep = st.keep := (endS_f st).2.2.2.1
  have hck : (endS st).keep.length ≤ 1000000 := hkeep ▸ h.ok.keepl
  have hkey := int_key hf
  obtain ⟨bh, hhit⟩ := h.ends.f.hit f
  have hnow := h.ends.ok.now f
  have hsz := size_any (k := k) (cm := cm) (cs := cs) h.ends hf
  unfold truncR
  cases he : endsB st
  · rw [he] at h1
    rw [if_neg (by decide)]
    have hm := may_any (k := k) (cm := cm) (cs := cs) (lm := lm) (ls := ls) (st := endS st) f
    by_cases hm0 : mayE (endS st) f = 0
    · rw [if_neg (by simp [hm0])]
      have hmf := (may_ok hm0).2
      rw [hm0] at hm
      have hm8 : (!decide ((0 : Int) = 0)) = false := rfl
      by_cases hneg : size < 0
      · rw [if_pos (.inl hneg)]
        refine ob_enter Try.func30 rfl (by decide) _ Try.ntmps30 (le_ok rfl) rfl (fun w Pr β κ hE => ?_)
        dsimp only [slotsV, Nat.zero_add, Nat.reduceAdd]
        repeat' (first | (apply at_call; refine k_ocall [(1000, 1000), (1001, 1001), (1002, 1002), (1003, 1003)] (h1) hE ?_; rintro _ _ ⟨rfl, rfl⟩ <;> (intro _ _ h1 h2; simp only [renEqs, Nat.reduceBEq, renL_app, renL_ds, renL_und] at h1 h2; subst h1 h2)) | (apply at_call; refine k_ocall [(1000, 1000), (1001, 1001), (1002, 1002), (1003, 1003)] (hm) hE ?_; rintro _ _ ⟨rfl, rfl⟩ <;> (intro _ _ h1 h2; simp only [renEqs, Nat.reduceBEq, renL_app, renL_ds, renL_und] at h1 h2; subst h1 h2)) | (apply at_call; refine k_ocall [(1000, 1000), (1001, 1001), (1002, 1002), (1003, 1003)] (hsz) hE ?_; rintro _ _ ⟨rfl, rfl⟩ <;> (intro _ _ h1 h2; simp only [renEqs, Nat.reduceBEq, renL_app, renL_ds, renL_und] at h1 h2; subst h1 h2)) | apply aw_seq | apply aw_region | apply al_nil | apply aq_np | apply aq_then | apply aq_then_x | apply aq_then_r | apply aw_skip | apply aw_exit | apply aw_ret | (apply at_op (.move _); refine r_move ?_) | (apply at_op (.assign _); refine r_assign ?_) | (apply at_cond; first | refine c_t ?_ | refine c_f ?_ | (refine aw_cond rfl (fun hb => ?_) (fun hb => ?_) <;> ((first | have hq := of_decide_eq_true hb | have hq := of_decide_eq_false hb | have hq := dNT hb | have hq := dNF hb | skip); (try (exfalso; omega))))) | (apply at_guard; first | refine g_go ?_ | refine g_nt ?_ | refine g_nf ?_ | refine g_nu ?_ | ((first | refine al_split_t rfl rfl (lt_ok rfl) (fun hb => ?_) (fun hb => ?_) | refine al_split_f rfl rfl (lt_ok rfl) (fun hb => ?_) (fun hb => ?_)) <;> ((first | have hq := of_decide_eq_true hb | have hq := of_decide_eq_false hb | have hq := dNT hb | have hq := dNF hb | skip); (try (exfalso; omega))))) | (apply at_op (.pick _ _ _); refine r_pick ?_) | (apply at_op (.binOp .lss _ _ _ _); refine r_lss ?_) | (apply at_op (.binOp .gtr _ _ _ _); refine r_gtr ?_) | (apply at_op (.binOp .neq _ _ _ _); refine r_neq ?_) | (apply at_op (.slice _ _ _ _ _); refine r_slice ?_) | (apply at_op (.load _ _); refine r_load ?_) | (apply at_op (.fieldAddr _ _ _); refine r_faddr ?_) | (apply at_op (.field _ _ _); refine r_field ?_) | (apply at_op (.nilCheck _); refine r_nilck ?_))
        refine oret1 (dsk 1000 1001 1002 1003 k cm cs lm ls (endS st)) (by rfl) (by first | exact ResV.x _ _ (ResX.tmp _ _ (by first | exact ToD.d _ | exact ToD.row _ _ _ _ _ rfl | exact ToD.nil _)) | exact ResV.tmp _ _ rfl | exact ResV.x _ _ (ResX.cellA _ _ _ _ _ _ _ rfl rfl rfl (by first | (simp only [normV, normList, normMap]; rfl) | rfl) rfl)) (⟨rfl, Out.n ⟨k, cm, cs, lm, ls, h.ends, rfl⟩ 15⟩) (by (repeat (first | exact obs_nil | (apply obs_cons; focus (first | rfl | (simp [find]; done)))))) (by first | (simp [okOut, V.within, V.withinL, O.within, keys, mem, look, nbeq_def, withinL_app, withinL_ds, withinL_und]; done) | rfl)
      · by_cases hbig : (((endS st).F f).now.size : Int) < size
        · rw [if_pos (.inr hbig)]
          have hq : decide ((((endS st).F f).now.size : Int) < size) = true := decide_eq_true hbig
          refine ob_enter Try.func30 rfl (by decide) _ Try.ntmps30 (le_ok rfl) rfl (fun w Pr β κ hE => ?_)
          dsimp only [slotsV, Nat.zero_add, Nat.reduceAdd]
          repeat' (first | (apply at_call; refine k_ocall [(1000, 1000), (1001, 1001), (1002, 1002), (1003, 1003)] (h1) hE ?_; rintro _ _ ⟨rfl, rfl⟩ <;> (intro _ _ h1 h2; simp only [renEqs, Nat.reduceBEq, renL_app, renL_ds, renL_und] at h1 h2; subst h1 h2)) | (apply at_call; refine k_ocall [(1000, 1000), (1001, 1001), (1002, 1002), (1003, 1003)] (hm) hE ?_; rintro _ _ ⟨rfl, rfl⟩ <;> (intro _ _ h1 h2; simp only [renEqs, Nat.reduceBEq, renL_app, renL_ds, renL_und] at h1 h2; subst h1 h2)) | (apply at_call; refine k_ocall [(1000, 1000), (1001, 1001), (1002, 1002), (1003, 1003)] (hsz) hE ?_; rintro _ _ ⟨rfl, rfl⟩ <;> (intro _ _ h1 h2; simp only [renEqs, Nat.reduceBEq, renL_app, renL_ds, renL_und] at h1 h2; subst h1 h2)) | apply aw_seq | apply aw_region | apply al_nil | apply aq_np | apply aq_then | apply aq_then_x | apply aq_then_r | apply aw_skip | apply aw_exit | apply aw_ret | (apply at_op (.move _); refine r_move ?_) | (apply at_op (.assign _); refine r_assign ?_) | (apply at_cond; first | refine c_t ?_ | refine c_f ?_ | (refine aw_cond rfl (fun hb => ?_) (fun hb => ?_) <;> ((first | have hq := of_decide_eq_true hb | have hq := of_decide_eq_false hb | have hq := dNT hb | have hq := dNF hb | skip); (try (exfalso; omega))))) | (apply at_guard; first | refine g_go ?_ | refine g_nt ?_ | refine g_nf ?_ | refine g_nu ?_ | ((first | refine al_split_t rfl rfl (lt_ok rfl) (fun hb => ?_) (fun hb => ?_) | refine al_split_f rfl rfl (lt_ok rfl) (fun hb => ?_) (fun hb => ?_)) <;> ((first | have hq := of_decide_eq_true hb | have hq := of_decide_eq_false hb | have hq := dNT hb | have hq := dNF hb | skip); (try (exfalso; omega))))) | (apply at_op (.pick _ _ _); refine r_pick ?_) | (apply at_op (.binOp .lss _ _ _ _); refine r_lss ?_) | (apply at_op (.binOp .gtr _ _ _ _); refine r_gtr ?_) | (apply at_op (.binOp .neq _ _ _ _); refine r_neq ?_) | (apply at_op (.slice _ _ _ _ _); refine r_slice ?_) | (apply at_op (.load _ _); refine r_load ?_) | (apply at_op (.fieldAddr _ _ _); refine r_faddr ?_) | (apply at_op (.field _ _ _); refine r_field ?_) | (apply at_op (.nilCheck _); refine r_nilck ?_))
          refine oret1 (dsk 1000 1001 1002 1003 k cm cs lm ls (endS st)) (by rfl) (by first | exact ResV.x _ _ (ResX.tmp _ _ (by first | exact ToD.d _ | exact ToD.row _ _ _ _ _ rfl | exact ToD.nil _)) | exact ResV.tmp _ _ rfl | exact ResV.x _ _ (ResX.cellA _ _ _ _ _ _ _ rfl rfl rfl (by first | (simp only [normV, normList, normMap]; rfl) | rfl) rfl)) (⟨rfl, Out.n ⟨k, cm, cs, lm, ls, h.ends, rfl⟩ 15⟩) (by (repeat (first | exact obs_nil | (apply obs_cons; focus (first | rfl | (simp [find]; done)))))) (by first | (simp [okOut, V.within, V.withinL, O.within, keys, mem, look, nbeq_def, withinL_app, withinL_ds, withinL_und]; done) | rfl)
        · rw [if_neg (by omega)]
          have hq : decide ((((endS st).F f).now.size : Int) < size) = false := decide_eq_false hbig
          have hcut : (((endS st).F f).now.extract 0 size.toNat).size ≤ 16777216 := by rw [ByteArray.size_extract]; omega
          have hs := fun k => settle_any (k := k) (cm := cm) (cs := cs) h.ends hmf hcut
          refine ob_enter Try.func30 rfl (by decide) _ Try.ntmps30 (le_ok rfl) rfl (fun w Pr β κ hE => ?_)
          dsimp only [slotsV, Nat.zero_add, Nat.reduceAdd]
          repeat' (first | (apply at_call; refine k_ocall [(1000, 1000), (1001, 1001), (1002, 1002), (1003, 1003)] (h1) hE ?_; rintro _ _ ⟨rfl, rfl⟩ <;> (intro _ _ h1 h2; simp only [renEqs, Nat.reduceBEq, renL_app, renL_ds, renL_und] at h1 h2; subst h1 h2)) | (apply at_call; refine k_ocall [(1000, 1000), (1001, 1001), (1002, 1002), (1003, 1003)] (hm) hE ?_; rintro _ _ ⟨rfl, rfl⟩ <;> (intro _ _ h1 h2; simp only [renEqs, Nat.reduceBEq, renL_app, renL_ds, renL_und] at h1 h2; subst h1 h2)) | (apply at_call; refine k_ocall [(1000, 1000), (1001, 1001), (1002, 1002), (1003, 1003)] (hsz) hE ?_; rintro _ _ ⟨rfl, rfl⟩ <;> (intro _ _ h1 h2; simp only [renEqs, Nat.reduceBEq, renL_app, renL_ds, renL_und] at h1 h2; subst h1 h2)) | (apply at_op (.lookup _ _ _ _); refine al_y (y_lookup1 fileM rfl rfl rfl hkey hhit) (lt_ok rfl) ?_) | (apply at_call; refine k_ocall [(1000, 1000), (1001, 1001), (1002, 1002), (1003, 1003)] (hs k) hE ?_; rintro _ _ ⟨rfl, k2, cm2, cs2, lm2, ls2, hD, rfl⟩ <;> (intro _ _ h1 h2; simp only [renEqs, Nat.reduceBEq, renL_app, renL_ds, renL_und] at h1 h2; subst h1 h2)) | apply aw_seq | apply aw_region | apply al_nil | apply aq_np | apply aq_then | apply aq_then_x | apply aq_then_r | apply aw_skip | apply aw_exit | apply aw_ret | (apply at_op (.move _); refine r_move ?_) | (apply at_op (.assign _); refine r_assign ?_) | (apply at_cond; first | refine c_t ?_ | refine c_f ?_ | (refine aw_cond rfl (fun hb => ?_) (fun hb => ?_) <;> ((first | have hq := of_decide_eq_true hb | have hq := of_decide_eq_false hb | have hq := dNT hb | have hq := dNF hb | skip); (try (exfalso; omega))))) | (apply at_guard; first | refine g_go ?_ | refine g_nt ?_ | refine g_nf ?_ | refine g_nu ?_ | ((first | refine al_split_t rfl rfl (lt_ok rfl) (fun hb => ?_) (fun hb => ?_) | refine al_split_f rfl rfl (lt_ok rfl) (fun hb => ?_) (fun hb => ?_)) <;> ((first | have hq := of_decide_eq_true hb | have hq := of_decide_eq_false hb | have hq := dNT hb | have hq := dNF hb | skip); (try (exfalso; omega))))) | (apply at_op (.pick _ _ _); refine r_pick ?_) | (apply at_op (.binOp .lss _ _ _ _); refine r_lss ?_) | (apply at_op (.binOp .gtr _ _ _ _); refine r_gtr ?_) | (apply at_op (.binOp .neq _ _ _ _); refine r_neq ?_) | (apply at_op (.slice _ _ _ _ _); refine r_slice ?_) | (apply at_op (.load _ _); refine r_load ?_) | (apply at_op (.fieldAddr _ _ _); refine r_faddr ?_) | (apply at_op (.field _ _ _); refine r_field ?_) | (apply at_op (.nilCheck _); refine r_nilck ?_))
          refine oret1 (dsk 1000 1001 1002 1003 k2 cm2 cs2 lm2 ls2 _) (by rfl) (by first | exact ResV.x _ _ (ResX.tmp _ _ (by first | exact ToD.d _ | exact ToD.row _ _ _ _ _ rfl | exact ToD.nil _)) | exact ResV.tmp _ _ rfl | exact ResV.x _ _ (ResX.cellA _ _ _ _ _ _ _ rfl rfl rfl (by first | (simp only [normV, normList, normMap]; rfl) | rfl) rfl)) (⟨rfl, Out.n ⟨k2, cm2, cs2, lm2, ls2, hD, rfl⟩ 15⟩) (by (repeat (first | exact obs_nil | (apply obs_cons; focus (first | rfl | (simp [find]; done)))))) (by first | (simp [okOut, V.within, V.withinL, O.within, keys, mem, look, nbeq_def, withinL_app, withinL_ds, withinL_und]; done) | rfl)
    · rw [if_pos hm0]
      have hm8 : (!decide (mayE (endS st) f = 0)) = true := by rw [decide_eq_false hm0]; rfl
      refine ob_enter Try.func30 rfl (by decide) _ Try.ntmps30 (le_ok rfl) rfl (fun w Pr β κ hE => ?_)
      dsimp only [slotsV, Nat.zero_add, Nat.reduceAdd]
      repeat' (first | (apply at_call; refine k_ocall [(1000, 1000), (1001, 1001), (1002, 1002), (1003, 1003)] (h1) hE ?_; rintro _ _ ⟨rfl, rfl⟩ <;> (intro _ _ h1 h2; simp only [renEqs, Nat.reduceBEq, renL_app, renL_ds, renL_und] at h1 h2; subst h1 h2)) | (apply at_call; refine k_ocall [(1000, 1000), (1001, 1001), (1002, 1002), (1003, 1003)] (hm) hE ?_; rintro _ _ ⟨rfl, rfl⟩ <;> (intro _ _ h1 h2; simp only [renEqs, Nat.reduceBEq, renL_app, renL_ds, renL_und] at h1 h2; subst h1 h2)) | apply aw_seq | apply aw_region | apply al_nil | apply aq_np | apply aq_then | apply aq_then_x | apply aq_then_r | apply aw_skip | apply aw_exit | apply aw_ret | (apply at_op (.move _); refine r_move ?_) | (apply at_op (.assign _); refine r_assign ?_) | (apply at_cond; first | refine c_t ?_ | refine c_f ?_ | (refine aw_cond rfl (fun hb => ?_) (fun hb => ?_) <;> ((first | have hq := of_decide_eq_true hb | have hq := of_decide_eq_false hb | have hq := dNT hb | have hq := dNF hb | skip); (try (exfalso; omega))))) | (apply at_guard; first | refine g_go ?_ | refine g_nt ?_ | refine g_nf ?_ | refine g_nu ?_ | ((first | refine al_split_t rfl rfl (lt_ok rfl) (fun hb => ?_) (fun hb => ?_) | refine al_split_f rfl rfl (lt_ok rfl) (fun hb => ?_) (fun hb => ?_)) <;> ((first | have hq := of_decide_eq_true hb | have hq := of_decide_eq_false hb | have hq := dNT hb | have hq := dNF hb | skip); (try (exfalso; omega))))) | (apply at_op (.pick _ _ _); refine r_pick ?_) | (apply at_op (.binOp .lss _ _ _ _); refine r_lss ?_) | (apply at_op (.binOp .gtr _ _ _ _); refine r_gtr ?_) | (apply at_op (.binOp .neq _ _ _ _); refine r_neq ?_) | (apply at_op (.slice _ _ _ _ _); refine r_slice ?_) | (apply at_op (.load _ _); refine r_load ?_) | (apply at_op (.fieldAddr _ _ _); refine r_faddr ?_) | (apply at_op (.field _ _ _); refine r_field ?_) | (apply at_op (.nilCheck _); refine r_nilck ?_))
      refine oret1 (dsk 1000 1001 1002 1003 k cm cs lm ls (endS st)) (by rfl) (by first | exact ResV.x _ _ (ResX.tmp _ _ (by first | exact ToD.d _ | exact ToD.row _ _ _ _ _ rfl | exact ToD.nil _)) | exact ResV.tmp _ _ rfl | exact ResV.x _ _ (ResX.cellA _ _ _ _ _ _ _ rfl rfl rfl (by first | (simp only [normV, normList, normMap]; rfl) | rfl) rfl)) (⟨rfl, Out.n ⟨k, cm, cs, lm, ls, h.ends, rfl⟩ 15⟩) (by (repeat (first | exact obs_nil | (apply obs_cons; focus (first | rfl | (simp [find]; done)))))) (by first | (simp [okOut, V.within, V.withinL, O.within, keys, mem, look, nbeq_def, withinL_app, withinL_ds, withinL_und]; done) | rfl)
  · rw [he] at h1
    rw [if_pos rfl, ← hkeep]
    refine ob_enter Try.func30 rfl (by decide) _ Try.ntmps30 (le_ok rfl) rfl (fun w Pr β κ hE => ?_)
    dsimp only [slotsV, Nat.zero_add, Nat.reduceAdd]
    repeat' (first | (apply at_call; refine k_ocall [(1000, 1000), (1001, 1001), (1002, 1002), (1003, 1003)] (h1) hE ?_; rintro _ _ ⟨rfl, rfl⟩ <;> (intro _ _ h1 h2; simp only [renEqs, Nat.reduceBEq, renL_app, renL_ds, renL_und] at h1 h2; subst h1 h2)) | (apply at_call; refine k_ocall [(1000, 1000), (1001, 1001), (1002, 1002), (1003, 1003), (106, 15)] (crash_any h.ends hck) hE ?_; rintro _ _ ⟨rfl, s3, k3, cm3, cs3, lm3, ls3, hs3, hD3, rfl⟩; rcases hs3 with rfl | rfl <;> (intro _ _ h1 h2; simp only [renEqs, Nat.reduceBEq, renL_app, renL_ds, renL_und] at h1 h2; subst h1 h2)) | apply aw_seq | apply aw_region | apply al_nil | apply aq_np | apply aq_then | apply aq_then_x | apply aq_then_r | apply aw_skip | apply aw_exit | apply aw_ret | (apply at_op (.move _); refine r_move ?_) | (apply at_op (.assign _); refine r_assign ?_) | (apply at_cond; first | refine c_t ?_ | refine c_f ?_ | (refine aw_cond rfl (fun hb => ?_) (fun hb => ?_) <;> ((first | have hq := of_decide_eq_true hb | have hq := of_decide_eq_false hb | have hq := dNT hb | have hq := dNF hb | skip); (try (exfalso; omega))))) | (apply at_guard; first | refine g_go ?_ | refine g_nt ?_ | refine g_nf ?_ | refine g_nu ?_ | ((first | refine al_split_t rfl rfl (lt_ok rfl) (fun hb => ?_) (fun hb => ?_) | refine al_split_f rfl rfl (lt_ok rfl) (fun hb => ?_) (fun hb => ?_)) <;> ((first | have hq := of_decide_eq_true hb | have hq := of_decide_eq_false hb | have hq := dNT hb | have hq := dNF hb | skip); (try (exfalso; omega))))) | (apply at_op (.pick _ _ _); refine r_pick ?_) | (apply at_op (.binOp .lss _ _ _ _); refine r_lss ?_) | (apply at_op (.binOp .gtr _ _ _ _); refine r_gtr ?_) | (apply at_op (.binOp .neq _ _ _ _); refine r_neq ?_) | (apply at_op (.slice _ _ _ _ _); refine r_slice ?_) | (apply at_op (.load _ _); refine r_load ?_) | (apply at_op (.fieldAddr _ _ _); refine r_faddr ?_) | (apply at_op (.field _ _ _); refine r_field ?_) | (apply at_op (.nilCheck _); refine r_nilck ?_))
    rotate_left
    all_goals
      have hm := may_any (k := k3) (cm := cm3) (cs := cs3) (lm := lm3) (ls := ls3) (st := crashS (endS st) (endS st).keep) f
      rw [may_down (crash_isdown _ _)] at hm
      have hm8 : (!decide ((8 : Int) = 0)) = true := rfl
    · skip
      repeat' (first | (apply at_call; refine k_ocall [(1000, 1000), (1001, 1001), (1002, 1002), (1003, 15)] (hm) hE ?_; rintro _ _ ⟨rfl, rfl⟩ <;> (intro _ _ h1 h2; simp only [renEqs, Nat.reduceBEq, renL_app, renL_ds, renL_und] at h1 h2; subst h1 h2)) | apply aw_seq | apply aw_region | apply al_nil | apply aq_np | apply aq_then | apply aq_then_x | apply aq_then_r | apply aw_skip | apply aw_exit | apply aw_ret | (apply at_op (.move _); refine r_move ?_) | (apply at_op (.assign _); refine r_assign ?_) | (apply at_cond; first | refine c_t ?_ | refine c_f ?_ | (refine aw_cond rfl (fun hb => ?_) (fun hb => ?_) <;> ((first | have hq := of_decide_eq_true hb | have hq := of_decide_eq_false hb | have hq := dNT hb | have hq := dNF hb | skip); (try (exfalso; omega))))) | (apply at_guard; first | refine g_go ?_ | refine g_nt ?_ | refine g_nf ?_ | refine g_nu ?_ | ((first | refine al_split_t rfl rfl (lt_ok rfl) (fun hb => ?_) (fun hb => ?_) | refine al_split_f rfl rfl (lt_ok rfl) (fun hb => ?_) (fun hb => ?_)) <;> ((first | have hq := of_decide_eq_true hb | have hq := of_decide_eq_false hb | have hq := dNT hb | have hq := dNF hb | skip); (try (exfalso; omega))))) | (apply at_op (.pick _ _ _); refine r_pick ?_) | (apply at_op (.binOp .lss _ _ _ _); refine r_lss ?_) | (apply at_op (.binOp .gtr _ _ _ _); refine r_gtr ?_) | (apply at_op (.binOp .neq _ _ _ _); refine r_neq ?_) | (apply at_op (.slice _ _ _ _ _); refine r_slice ?_) | (apply at_op (.load _ _); refine r_load ?_) | (apply at_op (.fieldAddr _ _ _); refine r_faddr ?_) | (apply at_op (.field _ _ _); refine r_field ?_) | (apply at_op (.nilCheck _); refine r_nilck ?_))
      refine oret1 (dsk 1000 1001 1002 15 k3 cm3 cs3 lm3 ls3 _) (by rfl) (by first | exact ResV.x _ _ (ResX.tmp _ _ (by first | exact ToD.d _ | exact ToD.row _ _ _ _ _ rfl | exact ToD.nil _)) | exact ResV.tmp _ _ rfl | exact ResV.x _ _ (ResX.cellA _ _ _ _ _ _ _ rfl rfl rfl (by first | (simp only [normV, normList, normMap]; rfl) | rfl) rfl)) (⟨rfl, 15, k3, cm3, cs3, lm3, ls3, .inr rfl, hD3, rfl⟩) (by (repeat (first | exact obs_nil | (apply obs_cons; focus (first | rfl | (simp [find]; done)))))) (by first | (simp [okOut, V.within, V.withinL, O.within, keys, mem, look, nbeq_def, withinL_app, withinL_ds, withinL_und]; done) | rfl)
    · skip
      repeat' (first | (apply at_call; refine k_ocall [(1000, 1000), (1001, 1001), (1002, 1002), (1003, 1003)] (hm) hE ?_; rintro _ _ ⟨rfl, rfl⟩ <;> (intro _ _ h1 h2; simp only [renEqs, Nat.reduceBEq, renL_app, renL_ds, renL_und] at h1 h2; subst h1 h2)) | apply aw_seq | apply aw_region | apply al_nil | apply aq_np | apply aq_then | apply aq_then_x | apply aq_then_r | apply aw_skip | apply aw_exit | apply aw_ret | (apply at_op (.move _); refine r_move ?_) | (apply at_op (.assign _); refine r_assign ?_) | (apply at_cond; first | refine c_t ?_ | refine c_f ?_ | (refine aw_cond rfl (fun hb => ?_) (fun hb => ?_) <;> ((first | have hq := of_decide_eq_true hb | have hq := of_decide_eq_false hb | have hq := dNT hb | have hq := dNF hb | skip); (try (exfalso; omega))))) | (apply at_guard; first | refine g_go ?_ | refine g_nt ?_ | refine g_nf ?_ | refine g_nu ?_ | ((first | refine al_split_t rfl rfl (lt_ok rfl) (fun hb => ?_) (fun hb => ?_) | refine al_split_f rfl rfl (lt_ok rfl) (fun hb => ?_) (fun hb => ?_)) <;> ((first | have hq := of_decide_eq_true hb | have hq := of_decide_eq_false hb | have hq := dNT hb | have hq := dNF hb | skip); (try (exfalso; omega))))) | (apply at_op (.pick _ _ _); refine r_pick ?_) | (apply at_op (.binOp .lss _ _ _ _); refine r_lss ?_) | (apply at_op (.binOp .gtr _ _ _ _); refine r_gtr ?_) | (apply at_op (.binOp .neq _ _ _ _); refine r_neq ?_) | (apply at_op (.slice _ _ _ _ _); refine r_slice ?_) | (apply at_op (.load _ _); refine r_load ?_) | (apply at_op (.fieldAddr _ _ _); refine r_faddr ?_) | (apply at_op (.field _ _ _); refine r_field ?_) | (apply at_op (.nilCheck _); refine r_nilck ?_))
      refine oret1 (dsk 1000 1001 1002 1003 k3 cm3 cs3 lm3 ls3 _) (by rfl) (by first | exact ResV.x _ _ (ResX.tmp _ _ (by first | exact ToD.d _ | exact ToD.row _ _ _ _ _ rfl | exact ToD.nil _)) | exact ResV.tmp _ _ rfl | exact ResV.x _ _ (ResX.cellA _ _ _ _ _ _ _ rfl rfl rfl (by first | (simp only [normV, normList, normMap]; rfl) | rfl) rfl)) (⟨rfl, 1003, k3, cm3, cs3, lm3, ls3, .inl rfl, hD3, rfl⟩) (by (repeat (first | exact obs_nil | (apply obs_cons; focus (first | rfl | (simp [find]; done)))))) (by first | (simp [okOut, V.within, V.withinL, O.within, keys, mem, look, nbeq_def, withinL_app, withinL_ds, withinL_und]; done) | rfl)
end
end Go.Proofs.Ytabaflklognhaaa
end
section
set_option linter.unusedSimpArgs false
set_option linter.unusedVariables false
namespace Go.Proofs.Ytabaflklognhaaa
open Go.RowKit Go.ChangeMaps

set_option maxHeartbeats 4000000 in
set_option maxRecDepth 20000 in
theorem cloneF_run (b : Nat) (es : Array MapEntry) (clock : Nat) (w : World) (hb : w.heap[b]? = some (.map es clock)) :
    Calls Try.prog 40 #[.map (some b)] w fun e w' => e = .returned (.map (some w.heap.size)) ∧ w' = w.alloc (.map es clock) := by
  have hq := fun w => run_mnil w (some b) Try.underlying52
  have mixed : Try.prog.follows .mixedOrders = true := follows_mixed
  go_enter Try.func40, Try.ntmps40
  go_wp2
  rw [run_callFunc_extern Try.func55 (by kernel_rfl) (by kernel_rfl) (by kernel_rfl) (e := Extern.MapsClone.clone) (by kernel_rfl), run_mclone w 52 hb]
  simp only [Result.andThen]
  rw [Oper.upon_value]
  go_wp2
  rw [run_massert _ _ Try.underlying52]
  simp only [Result.andThen]
  rw [Oper.upon_value]
  go_wp2
  go_ret
  exact ⟨rfl, rfl⟩
set_option maxHeartbeats 4000000 in
set_option maxRecDepth 20000 in
theorem cloneS_run (b : Nat) (es : Array MapEntry) (clock : Nat) (w : World) (hb : w.heap[b]? = some (.map es clock)) :
    Calls Try.prog 42 #[.map (some b)] w fun e w' => e = .returned (.map (some w.heap.size)) ∧ w' = w.alloc (.map es clock) := by
  have hq := fun w => run_mnil w (some b) Try.underlying53
  have mixed : Try.prog.follows .mixedOrders = true := follows_mixed
  go_enter Try.func42, Try.ntmps42
  go_wp2
  rw [run_callFunc_extern Try.func55 (by kernel_rfl) (by kernel_rfl) (by kernel_rfl) (e := Extern.MapsClone.clone) (by kernel_rfl), run_mclone w 53 hb]
  simp only [Result.andThen]
  rw [Oper.upon_value]
  go_wp2
  rw [run_massert _ _ Try.underlying53]
  simp only [Result.andThen]
  rw [Oper.upon_value]
  go_wp2
  go_ret
  exact ⟨rfl, rfl⟩
theorem cloneF_any (c : Nat) (l : List ME) : ObC 40 [.mp 1000] [(1000, .map 52 c l)] [3] (fun x o => x = .mp 3 ∧ o = [(3, .map 52 c l), (1000, .map 52 c l)]) :=
  clone_obc ⟨_, Try.func40, by decide, rfl⟩ cloneF_run c l
theorem cloneS_any (c : Nat) (l : List ME) : ObC 42 [.mp 1000] [(1000, .map 53 c l)] [3] (fun x o => x = .mp 3 ∧ o = [(3, .map 53 c l), (1000, .map 53 c l)]) :=
  clone_obc ⟨_, Try.func42, by decide, rfl⟩ cloneS_run c l
theorem vals_secs (Q : List Sec) : valsOnly (Q.map secC) := by
  intro q hq z hz
  obtain ⟨p, _, rfl⟩ := List.mem_map.1 hq
  simp [secC] at hz
  rcases hz with rfl | rfl <;> exact ⟨_, rfl⟩
theorem one_secs (Q : List Sec) : ∀ q ∈ Q.map secC, ∀ z ∈ q, D.one z = true := by
  intro q hq z hz
  obtain ⟨p, _, rfl⟩ := List.mem_map.1 hq
  simp [secC] at hz
  rcases hz with rfl | rfl <;> rfl
set_option maxHeartbeats 8000000 in
set_option maxRecDepth 20000 in
theorem cloneQ_any (k : Nat) (Q : List Sec) (hQ : Q.length ≤ 4194320) : ObC 41 [.row 1000 k] [(1000, secRow k Q)] [5] (fun x o => ∃ k', x = .row 5 k' ∧ o = [(5, secRow k' Q), (1000, secRow k Q)]) := by
  refine ob_enter Try.func41 rfl (by decide) _ Try.ntmps41 (le_ok rfl) rfl (fun w Pr β κ hE => ?_)
  dsimp only [slotsV, Nat.zero_add, Nat.reduceAdd]
  repeat' (first | (apply at_op (.binOp .eql _ _ _ _); refine al_vecnil rfl rfl Try.underlying54 (lt_ok rfl) (fun b hb0 => ?_)) | (apply at_op (.buildSlice _ _ _); refine al_step (st_litR0 rfl (lt_ok rfl) rfl) rfl ?_; refine al_unrow 5 rfl ?_) | (apply at_op (.call { callee := .builtin .append, args := _, argTypes := _ }); refine al_step (st_vappendv rfl rfl rfl rfl (vals_secs Q) rfl rfl (one_secs Q) (by decide) (by first | (simp only [List.length_map, List.length_append, List.length_cons, List.length_nil]; omega) | omega) (by first | (simp only [List.length_map, List.length_append, List.length_cons, List.length_nil]; omega) | omega) (lt_ok rfl)) rfl ?_) | apply aw_seq | apply aw_region | apply al_nil | apply aq_np | apply aq_then | apply aq_then_x | apply aq_then_r | apply aw_skip | apply aw_exit | apply aw_ret | (apply at_op (.move _); refine r_move ?_) | (apply at_op (.assign _); refine r_assign ?_) | (apply at_cond; first | refine c_t ?_ | refine c_f ?_ | (refine aw_cond rfl (fun hb => ?_) (fun hb => ?_) <;> ((first | have hq := of_decide_eq_true hb | have hq := of_decide_eq_false hb | have hq := dNT hb | have hq := dNF hb | skip); (try (exfalso; omega))))) | (apply at_op (.binOp .eql _ _ _ _); refine r_eql ?_) | (apply at_op (.buildSlice _ _ _); refine r_lits ?_) | (apply at_op (.call { callee := .builtin .append, args := _, argTypes := _ }); refine r_appd ?_))
  · have hQ0 : Q = [] := by simpa using hb0 (by assumption)
    subst hQ0
    refine aq_adopt 2 5 70 2 rfl rfl (lt_ok rfl) ?_
    refine aq_unrow 5 rfl ?_
    refine oret1 ([(5, secRow 0 []), (1000, secRow k [])]) (by rfl) (by first | exact ResV.x _ _ (ResX.tmp _ _ (by first | exact ToD.d _ | exact ToD.row _ _ _ _ _ rfl | exact ToD.nil _)) | exact ResV.tmp _ _ rfl | exact ResV.x _ _ (ResX.cellA _ _ _ _ _ _ _ rfl rfl rfl (by first | (simp only [normV, normList, normMap]; rfl) | rfl) rfl)) (⟨0, rfl, rfl⟩) (by (repeat (first | exact obs_nil | (apply obs_cons; focus (first | rfl | (simp [find]; done)))))) (by first | (simp [okOut, V.within, V.withinL, O.within, keys, mem, look, nbeq_def, withinL_app, withinL_ds, withinL_und]; done) | rfl)
  · skip
    refine oret1 ([(5, .vec 70 2 1 ([] ++ Q.map secC)), (1000, secRow k Q)]) (by rfl) (by first | exact ResV.x _ _ (ResX.tmp _ _ (by first | exact ToD.d _ | exact ToD.row _ _ _ _ _ rfl | exact ToD.nil _)) | exact ResV.tmp _ _ rfl | exact ResV.x _ _ (ResX.cellA _ _ _ _ _ _ _ rfl rfl rfl (by first | (simp only [normV, normList, normMap]; rfl) | rfl) rfl)) (⟨1, rfl, rfl⟩) (by (repeat (first | exact obs_nil | (apply obs_cons; focus (first | rfl | (simp [find]; done)))))) (by first | (simp [okOut, V.within, V.withinL, O.within, keys, mem, look, nbeq_def, withinL_app, withinL_ds, withinL_und]; done) | rfl)
section
variable {k cm cs : Nat} {lm ls : List ME} {st : DS}
set_option maxHeartbeats 8000000 in
set_option maxRecDepth 20000 in
theorem copy_any (h : DkOk lm ls st) : ObC 18 [.box 1000 0] (dsk 1000 1001 1002 1003 k cm cs lm ls st) [3, 11, 16, 21] (fun x o => ∃ k', x = .box 3 0 ∧ o = dsk 3 11 16 21 k' cm cs lm ls st ++ dsk 1000 1001 1002 1003 k cm cs lm ls st) := by
  have hQ := h.ok.len
  refine ob_enter Try.func18 rfl (by decide) _ Try.ntmps18 (le_ok rfl) rfl (fun w Pr β κ hE => ?_)
  dsimp only [slotsV, Nat.zero_add, Nat.reduceAdd]
  repeat' (first | (apply at_op (.load _ _); refine al_y (y_bloadV rfl rfl rfl (by first | (simp only [normV, normList, normMap]; rfl) | rfl) rfl (by decide)) (lt_ok rfl) ?_) | apply aw_seq | apply aw_region | apply al_nil | apply aq_np | apply aq_then | apply aq_then_x | apply aq_then_r | apply aw_skip | apply aw_exit | apply aw_ret | (apply at_op (.move _); refine r_move ?_) | (apply at_op (.assign _); refine r_assign ?_) | (apply at_op (.load _ _); refine r_load ?_) | (apply at_op (.fieldAddr _ _ _); refine r_faddr ?_) | (apply at_op (.nilCheck _); refine r_nilck ?_) | (apply at_op (.alloc _); refine r_alloc ?_) | (apply at_op (.store _ _ _); refine r_store ?_))
  apply at_op (.store _ _ _)
  refine al_step (st_store rfl rfl (ev_agg rfl) nofun rfl (by intro z hz; simp [cellsV] at hz; rcases hz with rfl | rfl | rfl | rfl | rfl | rfl | rfl <;> rfl) (.inr rfl) rfl (le_ok rfl) (by first | (simp only [normV, normList, normMap]; rfl) | rfl)) rfl ?_
  repeat' (first | apply aw_seq | apply aw_region | apply al_nil | apply aq_np | apply aq_then | apply aq_then_x | apply aq_then_r | apply aw_skip | apply aw_exit | apply aw_ret | (apply at_op (.move _); refine r_move ?_) | (apply at_op (.assign _); refine r_assign ?_) | (apply at_op (.load _ _); refine r_load ?_) | (apply at_op (.fieldAddr _ _ _); refine r_faddr ?_) | (apply at_op (.nilCheck _); refine r_nilck ?_) | (apply at_op (.alloc _); refine r_alloc ?_) | (apply at_op (.store _ _ _); refine r_store ?_))
  refine aw_mixo ([(1000, dskBox 1001 1002 1003 k st)]) [(0, true), (1, true), (2, true), (3, true), (5, true), (6, true), (7, true), (8, true), (10, true), (11, true), (12, true), (13, true), (4, false), (9, false), (14, false), (15, true), (16, false), (17, true), (18, false)] [19, 20] (by kernel_rfl) (by kernel_rfl) (by kernel_rfl) (by decide) (by (repeat (first | exact obs_nil | (apply obs_cons; focus (first | rfl | (simp [find]; done)))))) ?_
  simp only [planned, tailed, List.filterMap_cons, List.filterMap_nil, List.getElem?_cons_zero, List.getElem?_cons_succ, Option.map_some]
  repeat' (first | apply am_nil | refine am_skip (by first | exact want_no_t rfl rfl (by assumption) | exact want_no_f rfl rfl (by assumption) | exact want_no_t rfl rfl (by with_reducible rfl) | exact want_no_f rfl rfl (by with_reducible rfl) | exact want_no_u rfl rfl) (lt_ok rfl) ?_ | refine am_skip' (by first | exact want_no_t rfl rfl (by assumption) | exact want_no_f rfl rfl (by assumption) | exact want_no_t rfl rfl (by with_reducible rfl) | exact want_no_f rfl rfl (by with_reducible rfl) | exact want_no_u rfl rfl) (lt_ok rfl) ?_ | (apply at_am (.call { callee := .value _, args := _, argTypes := _ }); refine am_ocall1 [(1000, 1001), (3, 11)] (cloneF_any cm lm) (by first | exact want_none | exact want_yes rfl rfl (by assumption) | exact want_yes rfl rfl (by with_reducible rfl)) rfl hE (lt_ok rfl) (by (repeat (first | refine ArgsV.cons (.same _ _ rfl) ?_ | refine ArgsV.cons (.toD _ _ (by first | exact ToD.d _ | exact ToD.row _ _ _ _ _ rfl | exact ToD.nil _)) ?_)); exact ArgsV.nil) ⟨(obs_cons (by first | rfl | (simp [find, O.ren, V.ren, V.renL, rn, nbeq_def, renL_app, renL_ds, renL_und]; done)) obs_nil), rfl, rfl, rfl, rfl⟩ rfl rfl rfl (lt_ok rfl) ?_; (all_goals (try first | omega | assumption)); rintro _ _ ⟨rfl, rfl⟩; intro _ _ h1 h2; simp only [V.ren, V.renL, O.ren, renO, rn, dropK, keys, mem, List.map_cons, List.map_nil, List.any_cons, List.any_nil, List.cons_append, List.nil_append, nbeq_def, Nat.reduceBEq, cond_true, cond_false, Bool.or_false, Bool.false_or, Bool.true_or, renL_app, renL_ds, renL_und] at h1 h2; subst h1 h2) | (apply at_am (.call { callee := .value _, args := _, argTypes := _ }); refine am_ocall1 [(1000, 1002), (5, 16)] (cloneQ_any k st.Q hQ) (by first | exact want_none | exact want_yes rfl rfl (by assumption) | exact want_yes rfl rfl (by with_reducible rfl)) rfl hE (lt_ok rfl) (by (repeat (first | refine ArgsV.cons (.same _ _ rfl) ?_ | refine ArgsV.cons (.toD _ _ (by first | exact ToD.d _ | exact ToD.row _ _ _ _ _ rfl | exact ToD.nil _)) ?_)); exact ArgsV.nil) ⟨(obs_cons (by first | rfl | (simp [find, O.ren, V.ren, V.renL, rn, nbeq_def, renL_app, renL_ds, renL_und]; done)) obs_nil), rfl, rfl, rfl, rfl⟩ rfl rfl rfl (lt_ok rfl) ?_; (all_goals (try first | omega | assumption)); rintro _ _ ⟨k1, rfl, rfl⟩; intro _ _ h1 h2; simp only [V.ren, V.renL, O.ren, renO, rn, dropK, keys, mem, List.map_cons, List.map_nil, List.any_cons, List.any_nil, List.cons_append, List.nil_append, nbeq_def, Nat.reduceBEq, cond_true, cond_false, Bool.or_false, Bool.false_or, Bool.true_or, renL_app, renL_ds, renL_und] at h1 h2; subst h1 h2) | (apply at_am (.call { callee := .value _, args := _, argTypes := _ }); refine am_ocall1 [(1000, 1003), (3, 21)] (cloneS_any cs ls) (by first | exact want_none | exact want_yes rfl rfl (by assumption) | exact want_yes rfl rfl (by with_reducible rfl)) rfl hE (lt_ok rfl) (by (repeat (first | refine ArgsV.cons (.same _ _ rfl) ?_ | refine ArgsV.cons (.toD _ _ (by first | exact ToD.d _ | exact ToD.row _ _ _ _ _ rfl | exact ToD.nil _)) ?_)); exact ArgsV.nil) ⟨(obs_cons (by first | rfl | (simp [find, O.ren, V.ren, V.renL, rn, nbeq_def, renL_app, renL_ds, renL_und]; done)) obs_nil), rfl, rfl, rfl, rfl⟩ rfl rfl rfl (lt_ok rfl) ?_; (all_goals (try first | omega | assumption)); rintro _ _ ⟨rfl, rfl⟩; intro _ _ h1 h2; simp only [V.ren, V.renL, O.ren, renO, rn, dropK, keys, mem, List.map_cons, List.map_nil, List.any_cons, List.any_nil, List.cons_append, List.nil_append, nbeq_def, Nat.reduceBEq, cond_true, cond_false, Bool.or_false, Bool.false_or, Bool.true_or, renL_app, renL_ds, renL_und] at h1 h2; subst h1 h2) | (apply at_am (.store _ _ _); first | refine am_store (n := [.mp 11]) (by first | exact want_none | exact want_yes rfl rfl (by assumption) | exact want_yes rfl rfl (by with_reducible rfl)) rfl rfl rfl (ev_mp rfl) nofun rfl (by intro z hz; simp at hz; subst hz; rfl) (.inl ⟨rfl, rfl⟩) rfl (le_ok rfl) (by first | (simp only [normV, normList, normMap]; rfl) | rfl) ?_ | refine am_store (n := [_]) (by first | exact want_none | exact want_yes rfl rfl (by assumption) | exact want_yes rfl rfl (by with_reducible rfl)) rfl rfl rfl (ev_row rfl) nofun rfl (by intro z hz; simp at hz; subst hz; rfl) (.inl ⟨rfl, rfl⟩) rfl (le_ok rfl) (by first | (simp only [normV, normList, normMap]; rfl) | rfl) ?_) | (apply at_am (.move _); refine m_move ?_) | (apply at_am (.assign _); refine n_assign ?_) | (apply at_am (.load _ _); refine m_load ?_) | (apply at_am (.fieldAddr _ _ _); refine m_faddr ?_) | (apply at_am (.nilCheck _); refine m_nilck ?_) | (refine am_split rfl rfl (fun hb => ?_) (fun hb => ?_) <;> ((first | have hq := of_decide_eq_true hb | have hq := of_decide_eq_false hb | have hq := of_decide_eq_false (not_t hb) | have hq := of_decide_eq_true (not_f hb) | skip); (try (exfalso; omega)))))
  repeat' (first | (apply at_op (.store _ _ _); refine al_step (st_store (n := [.mp 21]) rfl rfl (ev_mp rfl) nofun rfl (by intro z hz; simp at hz; subst hz; rfl) (.inl ⟨rfl, rfl⟩) rfl (le_ok rfl) (by first | (simp only [normV, normList, normMap]; rfl) | rfl)) rfl ?_) | apply aw_seq | apply aw_region | apply al_nil | apply aq_np | apply aq_then | apply aq_then_x | apply aq_then_r | apply aw_skip | apply aw_exit | apply aw_ret | (apply at_op (.move _); refine r_move ?_) | (apply at_op (.assign _); refine r_assign ?_) | (apply at_op (.load _ _); refine r_load ?_) | (apply at_op (.fieldAddr _ _ _); refine r_faddr ?_) | (apply at_op (.nilCheck _); refine r_nilck ?_) | (apply at_op (.alloc _); refine r_alloc ?_) | (apply at_op (.store _ _ _); refine r_store ?_))
  refine oret1 (dsk 3 11 16 21 k1 cm cs lm ls st ++ dsk 1000 1001 1002 1003 k cm cs lm ls st) (by rfl) (by first | exact ResV.x _ _ (ResX.tmp _ _ (by first | exact ToD.d _ | exact ToD.row _ _ _ _ _ rfl | exact ToD.nil _)) | exact ResV.tmp _ _ rfl | exact ResV.x _ _ (ResX.cellA _ _ _ _ _ _ _ rfl rfl rfl (by first | (simp only [normV, normList, normMap]; rfl) | rfl) rfl)) (⟨k1, rfl, rfl⟩) (by (repeat (first | exact obs_nil | (apply obs_cons; focus (first | rfl | (simp [find]; done)))))) (by first | (simp [okOut, V.within, V.withinL, O.within, keys, mem, look, nbeq_def, withinL_app, withinL_ds, withinL_und]; done) | rfl)
end
end Go.Proofs.Ytabaflklognhaaa
end
