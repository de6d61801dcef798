/-
  The reference's disk: Truncate, Write. Conditions: none.
  The reference's journal: Sync, Append. Conditions: none.
  The reference's journal: Open. Conditions: none.
-/
import Derived.Test.YtfgibalcdjlnhaaGreatDoorMaw
section
set_option linter.unusedSimpArgs false
set_option linter.unusedVariables false
namespace Go.Proofs.YtfgibalcdjlnhaaGreatDoor
open Go.RowKit Go.ChangeMaps

section
variable {k : Nat} {fs : List RFile} {st : DS}
set_option maxHeartbeats 8000000 in
set_option maxRecDepth 20000 in
theorem rTruncate_any (h : RkOk fs st) (f size : Int) : ObC 39 [.box 1000 0, .d (.int f), .d (.int size)] (rsk 1000 1001 k fs st) [] (fun x o => x = .d (.int (truncR st f size).1) ∧ ROut (truncR st f size).2 o) := by
  have hc := rcomes_any (k := k) h 0 0 ⟨#[]⟩ (by decide)
  unfold truncR
  cases he : endsB st
  · rw [comes_none he] at hc
    rw [if_neg (by decide)]
    have hm := fun k fs => rmay_any (k := k) (fs := fs) (st := endS st) f
    by_cases hm0 : mayE (endS st) f = 0
    · rw [if_neg (by simp [hm0])]
      have hmf := (may_ok hm0).2
      rw [hm0] at hm
      have ht0 : (!decide ((0 : Int) = 0)) = false := rfl
      have hg := fun k2 fs2 (hR2 : RkOk fs2 (endS st)) => rget_any (k := k2) hR2 f
      have hnow := h.ends.ok.now f
      simp only [rfD] at hg
      generalize hN : ((endS st).F f).now = now at hg hnow ⊢
      generalize ((endS st).F f).last = last at hg
      by_cases hneg : size < 0
      · rw [if_pos (.inl hneg)]
        refine ob_enter Tryz.func39 rfl (by decide) _ Tryz.ntmps39 (le_ok rfl) rfl (fun w Pr β κ hE => ?_)
        dsimp only [slotsV, Nat.zero_add, Nat.reduceAdd]
        repeat' (first | (apply at_call; refine k_ocall [(1000, 1000), (1001, 1001)] (hc) hE ?_; rintro _ _ ⟨rfl, k2, fs2, hR2, rfl⟩ <;> (intro _ _ h1 h2; simp only [renEqs, Nat.reduceBEq, renL_app, renL_ds, renL_und] at h1 h2; subst h1 h2)) | (apply at_call; refine k_ocall [(1000, 1000), (1001, 1001)] (hm k2 fs2) hE ?_; rintro _ _ ⟨rfl, rfl⟩ <;> (intro _ _ h1 h2; simp only [renEqs, Nat.reduceBEq, renL_app, renL_ds, renL_und] at h1 h2; subst h1 h2)) | (apply at_call; refine k_ocall [(1000, 1000), (1001, 1001)] (hg k2 fs2 hR2) hE ?_; rintro _ _ ⟨rfl, rfl⟩ <;> (intro _ _ h1 h2; simp only [renEqs, Nat.reduceBEq, renL_app, renL_ds, renL_und] at h1 h2; subst h1 h2)) | refine nx ?_ | (apply qr_move; refine r_move ?_) | (apply qr_assign; refine r_assign ?_) | (apply at_cond; first | refine c_t ?_ | refine c_f ?_ | (refine aw_cond rfl (fun hb => ?_) (fun hb => ?_) <;> ((try have hq := dX hb); (try (exfalso; omega))))) | (apply at_guard; first | refine g_go ?_ | refine g_nt ?_ | refine g_nf ?_ | refine g_nu ?_ | ((first | refine al_split_t rfl rfl (lt_ok rfl) (fun hb => ?_) (fun hb => ?_) | refine al_split_f rfl rfl (lt_ok rfl) (fun hb => ?_) (fun hb => ?_)) <;> ((try have hq := dX hb); (try (exfalso; omega))))) | (apply qr_pick; refine r_pick ?_) | (apply qr_lss; refine r_lss ?_) | (apply qr_gtr; refine r_gtr ?_) | (apply qr_neq; refine r_neq ?_) | (apply qr_len; refine r_len ?_) | (apply qr_slice; refine r_slice ?_) | (apply qr_field; refine r_field ?_))
        refine oret1 (rsk 1000 1001 k2 fs2 (endS st)) (by rfl) rv (⟨rfl, k2, fs2, hR2, rfl⟩) sb okx
      · by_cases hbig : (now.size : Int) < size
        · rw [if_pos (.inr hbig)]
          refine ob_enter Tryz.func39 rfl (by decide) _ Tryz.ntmps39 (le_ok rfl) rfl (fun w Pr β κ hE => ?_)
          dsimp only [slotsV, Nat.zero_add, Nat.reduceAdd]
          repeat' (first | (apply at_call; refine k_ocall [(1000, 1000), (1001, 1001)] (hc) hE ?_; rintro _ _ ⟨rfl, k2, fs2, hR2, rfl⟩ <;> (intro _ _ h1 h2; simp only [renEqs, Nat.reduceBEq, renL_app, renL_ds, renL_und] at h1 h2; subst h1 h2)) | (apply at_call; refine k_ocall [(1000, 1000), (1001, 1001)] (hm k2 fs2) hE ?_; rintro _ _ ⟨rfl, rfl⟩ <;> (intro _ _ h1 h2; simp only [renEqs, Nat.reduceBEq, renL_app, renL_ds, renL_und] at h1 h2; subst h1 h2)) | (apply at_call; refine k_ocall [(1000, 1000), (1001, 1001)] (hg k2 fs2 hR2) hE ?_; rintro _ _ ⟨rfl, rfl⟩ <;> (intro _ _ h1 h2; simp only [renEqs, Nat.reduceBEq, renL_app, renL_ds, renL_und] at h1 h2; subst h1 h2)) | refine nx ?_ | (apply qr_move; refine r_move ?_) | (apply qr_assign; refine r_assign ?_) | (apply at_cond; first | refine c_t ?_ | refine c_f ?_ | (refine aw_cond rfl (fun hb => ?_) (fun hb => ?_) <;> ((try have hq := dX hb); (try (exfalso; omega))))) | (apply at_guard; first | refine g_go ?_ | refine g_nt ?_ | refine g_nf ?_ | refine g_nu ?_ | ((first | refine al_split_t rfl rfl (lt_ok rfl) (fun hb => ?_) (fun hb => ?_) | refine al_split_f rfl rfl (lt_ok rfl) (fun hb => ?_) (fun hb => ?_)) <;> ((try have hq := dX hb); (try (exfalso; omega))))) | (apply qr_pick; refine r_pick ?_) | (apply qr_lss; refine r_lss ?_) | (apply qr_gtr; refine r_gtr ?_) | (apply qr_neq; refine r_neq ?_) | (apply qr_len; refine r_len ?_) | (apply qr_slice; refine r_slice ?_) | (apply qr_field; refine r_field ?_))
          refine oret1 (rsk 1000 1001 k2 fs2 (endS st)) (by rfl) rv (⟨rfl, k2, fs2, hR2, rfl⟩) sb okx
        · rw [if_neg (by omega)]
          have hcut : (now.extract 0 size.toNat).size ≤ 16777216 := by rw [ByteArray.size_extract]; omega
          refine ob_enter Tryz.func39 rfl (by decide) _ Tryz.ntmps39 (le_ok rfl) rfl (fun w Pr β κ hE => ?_)
          dsimp only [slotsV, Nat.zero_add, Nat.reduceAdd]
          repeat' (first | (apply at_call; refine k_ocall [(1000, 1000), (1001, 1001)] (hc) hE ?_; rintro _ _ ⟨rfl, k2, fs2, hR2, rfl⟩ <;> (intro _ _ h1 h2; simp only [renEqs, Nat.reduceBEq, renL_app, renL_ds, renL_und] at h1 h2; subst h1 h2)) | (apply at_call; refine k_ocall [(1000, 1000), (1001, 1001)] (hm k2 fs2) hE ?_; rintro _ _ ⟨rfl, rfl⟩ <;> (intro _ _ h1 h2; simp only [renEqs, Nat.reduceBEq, renL_app, renL_ds, renL_und] at h1 h2; subst h1 h2)) | (apply at_call; refine k_ocall [(1000, 1000), (1001, 1001)] (hg k2 fs2 hR2) hE ?_; rintro _ _ ⟨rfl, rfl⟩ <;> (intro _ _ h1 h2; simp only [renEqs, Nat.reduceBEq, renL_app, renL_ds, renL_und] at h1 h2; subst h1 h2)) | (apply at_op (.slice _ _ none (some _) none); refine al_y (y_sub_s (l := 0) (h := size.toNat) rfl (by kernel_rfl) low_none (high_some rfl (by omega)) (by omega) (by omega)) (lt_ok rfl) ?_) | (apply at_call; refine k_ocall [(1000, 1000), (1001, 1001)] (rsettle_any hR2 f (now.extract 0 size.toNat)) hE ?_; rintro _ _ ⟨rfl, k3, rfl⟩ <;> (intro _ _ h1 h2; simp only [renEqs, Nat.reduceBEq, renL_app, renL_ds, renL_und] at h1 h2; subst h1 h2)) | refine nx ?_ | (apply qr_move; refine r_move ?_) | (apply qr_assign; refine r_assign ?_) | (apply at_cond; first | refine c_t ?_ | refine c_f ?_ | (refine aw_cond rfl (fun hb => ?_) (fun hb => ?_) <;> ((try have hq := dX hb); (try (exfalso; omega))))) | (apply at_guard; first | refine g_go ?_ | refine g_nt ?_ | refine g_nf ?_ | refine g_nu ?_ | ((first | refine al_split_t rfl rfl (lt_ok rfl) (fun hb => ?_) (fun hb => ?_) | refine al_split_f rfl rfl (lt_ok rfl) (fun hb => ?_) (fun hb => ?_)) <;> ((try have hq := dX hb); (try (exfalso; omega))))) | (apply qr_pick; refine r_pick ?_) | (apply qr_lss; refine r_lss ?_) | (apply qr_gtr; refine r_gtr ?_) | (apply qr_neq; refine r_neq ?_) | (apply qr_len; refine r_len ?_) | (apply qr_slice; refine r_slice ?_) | (apply qr_field; refine r_field ?_))
          refine oret1 (rsk 1000 1001 k3 (rset fs2 (f, ⟨now.extract 0 size.toNat, now.extract 0 size.toNat⟩)) (settleS (endS st) f (now.extract 0 size.toNat))) (by rfl) rv (⟨rfl, k3, _, hR2.put hmf rfl (hR2.ok.settle hmf hcut), rfl⟩) sb okx
    · rw [if_pos hm0]
      have hq2 : (!decide (mayE (endS st) f = 0)) = true := by rw [decide_eq_false hm0]; rfl
      refine ob_enter Tryz.func39 rfl (by decide) _ Tryz.ntmps39 (le_ok rfl) rfl (fun w Pr β κ hE => ?_)
      dsimp only [slotsV, Nat.zero_add, Nat.reduceAdd]
      repeat' (first | (apply at_call; refine k_ocall [(1000, 1000), (1001, 1001)] (hc) hE ?_; rintro _ _ ⟨rfl, k2, fs2, hR2, rfl⟩ <;> (intro _ _ h1 h2; simp only [renEqs, Nat.reduceBEq, renL_app, renL_ds, renL_und] at h1 h2; subst h1 h2)) | (apply at_call; refine k_ocall [(1000, 1000), (1001, 1001)] (hm k2 fs2) hE ?_; rintro _ _ ⟨rfl, rfl⟩ <;> (intro _ _ h1 h2; simp only [renEqs, Nat.reduceBEq, renL_app, renL_ds, renL_und] at h1 h2; subst h1 h2)) | refine nx ?_ | (apply qr_move; refine r_move ?_) | (apply qr_assign; refine r_assign ?_) | (apply at_cond; first | refine c_t ?_ | refine c_f ?_ | (refine aw_cond rfl (fun hb => ?_) (fun hb => ?_) <;> ((try have hq := dX hb); (try (exfalso; omega))))) | (apply at_guard; first | refine g_go ?_ | refine g_nt ?_ | refine g_nf ?_ | refine g_nu ?_ | ((first | refine al_split_t rfl rfl (lt_ok rfl) (fun hb => ?_) (fun hb => ?_) | refine al_split_f rfl rfl (lt_ok rfl) (fun hb => ?_) (fun hb => ?_)) <;> ((try have hq := dX hb); (try (exfalso; omega))))) | (apply qr_pick; refine r_pick ?_) | (apply qr_lss; refine r_lss ?_) | (apply qr_gtr; refine r_gtr ?_) | (apply qr_neq; refine r_neq ?_) | (apply qr_len; refine r_len ?_) | (apply qr_slice; refine r_slice ?_) | (apply qr_field; refine r_field ?_))
      refine oret1 (rsk 1000 1001 k2 fs2 (endS st)) (by rfl) rv (⟨rfl, k2, fs2, hR2, rfl⟩) sb okx
  · rw [comes_sync he] at hc
    rw [if_pos rfl]
    have hm := fun k fs => rmay_any (k := k) (fs := fs) (st := crashS (endS st) st.keep) f
    rw [may_down (crash_isdown _ _)] at hm
    refine ob_enter Tryz.func39 rfl (by decide) _ Tryz.ntmps39 (le_ok rfl) rfl (fun w Pr β κ hE => ?_)
    dsimp only [slotsV, Nat.zero_add, Nat.reduceAdd]
    repeat' (first | (apply at_call; refine k_ocall [(1000, 1000), (1001, 1001)] (hc) hE ?_; rintro _ _ ⟨rfl, k2, fs2, hR2, rfl⟩ <;> (intro _ _ h1 h2; simp only [renEqs, Nat.reduceBEq, renL_app, renL_ds, renL_und] at h1 h2; subst h1 h2)) | (apply at_call; refine k_ocall [(1000, 1000), (1001, 1001)] (hm k2 fs2) hE ?_; rintro _ _ ⟨rfl, rfl⟩ <;> (intro _ _ h1 h2; simp only [renEqs, Nat.reduceBEq, renL_app, renL_ds, renL_und] at h1 h2; subst h1 h2)) | refine nx ?_ | (apply qr_move; refine r_move ?_) | (apply qr_assign; refine r_assign ?_) | (apply at_cond; first | refine c_t ?_ | refine c_f ?_ | (refine aw_cond rfl (fun hb => ?_) (fun hb => ?_) <;> ((try have hq := dX hb); (try (exfalso; omega))))) | (apply at_guard; first | refine g_go ?_ | refine g_nt ?_ | refine g_nf ?_ | refine g_nu ?_ | ((first | refine al_split_t rfl rfl (lt_ok rfl) (fun hb => ?_) (fun hb => ?_) | refine al_split_f rfl rfl (lt_ok rfl) (fun hb => ?_) (fun hb => ?_)) <;> ((try have hq := dX hb); (try (exfalso; omega))))) | (apply qr_pick; refine r_pick ?_) | (apply qr_lss; refine r_lss ?_) | (apply qr_gtr; refine r_gtr ?_) | (apply qr_neq; refine r_neq ?_) | (apply qr_len; refine r_len ?_) | (apply qr_slice; refine r_slice ?_) | (apply qr_field; refine r_field ?_))
    refine oret1 (rsk 1000 1001 k2 fs2 (crashS (endS st) st.keep)) (by rfl) rv (⟨rfl, k2, fs2, hR2, rfl⟩) sb okx
theorem rWrite_any (h : RkOk fs st) (f at_ : Int) (s : ByteArray) (hs : s.size ≤ 9223372036837998591) : ObC 42 [.box 1000 0, .d (.int f), .d (.int at_), .d (.str s)] (rsk 1000 1001 k fs st) [] (fun x o => x = .d (.int (writeR st f at_ s).1) ∧ ROut (writeR st f at_ s).2 o) := by
  unfold writeR
  cases he : endsB st
  · exact rWrite_not h f at_ s hs he
  · exact rWrite_ends h f at_ s hs he
end
end Go.Proofs.YtfgibalcdjlnhaaGreatDoor
end
section
set_option linter.unusedSimpArgs false
set_option linter.unusedVariables false
namespace Go.Proofs.YtfgibalcdjlnhaaGreatDoor
open Go.RowKit Go.ChangeMaps

abbrev rjbox (b : Nat) (js : JS) : O := .box 49 [.box b 0, .d (.int js.f), .d (txt js.rs), .d (.bool js.bad)]
abbrev rjrn (J b r k : Nat) (fs : List RFile) (js : JS) (st : DS) : Objs := (J, rjbox b js) :: rsk b r k fs st
def RJOut (js : JS) (st : DS) (o : Objs) : Prop := ∃ (k : Nat) (fs : List RFile), RkOk fs st ∧ o = rjrn 1002 1000 1001 k fs js st
section
variable {k : Nat} {fs : List RFile} {st : DS} {js : JS}
attribute [local irreducible] syncR writeR formB sumB
set_option maxHeartbeats 8000000 in
set_option maxRecDepth 20000 in
theorem rjsync_any (h : js.Ok) (hR : RkOk fs st) : ObC 15 [.box 1002 0] (rjrn 1002 1000 1001 k fs js st) [] (fun x o => x = .d (.int (syncJ js st).1) ∧ RJOut (syncJ js st).2.1 (syncJ js st).2.2 o) := by
  obtain ⟨f, rs, bad⟩ := js
  cases bad
  · have hS := rSync_any (k := k) hR f
    simp only [syncJ, Bool.false_eq_true, if_false]
    generalize syncR st f = q at hS ⊢
    obtain ⟨e, su⟩ := q
    refine ob_enter Tryz.func15 rfl (by decide) _ Tryz.ntmps15 (le_ok rfl) rfl (fun w Pr β κ hE => ?_)
    dsimp only [slotsV, Nat.zero_add, Nat.reduceAdd]
    repeat' (first | refine nx ?_ | (apply qr_move; refine r_move ?_) | (apply qr_assign; refine r_assign ?_) | (apply at_cond; first | refine c_t ?_ | refine c_f ?_ | (refine aw_cond rfl (fun hb => ?_) (fun hb => ?_) <;> ((try have hq := dX hb); (try (exfalso; omega))))) | (apply qr_load; refine r_load ?_) | (apply qr_faddr; refine r_faddr ?_) | (apply qr_nilck; refine r_nilck ?_))
    refine aw_mixo ([(1002, rjbox 1000 ⟨f, rs, false⟩)]) [(0, true), (1, true), (2, true), (3, true), (4, true), (5, true), (6, true), (7, true), (8, false)] [9] (by kernel_rfl) (by kernel_rfl) (by kernel_rfl) (by decide) (by (repeat (first | exact obs_nil | (apply obs_cons; focus (first | rfl | (simp [find]; done)))))) ?_
    simp only [planned, tailed, List.filterMap_cons, List.filterMap_nil, List.getElem?_cons_zero, List.getElem?_cons_succ, Option.map_some]
    repeat' (first | apply am_nil | refine m_skip ?_ | refine n_skip ?_ | (apply at_mcall; refine m_ocall [(1000, 1000), (1001, 1001)] (hS) hE ?_; rintro _ _ ⟨rfl, k3, fs3, hR3, rfl⟩ <;> (intro _ _ h1 h2; simp only [renEqs, Nat.reduceBEq, renL_app, renL_ds, renL_und] at h1 h2; subst h1 h2; (try dsimp only [flatV, flat, D.plain, D.plainL]))) | (apply qm_move; refine m_move ?_) | (apply qm_load; refine m_load ?_) | (apply qm_faddr; refine m_faddr ?_) | (apply qm_nilck; refine m_nilck ?_) | (refine am_split rfl rfl (fun hb => ?_) (fun hb => ?_) <;> ((try have hq := dX hb); (try (exfalso; omega)))))
    repeat' (first | refine nx ?_ | (apply qr_move; refine r_move ?_) | (apply qr_assign; refine r_assign ?_) | (apply at_cond; first | refine c_t ?_ | refine c_f ?_ | (refine aw_cond rfl (fun hb => ?_) (fun hb => ?_) <;> ((try have hq := dX hb); (try (exfalso; omega))))) | (apply qr_neq; refine r_neq ?_) | (apply qr_load; refine r_load ?_) | (apply qr_faddr; refine r_faddr ?_) | (apply qr_nilck; refine r_nilck ?_) | (apply qr_store; refine r_store ?_))
    refine oret1 (rjrn 1002 1000 1001 k3 fs3 ⟨f, rs, !decide (e = 0)⟩ su) (by rfl) rv (⟨rfl, k3, fs3, hR3, rfl⟩) sb okx
  · skip
    refine ob_enter Tryz.func15 rfl (by decide) _ Tryz.ntmps15 (le_ok rfl) rfl (fun w Pr β κ hE => ?_)
    dsimp only [slotsV, Nat.zero_add, Nat.reduceAdd]
    repeat' (first | refine nx ?_ | (apply qr_move; refine r_move ?_) | (apply qr_assign; refine r_assign ?_) | (apply at_cond; first | refine c_t ?_ | refine c_f ?_ | (refine aw_cond rfl (fun hb => ?_) (fun hb => ?_) <;> ((try have hq := dX hb); (try (exfalso; omega))))) | (apply qr_load; refine r_load ?_) | (apply qr_faddr; refine r_faddr ?_) | (apply qr_nilck; refine r_nilck ?_))
    refine oret1 (rjrn 1002 1000 1001 k fs ⟨f, rs, true⟩ st) (by rfl) rv (⟨rfl, k, fs, hR, rfl⟩) sb okx
set_option maxHeartbeats 16000000 in
set_option maxRecDepth 20000 in
theorem rjappend_any (h : js.Ok) (hR : RkOk fs st) (s : ByteArray) (hs : s.size ≤ 1000000000) : ObC 13 [.box 1002 0, .d (.str s)] (rjrn 1002 1000 1001 k fs js st) [] (fun x o => x = .d (.int (appJ js st s).1) ∧ RJOut (appJ js st s).2.1 (appJ js st s).2.2 o) := by
  have hn := h.num
  have hl := h.len
  have hsm := h.small
  have hfz := formB_size s hs
  have hform := rform_any s hs
  obtain ⟨f, rs, bad⟩ := js
  simp only at hn hl hsm
  have hforms := rforms_any rs hsm hl
  have hfl : (B (forms rs)).size = (forms rs).length := L_len (B (forms rs))
  cases bad
  · by_cases h1 : 20000 < s.size
    · simp only [appJ, Bool.false_eq_true, if_false, if_pos h1]
      refine ob_enter Tryz.func13 rfl (by decide) _ Tryz.ntmps13 (le_ok rfl) rfl (fun w Pr β κ hE => ?_)
      dsimp only [slotsV, Nat.zero_add, Nat.reduceAdd]
      repeat' (first | refine nx ?_ | (apply qr_move; refine r_move ?_) | (apply qr_assign; refine r_assign ?_) | (apply at_cond; first | refine c_t ?_ | refine c_f ?_ | (refine aw_cond rfl (fun hb => ?_) (fun hb => ?_) <;> ((try have hq := dX hb); (try (exfalso; omega))))) | (apply qr_gtr; refine r_gtr ?_) | (apply qr_len; refine r_len ?_) | (apply qr_load; refine r_load ?_) | (apply qr_faddr; refine r_faddr ?_) | (apply qr_nilck; refine r_nilck ?_))
      refine oret1 (rjrn 1002 1000 1001 k fs ⟨f, rs, false⟩ st) (by rfl) rv (⟨rfl, k, fs, hR, rfl⟩) sb okx
    · have hW := rWrite_any (k := k) hR f (forms rs).length (formB s) (by omega)
      simp only [appJ, Bool.false_eq_true, if_false, if_neg h1]
      rw [← hfl] at hW ⊢
      generalize B (forms rs) = acc at hforms hfl hW ⊢
      by_cases h2 : 1048576 < acc.size + (formB s).size
      · rw [if_pos h2]
        refine ob_enter Tryz.func13 rfl (by decide) _ Tryz.ntmps13 (le_ok rfl) rfl (fun w Pr β κ hE => ?_)
        dsimp only [slotsV, Nat.zero_add, Nat.reduceAdd]
        repeat' (first | (apply at_call; refine k_call (hform) hE ?_; rintro _ rfl) | (apply at_call; refine k_call (hforms) hE ?_; rintro _ rfl) | refine nx ?_ | (apply qr_move; refine r_move ?_) | (apply qr_assign; refine r_assign ?_) | (apply at_cond; first | refine c_t ?_ | refine c_f ?_ | (refine aw_cond rfl (fun hb => ?_) (fun hb => ?_) <;> ((try have hq := dX hb); (try (exfalso; omega))))) | (apply qr_gtr; refine r_gtr ?_) | (apply qr_add; refine r_add ?_) | (apply qr_len; refine r_len ?_) | (apply qr_load; refine r_load ?_) | (apply qr_faddr; refine r_faddr ?_) | (apply qr_nilck; refine r_nilck ?_))
        refine oret1 (rjrn 1002 1000 1001 k fs ⟨f, rs, false⟩ st) (by rfl) rv (⟨rfl, k, fs, hR, rfl⟩) sb okx
      · rw [if_neg h2]
        generalize writeR st f acc.size (formB s) = q at hW ⊢
        obtain ⟨e, su⟩ := q
        by_cases he : e = 0
        · have q1 : (!decide (e = 0)) = false := by simp [he]
          simp only [he, ne_eq, not_true_eq_false, if_false]
          refine ob_enter Tryz.func13 rfl (by decide) _ Tryz.ntmps13 (le_ok rfl) rfl (fun w Pr β κ hE => ?_)
          dsimp only [slotsV, Nat.zero_add, Nat.reduceAdd]
          repeat' (first | (apply at_call; refine k_call (hform) hE ?_; rintro _ rfl) | (apply at_call; refine k_call (hforms) hE ?_; rintro _ rfl) | refine nx ?_ | (apply qr_move; refine r_move ?_) | (apply qr_assign; refine r_assign ?_) | (apply at_cond; first | refine c_t ?_ | refine c_f ?_ | (refine aw_cond rfl (fun hb => ?_) (fun hb => ?_) <;> ((try have hq := dX hb); (try (exfalso; omega))))) | (apply qr_gtr; refine r_gtr ?_) | (apply qr_add; refine r_add ?_) | (apply qr_len; refine r_len ?_) | (apply qr_load; refine r_load ?_) | (apply qr_faddr; refine r_faddr ?_) | (apply qr_nilck; refine r_nilck ?_))
          refine aw_mixo ([(1002, rjbox 1000 ⟨f, rs, false⟩)]) [(0, true), (1, true), (2, true), (3, true), (4, true), (5, true), (6, true), (7, true), (8, true), (9, true), (10, false), (11, false)] [12] (by kernel_rfl) (by kernel_rfl) (by kernel_rfl) (by decide) (by (repeat (first | exact obs_nil | (apply obs_cons; focus (first | rfl | (simp [find]; done)))))) ?_
          simp only [planned, tailed, List.filterMap_cons, List.filterMap_nil, List.getElem?_cons_zero, List.getElem?_cons_succ, Option.map_some]
          repeat' (first | apply am_nil | refine m_skip ?_ | refine n_skip ?_ | (apply at_mcall; refine m_call (hform) hE ?_; rintro _ rfl; (try dsimp only [flat, D.plain, D.plainL])) | (apply at_mcall; refine m_ocall [(1000, 1000), (1001, 1001)] (hW) hE ?_; rintro _ _ ⟨rfl, k3, fs3, hR3, rfl⟩ <;> (intro _ _ h1 h2; simp only [renEqs, Nat.reduceBEq, renL_app, renL_ds, renL_und] at h1 h2; subst h1 h2; (try dsimp only [flatV, flat, D.plain, D.plainL]))) | (apply qm_move; refine m_move ?_) | (apply qm_load; refine m_load ?_) | (apply qm_faddr; refine m_faddr ?_) | (apply qm_nilck; refine m_nilck ?_) | (refine am_split rfl rfl (fun hb => ?_) (fun hb => ?_) <;> ((try have hq := dX hb); (try (exfalso; omega)))))
          repeat' (first | (apply at_op (.buildSlice _ 0 _); refine al_step (st_litR0 rfl (lt_ok rfl) rfl) rfl ?_) | refine nx ?_ | (apply qr_move; refine r_move ?_) | (apply qr_assign; refine r_assign ?_) | (apply at_cond; first | refine c_t ?_ | refine c_f ?_ | (refine aw_cond rfl (fun hb => ?_) (fun hb => ?_) <;> ((try have hq := dX hb); (try (exfalso; omega))))) | (apply qr_neq; refine r_neq ?_) | (apply qr_load; refine r_load ?_) | (apply qr_faddr; refine r_faddr ?_) | (apply qr_nilck; refine r_nilck ?_) | (apply qr_store; refine r_store ?_) | (apply qr_lits; refine r_lits ?_) | (apply qr_appd; refine r_appd ?_))
          refine aq_celltold 1002 2 rfl rfl (ToD.row _ _ _ _ _ rfl) rfl ?_
          rw [show [] ++ (rs.map fun t => [D.str t]) ++ [[D.str s]] = (rs ++ [s]).map fun t => [D.str t] by rw [List.map_append]; rfl]
          refine oret1 (rjrn 1002 1000 1001 k3 fs3 ⟨f, rs ++ [s], false⟩ su) (by rfl) rv (⟨rfl, k3, fs3, hR3, rfl⟩) sb okx
        · have q1 : (!decide (e = 0)) = true := by simp [he]
          simp only [ne_eq, he, not_false_eq_true, if_true]
          refine ob_enter Tryz.func13 rfl (by decide) _ Tryz.ntmps13 (le_ok rfl) rfl (fun w Pr β κ hE => ?_)
          dsimp only [slotsV, Nat.zero_add, Nat.reduceAdd]
          repeat' (first | (apply at_call; refine k_call (hform) hE ?_; rintro _ rfl) | (apply at_call; refine k_call (hforms) hE ?_; rintro _ rfl) | refine nx ?_ | (apply qr_move; refine r_move ?_) | (apply qr_assign; refine r_assign ?_) | (apply at_cond; first | refine c_t ?_ | refine c_f ?_ | (refine aw_cond rfl (fun hb => ?_) (fun hb => ?_) <;> ((try have hq := dX hb); (try (exfalso; omega))))) | (apply qr_gtr; refine r_gtr ?_) | (apply qr_add; refine r_add ?_) | (apply qr_len; refine r_len ?_) | (apply qr_load; refine r_load ?_) | (apply qr_faddr; refine r_faddr ?_) | (apply qr_nilck; refine r_nilck ?_))
          refine aw_mixo ([(1002, rjbox 1000 ⟨f, rs, false⟩)]) [(0, true), (1, true), (2, true), (3, true), (4, true), (5, true), (6, true), (7, true), (8, true), (9, true), (10, false), (11, false)] [12] (by kernel_rfl) (by kernel_rfl) (by kernel_rfl) (by decide) (by (repeat (first | exact obs_nil | (apply obs_cons; focus (first | rfl | (simp [find]; done)))))) ?_
          simp only [planned, tailed, List.filterMap_cons, List.filterMap_nil, List.getElem?_cons_zero, List.getElem?_cons_succ, Option.map_some]
          repeat' (first | apply am_nil | refine m_skip ?_ | refine n_skip ?_ | (apply at_mcall; refine m_call (hform) hE ?_; rintro _ rfl; (try dsimp only [flat, D.plain, D.plainL])) | (apply at_mcall; refine m_ocall [(1000, 1000), (1001, 1001)] (hW) hE ?_; rintro _ _ ⟨rfl, k3, fs3, hR3, rfl⟩ <;> (intro _ _ h1 h2; simp only [renEqs, Nat.reduceBEq, renL_app, renL_ds, renL_und] at h1 h2; subst h1 h2; (try dsimp only [flatV, flat, D.plain, D.plainL]))) | (apply qm_move; refine m_move ?_) | (apply qm_load; refine m_load ?_) | (apply qm_faddr; refine m_faddr ?_) | (apply qm_nilck; refine m_nilck ?_) | (refine am_split rfl rfl (fun hb => ?_) (fun hb => ?_) <;> ((try have hq := dX hb); (try (exfalso; omega)))))
          repeat' (first | refine nx ?_ | (apply qr_move; refine r_move ?_) | (apply qr_assign; refine r_assign ?_) | (apply at_cond; first | refine c_t ?_ | refine c_f ?_ | (refine aw_cond rfl (fun hb => ?_) (fun hb => ?_) <;> ((try have hq := dX hb); (try (exfalso; omega))))) | (apply qr_neq; refine r_neq ?_) | (apply qr_load; refine r_load ?_) | (apply qr_faddr; refine r_faddr ?_) | (apply qr_nilck; refine r_nilck ?_) | (apply qr_store; refine r_store ?_))
          refine oret1 (rjrn 1002 1000 1001 k3 fs3 ⟨f, rs, true⟩ su) (by rfl) rv (⟨rfl, k3, fs3, hR3, rfl⟩) sb okx
  · simp only [appJ, if_true]
    refine ob_enter Tryz.func13 rfl (by decide) _ Tryz.ntmps13 (le_ok rfl) rfl (fun w Pr β κ hE => ?_)
    dsimp only [slotsV, Nat.zero_add, Nat.reduceAdd]
    repeat' (first | refine nx ?_ | (apply qr_move; refine r_move ?_) | (apply qr_assign; refine r_assign ?_) | (apply at_cond; first | refine c_t ?_ | refine c_f ?_ | (refine aw_cond rfl (fun hb => ?_) (fun hb => ?_) <;> ((try have hq := dX hb); (try (exfalso; omega))))) | (apply qr_load; refine r_load ?_) | (apply qr_faddr; refine r_faddr ?_) | (apply qr_nilck; refine r_nilck ?_))
    refine oret1 (rjrn 1002 1000 1001 k fs ⟨f, rs, true⟩ st) (by rfl) rv (⟨rfl, k, fs, hR, rfl⟩) sb okx
end
end Go.Proofs.YtfgibalcdjlnhaaGreatDoor
end
section
set_option linter.unusedSimpArgs false
set_option linter.unusedVariables false
namespace Go.Proofs.YtfgibalcdjlnhaaGreatDoor
open Go.RowKit Go.ChangeMaps

def RJOpen (q : Int × Option JS × DS) (x : V) (o : Objs) : Prop := ∃ (k : Nat) (fs : List RFile), RkOk fs q.2.2 ∧
  ((q.2.1 = none ∧ x = .tup [.d (.val (.pointer none)), .d (.int q.1)] ∧ o = rsk 1000 1001 k fs q.2.2) ∨ ∃ js : JS, q.2.1 = some js ∧ js.Ok ∧ x = .tup [.box 39 0, .d (.int q.1)] ∧ o = rjrn 39 1000 1001 k fs js q.2.2)
theorem ropenJ_none {q : Int × Option JS × DS} {e : Int} {su : DS} (hq : q = (e, none, su)) {k : Nat} {fs : List RFile} (h : RkOk fs su) {x : V} {o : Objs} (hx : x = .tup [.d (.val (.pointer none)), .d (.int e)]) (ho : o = rsk 1000 1001 k fs su) : RJOpen q x o := by
  subst hq
  exact ⟨k, fs, h, .inl ⟨rfl, hx, ho⟩⟩
theorem ropenJ_some {q : Int × Option JS × DS} {js : JS} {su : DS} (hq : q = (0, some js, su)) (hj : js.Ok) {k : Nat} {fs : List RFile} (h : RkOk fs su) {x : V} {o : Objs} (hx : x = .tup [.box 39 0, .d (.int 0)]) (ho : o = rjrn 39 1000 1001 k fs js su) : RJOpen q x o := by
  subst hq
  exact ⟨k, fs, h, .inr ⟨js, rfl, hj, hx, ho⟩⟩
section
variable {k : Nat} {fs : List RFile} {st : DS}
attribute [local irreducible] syncR truncR recsOf readP
set_option maxHeartbeats 16000000 in
set_option maxRecDepth 20000 in
theorem rjopen_any (hR : RkOk fs st) (f : Int) : ObC 9 [.box 1000 0, .d (.int f)] (rsk 1000 1001 k fs st) [39] (fun x o => RJOpen (openJ st f) x o) := by
  by_cases hf0 : f < 0 ∨ 15 < f
  · have hO : openJ st f = (1, none, st) := if_pos hf0
    rw [hO]
    by_cases hf1 : f < 0
    · skip
      refine ob_enter Tryz.func9 rfl (by decide) _ Tryz.ntmps9 (le_ok rfl) rfl (fun w Pr β κ hE => ?_)
      dsimp only [slotsV, Nat.zero_add, Nat.reduceAdd]
      repeat' (first | refine nx ?_ | (apply qr_move; refine r_move ?_) | (apply qr_assign; refine r_assign ?_) | (apply at_cond; first | refine c_t ?_ | refine c_f ?_ | (refine aw_cond rfl (fun hb => ?_) (fun hb => ?_) <;> ((try have hq := dX hb); (try (exfalso; omega))))) | (apply at_guard; first | refine g_go ?_ | refine g_nt ?_ | refine g_nf ?_ | refine g_nu ?_ | ((first | refine al_split_t rfl rfl (lt_ok rfl) (fun hb => ?_) (fun hb => ?_) | refine al_split_f rfl rfl (lt_ok rfl) (fun hb => ?_) (fun hb => ?_)) <;> ((try have hq := dX hb); (try (exfalso; omega))))) | (apply qr_pick; refine r_pick ?_) | (apply qr_lss; refine r_lss ?_) | (apply qr_gtr; refine r_gtr ?_))
      refine oret2 (rsk 1000 1001 k fs st) (by rfl) rv rv (ropenJ_none rfl hR rfl rfl) sb okx
    · skip
      refine ob_enter Tryz.func9 rfl (by decide) _ Tryz.ntmps9 (le_ok rfl) rfl (fun w Pr β κ hE => ?_)
      dsimp only [slotsV, Nat.zero_add, Nat.reduceAdd]
      repeat' (first | refine nx ?_ | (apply qr_move; refine r_move ?_) | (apply qr_assign; refine r_assign ?_) | (apply at_cond; first | refine c_t ?_ | refine c_f ?_ | (refine aw_cond rfl (fun hb => ?_) (fun hb => ?_) <;> ((try have hq := dX hb); (try (exfalso; omega))))) | (apply at_guard; first | refine g_go ?_ | refine g_nt ?_ | refine g_nf ?_ | refine g_nu ?_ | ((first | refine al_split_t rfl rfl (lt_ok rfl) (fun hb => ?_) (fun hb => ?_) | refine al_split_f rfl rfl (lt_ok rfl) (fun hb => ?_) (fun hb => ?_)) <;> ((try have hq := dX hb); (try (exfalso; omega))))) | (apply qr_pick; refine r_pick ?_) | (apply qr_lss; refine r_lss ?_) | (apply qr_gtr; refine r_gtr ?_))
      refine oret2 (rsk 1000 1001 k fs st) (by rfl) rv rv (ropenJ_none rfl hR rfl rfl) sb okx
  · have hf6 : i64 f := by unfold i64; omega
    have hfr : 0 ≤ f ∧ f ≤ 15 := by omega
    have hO : openJ st f = _ := if_neg hf0
    have hSy := rSync_any (k := k) hR f
    obtain ⟨e, su, hS⟩ : ∃ e su, syncR st f = (e, su) := ⟨_, _, rfl⟩
    have hS1 : (syncR st f).1 = e := by rw [hS]
    have hS2 : (syncR st f).2 = su := by rw [hS]
    rw [hS] at hSy
    by_cases he : e = 0
    · have q1 : (!decide (e = 0)) = false := by simp [he]
      subst he
      have hrd0 := sync_read hR.ok hS1
      rw [hS2] at hrd0
      rw [hS1, hS2, if_neg (by simp)] at hO
      obtain ⟨hmay, hread, hnow⟩ := hrd0
      have hsz := fun {k : Nat} {fs : List RFile} (h : RkOk fs su) => rsize_any (k := k) h f
      have hrd : ∀ {k : Nat} {fs : List RFile} (h : RkOk fs su), ObC 28 [.box 1000 0, .d (.int f), .d (.int 0), .d (.int (su.F f).now.size)] (rsk 1000 1001 k fs su) [] (fun x o => x = .tup [.d (.str (su.F f).now), .d (.int 0)] ∧ o = rsk 1000 1001 k fs su) := fun {k fs} h => by
        have := rread_any (k := k) (f := f) (at_ := 0) (size := (su.F f).now.size) h (by omega)
        rwa [hread] at this
      generalize (su.F f).now = s at hO hread hnow hsz hrd
      have hrec := rrecords_any s (by omega)
      have hRc := recsOf_is (L s)
      have hRle := hRc.le
      rw [L_len] at hRle
      generalize recsOf (L s) = rs at hO hrec hRc hRle
      have hjs : JS.Ok ⟨f, rs, false⟩ := ⟨hfr, hRc.small, by show (forms rs).length ≤ _; omega⟩
      have hforms := rforms_any rs hRc.small (by omega)
      have hfl : (B (forms rs)).size = (forms rs).length := L_len (B (forms rs))
      rw [← hfl] at hO hRle
      generalize B (forms rs) = acc at hforms hO hRle
      by_cases hlt : acc.size < s.size
      · have q2 : decide ((acc.size : Int) < s.size) = true := decide_eq_true (by omega)
        rw [if_pos hlt] at hO
        obtain ⟨e2, sv, hT⟩ : ∃ e sv, truncR su f acc.size = (e, sv) := ⟨_, _, rfl⟩
        rw [hT] at hO
        have hTr : ∀ {k : Nat} {fs : List RFile} (h : RkOk fs su), ObC 39 [.box 1000 0, .d (.int f), .d (.int acc.size)] (rsk 1000 1001 k fs su) [] (fun x o => x = .d (.int e2) ∧ ROut sv o) := fun {k fs} h => by
          have := rTruncate_any (k := k) h f (acc.size : Int)
          rwa [hT] at this
        by_cases he2 : e2 = 0
        · have q3 : (!decide (e2 = 0)) = false := by simp [he2]
          have hO : openJ st f = (0, some ⟨f, rs, false⟩, sv) := by rw [hO, if_neg (by simp [he2])]
          rw [hO]
          refine ob_enter Tryz.func9 rfl (by decide) _ Tryz.ntmps9 (le_ok rfl) rfl (fun w Pr β κ hE => ?_)
          dsimp only [slotsV, Nat.zero_add, Nat.reduceAdd]
          repeat' (first | refine nx ?_ | (apply qr_move; refine r_move ?_) | (apply qr_assign; refine r_assign ?_) | (apply at_cond; first | refine c_t ?_ | refine c_f ?_ | (refine aw_cond rfl (fun hb => ?_) (fun hb => ?_) <;> ((try have hq := dX hb); (try (exfalso; omega))))) | (apply at_guard; first | refine g_go ?_ | refine g_nt ?_ | refine g_nf ?_ | refine g_nu ?_ | ((first | refine al_split_t rfl rfl (lt_ok rfl) (fun hb => ?_) (fun hb => ?_) | refine al_split_f rfl rfl (lt_ok rfl) (fun hb => ?_) (fun hb => ?_)) <;> ((try have hq := dX hb); (try (exfalso; omega))))) | (apply qr_pick; refine r_pick ?_) | (apply qr_lss; refine r_lss ?_) | (apply qr_gtr; refine r_gtr ?_))
          repeat' (first | (apply at_call; refine k_ocall [(1000, 1000), (1001, 1001)] (hSy) hE ?_; rintro _ _ ⟨rfl, k3, fs3, hR3, rfl⟩ <;> (intro _ _ h1 h2; simp only [renEqs, Nat.reduceBEq, renL_app, renL_ds, renL_und] at h1 h2; subst h1 h2)) | (apply at_call; refine k_ocall [(1000, 1000), (1001, 1001)] (hsz hR3) hE ?_; rintro _ _ ⟨rfl, rfl⟩ <;> (intro _ _ h1 h2; simp only [renEqs, Nat.reduceBEq, renL_app, renL_ds, renL_und] at h1 h2; subst h1 h2)) | (apply at_call; refine k_ocall [(1000, 1000), (1001, 1001)] (hrd hR3) hE ?_; rintro _ _ ⟨rfl, rfl⟩ <;> (intro _ _ h1 h2; simp only [renEqs, Nat.reduceBEq, renL_app, renL_ds, renL_und] at h1 h2; subst h1 h2)) | (apply at_call; refine k_call (hrec) hE ?_; rintro _ rfl) | (apply at_call; refine k_call (hforms) hE ?_; rintro _ rfl) | (apply at_op (.build _ _); refine al_y (y_buildS rfl (by repeat (first | exact PartsS.nil | (apply PartsS.cons; rfl; constructor; rfl))) rfl rfl) (lt_ok rfl) ?_) | (apply at_op (.box _ _); refine al_step (st_box (ev_agg rfl) nofun (by first | (simp only [normV, normList, normMap]; rfl) | rfl) (lt_ok rfl) rfl rfl) rfl ?_) | refine nx ?_ | (apply qr_move; refine r_move ?_) | (apply qr_assign; refine r_assign ?_) | (apply at_cond; first | refine c_t ?_ | refine c_f ?_ | (refine aw_cond rfl (fun hb => ?_) (fun hb => ?_) <;> ((try have hq := dX hb); (try (exfalso; omega))))) | (apply qr_lss; refine r_lss ?_) | (apply qr_neq; refine r_neq ?_) | (apply qr_len; refine r_len ?_) | (apply qr_extract; refine r_extract ?_) | (apply qr_load; refine r_load ?_) | (apply qr_faddr; refine r_faddr ?_) | (apply qr_nilck; refine r_nilck ?_) | (apply qr_boxed; refine r_boxed ?_) | (apply qr_build; refine r_build ?_))
          repeat' (first | (apply at_call; refine k_ocall [(1000, 1000), (1001, 1001)] (hTr hR3) hE ?_; rintro _ _ ⟨rfl, k4, fs4, hR4, rfl⟩ <;> (intro _ _ h1 h2; simp only [renEqs, Nat.reduceBEq, renL_app, renL_ds, renL_und] at h1 h2; subst h1 h2)) | refine nx ?_ | (apply qr_move; refine r_move ?_) | (apply qr_assign; refine r_assign ?_) | (apply at_cond; first | refine c_t ?_ | refine c_f ?_ | (refine aw_cond rfl (fun hb => ?_) (fun hb => ?_) <;> ((try have hq := dX hb); (try (exfalso; omega))))) | (apply qr_neq; refine r_neq ?_))
          refine oret2 (rjrn 39 1000 1001 k4 fs4 ⟨f, rs, false⟩ sv) (by rfl) rk rk (ropenJ_some rfl hjs hR4 rfl rfl) sb okx
        · have q3 : (!decide (e2 = 0)) = true := by simp [he2]
          have hO : openJ st f = (e2, none, sv) := by rw [hO, if_pos he2]
          rw [hO]
          refine ob_enter Tryz.func9 rfl (by decide) _ Tryz.ntmps9 (le_ok rfl) rfl (fun w Pr β κ hE => ?_)
          dsimp only [slotsV, Nat.zero_add, Nat.reduceAdd]
          repeat' (first | refine nx ?_ | (apply qr_move; refine r_move ?_) | (apply qr_assign; refine r_assign ?_) | (apply at_cond; first | refine c_t ?_ | refine c_f ?_ | (refine aw_cond rfl (fun hb => ?_) (fun hb => ?_) <;> ((try have hq := dX hb); (try (exfalso; omega))))) | (apply at_guard; first | refine g_go ?_ | refine g_nt ?_ | refine g_nf ?_ | refine g_nu ?_ | ((first | refine al_split_t rfl rfl (lt_ok rfl) (fun hb => ?_) (fun hb => ?_) | refine al_split_f rfl rfl (lt_ok rfl) (fun hb => ?_) (fun hb => ?_)) <;> ((try have hq := dX hb); (try (exfalso; omega))))) | (apply qr_pick; refine r_pick ?_) | (apply qr_lss; refine r_lss ?_) | (apply qr_gtr; refine r_gtr ?_))
          repeat' (first | (apply at_call; refine k_ocall [(1000, 1000), (1001, 1001)] (hSy) hE ?_; rintro _ _ ⟨rfl, k3, fs3, hR3, rfl⟩ <;> (intro _ _ h1 h2; simp only [renEqs, Nat.reduceBEq, renL_app, renL_ds, renL_und] at h1 h2; subst h1 h2)) | (apply at_call; refine k_ocall [(1000, 1000), (1001, 1001)] (hsz hR3) hE ?_; rintro _ _ ⟨rfl, rfl⟩ <;> (intro _ _ h1 h2; simp only [renEqs, Nat.reduceBEq, renL_app, renL_ds, renL_und] at h1 h2; subst h1 h2)) | (apply at_call; refine k_ocall [(1000, 1000), (1001, 1001)] (hrd hR3) hE ?_; rintro _ _ ⟨rfl, rfl⟩ <;> (intro _ _ h1 h2; simp only [renEqs, Nat.reduceBEq, renL_app, renL_ds, renL_und] at h1 h2; subst h1 h2)) | (apply at_call; refine k_call (hrec) hE ?_; rintro _ rfl) | (apply at_call; refine k_call (hforms) hE ?_; rintro _ rfl) | (apply at_op (.build _ _); refine al_y (y_buildS rfl (by repeat (first | exact PartsS.nil | (apply PartsS.cons; rfl; constructor; rfl))) rfl rfl) (lt_ok rfl) ?_) | (apply at_op (.box _ _); refine al_step (st_box (ev_agg rfl) nofun (by first | (simp only [normV, normList, normMap]; rfl) | rfl) (lt_ok rfl) rfl rfl) rfl ?_) | refine nx ?_ | (apply qr_move; refine r_move ?_) | (apply qr_assign; refine r_assign ?_) | (apply at_cond; first | refine c_t ?_ | refine c_f ?_ | (refine aw_cond rfl (fun hb => ?_) (fun hb => ?_) <;> ((try have hq := dX hb); (try (exfalso; omega))))) | (apply qr_lss; refine r_lss ?_) | (apply qr_neq; refine r_neq ?_) | (apply qr_len; refine r_len ?_) | (apply qr_extract; refine r_extract ?_) | (apply qr_load; refine r_load ?_) | (apply qr_faddr; refine r_faddr ?_) | (apply qr_nilck; refine r_nilck ?_) | (apply qr_boxed; refine r_boxed ?_) | (apply qr_build; refine r_build ?_))
          repeat' (first | (apply at_call; refine k_ocall [(1000, 1000), (1001, 1001)] (hTr hR3) hE ?_; rintro _ _ ⟨rfl, k4, fs4, hR4, rfl⟩ <;> (intro _ _ h1 h2; simp only [renEqs, Nat.reduceBEq, renL_app, renL_ds, renL_und] at h1 h2; subst h1 h2)) | refine nx ?_ | (apply qr_move; refine r_move ?_) | (apply qr_assign; refine r_assign ?_) | (apply at_cond; first | refine c_t ?_ | refine c_f ?_ | (refine aw_cond rfl (fun hb => ?_) (fun hb => ?_) <;> ((try have hq := dX hb); (try (exfalso; omega))))) | (apply qr_neq; refine r_neq ?_))
          refine oret2 (rsk 1000 1001 k4 fs4 sv) (by rfl) rk rk (ropenJ_none rfl hR4 rfl rfl) sb okx
      · have q2 : decide ((acc.size : Int) < s.size) = false := decide_eq_false (by omega)
        have hO : openJ st f = (0, some ⟨f, rs, false⟩, su) := by rw [hO, if_neg hlt]
        rw [hO]
        refine ob_enter Tryz.func9 rfl (by decide) _ Tryz.ntmps9 (le_ok rfl) rfl (fun w Pr β κ hE => ?_)
        dsimp only [slotsV, Nat.zero_add, Nat.reduceAdd]
        repeat' (first | refine nx ?_ | (apply qr_move; refine r_move ?_) | (apply qr_assign; refine r_assign ?_) | (apply at_cond; first | refine c_t ?_ | refine c_f ?_ | (refine aw_cond rfl (fun hb => ?_) (fun hb => ?_) <;> ((try have hq := dX hb); (try (exfalso; omega))))) | (apply at_guard; first | refine g_go ?_ | refine g_nt ?_ | refine g_nf ?_ | refine g_nu ?_ | ((first | refine al_split_t rfl rfl (lt_ok rfl) (fun hb => ?_) (fun hb => ?_) | refine al_split_f rfl rfl (lt_ok rfl) (fun hb => ?_) (fun hb => ?_)) <;> ((try have hq := dX hb); (try (exfalso; omega))))) | (apply qr_pick; refine r_pick ?_) | (apply qr_lss; refine r_lss ?_) | (apply qr_gtr; refine r_gtr ?_))
        repeat' (first | (apply at_call; refine k_ocall [(1000, 1000), (1001, 1001)] (hSy) hE ?_; rintro _ _ ⟨rfl, k3, fs3, hR3, rfl⟩ <;> (intro _ _ h1 h2; simp only [renEqs, Nat.reduceBEq, renL_app, renL_ds, renL_und] at h1 h2; subst h1 h2)) | (apply at_call; refine k_ocall [(1000, 1000), (1001, 1001)] (hsz hR3) hE ?_; rintro _ _ ⟨rfl, rfl⟩ <;> (intro _ _ h1 h2; simp only [renEqs, Nat.reduceBEq, renL_app, renL_ds, renL_und] at h1 h2; subst h1 h2)) | (apply at_call; refine k_ocall [(1000, 1000), (1001, 1001)] (hrd hR3) hE ?_; rintro _ _ ⟨rfl, rfl⟩ <;> (intro _ _ h1 h2; simp only [renEqs, Nat.reduceBEq, renL_app, renL_ds, renL_und] at h1 h2; subst h1 h2)) | (apply at_call; refine k_call (hrec) hE ?_; rintro _ rfl) | (apply at_call; refine k_call (hforms) hE ?_; rintro _ rfl) | (apply at_op (.build _ _); refine al_y (y_buildS rfl (by repeat (first | exact PartsS.nil | (apply PartsS.cons; rfl; constructor; rfl))) rfl rfl) (lt_ok rfl) ?_) | (apply at_op (.box _ _); refine al_step (st_box (ev_agg rfl) nofun (by first | (simp only [normV, normList, normMap]; rfl) | rfl) (lt_ok rfl) rfl rfl) rfl ?_) | refine nx ?_ | (apply qr_move; refine r_move ?_) | (apply qr_assign; refine r_assign ?_) | (apply at_cond; first | refine c_t ?_ | refine c_f ?_ | (refine aw_cond rfl (fun hb => ?_) (fun hb => ?_) <;> ((try have hq := dX hb); (try (exfalso; omega))))) | (apply qr_lss; refine r_lss ?_) | (apply qr_neq; refine r_neq ?_) | (apply qr_len; refine r_len ?_) | (apply qr_extract; refine r_extract ?_) | (apply qr_load; refine r_load ?_) | (apply qr_faddr; refine r_faddr ?_) | (apply qr_nilck; refine r_nilck ?_) | (apply qr_boxed; refine r_boxed ?_) | (apply qr_build; refine r_build ?_))
        repeat' (first | refine nx ?_ | (apply qr_move; refine r_move ?_) | (apply qr_assign; refine r_assign ?_) | (apply at_cond; first | refine c_t ?_ | refine c_f ?_ | (refine aw_cond rfl (fun hb => ?_) (fun hb => ?_) <;> ((try have hq := dX hb); (try (exfalso; omega))))) | (apply qr_neq; refine r_neq ?_))
        refine oret2 (rjrn 39 1000 1001 k3 fs3 ⟨f, rs, false⟩ su) (by rfl) rk rk (ropenJ_some rfl hjs hR3 rfl rfl) sb okx
    · have q1 : (!decide (e = 0)) = true := by simp [he]
      have hO : openJ st f = (e, none, su) := by rw [hO, hS1, hS2, if_pos he]
      rw [hO]
      refine ob_enter Tryz.func9 rfl (by decide) _ Tryz.ntmps9 (le_ok rfl) rfl (fun w Pr β κ hE => ?_)
      dsimp only [slotsV, Nat.zero_add, Nat.reduceAdd]
      repeat' (first | (apply at_call; refine k_ocall [(1000, 1000), (1001, 1001)] (hSy) hE ?_; rintro _ _ ⟨rfl, k3, fs3, hR3, rfl⟩ <;> (intro _ _ h1 h2; simp only [renEqs, Nat.reduceBEq, renL_app, renL_ds, renL_und] at h1 h2; subst h1 h2)) | refine nx ?_ | (apply qr_move; refine r_move ?_) | (apply qr_assign; refine r_assign ?_) | (apply at_cond; first | refine c_t ?_ | refine c_f ?_ | (refine aw_cond rfl (fun hb => ?_) (fun hb => ?_) <;> ((try have hq := dX hb); (try (exfalso; omega))))) | (apply at_guard; first | refine g_go ?_ | refine g_nt ?_ | refine g_nf ?_ | refine g_nu ?_ | ((first | refine al_split_t rfl rfl (lt_ok rfl) (fun hb => ?_) (fun hb => ?_) | refine al_split_f rfl rfl (lt_ok rfl) (fun hb => ?_) (fun hb => ?_)) <;> ((try have hq := dX hb); (try (exfalso; omega))))) | (apply qr_pick; refine r_pick ?_) | (apply qr_lss; refine r_lss ?_) | (apply qr_gtr; refine r_gtr ?_) | (apply qr_neq; refine r_neq ?_))
      refine oret2 (rsk 1000 1001 k3 fs3 su) (by rfl) rv rv (ropenJ_none rfl hR3 rfl rfl) sb okx
end
end Go.Proofs.YtfgibalcdjlnhaaGreatDoor
end
