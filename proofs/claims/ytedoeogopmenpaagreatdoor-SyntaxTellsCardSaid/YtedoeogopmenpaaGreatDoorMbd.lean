/-
  Conditions: none.
-/
import Derived.Test.YtedoeogopmenpaaGreatDoorMbc
set_option maxHeartbeats 16000000
set_option maxRecDepth 20000
section
set_option linter.unusedSimpArgs false
set_option linter.unusedVariables false
namespace Go.Proofs.YtedoeogopmenpaaGreatDoor
open Go.RowKit
theorem rd_lev (n f : Nat) (l : List Tok) : rdE (n + 1) f l = lev (primP nameV) ifP notP symP (rdE n) (7 - f) l := by
 have h1 := rexp_pexp (syn_base nameV) (n + 1)
 have h2 := rexp_pexp (syn_base nameV) n
 show pexp (primP nameV) ifP notP symP (n + 1) f l = _
 rw [← h1]
 simp only [rexp]
 rw [h2]
 rfl
section
variable {n m : Nat} {L l : List Tok}
theorem rform0 (hrec : RefOk (rdE n) m) (r0 : Rdy L l) (x0 : Texts l) (e0 : EndE l) (hm : l.length ≤ m + 1)
  (h1 : ObC 96 [.box 1000 0, .d (.int 1)] (rps L l) [] (RefO (rdE (n + 1) 1 l) expV' L)) : ObC 96 [.box 1000 0, .d (.int ((0 : Nat) : Int))] (rps L l) [] (RefO (rdE (n + 1) 0 l) expV' L) := by
 obtain ⟨R, hR⟩ : ∃ R, R = rdE (n + 1) 0 l := ⟨_, rfl⟩
 rw [← hR]
 rw [rd_lev] at hR
 have q5 : (!decide ((0 : Int) = 0)) = false := rfl
 have q1 : decide (((0 : Nat) : Int) = 0) = true := rfl
 cases hT : isT l w_if
 ·have hR : R = rdE (n + 1) 1 l := by
   rw [hR, rd_lev]
   simp [lev, ifP, hT]
  refine ob_enter Tryz.func96 rfl (by decide) _ Tryz.ntmps96 (le_ok rfl) rfl (fun w Pr β κ hE => ?_)
  dsimp only [slotsV, Nat.zero_add, Nat.reduceAdd]
  repeat' (first | (apply at_call; refine k_ocall [(1000, 1000)] (rhas_n r0 w_if hT) hE ?_; rintro _ _ ⟨rfl, rfl⟩ <;> (intro _ _ h1 h2; simp only [renEqs, Nat.reduceBEq, renL_app, renL_ds, renL_und] at h1 h2; subst h1 h2)) | (apply at_call; refine k_ocall [(1000, 1000)] (h1) hE ?_; (rintro _ _ (⟨a, t, hx1, rfl, rfl⟩ | ⟨p, e, k, a, hx1, he, rfl, rfl⟩) <;> (rw [hx1] at hR)) <;> (intro _ _ h1 h2; simp only [renEqs, Nat.reduceBEq, renL_app, renL_ds, renL_und] at h1 h2; subst h1 h2)) | refine nx ?_ | (apply aq_block_y; decide) | (apply qr_move; refine r_move ?_) | (apply at_cond; first | refine c_t ?_ | refine c_f ?_ | (refine aw_cond rfl (fun hb => ?_) (fun hb => ?_) <;> ((try have hq := dX hb); (try (exfalso; omega))))) | (apply at_guard; first | refine g_go ?_ | refine g_nt ?_ | refine g_nf ?_ | refine g_nu ?_ | ((first | refine al_split_t rfl rfl (lt_ok rfl) (fun hb => ?_) (fun hb => ?_) | refine al_split_f rfl rfl (lt_ok rfl) (fun hb => ?_) (fun hb => ?_)) <;> ((try have hq := dX hb); (try (exfalso; omega))))) | (apply qr_pick; refine r_pick ?_) | (apply qr_eql; refine r_eql ?_) | (apply qr_neq; refine r_neq ?_) | (apply qr_load; refine r_load ?_) | (apply qr_faddr; refine r_faddr ?_) | (apply qr_nilck; refine r_nilck ?_) | (apply qr_alloc; refine r_alloc ?_) | (apply qr_store; refine r_store ?_) | (apply qr_build; refine r_build ?_))
  ·skip
   refine oret1 (rps L t) (by rfl) rv (.inl ⟨_, _, hR, rfl, rfl⟩) sb okx
  ·skip
   refine oret1 (rpe L k e p) (by rfl) rv (.inr ⟨_, _, _, a, hR, he, rfl, rfl⟩) sb okx
 ·have hR : R = (rdE n 0 (l.drop 1)).then fun a l => (want l w_then).then fun _ l => (rdE n 0 l).then fun b l => (want l w_else).then fun _ l => (rdE n 0 l).then fun c l => .ok (.mk 15 0 0 ⟨#[]⟩ [a, b, c]) l := by
   rw [hR]
   simp [lev, ifP, hT]
  have r1 := r0.to (suf_is hT)
  have x1 := x0.suf (suf_is hT)
  have e1 := e0.suf (suf_is hT)
  have z1 := Ends.less (isT_k hT).1
  have hr1 := hrec.run L _ 0 r1 x1 e1 (by omega) (by omega)
  refine ob_enter Tryz.func96 rfl (by decide) _ Tryz.ntmps96 (le_ok rfl) rfl (fun w Pr β κ hE => ?_)
  dsimp only [slotsV, Nat.zero_add, Nat.reduceAdd]
  repeat' (first | (apply at_call; refine k_ocall [(1000, 1000)] (rhas_y r0 w_if hT) hE ?_; rintro _ _ ⟨rfl, rfl⟩ <;> (intro _ _ h1 h2; simp only [renEqs, Nat.reduceBEq, renL_app, renL_ds, renL_und] at h1 h2; subst h1 h2)) | (apply at_call; refine k_ocall [(1000, 1000)] (hr1) hE ?_; (rintro _ _ (⟨a, u1, hx1, rfl, rfl⟩ | ⟨p, e, k, a, hx1, he, rfl, rfl⟩) <;> (first | (rw [hx1, then_ok] at hR; have r2 := r1.to (hrec.suf _ _ _ _ hx1); have x2 := x1.suf (hrec.suf _ _ _ _ hx1); have e2 := e1.suf (hrec.suf _ _ _ _ hx1); have z2 := suf_less (hrec.suf _ _ _ _ hx1); have hw1 := rwant r2 w_then) | rw [hx1, then_bad] at hR)) <;> (intro _ _ h1 h2; simp only [renEqs, Nat.reduceBEq, renL_app, renL_ds, renL_und] at h1 h2; subst h1 h2)) | (apply at_call; refine k_ocall [(1000, 1000)] (hw1) hE ?_; (rintro _ _ (⟨a1, u2, hx2, rfl, rfl⟩ | ⟨p, e, k, a1, hx2, he, rfl, rfl⟩) <;> (first | (rw [hx2, then_ok] at hR; have r3 := r2.to (suf_want hx2); have x3 := x2.suf (suf_want hx2); have e3 := e2.suf (suf_want hx2); have z3 := len_want hx2; have hr2 := hrec.run L u2 0 r3 x3 e3 (by omega) (by omega)) | rw [hx2, then_bad] at hR)) <;> (intro _ _ h1 h2; simp only [renEqs, Nat.reduceBEq, renL_app, renL_ds, renL_und] at h1 h2; subst h1 h2)) | (apply at_call; refine k_ocall [(1000, 1000)] (hr2) hE ?_; (rintro _ _ (⟨b, u3, hx3, rfl, rfl⟩ | ⟨p, e, k, b, hx3, he, rfl, rfl⟩) <;> (first | (rw [hx3, then_ok] at hR; have r4 := r3.to (hrec.suf _ _ _ _ hx3); have x4 := x3.suf (hrec.suf _ _ _ _ hx3); have e4 := e3.suf (hrec.suf _ _ _ _ hx3); have z4 := suf_less (hrec.suf _ _ _ _ hx3); have hw2 := rwant r4 w_else) | rw [hx3, then_bad] at hR)) <;> (intro _ _ h1 h2; simp only [renEqs, Nat.reduceBEq, renL_app, renL_ds, renL_und] at h1 h2; subst h1 h2)) | (apply at_call; refine k_ocall [(1000, 1000)] (hw2) hE ?_; (rintro _ _ (⟨a2, u4, hx4, rfl, rfl⟩ | ⟨p, e, k, a2, hx4, he, rfl, rfl⟩) <;> (first | (rw [hx4, then_ok] at hR; have r5 := r4.to (suf_want hx4); have x5 := x4.suf (suf_want hx4); have e5 := e4.suf (suf_want hx4); have z5 := len_want hx4; have hr3 := hrec.run L u4 0 r5 x5 e5 (by omega) (by omega)) | rw [hx4, then_bad] at hR)) <;> (intro _ _ h1 h2; simp only [renEqs, Nat.reduceBEq, renL_app, renL_ds, renL_und] at h1 h2; subst h1 h2)) | (apply at_call; refine k_ocall [(1000, 1000)] (hr3) hE ?_; (rintro _ _ (⟨c, u5, hx5, rfl, rfl⟩ | ⟨p, e, k, c, hx5, he, rfl, rfl⟩) <;> (first | rw [hx5, then_ok] at hR | rw [hx5, then_bad] at hR)) <;> (intro _ _ h1 h2; simp only [renEqs, Nat.reduceBEq, renL_app, renL_ds, renL_und] at h1 h2; subst h1 h2)) | (apply at_call; refine k_ocall [(1000, 1000)] (rexp_e he ((0 : Nat) : Int)) hE ?_; rintro _ _ ⟨⟨xe, rfl⟩, rfl⟩ <;> (intro _ _ h1 h2; simp only [renEqs, Nat.reduceBEq, renL_app, renL_ds, renL_und] at h1 h2; subst h1 h2)) | (apply at_call; refine k_ocall [(1000, 1000)] (rwant_e he w_then (by decide)) hE ?_; rintro _ _ ⟨rfl, rfl⟩ <;> (intro _ _ h1 h2; simp only [renEqs, Nat.reduceBEq, renL_app, renL_ds, renL_und] at h1 h2; subst h1 h2)) | (apply at_call; refine k_ocall [(1000, 1000)] (rwant_e he w_else (by decide)) hE ?_; rintro _ _ ⟨rfl, rfl⟩ <;> (intro _ _ h1 h2; simp only [renEqs, Nat.reduceBEq, renL_app, renL_ds, renL_und] at h1 h2; subst h1 h2)) | refine nx ?_ | (apply aq_block_y; decide) | (apply qr_move; refine r_move ?_) | (apply at_cond; first | refine c_t ?_ | refine c_f ?_ | (refine aw_cond rfl (fun hb => ?_) (fun hb => ?_) <;> ((try have hq := dX hb); (try (exfalso; omega))))) | (apply at_guard; first | refine g_go ?_ | refine g_nt ?_ | refine g_nf ?_ | refine g_nu ?_ | ((first | refine al_split_t rfl rfl (lt_ok rfl) (fun hb => ?_) (fun hb => ?_) | refine al_split_f rfl rfl (lt_ok rfl) (fun hb => ?_) (fun hb => ?_)) <;> ((try have hq := dX hb); (try (exfalso; omega))))) | (apply qr_pick; refine r_pick ?_) | (apply qr_eql; refine r_eql ?_) | (apply qr_neq; refine r_neq ?_) | (apply qr_load; refine r_load ?_) | (apply qr_faddr; refine r_faddr ?_) | (apply qr_nilck; refine r_nilck ?_) | (apply qr_alloc; refine r_alloc ?_) | (apply qr_store; refine r_store ?_) | (apply qr_build; refine r_build ?_) | (apply qr_lits; refine r_lits ?_))
  all_goals
   first
    | refine oret1 (rps L u5) (by rfl) rv (.inl ⟨_, _, hR, congrArg (fun q => V.d (.agg q)) (if_val a b c).symm, rfl⟩) sb okx
    | refine oret1 (rpe L k e p) (by rfl) rv (.inr ⟨_, _, _, .mk 15 0 0 ⟨#[]⟩ [_, _, _], hR, he, congrArg (fun q => V.d (.agg q)) (if_val _ _ _).symm, rfl⟩) sb okx
theorem rform3 (hrec : RefOk (rdE n) m) (r0 : Rdy L l) (x0 : Texts l) (e0 : EndE l) (hm : l.length ≤ m + 1)
  (h1 : ObC 96 [.box 1000 0, .d (.int 4)] (rps L l) [] (RefO (rdE (n + 1) 4 l) expV' L)) : ObC 96 [.box 1000 0, .d (.int ((3 : Nat) : Int))] (rps L l) [] (RefO (rdE (n + 1) 3 l) expV' L) := by
 obtain ⟨R, hR⟩ : ∃ R, R = rdE (n + 1) 3 l := ⟨_, rfl⟩
 rw [← hR]
 rw [rd_lev] at hR
 have q5 : (!decide ((0 : Int) = 0)) = false := rfl
 have q1 : decide (((3 : Nat) : Int) = 0) = false := rfl
 have q2 : decide (((3 : Nat) : Int) = 3) = true := rfl
 have q3 : decide (((3 : Nat) : Int) = 7) = false := rfl
 have q4 : (!decide (((3 : Nat) : Int) = 3)) = false := rfl
 cases hT : isT l w_not
 ·have hR : R = rdE (n + 1) 4 l := by
   rw [hR, rd_lev]
   simp [lev, notP, hT]
  refine ob_enter Tryz.func96 rfl (by decide) _ Tryz.ntmps96 (le_ok rfl) rfl (fun w Pr β κ hE => ?_)
  dsimp only [slotsV, Nat.zero_add, Nat.reduceAdd]
  repeat' (first | (apply at_call; refine k_ocall [(1000, 1000)] (rhas_n r0 w_not hT) hE ?_; rintro _ _ ⟨rfl, rfl⟩ <;> (intro _ _ h1 h2; simp only [renEqs, Nat.reduceBEq, renL_app, renL_ds, renL_und] at h1 h2; subst h1 h2)) | (apply at_call; refine k_ocall [(1000, 1000)] (h1) hE ?_; (rintro _ _ (⟨a, t, hx1, rfl, rfl⟩ | ⟨p, e, k, a, hx1, he, rfl, rfl⟩) <;> (rw [hx1] at hR)) <;> (intro _ _ h1 h2; simp only [renEqs, Nat.reduceBEq, renL_app, renL_ds, renL_und] at h1 h2; subst h1 h2)) | refine nx ?_ | (apply aq_block_y; decide) | (apply qr_move; refine r_move ?_) | (apply at_cond; first | refine c_t ?_ | refine c_f ?_ | (refine aw_cond rfl (fun hb => ?_) (fun hb => ?_) <;> ((try have hq := dX hb); (try (exfalso; omega))))) | (apply at_guard; first | refine g_go ?_ | refine g_nt ?_ | refine g_nf ?_ | refine g_nu ?_ | ((first | refine al_split_t rfl rfl (lt_ok rfl) (fun hb => ?_) (fun hb => ?_) | refine al_split_f rfl rfl (lt_ok rfl) (fun hb => ?_) (fun hb => ?_)) <;> ((try have hq := dX hb); (try (exfalso; omega))))) | (apply qr_pick; refine r_pick ?_) | (apply qr_eql; refine r_eql ?_) | (apply qr_neq; refine r_neq ?_) | (apply qr_add; refine r_add ?_) | (apply qr_load; refine r_load ?_) | (apply qr_faddr; refine r_faddr ?_) | (apply qr_nilck; refine r_nilck ?_) | (apply qr_alloc; refine r_alloc ?_) | (apply qr_store; refine r_store ?_) | (apply qr_build; refine r_build ?_))
  ·refine aw_lp (fun N sl ob => N = 0 ∧ sl = [(8, .box 8 0), (4, .box 4 0), (0, .box 1000 0), (1, .d (.int ((3 : Nat) : Int)))] ∧ ob = [(8, exB a), (4, zeroB), (1000, rpB L (atN L t) 0 0)]) ⟨rfl, rfl, rfl⟩ ?_
   rintro N sl ob ⟨rfl, rfl, rfl⟩
   repeat' (first | refine nx ?_ | (apply aq_block_y; decide) | (apply qr_move; refine r_move ?_) | (apply at_cond; first | refine c_t ?_ | refine c_f ?_ | (refine aw_cond rfl (fun hb => ?_) (fun hb => ?_) <;> ((try have hq := dX hb); (try (exfalso; omega))))) | (apply qr_neq; refine r_neq ?_) | (apply qr_load; refine r_load ?_) | (apply qr_store; refine r_store ?_))
   refine oret1 (rps L t) (by rfl) rv (.inl ⟨_, _, hR, rfl, rfl⟩) sb okx
  ·refine aw_lp (fun N sl ob => N = 0 ∧ sl = [(8, .box 8 0), (4, .box 4 0), (0, .box 1000 0), (1, .d (.int ((3 : Nat) : Int)))] ∧ ob = [(8, exB a), (4, zeroB), (1000, rpB L k e p)]) ⟨rfl, rfl, rfl⟩ ?_
   rintro N sl ob ⟨rfl, rfl, rfl⟩
   repeat' (first | refine nx ?_ | (apply aq_block_y; decide) | (apply qr_move; refine r_move ?_) | (apply at_cond; first | refine c_t ?_ | refine c_f ?_ | (refine aw_cond rfl (fun hb => ?_) (fun hb => ?_) <;> ((try have hq := dX hb); (try (exfalso; omega))))) | (apply qr_neq; refine r_neq ?_) | (apply qr_load; refine r_load ?_) | (apply qr_store; refine r_store ?_))
   refine oret1 (rpe L k e p) (by rfl) rv (.inr ⟨_, _, _, a, hR, he, rfl, rfl⟩) sb okx
 ·have hR : R = (rdE n 3 (l.drop 1)).then fun a l => .ok (.mk 12 0 0 ⟨#[]⟩ [a]) l := by
   rw [hR]
   simp [lev, notP, hT]
  have r1 := r0.to (suf_is hT)
  have x1 := x0.suf (suf_is hT)
  have e1 := e0.suf (suf_is hT)
  have z1 := Ends.less (isT_k hT).1
  have hr1 := hrec.run L _ 3 r1 x1 e1 (by omega) (by omega)
  refine ob_enter Tryz.func96 rfl (by decide) _ Tryz.ntmps96 (le_ok rfl) rfl (fun w Pr β κ hE => ?_)
  dsimp only [slotsV, Nat.zero_add, Nat.reduceAdd]
  repeat' (first | (apply at_call; refine k_ocall [(1000, 1000)] (rhas_y r0 w_not hT) hE ?_; rintro _ _ ⟨rfl, rfl⟩ <;> (intro _ _ h1 h2; simp only [renEqs, Nat.reduceBEq, renL_app, renL_ds, renL_und] at h1 h2; subst h1 h2)) | (apply at_call; refine k_ocall [(1000, 1000)] (hr1) hE ?_; (rintro _ _ (⟨a, u1, hx1, rfl, rfl⟩ | ⟨p, e, k, a, hx1, he, rfl, rfl⟩) <;> (first | rw [hx1, then_ok] at hR | rw [hx1, then_bad] at hR)) <;> (intro _ _ h1 h2; simp only [renEqs, Nat.reduceBEq, renL_app, renL_ds, renL_und] at h1 h2; subst h1 h2)) | refine nx ?_ | (apply aq_block_y; decide) | (apply qr_move; refine r_move ?_) | (apply at_cond; first | refine c_t ?_ | refine c_f ?_ | (refine aw_cond rfl (fun hb => ?_) (fun hb => ?_) <;> ((try have hq := dX hb); (try (exfalso; omega))))) | (apply at_guard; first | refine g_go ?_ | refine g_nt ?_ | refine g_nf ?_ | refine g_nu ?_ | ((first | refine al_split_t rfl rfl (lt_ok rfl) (fun hb => ?_) (fun hb => ?_) | refine al_split_f rfl rfl (lt_ok rfl) (fun hb => ?_) (fun hb => ?_)) <;> ((try have hq := dX hb); (try (exfalso; omega))))) | (apply qr_pick; refine r_pick ?_) | (apply qr_eql; refine r_eql ?_) | (apply qr_neq; refine r_neq ?_) | (apply qr_load; refine r_load ?_) | (apply qr_faddr; refine r_faddr ?_) | (apply qr_nilck; refine r_nilck ?_) | (apply qr_alloc; refine r_alloc ?_) | (apply qr_store; refine r_store ?_) | (apply qr_build; refine r_build ?_) | (apply qr_lits; refine r_lits ?_))
  ·skip
   refine oret1 (rps L u1) (by rfl) rv (.inl ⟨_, _, hR, congrArg (fun q => V.d (.agg q)) (not_val a).symm, rfl⟩) sb okx
  ·skip
   refine oret1 (rpe L k e p) (by rfl) rv (.inr ⟨_, _, _, .mk 12 0 0 ⟨#[]⟩ [a], hR, he, congrArg (fun q => V.d (.agg q)) (not_val a).symm, rfl⟩) sb okx
theorem rform7 (hrec : RefOk (rdE n) m) (r0 : Rdy L l) (x0 : Texts l) (e0 : EndE l) (hm : l.length ≤ m + 1) : ObC 96 [.box 1000 0, .d (.int ((7 : Nat) : Int))] (rps L l) [] (RefO (rdE (n + 1) 7 l) expV' L) := by
 have hp := rprim hrec r0 x0 e0 hm
 have hR : rdE (n + 1) 7 l = primP nameV (rdE n) l := by rw [rd_lev]; rfl
 rw [hR]
 have q5 : (!decide ((0 : Int) = 0)) = false := rfl
 have q1 : decide (((7 : Nat) : Int) = 0) = false := rfl
 have q2 : decide (((7 : Nat) : Int) = 3) = false := rfl
 have q3 : decide (((7 : Nat) : Int) = 7) = true := rfl
 refine ob_enter Tryz.func96 rfl (by decide) _ Tryz.ntmps96 (le_ok rfl) rfl (fun w Pr β κ hE => ?_)
 dsimp only [slotsV, Nat.zero_add, Nat.reduceAdd]
 repeat' (first | (apply at_call; refine k_ocall [(1000, 1000)] (hp) hE ?_; (rintro _ _ (⟨a, t, hx1, rfl, rfl⟩ | ⟨p, e, k, a, hx1, he, rfl, rfl⟩)) <;> (intro _ _ h1 h2; simp only [renEqs, Nat.reduceBEq, renL_app, renL_ds, renL_und] at h1 h2; subst h1 h2)) | refine nx ?_ | (apply aq_block_y; decide) | (apply qr_move; refine r_move ?_) | (apply at_cond; first | refine c_t ?_ | refine c_f ?_ | (refine aw_cond rfl (fun hb => ?_) (fun hb => ?_) <;> ((try have hq := dX hb); (try (exfalso; omega))))) | (apply at_guard; first | refine g_go ?_ | refine g_nt ?_ | refine g_nf ?_ | refine g_nu ?_ | ((first | refine al_split_t rfl rfl (lt_ok rfl) (fun hb => ?_) (fun hb => ?_) | refine al_split_f rfl rfl (lt_ok rfl) (fun hb => ?_) (fun hb => ?_)) <;> ((try have hq := dX hb); (try (exfalso; omega))))) | (apply qr_pick; refine r_pick ?_) | (apply qr_eql; refine r_eql ?_) | (apply qr_neq; refine r_neq ?_) | (apply qr_load; refine r_load ?_) | (apply qr_faddr; refine r_faddr ?_) | (apply qr_nilck; refine r_nilck ?_) | (apply qr_alloc; refine r_alloc ?_) | (apply qr_store; refine r_store ?_) | (apply qr_build; refine r_build ?_))
 ·skip
  refine oret1 (rps L t) (by rfl) rv (.inl ⟨_, _, hx1, rfl, rfl⟩) sb okx
 ·skip
  refine oret1 (rpe L k e p) (by rfl) rv (.inr ⟨_, _, _, a, hx1, he, rfl, rfl⟩) sb okx
end
theorem rforms {n m : Nat} {L l : List Tok} (hrec : RefOk (rdE n) m) (r0 : Rdy L l) (x0 : Texts l) (e0 : EndE l) (hm : l.length ≤ m + 1) : ∀ d f : Nat, f + d = 7 → ObC 96 [.box 1000 0, .d (.int (f : Int))] (rps L l) [] (RefO (rdE (n + 1) f l) expV' L)
 | 0, f, h => by
  obtain rfl : f = 7 := by omega
  exact rform7 hrec r0 x0 e0 hm
 | d + 1, f, h => by
  have ih := rforms hrec r0 x0 e0 hm d (f + 1) (by omega)
  rcases (by omega : f = 0 ∨ f = 3 ∨ (f = 1 ∨ f = 2 ∨ f = 4 ∨ f = 5 ∨ f = 6)) with rfl | rfl | hf
  ·exact rform0 hrec r0 x0 e0 hm ih
  ·exact rform3 hrec r0 x0 e0 hm ih
  ·have h1 := rchain hrec (rd_parts n) r0 x0 e0 hm f hf (rdE (n + 1) (f + 1) l) (fun e t h => rd_suf h) ih
   have h2 : rdE (n + 1) f l = (rdE (n + 1) (f + 1) l).then fun e t => chain symP (rdE n) f (t.length + 1) e t := by
    rw [rd_lev n f, rd_lev n (f + 1)]
    rw [show 7 - f = (7 - (f + 1)) + 1 by omega]
    generalize hd : 7 - (f + 1) = d'
    have hfd : 6 - d' = f := by omega
    simp only [lev, hfd]
    rw [if_neg (by omega), if_neg (by omega)]
   rw [h2]
   exact h1
theorem ref_ok : ∀ n, RefOk (rdE (n + 1)) n
 | 0 => ⟨fun _ _ _ _ h => rd_suf h, fun _ _ _ h _ _ hl => absurd h.e.pos (by omega)⟩
 | n + 1 => ⟨fun _ _ _ _ h => rd_suf h, fun _ _ form h hx he hl hf => rforms (ref_ok n) h hx he hl (7 - form) form (by omega)⟩
end Go.Proofs.YtedoeogopmenpaaGreatDoor
end
section
set_option linter.unusedSimpArgs false
set_option linter.unusedVariables false
namespace Go.Proofs.YtedoeogopmenpaaGreatDoor
open Go.RowKit
theorem rread {L l : List Tok} (r0 : Rdy L l) (x0 : Texts l) (e0 : EndE l) : ObC 96 [.box 1000 0, .d (.int 0)] (rps L l) [] (RefO (readE l) expV' L) :=
 (ref_ok l.length).run L l 0 r0 x0 e0 (Nat.le_refl _) (by omega)
theorem rlevels_le (e : Ex) (he : e.levels ≤ 100000) (hw : e.wid ≤ 1000000) : PureC 98 [.agg (exC e)] (· = .int e.levels) := rlevels_any e.levels e (Nat.le_refl _) (by omega) (by omega)
section
variable {L l : List Tok} {k e p : Int}
theorem rwhole (r0 : Rdy L l) (x0 : Texts l) (e0 : EndE l) (after : ByteArray) (ha : after.size ≠ 0) : ObC 46 [.box 1000 0, .d (.str after)] (rps L l) [] (RefO (wholeP after l) expV' L) := by
 have hrd := rread r0 x0 e0
 have hne : after ≠ ⟨#[]⟩ := fun h => ha (by rw [h]; rfl)
 have q1 : decide (after = ⟨#[]⟩) = false := decide_eq_false hne
 have q2 : (!decide (after = ⟨#[]⟩)) = true := by simp [hne]
 obtain ⟨R, hR⟩ : ∃ R, R = wholeP after l := ⟨_, rfl⟩
 rw [← hR]
 unfold wholeP at hR
 have q3 : (!decide ((0 : Int) = 0)) = false := rfl
 rcases hrE : readE l with ⟨x, t⟩ | ⟨q, c⟩
 ·rw [hrE, then_ok] at hR
  have hok : ObC 96 [.box 1000 0, .d (.int 0)] (rps L l) [] (fun y o => y = expV' x ∧ o = rps L t) := by
   refine hrd.mono ?_
   rintro y o (⟨a, u, h, rfl, rfl⟩ | ⟨p, e, k, a, h, _⟩)
   ·rw [hrE] at h
    cases h
    exact ⟨rfl, rfl⟩
   ·rw [hrE] at h
    cases h
  have r1 := r0.to (readE_suf hrE)
  obtain ⟨o, hd⟩ := readE_der hrE
  have hlv := hd.levels
  have hwd := hd.wid
  have hll := r0.len
  have hl2 := suf_less r0.suf
  have hlev := rlevels_le x (by omega) (by omega)
  have hle := r1.le
  have his := ris r1 after
  cases hT : isT t after
  ·have hR : R = .bad (nxt t).p 12 := by rw [hR]; simp [behindP, hT]
   rw [hT] at his
   refine ob_enter Tryz.func46 rfl (by decide) _ Tryz.ntmps46 (le_ok rfl) rfl (fun w Pr β κ hE => ?_)
   dsimp only [slotsV, Nat.zero_add, Nat.reduceAdd]
   repeat' (first | (apply at_call; refine k_ocall [(1000, 1000)] (hok) hE ?_; rintro _ _ ⟨rfl, rfl⟩ <;> (intro _ _ h1 h2; simp only [renEqs, Nat.reduceBEq, renL_app, renL_ds, renL_und] at h1 h2; subst h1 h2)) | (apply at_call; refine k_ocall [(1000, 1000)] (his) hE ?_; rintro _ _ ⟨rfl, rfl⟩ <;> (intro _ _ h1 h2; simp only [renEqs, Nat.reduceBEq, renL_app, renL_ds, renL_und] at h1 h2; subst h1 h2)) | (apply at_call; refine k_ocall [(1000, 1000)] (rfail r1 12) hE ?_; rintro _ _ ⟨rfl, rfl⟩ <;> (intro _ _ h1 h2; simp only [renEqs, Nat.reduceBEq, renL_app, renL_ds, renL_und] at h1 h2; subst h1 h2)) | refine nx ?_ | (apply qr_move; refine r_move ?_) | (apply at_cond; first | refine c_t ?_ | refine c_f ?_ | (refine aw_cond rfl (fun hb => ?_) (fun hb => ?_) <;> ((try have hq := dX hb); (try (exfalso; omega))))) | (apply at_guard; first | refine g_go ?_ | refine g_nt ?_ | refine g_nf ?_ | refine g_nu ?_ | ((first | refine al_split_t rfl rfl (lt_ok rfl) (fun hb => ?_) (fun hb => ?_) | refine al_split_f rfl rfl (lt_ok rfl) (fun hb => ?_) (fun hb => ?_)) <;> ((try have hq := dX hb); (try (exfalso; omega))))) | (apply qr_pick; refine r_pick ?_) | (apply qr_gtr; refine r_gtr ?_) | (apply qr_eql; refine r_eql ?_) | (apply qr_neq; refine r_neq ?_) | (apply qr_add; refine r_add ?_) | (apply qr_not; refine r_not ?_) | (apply qr_load; refine r_load ?_) | (apply qr_faddr; refine r_faddr ?_) | (apply qr_field; refine r_field ?_) | (apply qr_nilck; refine r_nilck ?_) | (apply qr_alloc; refine r_alloc ?_) | (apply qr_store; refine r_store ?_))
   refine oret1 (rpe L (atN L t) 12 (nxt t).p) (by rfl) rv (.inr ⟨_, 12, _, _, hR, by decide, rfl, rfl⟩) sb okx
  ·rw [hT] at his
   by_cases hv : x.levels ≤ 12
   ·have hR : R = .ok x (t.drop 1) := by rw [hR]; simp [behindP, hT, hv]
    have q4 : decide ((12 : Int) < x.levels) = false := decide_eq_false (by omega)
    refine ob_enter Tryz.func46 rfl (by decide) _ Tryz.ntmps46 (le_ok rfl) rfl (fun w Pr β κ hE => ?_)
    dsimp only [slotsV, Nat.zero_add, Nat.reduceAdd]
    repeat' (first | (apply at_call; refine k_ocall [(1000, 1000)] (hok) hE ?_; rintro _ _ ⟨rfl, rfl⟩ <;> (intro _ _ h1 h2; simp only [renEqs, Nat.reduceBEq, renL_app, renL_ds, renL_und] at h1 h2; subst h1 h2)) | (apply at_call; refine k_ocall [(1000, 1000)] (his) hE ?_; rintro _ _ ⟨rfl, rfl⟩ <;> (intro _ _ h1 h2; simp only [renEqs, Nat.reduceBEq, renL_app, renL_ds, renL_und] at h1 h2; subst h1 h2)) | (apply at_call; refine k_call (hlev) hE ?_; rintro _ rfl) | refine nx ?_ | (apply qr_move; refine r_move ?_) | (apply at_cond; first | refine c_t ?_ | refine c_f ?_ | (refine aw_cond rfl (fun hb => ?_) (fun hb => ?_) <;> ((try have hq := dX hb); (try (exfalso; omega))))) | (apply at_guard; first | refine g_go ?_ | refine g_nt ?_ | refine g_nf ?_ | refine g_nu ?_ | ((first | refine al_split_t rfl rfl (lt_ok rfl) (fun hb => ?_) (fun hb => ?_) | refine al_split_f rfl rfl (lt_ok rfl) (fun hb => ?_) (fun hb => ?_)) <;> ((try have hq := dX hb); (try (exfalso; omega))))) | (apply qr_pick; refine r_pick ?_) | (apply qr_gtr; refine r_gtr ?_) | (apply qr_eql; refine r_eql ?_) | (apply qr_neq; refine r_neq ?_) | (apply qr_add; refine r_add ?_) | (apply qr_not; refine r_not ?_) | (apply qr_load; refine r_load ?_) | (apply qr_faddr; refine r_faddr ?_) | (apply qr_field; refine r_field ?_) | (apply qr_nilck; refine r_nilck ?_) | (apply qr_alloc; refine r_alloc ?_) | (apply qr_store; refine r_store ?_))
    rw [r1.step]
    refine oret1 (rps L (t.drop 1)) (by rfl) rv (.inl ⟨_, _, hR, rfl, rfl⟩) sb okx
   ·have hR : R = .bad (nxt t).p 6 := by rw [hR]; simp [behindP, hT, hv]
    have q4 : decide ((12 : Int) < x.levels) = true := decide_eq_true (by omega)
    refine ob_enter Tryz.func46 rfl (by decide) _ Tryz.ntmps46 (le_ok rfl) rfl (fun w Pr β κ hE => ?_)
    dsimp only [slotsV, Nat.zero_add, Nat.reduceAdd]
    repeat' (first | (apply at_call; refine k_ocall [(1000, 1000)] (hok) hE ?_; rintro _ _ ⟨rfl, rfl⟩ <;> (intro _ _ h1 h2; simp only [renEqs, Nat.reduceBEq, renL_app, renL_ds, renL_und] at h1 h2; subst h1 h2)) | (apply at_call; refine k_ocall [(1000, 1000)] (his) hE ?_; rintro _ _ ⟨rfl, rfl⟩ <;> (intro _ _ h1 h2; simp only [renEqs, Nat.reduceBEq, renL_app, renL_ds, renL_und] at h1 h2; subst h1 h2)) | (apply at_call; refine k_ocall [(1000, 1000)] (rfail r1 6) hE ?_; rintro _ _ ⟨rfl, rfl⟩ <;> (intro _ _ h1 h2; simp only [renEqs, Nat.reduceBEq, renL_app, renL_ds, renL_und] at h1 h2; subst h1 h2)) | (apply at_call; refine k_call (hlev) hE ?_; rintro _ rfl) | refine nx ?_ | (apply qr_move; refine r_move ?_) | (apply at_cond; first | refine c_t ?_ | refine c_f ?_ | (refine aw_cond rfl (fun hb => ?_) (fun hb => ?_) <;> ((try have hq := dX hb); (try (exfalso; omega))))) | (apply at_guard; first | refine g_go ?_ | refine g_nt ?_ | refine g_nf ?_ | refine g_nu ?_ | ((first | refine al_split_t rfl rfl (lt_ok rfl) (fun hb => ?_) (fun hb => ?_) | refine al_split_f rfl rfl (lt_ok rfl) (fun hb => ?_) (fun hb => ?_)) <;> ((try have hq := dX hb); (try (exfalso; omega))))) | (apply qr_pick; refine r_pick ?_) | (apply qr_gtr; refine r_gtr ?_) | (apply qr_eql; refine r_eql ?_) | (apply qr_neq; refine r_neq ?_) | (apply qr_add; refine r_add ?_) | (apply qr_not; refine r_not ?_) | (apply qr_load; refine r_load ?_) | (apply qr_faddr; refine r_faddr ?_) | (apply qr_field; refine r_field ?_) | (apply qr_nilck; refine r_nilck ?_) | (apply qr_alloc; refine r_alloc ?_) | (apply qr_store; refine r_store ?_))
    refine oret1 (rpe L (atN L t) 6 (nxt t).p) (by rfl) rv (.inr ⟨_, 6, _, _, hR, by decide, rfl, rfl⟩) sb okx
 ·have hR : R = .bad q c := by rw [hR, hrE]; rfl
  have hbad : ObC 96 [.box 1000 0, .d (.int 0)] (rps L l) [] (fun y o => ∃ a k, c ≠ 0 ∧ y = expV' a ∧ o = rpe L k c q) := by
   refine hrd.mono ?_
   rintro y o (⟨a, u, h, rfl, rfl⟩ | ⟨p, e, k, a, h, he, hy, ho⟩)
   ·rw [hrE] at h
    cases h
   ·rw [hrE] at h
    cases h
    exact ⟨a, k, he, hy, ho⟩
  have q4 : c ≠ 0 → (!decide (c = 0)) = true := fun h => by simp [h]
  refine ob_enter Tryz.func46 rfl (by decide) _ Tryz.ntmps46 (le_ok rfl) rfl (fun w Pr β κ hE => ?_)
  dsimp only [slotsV, Nat.zero_add, Nat.reduceAdd]
  repeat' (first | (apply at_call; refine k_ocall [(1000, 1000)] (hbad) hE ?_; rintro _ _ ⟨a, k, hc, rfl, rfl⟩; replace q4 := q4 hc <;> (intro _ _ h1 h2; simp only [renEqs, Nat.reduceBEq, renL_app, renL_ds, renL_und] at h1 h2; subst h1 h2)) | refine nx ?_ | (apply qr_move; refine r_move ?_) | (apply at_cond; first | refine c_t ?_ | refine c_f ?_ | (refine aw_cond rfl (fun hb => ?_) (fun hb => ?_) <;> ((try have hq := dX hb); (try (exfalso; omega))))) | (apply qr_neq; refine r_neq ?_) | (apply qr_load; refine r_load ?_) | (apply qr_faddr; refine r_faddr ?_) | (apply qr_nilck; refine r_nilck ?_) | (apply qr_alloc; refine r_alloc ?_) | (apply qr_store; refine r_store ?_))
  refine oret1 (rpe L k c q) (by rfl) rv (.inr ⟨_, _, _, a, hR, hc, rfl, rfl⟩) sb okx
theorem rwhole_e (he : e ≠ 0) (after : ByteArray) : ObC 46 [.box 1000 0, .d (.str after)] (rpe L k e p) [] (ErrO expV' L k e p) := by
 have q0 : (!decide (e = 0)) = true := by simp [he]
 refine ob_enter Tryz.func46 rfl (by decide) _ Tryz.ntmps46 (le_ok rfl) rfl (fun w Pr β κ hE => ?_)
 dsimp only [slotsV, Nat.zero_add, Nat.reduceAdd]
 repeat' (first | (apply at_call; refine k_ocall [(1000, 1000)] (rexp_e he 0) hE ?_; rintro _ _ ⟨⟨x, rfl⟩, rfl⟩ <;> (intro _ _ h1 h2; simp only [renEqs, Nat.reduceBEq, renL_app, renL_ds, renL_und] at h1 h2; subst h1 h2)) | refine nx ?_ | (apply qr_move; refine r_move ?_) | (apply at_cond; first | refine c_t ?_ | refine c_f ?_ | (refine aw_cond rfl (fun hb => ?_) (fun hb => ?_) <;> ((try have hq := dX hb); (try (exfalso; omega))))) | (apply qr_neq; refine r_neq ?_) | (apply qr_load; refine r_load ?_) | (apply qr_faddr; refine r_faddr ?_) | (apply qr_nilck; refine r_nilck ?_) | (apply qr_alloc; refine r_alloc ?_) | (apply qr_store; refine r_store ?_))
 refine oret1 (rpe L k e p) (by rfl) rv (⟨⟨x, rfl⟩, rfl⟩) sb okx
theorem rall (r0 : Rdy L l) (x0 : Texts l) (e0 : EndE l) : ObC 46 [.box 1000 0, .d (.str ⟨#[]⟩)] (rps L l) [] (fun y o => ∃ a k e p, y = expV' a ∧ o = rpe L k e p ∧ ((∃ t, allP l = .ok a t ∧ e = 0) ∨ (allP l = .bad p e ∧ e ≠ 0))) := by
 have hrd := rread r0 x0 e0
 obtain ⟨R, hR⟩ : ∃ R, R = allP l := ⟨_, rfl⟩
 rw [← hR]
 unfold allP at hR
 have q1 : decide ((⟨#[]⟩ : ByteArray) = ⟨#[]⟩) = true := rfl
 have q2 : (!decide ((⟨#[]⟩ : ByteArray) = ⟨#[]⟩)) = false := rfl
 have q3 : (!decide ((0 : Int) = 0)) = false := rfl
 rcases hrE : readE l with ⟨x, t⟩ | ⟨q, c⟩
 ·rw [hrE, then_ok] at hR
  have hok : ObC 96 [.box 1000 0, .d (.int 0)] (rps L l) [] (fun y o => y = expV' x ∧ o = rps L t) := by
   refine hrd.mono ?_
   rintro y o (⟨a, u, h, rfl, rfl⟩ | ⟨p, e, k, a, h, _⟩)
   ·rw [hrE] at h
    cases h
    exact ⟨rfl, rfl⟩
   ·rw [hrE] at h
    cases h
  have r1 := r0.to (readE_suf hrE)
  obtain ⟨o, hd⟩ := readE_der hrE
  have hlv := hd.levels
  have hwd := hd.wid
  have hll := r0.len
  have hl2 := suf_less r0.suf
  have hlev := rlevels_le x (by omega) (by omega)
  by_cases hk : (nxt t).k = 3
  ·rw [if_pos hk] at hR
   have q5 : (!decide ((nxt t).k = 3)) = false := by simp [hk]
   by_cases hv : x.levels ≤ 12
   ·rw [if_pos hv] at hR
    have q4 : decide ((12 : Int) < x.levels) = false := decide_eq_false (by omega)
    refine ob_enter Tryz.func46 rfl (by decide) _ Tryz.ntmps46 (le_ok rfl) rfl (fun w Pr β κ hE => ?_)
    dsimp only [slotsV, Nat.zero_add, Nat.reduceAdd]
    repeat' (first | (apply at_call; refine k_ocall [(1000, 1000)] (hok) hE ?_; rintro _ _ ⟨rfl, rfl⟩ <;> (intro _ _ h1 h2; simp only [renEqs, Nat.reduceBEq, renL_app, renL_ds, renL_und] at h1 h2; subst h1 h2)) | (apply at_call; refine k_ocall [(1000, 1000)] (rnext r1) hE ?_; rintro _ _ ⟨rfl, rfl⟩ <;> (intro _ _ h1 h2; simp only [renEqs, Nat.reduceBEq, renL_app, renL_ds, renL_und] at h1 h2; subst h1 h2)) | (apply at_call; refine k_call (hlev) hE ?_; rintro _ rfl) | refine nx ?_ | (apply qr_move; refine r_move ?_) | (apply at_cond; first | refine c_t ?_ | refine c_f ?_ | (refine aw_cond rfl (fun hb => ?_) (fun hb => ?_) <;> ((try have hq := dX hb); (try (exfalso; omega))))) | (apply at_guard; first | refine g_go ?_ | refine g_nt ?_ | refine g_nf ?_ | refine g_nu ?_ | ((first | refine al_split_t rfl rfl (lt_ok rfl) (fun hb => ?_) (fun hb => ?_) | refine al_split_f rfl rfl (lt_ok rfl) (fun hb => ?_) (fun hb => ?_)) <;> ((try have hq := dX hb); (try (exfalso; omega))))) | (apply qr_pick; refine r_pick ?_) | (apply qr_gtr; refine r_gtr ?_) | (apply qr_eql; refine r_eql ?_) | (apply qr_neq; refine r_neq ?_) | (apply qr_add; refine r_add ?_) | (apply qr_not; refine r_not ?_) | (apply qr_load; refine r_load ?_) | (apply qr_faddr; refine r_faddr ?_) | (apply qr_field; refine r_field ?_) | (apply qr_nilck; refine r_nilck ?_) | (apply qr_alloc; refine r_alloc ?_) | (apply qr_store; refine r_store ?_))
    refine oret1 (rps L t) (by rfl) rv (⟨x, _, _, _, rfl, rfl, .inl ⟨_, hR, rfl⟩⟩) sb okx
   ·rw [if_neg hv] at hR
    have q4 : decide ((12 : Int) < x.levels) = true := decide_eq_true (by omega)
    refine ob_enter Tryz.func46 rfl (by decide) _ Tryz.ntmps46 (le_ok rfl) rfl (fun w Pr β κ hE => ?_)
    dsimp only [slotsV, Nat.zero_add, Nat.reduceAdd]
    repeat' (first | (apply at_call; refine k_ocall [(1000, 1000)] (hok) hE ?_; rintro _ _ ⟨rfl, rfl⟩ <;> (intro _ _ h1 h2; simp only [renEqs, Nat.reduceBEq, renL_app, renL_ds, renL_und] at h1 h2; subst h1 h2)) | (apply at_call; refine k_ocall [(1000, 1000)] (rnext r1) hE ?_; rintro _ _ ⟨rfl, rfl⟩ <;> (intro _ _ h1 h2; simp only [renEqs, Nat.reduceBEq, renL_app, renL_ds, renL_und] at h1 h2; subst h1 h2)) | (apply at_call; refine k_ocall [(1000, 1000)] (rfail r1 6) hE ?_; rintro _ _ ⟨rfl, rfl⟩ <;> (intro _ _ h1 h2; simp only [renEqs, Nat.reduceBEq, renL_app, renL_ds, renL_und] at h1 h2; subst h1 h2)) | (apply at_call; refine k_call (hlev) hE ?_; rintro _ rfl) | refine nx ?_ | (apply qr_move; refine r_move ?_) | (apply at_cond; first | refine c_t ?_ | refine c_f ?_ | (refine aw_cond rfl (fun hb => ?_) (fun hb => ?_) <;> ((try have hq := dX hb); (try (exfalso; omega))))) | (apply at_guard; first | refine g_go ?_ | refine g_nt ?_ | refine g_nf ?_ | refine g_nu ?_ | ((first | refine al_split_t rfl rfl (lt_ok rfl) (fun hb => ?_) (fun hb => ?_) | refine al_split_f rfl rfl (lt_ok rfl) (fun hb => ?_) (fun hb => ?_)) <;> ((try have hq := dX hb); (try (exfalso; omega))))) | (apply qr_pick; refine r_pick ?_) | (apply qr_gtr; refine r_gtr ?_) | (apply qr_eql; refine r_eql ?_) | (apply qr_neq; refine r_neq ?_) | (apply qr_add; refine r_add ?_) | (apply qr_not; refine r_not ?_) | (apply qr_load; refine r_load ?_) | (apply qr_faddr; refine r_faddr ?_) | (apply qr_field; refine r_field ?_) | (apply qr_nilck; refine r_nilck ?_) | (apply qr_alloc; refine r_alloc ?_) | (apply qr_store; refine r_store ?_))
    refine oret1 (rpe L (atN L t) 6 (nxt t).p) (by rfl) rv (⟨x, _, _, _, rfl, rfl, .inr ⟨hR, by decide⟩⟩) sb okx
  ·rw [if_neg hk] at hR
   have q5 : (!decide ((nxt t).k = 3)) = true := by simp [hk]
   refine ob_enter Tryz.func46 rfl (by decide) _ Tryz.ntmps46 (le_ok rfl) rfl (fun w Pr β κ hE => ?_)
   dsimp only [slotsV, Nat.zero_add, Nat.reduceAdd]
   repeat' (first | (apply at_call; refine k_ocall [(1000, 1000)] (hok) hE ?_; rintro _ _ ⟨rfl, rfl⟩ <;> (intro _ _ h1 h2; simp only [renEqs, Nat.reduceBEq, renL_app, renL_ds, renL_und] at h1 h2; subst h1 h2)) | (apply at_call; refine k_ocall [(1000, 1000)] (rnext r1) hE ?_; rintro _ _ ⟨rfl, rfl⟩ <;> (intro _ _ h1 h2; simp only [renEqs, Nat.reduceBEq, renL_app, renL_ds, renL_und] at h1 h2; subst h1 h2)) | (apply at_call; refine k_ocall [(1000, 1000)] (rfail r1 12) hE ?_; rintro _ _ ⟨rfl, rfl⟩ <;> (intro _ _ h1 h2; simp only [renEqs, Nat.reduceBEq, renL_app, renL_ds, renL_und] at h1 h2; subst h1 h2)) | refine nx ?_ | (apply qr_move; refine r_move ?_) | (apply at_cond; first | refine c_t ?_ | refine c_f ?_ | (refine aw_cond rfl (fun hb => ?_) (fun hb => ?_) <;> ((try have hq := dX hb); (try (exfalso; omega))))) | (apply at_guard; first | refine g_go ?_ | refine g_nt ?_ | refine g_nf ?_ | refine g_nu ?_ | ((first | refine al_split_t rfl rfl (lt_ok rfl) (fun hb => ?_) (fun hb => ?_) | refine al_split_f rfl rfl (lt_ok rfl) (fun hb => ?_) (fun hb => ?_)) <;> ((try have hq := dX hb); (try (exfalso; omega))))) | (apply qr_pick; refine r_pick ?_) | (apply qr_gtr; refine r_gtr ?_) | (apply qr_eql; refine r_eql ?_) | (apply qr_neq; refine r_neq ?_) | (apply qr_add; refine r_add ?_) | (apply qr_not; refine r_not ?_) | (apply qr_load; refine r_load ?_) | (apply qr_faddr; refine r_faddr ?_) | (apply qr_field; refine r_field ?_) | (apply qr_nilck; refine r_nilck ?_) | (apply qr_alloc; refine r_alloc ?_) | (apply qr_store; refine r_store ?_))
   refine oret1 (rpe L (atN L t) 12 (nxt t).p) (by rfl) rv (⟨x, _, _, _, rfl, rfl, .inr ⟨hR, by decide⟩⟩) sb okx
 ·have hR : R = .bad q c := by rw [hR, hrE]; rfl
  have hbad : ObC 96 [.box 1000 0, .d (.int 0)] (rps L l) [] (fun y o => ∃ a k, c ≠ 0 ∧ y = expV' a ∧ o = rpe L k c q) := by
   refine hrd.mono ?_
   rintro y o (⟨a, u, h, rfl, rfl⟩ | ⟨p, e, k, a, h, he, hy, ho⟩)
   ·rw [hrE] at h
    cases h
   ·rw [hrE] at h
    cases h
    exact ⟨a, k, he, hy, ho⟩
  have q4 : c ≠ 0 → (!decide (c = 0)) = true := fun h => by simp [h]
  refine ob_enter Tryz.func46 rfl (by decide) _ Tryz.ntmps46 (le_ok rfl) rfl (fun w Pr β κ hE => ?_)
  dsimp only [slotsV, Nat.zero_add, Nat.reduceAdd]
  repeat' (first | (apply at_call; refine k_ocall [(1000, 1000)] (hbad) hE ?_; rintro _ _ ⟨a, k, hc, rfl, rfl⟩; replace q4 := q4 hc <;> (intro _ _ h1 h2; simp only [renEqs, Nat.reduceBEq, renL_app, renL_ds, renL_und] at h1 h2; subst h1 h2)) | refine nx ?_ | (apply qr_move; refine r_move ?_) | (apply at_cond; first | refine c_t ?_ | refine c_f ?_ | (refine aw_cond rfl (fun hb => ?_) (fun hb => ?_) <;> ((try have hq := dX hb); (try (exfalso; omega))))) | (apply qr_neq; refine r_neq ?_) | (apply qr_load; refine r_load ?_) | (apply qr_faddr; refine r_faddr ?_) | (apply qr_nilck; refine r_nilck ?_) | (apply qr_alloc; refine r_alloc ?_) | (apply qr_store; refine r_store ?_))
  refine oret1 (rpe L k c q) (by rfl) rv (⟨a, _, _, _, rfl, rfl, .inr ⟨hR, hc⟩⟩) sb okx
end
end Go.Proofs.YtedoeogopmenpaaGreatDoor
end
section
set_option linter.unusedSimpArgs false
set_option linter.unusedVariables false
namespace Go.Proofs.YtedoeogopmenpaaGreatDoor
open Go.RowKit
section
variable {L l : List Tok} {k e p : Int}
theorem rfresh (r0 : Rdy L l) (x0 : Texts l) (others : List ByteArray) (ho : others.length ≤ 1000) : ObC 131 [.box 1000 0, .d (strsD others)] (rps L l) [] (RefO (freshP others l) strV L) := by
 have hz := x0.nxt
 have hna := rname_any (nxt l).s (by omega)
 obtain ⟨R, hR⟩ : ∃ R, R = freshP others l := ⟨_, rfl⟩
 rw [← hR]
 unfold freshP at hR
 by_cases hk : (nxt l).k = 0
 ·have q1 : (!decide ((nxt l).k = 0)) = false := by simp [hk]
  cases hv : nameV (nxt l).s
  ·rw [hv] at hna
   rw [if_neg (by simp [hv])] at hR
   refine ob_enter Tryz.func131 rfl (by decide) _ Tryz.ntmps131 (le_ok rfl) rfl (fun w Pr β κ hE => ?_)
   dsimp only [slotsV, Nat.zero_add, Nat.reduceAdd]
   repeat' (first | (apply at_call; refine k_ocall [(1000, 1000)] (rnext r0) hE ?_; rintro _ _ ⟨rfl, rfl⟩ <;> (intro _ _ h1 h2; simp only [renEqs, Nat.reduceBEq, renL_app, renL_ds, renL_und] at h1 h2; subst h1 h2)) | (apply at_call; refine k_call (hna) hE ?_; rintro _ rfl) | (apply at_call; refine k_ocall [(1000, 1000)] (rfail r0 12) hE ?_; rintro _ _ ⟨rfl, rfl⟩ <;> (intro _ _ h1 h2; simp only [renEqs, Nat.reduceBEq, renL_app, renL_ds, renL_und] at h1 h2; subst h1 h2)) | refine nx ?_ | (apply aq_block_y; decide) | (apply qr_move; refine r_move ?_) | (apply qr_assign; refine r_assign ?_) | (apply at_cond; first | refine c_t ?_ | refine c_f ?_ | (refine aw_cond rfl (fun hb => ?_) (fun hb => ?_) <;> ((try have hq := dX hb); (try (exfalso; omega))))) | (apply at_guard; first | refine g_go ?_ | refine g_nt ?_ | refine g_nf ?_ | refine g_nu ?_ | ((first | refine al_split_t rfl rfl (lt_ok rfl) (fun hb => ?_) (fun hb => ?_) | refine al_split_f rfl rfl (lt_ok rfl) (fun hb => ?_) (fun hb => ?_)) <;> ((try have hq := dX hb); (try (exfalso; omega))))) | (apply qr_pick; refine r_pick ?_) | (apply qr_neq; refine r_neq ?_) | (apply qr_not; refine r_not ?_) | (apply qr_load; refine r_load ?_) | (apply qr_faddr; refine r_faddr ?_) | (apply qr_alloc; refine r_alloc ?_) | (apply qr_store; refine r_store ?_))
   refine oret1 (rpe L (atN L l) 12 (nxt l).p) (by rfl) rv (.inr ⟨_, 12, _, _, hR, by decide, rfl, rfl⟩) sb okx
  ·rw [hv] at hna
   rw [if_pos ⟨hk, hv⟩] at hR
   refine ob_enter Tryz.func131 rfl (by decide) _ Tryz.ntmps131 (le_ok rfl) rfl (fun w Pr β κ hE => ?_)
   dsimp only [slotsV, Nat.zero_add, Nat.reduceAdd]
   repeat' (first | (apply at_call; refine k_ocall [(1000, 1000)] (rnext r0) hE ?_; rintro _ _ ⟨rfl, rfl⟩ <;> (intro _ _ h1 h2; simp only [renEqs, Nat.reduceBEq, renL_app, renL_ds, renL_und] at h1 h2; subst h1 h2)) | (apply at_call; refine k_call (hna) hE ?_; rintro _ rfl) | refine nx ?_ | (apply aq_block_y; decide) | (apply qr_move; refine r_move ?_) | (apply qr_assign; refine r_assign ?_) | (apply at_cond; first | refine c_t ?_ | refine c_f ?_ | (refine aw_cond rfl (fun hb => ?_) (fun hb => ?_) <;> ((try have hq := dX hb); (try (exfalso; omega))))) | (apply at_guard; first | refine g_go ?_ | refine g_nt ?_ | refine g_nf ?_ | refine g_nu ?_ | ((first | refine al_split_t rfl rfl (lt_ok rfl) (fun hb => ?_) (fun hb => ?_) | refine al_split_f rfl rfl (lt_ok rfl) (fun hb => ?_) (fun hb => ?_)) <;> ((try have hq := dX hb); (try (exfalso; omega))))) | (apply qr_pick; refine r_pick ?_) | (apply qr_neq; refine r_neq ?_) | (apply qr_not; refine r_not ?_) | (apply qr_load; refine r_load ?_) | (apply qr_faddr; refine r_faddr ?_) | (apply qr_alloc; refine r_alloc ?_) | (apply qr_store; refine r_store ?_))
   refine aw_lp (fun N sl ob => ∃ i : Nat, N = others.length - i ∧ i ≤ others.length ∧ (others.take i).any (fun w => decide (w = (nxt l).s)) = false ∧ sl = [(6, .d (.int i)), (5, .box 5 0), (4, .d (.str ⟨#[]⟩)), (1, .d (strsD others)), (0, .box 1000 0)] ∧ ob = [(5, .box 52 ((tokC (nxt l)).map V.d)), (1000, rpB L (atN L l) 0 0)]) (⟨0, rfl, Nat.zero_le _, by simp, rfl, rfl⟩) ?_
   rintro N sl ob ⟨i, rfl, hi, ht, rfl, rfl⟩
   by_cases hlt : i < others.length
   ·have hg : (others.map fun s => [D.str s])[i]? = some [D.str others[i]] := by rw [get_map hlt]
    by_cases he : others[i] = (nxt l).s
    ·have hany : others.any (fun w => decide (w = (nxt l).s)) = true := by
      rw [List.any_eq_true]
      exact ⟨others[i], List.getElem_mem hlt, by simp [he]⟩
     rw [hany, if_pos rfl] at hR
     have q : decide (others[i] = (nxt l).s) = true := decide_eq_true he
     generalize hx : others[i] = x at q hg
     repeat' (first | (apply at_op (.indexAddr _ _ _); refine al_ixq hg ?_) | refine nx ?_ | (apply aq_block_y; decide) | (apply qr_move; refine r_move ?_) | (apply at_cond; first | refine c_t ?_ | refine c_f ?_ | (refine aw_cond rfl (fun hb => ?_) (fun hb => ?_) <;> ((try have hq := dX hb); (try (exfalso; omega))))) | (apply qr_lss; refine r_lss ?_) | (apply qr_len; refine r_len ?_))
     refine aw_mixo ([(5, .box 52 ((tokC (nxt l)).map V.d))]) [(0, true), (1, true), (2, true), (3, true), (4, true), (5, true), (6, true)] [] (by kernel_rfl) (by kernel_rfl) (by kernel_rfl) (by decide) (by (repeat (first | exact obs_nil | (apply obs_cons; focus (first | rfl | (simp [find]; done)))))) ?_
     simp only [planned, tailed, List.filterMap_cons, List.filterMap_nil, List.getElem?_cons_zero, List.getElem?_cons_succ, Option.map_some]
     repeat' (first | apply am_nil | refine m_skip ?_ | refine n_skip ?_ | (apply at_am (.indexAddr _ _ _); refine am_y (by first | exact want_none | exact want_yes rfl rfl (by assumption) | exact want_yes rfl rfl (by with_reducible rfl)) (y_ix (by first | exact ToD.d _ | exact ToD.row _ _ _ _ _ rfl) rfl rfl (by first | with_reducible rfl | exact lit0 | exact lit1 | exact lit2 | exact lit3 | exact lit4 | exact int_s _ | exact int_p _ _ | exact int_nat _ (by omega)) hg) (lt_ok rfl) ?_) | (apply qm_move; refine m_move ?_) | (apply qm_eql; refine m_eql ?_) | (apply qm_ix; refine m_ix ?_) | (apply qm_load; refine m_load ?_) | (apply qm_faddr; refine m_faddr ?_) | (refine am_split rfl rfl (fun hb => ?_) (fun hb => ?_) <;> ((try have hq := dX hb); (try (exfalso; omega)))))
     repeat' (first | (apply at_call; refine k_ocall [(1000, 1000)] (rfail r0 5) hE ?_; rintro _ _ ⟨rfl, rfl⟩ <;> (intro _ _ h1 h2; simp only [renEqs, Nat.reduceBEq, renL_app, renL_ds, renL_und] at h1 h2; subst h1 h2)) | refine nx ?_ | (apply aq_block_y; decide) | (apply qr_move; refine r_move ?_) | (apply qr_assign; refine r_assign ?_) | (apply at_cond; first | refine c_t ?_ | refine c_f ?_ | (refine aw_cond rfl (fun hb => ?_) (fun hb => ?_) <;> ((try have hq := dX hb); (try (exfalso; omega))))) | (apply qr_eql; refine r_eql ?_) | (apply qr_ix; refine r_ix ?_) | (apply qr_load; refine r_load ?_) | (apply qr_faddr; refine r_faddr ?_))
     refine oret1 (rpe L (atN L l) 5 (nxt l).p) (by rfl) rv (.inr ⟨_, 5, _, _, hR, by decide, rfl, rfl⟩) sb okx
    ·have hnext : (others.take (i + 1)).any (fun w => decide (w = (nxt l).s)) = false := by
      rw [any_take _ hlt, ht, Bool.false_or]
      exact decide_eq_false he
     have q : decide (others[i] = (nxt l).s) = false := decide_eq_false he
     generalize hx : others[i] = x at q hg
     repeat' (first | refine nx ?_ | (apply aq_block_y; decide) | (apply qr_move; refine r_move ?_) | (apply at_cond; first | refine c_t ?_ | refine c_f ?_ | (refine aw_cond rfl (fun hb => ?_) (fun hb => ?_) <;> ((try have hq := dX hb); (try (exfalso; omega))))) | (apply qr_lss; refine r_lss ?_) | (apply qr_len; refine r_len ?_))
     refine aw_mixo ([(5, .box 52 ((tokC (nxt l)).map V.d))]) [(0, true), (1, true), (2, true), (3, true), (4, true), (5, true), (6, true)] [] (by kernel_rfl) (by kernel_rfl) (by kernel_rfl) (by decide) (by (repeat (first | exact obs_nil | (apply obs_cons; focus (first | rfl | (simp [find]; done)))))) ?_
     simp only [planned, tailed, List.filterMap_cons, List.filterMap_nil, List.getElem?_cons_zero, List.getElem?_cons_succ, Option.map_some]
     repeat' (first | apply am_nil | refine m_skip ?_ | refine n_skip ?_ | (apply at_am (.indexAddr _ _ _); refine am_y (by first | exact want_none | exact want_yes rfl rfl (by assumption) | exact want_yes rfl rfl (by with_reducible rfl)) (y_ix (by first | exact ToD.d _ | exact ToD.row _ _ _ _ _ rfl) rfl rfl (by first | with_reducible rfl | exact lit0 | exact lit1 | exact lit2 | exact lit3 | exact lit4 | exact int_s _ | exact int_p _ _ | exact int_nat _ (by omega)) hg) (lt_ok rfl) ?_) | (apply qm_move; refine m_move ?_) | (apply qm_eql; refine m_eql ?_) | (apply qm_ix; refine m_ix ?_) | (apply qm_load; refine m_load ?_) | (apply qm_faddr; refine m_faddr ?_) | (refine am_split rfl rfl (fun hb => ?_) (fun hb => ?_) <;> ((try have hq := dX hb); (try (exfalso; omega)))))
     repeat' (first | refine nx ?_ | (apply aq_block_y; decide) | (apply qr_move; refine r_move ?_) | (apply qr_assign; refine r_assign ?_) | (apply at_cond; first | refine c_t ?_ | refine c_f ?_ | (refine aw_cond rfl (fun hb => ?_) (fun hb => ?_) <;> ((try have hq := dX hb); (try (exfalso; omega))))) | (apply qr_eql; refine r_eql ?_) | (apply qr_add; refine r_add ?_) | (apply qr_ix; refine r_ix ?_) | (apply qr_load; refine r_load ?_) | (apply qr_faddr; refine r_faddr ?_))
     refine aq_rd (⟨i + 1, rfl, by omega, hnext, rfl, rfl⟩) (by omega)
   ·rw [List.take_of_length_le (show others.length ≤ i by omega)] at ht
    rw [ht, if_neg (by simp)] at hR
    have hN : nameP nameV l = .ok (nxt l).s (l.drop 1) := by simp [nameP, hv, hk]
    have hnm := rname r0 x0
    rw [hN] at hnm
    have q : decide ((i : Int) < others.length) = false := decide_eq_false (by omega)
    repeat' (first | (apply at_call; refine k_ocall [(1000, 1000)] (hnm) hE ?_; (rintro _ _ (⟨a, t, hx, rfl, rfl⟩ | ⟨p, e, k, a, hx, _⟩); case inr => cases hx); cases hx <;> (intro _ _ h1 h2; simp only [renEqs, Nat.reduceBEq, renL_app, renL_ds, renL_und] at h1 h2; subst h1 h2)) | refine nx ?_ | (apply aq_block_y; decide) | (apply qr_move; refine r_move ?_) | (apply qr_assign; refine r_assign ?_) | (apply at_cond; first | refine c_t ?_ | refine c_f ?_ | (refine aw_cond rfl (fun hb => ?_) (fun hb => ?_) <;> ((try have hq := dX hb); (try (exfalso; omega))))) | (apply qr_lss; refine r_lss ?_) | (apply qr_len; refine r_len ?_))
    refine oret1 (rps L (l.drop 1)) (by rfl) rv (.inl ⟨_, _, hR, rfl, rfl⟩) sb okx
 ·have q1 : (!decide ((nxt l).k = 0)) = true := by simp [hk]
  rw [if_neg (by simp [hk])] at hR
  refine ob_enter Tryz.func131 rfl (by decide) _ Tryz.ntmps131 (le_ok rfl) rfl (fun w Pr β κ hE => ?_)
  dsimp only [slotsV, Nat.zero_add, Nat.reduceAdd]
  repeat' (first | (apply at_call; refine k_ocall [(1000, 1000)] (rnext r0) hE ?_; rintro _ _ ⟨rfl, rfl⟩ <;> (intro _ _ h1 h2; simp only [renEqs, Nat.reduceBEq, renL_app, renL_ds, renL_und] at h1 h2; subst h1 h2)) | (apply at_call; refine k_ocall [(1000, 1000)] (rfail r0 12) hE ?_; rintro _ _ ⟨rfl, rfl⟩ <;> (intro _ _ h1 h2; simp only [renEqs, Nat.reduceBEq, renL_app, renL_ds, renL_und] at h1 h2; subst h1 h2)) | refine nx ?_ | (apply aq_block_y; decide) | (apply qr_move; refine r_move ?_) | (apply qr_assign; refine r_assign ?_) | (apply at_cond; first | refine c_t ?_ | refine c_f ?_ | (refine aw_cond rfl (fun hb => ?_) (fun hb => ?_) <;> ((try have hq := dX hb); (try (exfalso; omega))))) | (apply at_guard; first | refine g_go ?_ | refine g_nt ?_ | refine g_nf ?_ | refine g_nu ?_ | ((first | refine al_split_t rfl rfl (lt_ok rfl) (fun hb => ?_) (fun hb => ?_) | refine al_split_f rfl rfl (lt_ok rfl) (fun hb => ?_) (fun hb => ?_)) <;> ((try have hq := dX hb); (try (exfalso; omega))))) | (apply qr_pick; refine r_pick ?_) | (apply qr_neq; refine r_neq ?_) | (apply qr_not; refine r_not ?_) | (apply qr_load; refine r_load ?_) | (apply qr_faddr; refine r_faddr ?_) | (apply qr_alloc; refine r_alloc ?_) | (apply qr_store; refine r_store ?_))
  refine oret1 (rpe L (atN L l) 12 (nxt l).p) (by rfl) rv (.inr ⟨_, 12, _, _, hR, by decide, rfl, rfl⟩) sb okx
theorem rfresh_e (he : e ≠ 0) (others : List ByteArray) : ObC 131 [.box 1000 0, .d (strsD others)] (rpe L k e p) [] (ErrO strV L k e p) := by
 have hna := rname_any ⟨#[]⟩ (by decide)
 rw [show nameV ⟨#[]⟩ = false by decide] at hna
 have q1 : (!decide ((0 : Int) = 0)) = false := rfl
 refine ob_enter Tryz.func131 rfl (by decide) _ Tryz.ntmps131 (le_ok rfl) rfl (fun w Pr β κ hE => ?_)
 dsimp only [slotsV, Nat.zero_add, Nat.reduceAdd]
 repeat' (first | (apply at_call; refine k_ocall [(1000, 1000)] (rnext_e he) hE ?_; rintro _ _ ⟨rfl, rfl⟩ <;> (intro _ _ h1 h2; simp only [renEqs, Nat.reduceBEq, renL_app, renL_ds, renL_und] at h1 h2; subst h1 h2)) | (apply at_call; refine k_call (hna) hE ?_; rintro _ rfl) | (apply at_call; refine k_ocall [(1000, 1000)] (rfail_e he 12) hE ?_; rintro _ _ ⟨rfl, rfl⟩ <;> (intro _ _ h1 h2; simp only [renEqs, Nat.reduceBEq, renL_app, renL_ds, renL_und] at h1 h2; subst h1 h2)) | refine nx ?_ | (apply aq_block_y; decide) | (apply qr_move; refine r_move ?_) | (apply qr_assign; refine r_assign ?_) | (apply at_cond; first | refine c_t ?_ | refine c_f ?_ | (refine aw_cond rfl (fun hb => ?_) (fun hb => ?_) <;> ((try have hq := dX hb); (try (exfalso; omega))))) | (apply at_guard; first | refine g_go ?_ | refine g_nt ?_ | refine g_nf ?_ | refine g_nu ?_ | ((first | refine al_split_t rfl rfl (lt_ok rfl) (fun hb => ?_) (fun hb => ?_) | refine al_split_f rfl rfl (lt_ok rfl) (fun hb => ?_) (fun hb => ?_)) <;> ((try have hq := dX hb); (try (exfalso; omega))))) | (apply qr_pick; refine r_pick ?_) | (apply qr_neq; refine r_neq ?_) | (apply qr_not; refine r_not ?_) | (apply qr_load; refine r_load ?_) | (apply qr_faddr; refine r_faddr ?_) | (apply qr_alloc; refine r_alloc ?_) | (apply qr_store; refine r_store ?_))
 refine oret1 (rpe L k e p) (by rfl) rv (⟨⟨_, rfl⟩, rfl⟩) sb okx
def Sta {α : Type} (S : Rd α) (a : α) (L : List Tok) (k e p : Int) : Prop := (∃ t, S = .ok a t ∧ Rdy L t ∧ Texts t ∧ EndE t ∧ k = atN L t ∧ e = 0 ∧ p = 0) ∨ (S = .bad p e ∧ e ≠ 0)
def UnO {α : Type} (S : Rd α) (val : α → V) (L : List Tok) : V → Objs → Prop := fun x o => ∃ a k e p, x = val a ∧ o = rpe L k e p ∧ Sta S a L k e p
theorem un_of {α β : Type} {f : FuncId} {args : List V} {S : Rd α} {a : α} {P : List Tok → Rd β} {val : β → V} (h : Sta S a L k e p)
  (h1 : ∀ t, Rdy L t → Texts t → EndE t → ObC f args (rps L t) [] (RefO (P t) val L)) (hs : ∀ t b u, P t = .ok b u → Suf t u)
  (h2 : e ≠ 0 → ObC f args (rpe L k e p) [] (ErrO val L k e p)) : ObC f args (rpe L k e p) [] (UnO (S.then fun _ t => P t) val L) := by
 rcases h with ⟨t, rfl, r, x, ee, rfl, rfl, rfl⟩ | ⟨rfl, he⟩
 ·refine (h1 t r x ee).mono ?_
  rintro y o (⟨b, u, hb, rfl, rfl⟩ | ⟨p, e, k, b, hb, he, rfl, rfl⟩)
  ·exact ⟨b, _, _, _, rfl, rfl, .inl ⟨u, hb, r.to (hs _ _ _ hb), x.suf (hs _ _ _ hb), ee.suf (hs _ _ _ hb), rfl, rfl, rfl⟩⟩
  ·exact ⟨b, _, _, _, rfl, rfl, .inr ⟨hb, he⟩⟩
 ·refine (h2 he).mono ?_
  rintro y o ⟨⟨b, rfl⟩, rfl⟩
  exact ⟨b, _, _, _, rfl, rfl, .inr ⟨rfl, he⟩⟩
theorem sta_next {α β γ : Type} {T : Rd γ} {S : Rd α} {a : α} {P : List Tok → Rd β} {K : α → β → List Tok → Rd γ} (h : Sta S a L k e p) (hT : T = S.then fun a l => (P l).then (K a)) : T = (S.then fun _ l => P l).then (K a) := by
 rcases h with ⟨t, rfl, _⟩ | ⟨rfl, _⟩ <;> exact hT
variable {α : Type} {S : Rd α} {a : α}
theorem uwant (h : Sta S a L k e p) (w : ByteArray) (hw : ⟨#[]⟩ ≠ w) : ObC 85 [.box 1000 0, .d (.str w)] (rpe L k e p) [] (UnO (S.then fun _ l => want l w) unitV L) :=
 un_of (P := fun l => want l w) h (fun t r x ee => rwant r w) (fun t b u hb => suf_want hb) (fun he => (rwant_e he w hw).mono fun y o ⟨h1, h2⟩ => ⟨⟨(), h1⟩, h2⟩)
theorem uname (h : Sta S a L k e p) : ObC 86 [.box 1000 0] (rpe L k e p) [] (UnO (S.then fun _ l => nameP nameV l) strV L) :=
 un_of (P := fun l => nameP nameV l) h (fun t r x ee => rname r x) (fun t b u hb => suf_name hb) (fun he => rname_e he)
theorem unumber (h : Sta S a L k e p) (least most : Int) : ObC 132 [.box 1000 0, .d (.int least), .d (.int most)] (rpe L k e p) [] (UnO (S.then fun _ l => numP least most l) intV L) :=
 un_of (P := fun l => numP least most l) h (fun t r x ee => rnumber r least most) (fun t b u hb => numP_suf hb) (fun he => rnumber_e he least most)
theorem ufresh (h : Sta S a L k e p) (others : List ByteArray) (ho : others.length ≤ 1000) : ObC 131 [.box 1000 0, .d (strsD others)] (rpe L k e p) [] (UnO (S.then fun _ l => freshP others l) strV L) :=
 un_of (P := fun l => freshP others l) h (fun t r x ee => rfresh r x others ho) (fun t b u hb => freshP_suf hb) (fun he => rfresh_e he others)
theorem uwhole (h : Sta S a L k e p) : ObC 46 [.box 1000 0, .d (.str w_semi)] (rpe L k e p) [] (UnO (S.then fun _ l => wholeP w_semi l) expV' L) :=
 un_of (P := fun l => wholeP w_semi l) h (fun t r x ee => rwhole r x ee w_semi (by decide)) (fun t b u hb => wholeP_suf hb) (fun he => rwhole_e he w_semi)
theorem upart (h : Sta S a L k e p) (w : ByteArray) (hw : ⟨#[]⟩ ≠ w) (least most : Int) : ObC 88 [.box 1000 0, .d (.str w), .d (.int least), .d (.int most)] (rpe L k e p) [] (UnO (S.then fun _ l => partP w least most l) intV L) := by
 obtain ⟨R, hR⟩ : ∃ R, R = S.then fun _ l => partP w least most l := ⟨_, rfl⟩
 rw [← hR]
 unfold partP at hR
 replace hR := sta_next h hR
 have u1 := uwant h w hw
 refine ob_enter Tryz.func88 rfl (by decide) _ Tryz.ntmps88 (le_ok rfl) rfl (fun w Pr β κ hE => ?_)
 dsimp only [slotsV, Nat.zero_add, Nat.reduceAdd]
 repeat' (first | (apply at_call; refine k_ocall [(1000, 1000)] (u1) hE ?_; rintro _ _ ⟨a1, k1, e1, p1, rfl, rfl, s1⟩; replace hR := sta_next s1 hR; have u2 := unumber s1 least most <;> (intro _ _ h1 h2; simp only [renEqs, Nat.reduceBEq, renL_app, renL_ds, renL_und] at h1 h2; subst h1 h2)) | (apply at_call; refine k_ocall [(1000, 1000)] (u2) hE ?_; rintro _ _ ⟨a2, k2, e2, p2, rfl, rfl, s2⟩; replace hR := sta_next s2 hR; have u3 := uwant s2 w_semi (by decide) <;> (intro _ _ h1 h2; simp only [renEqs, Nat.reduceBEq, renL_app, renL_ds, renL_und] at h1 h2; subst h1 h2)) | (apply at_call; refine k_ocall [(1000, 1000)] (u3) hE ?_; rintro _ _ ⟨a3, k3, e3, p3, rfl, rfl, s3⟩ <;> (intro _ _ h1 h2; simp only [renEqs, Nat.reduceBEq, renL_app, renL_ds, renL_und] at h1 h2; subst h1 h2)) | refine nx ?_ | (apply qr_move; refine r_move ?_) | (apply qr_assign; refine r_assign ?_))
 refine oret1 (rpe L k3 e3 p3) (by rfl) rv (⟨a2, k3, e3, p3, rfl, rfl, by rw [hR]; rcases s3 with ⟨t, h1, h2⟩ | ⟨h1, h2⟩; exact .inl ⟨t, by rw [h1]; rfl, h2⟩; exact .inr ⟨by rw [h1]; rfl, h2⟩⟩) sb okx
end
end Go.Proofs.YtedoeogopmenpaaGreatDoor
end
