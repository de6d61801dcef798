/-
  Conditions: none.
-/
import Derived.Test.YtedoeogopmenpaaGreatDoorMaq
set_option maxHeartbeats 16000000
set_option maxRecDepth 20000
section
set_option linter.unusedSimpArgs false
set_option linter.unusedVariables false
namespace Go.Proofs.YtedoeogopmenpaaGreatDoor
open Go.RowKit
theorem bads_then {α β : Type} {R : Rd β} {x : Rd α} {f : α → List Tok → Rd β} (hR : R = x.then f) {v : Value} (hv : Bads x v) : Bads R v := by
 obtain ⟨p, e, rfl, h⟩ := hv
 exact ⟨p, e, by rw [hR]; rfl, h⟩
theorem suf_want {l t : List Tok} {w : ByteArray} {x : Unit} (h : want l w = .ok x t) : Suf l t := by
 obtain ⟨h1, rfl⟩ := want_ok h
 exact suf_is h1
theorem len_want {l t : List Tok} {w : ByteArray} {x : Unit} (h : want l w = .ok x t) : t.length + 1 = l.length := by
 obtain ⟨h1, rfl⟩ := want_ok h
 exact Ends.less (isT_k h1).1
abbrev exO (R : Rd Ex) (L : List Tok) : V → Objs → Prop := Out R (fun e => .d (.agg (exC e))) (psr L)
structure RecOk (rec : Nat → List Tok → Rd Ex) (m : Nat) : Prop where
 suf : ∀ f l e t, rec f l = .ok e t → Suf l t
 run : ∀ (L l : List Tok) (form : Nat), Rdy L l → Texts l → l.length ≤ m → ObP 42 [.box 1000 0, .d (.int form)] (psr L l) [] (exO (rec form l) L) (Bads (rec form l))
theorem two_val (op : Int) (a b : Ex) : exC (two op a b) = [.int op, .int 0, .int 0, .str ⟨#[]⟩, .list 5 [exC a, exC b]] := by
 show [D.int op, D.int 0, D.int 0, D.str ⟨#[]⟩, D.list 5 (Ex.rows [a, b])] = _
 rw [rows_map]
 rfl
abbrev tokBox (t : Tok) : O := .box 52 [.d (.int t.k), .d (.str t.s), .d (.int t.n), .d (.int t.p)]
section
variable {rec : Nat → List Tok → Rd Ex} {m : Nat} {L l : List Tok}
theorem pprim (hrec : RecOk rec m) (r0 : Rdy L l) (x0 : Texts l) (hm : l.length ≤ m + 1) : ObP 133 [.box 1000 0] (psr L l) [] (exO (primP nameV rec l) L) (Bads (primP nameV rec l)) := by
 have hle := r0.le
 obtain ⟨R, hR⟩ : ∃ R, R = primP nameV rec l := ⟨_, rfl⟩
 rw [← hR]
 unfold primP at hR
 by_cases hk : (nxt l).k = 1
 ·have q1 : decide ((nxt l).k = 1) = true := decide_eq_true hk
  rw [if_pos hk] at hR
  have r1 := r0.to (suf_drop (l := l) (by omega))
  refine obp_enter Tryz.func133 rfl (by decide) _ Tryz.ntmps133 (le_ok rfl) rfl (fun w Pr β κ hE => ?_)
  dsimp only [slotsV, Nat.zero_add, Nat.reduceAdd]
  repeat' (first | (apply at_call; refine k_ocall [(1000, 1000)] (pnext r0) hE ?_; rintro _ _ ⟨rfl, rfl⟩ <;> (intro _ _ h1 h2; simp only [renEqs, Nat.reduceBEq, renL_app, renL_ds, renL_und] at h1 h2; subst h1 h2)) | refine nx ?_ | apply aq_pq | (apply aq_block_y; decide) | (apply qr_move; refine r_move ?_) | (apply qr_assign; refine r_assign ?_) | (apply at_cond; first | refine c_t ?_ | refine c_f ?_ | (refine aw_cond rfl (fun hb => ?_) (fun hb => ?_) <;> ((try have hq := dX hb); (try (exfalso; omega))))) | (apply at_guard; first | refine g_go ?_ | refine g_nt ?_ | refine g_nf ?_ | refine g_nu ?_ | ((first | refine al_split_t rfl rfl (lt_ok rfl) (fun hb => ?_) (fun hb => ?_) | refine al_split_f rfl rfl (lt_ok rfl) (fun hb => ?_) (fun hb => ?_)) <;> ((try have hq := dX hb); (try (exfalso; omega))))) | (apply qr_pick; refine r_pick ?_) | (apply qr_eql; refine r_eql ?_) | (apply qr_add; refine r_add ?_) | (apply qr_load; refine r_load ?_) | (apply qr_faddr; refine r_faddr ?_) | (apply qr_nilck; refine r_nilck ?_) | (apply qr_alloc; refine r_alloc ?_) | (apply qr_store; refine r_store ?_) | (apply qr_build; refine r_build ?_) | (apply qr_lits; refine r_lits ?_))
  rw [r0.step]
  refine aw_mixo ([(3, tokBox (nxt l))]) [(0, true), (1, true), (2, true), (3, false), (4, true)] [5] (by kernel_rfl) (by kernel_rfl) (by kernel_rfl) (by decide) (by (repeat (first | exact obs_nil | (apply obs_cons; focus (first | rfl | (simp [find]; done)))))) ?_
  simp only [planned, tailed, List.filterMap_cons, List.filterMap_nil, List.getElem?_cons_zero, List.getElem?_cons_succ, Option.map_some]
  repeat' (first | apply am_nil | refine m_skip ?_ | refine n_skip ?_ | (apply at_mcall; refine m_ocall [(1000, 1000)] (punit r1) hE ?_; rintro _ _ ⟨rfl, rfl⟩ <;> (intro _ _ h1 h2; simp only [renEqs, Nat.reduceBEq, renL_app, renL_ds, renL_und] at h1 h2; subst h1 h2; (try dsimp only [flatV, flat, D.plain, D.plainL]))) | (apply qm_move; refine m_move ?_) | (apply qm_load; refine m_load ?_) | (apply qm_faddr; refine m_faddr ?_) | (apply qm_build; refine m_build ?_) | (refine am_split rfl rfl (fun hb => ?_) (fun hb => ?_) <;> ((try have hq := dX hb); (try (exfalso; omega)))))
  repeat' (first | refine nx ?_ | apply aq_pq | (apply aq_block_y; decide) | (apply qr_move; refine r_move ?_) | (apply qr_assign; refine r_assign ?_) | (apply at_cond; first | refine c_t ?_ | refine c_f ?_ | (refine aw_cond rfl (fun hb => ?_) (fun hb => ?_) <;> ((try have hq := dX hb); (try (exfalso; omega))))) | (apply at_guard; first | refine g_go ?_ | refine g_nt ?_ | refine g_nf ?_ | refine g_nu ?_ | ((first | refine al_split_t rfl rfl (lt_ok rfl) (fun hb => ?_) (fun hb => ?_) | refine al_split_f rfl rfl (lt_ok rfl) (fun hb => ?_) (fun hb => ?_)) <;> ((try have hq := dX hb); (try (exfalso; omega))))) | (apply qr_pick; refine r_pick ?_) | (apply qr_eql; refine r_eql ?_) | (apply qr_add; refine r_add ?_) | (apply qr_load; refine r_load ?_) | (apply qr_faddr; refine r_faddr ?_) | (apply qr_nilck; refine r_nilck ?_) | (apply qr_alloc; refine r_alloc ?_) | (apply qr_store; refine r_store ?_) | (apply qr_build; refine r_build ?_) | (apply qr_lits; refine r_lits ?_))
  refine aq_nilcell 2 4 5 rfl rfl rfl ?_
  refine aq_p ?_
  refine oret1 (psr L (unitP (l.drop 1)).2) (by rfl) rv (⟨_, _, hR, rfl, rfl⟩) sb okx
 have q1 : decide ((nxt l).k = 1) = false := decide_eq_false hk
 rw [if_neg hk] at hR
 cases t1 : isT l w_true
 rotate_left
 ·rw [t1, if_pos rfl] at hR
  refine obp_enter Tryz.func133 rfl (by decide) _ Tryz.ntmps133 (le_ok rfl) rfl (fun w Pr β κ hE => ?_)
  dsimp only [slotsV, Nat.zero_add, Nat.reduceAdd]
  repeat' (first | (apply at_call; refine k_ocall [(1000, 1000)] (pnext r0) hE ?_; rintro _ _ ⟨rfl, rfl⟩ <;> (intro _ _ h1 h2; simp only [renEqs, Nat.reduceBEq, renL_app, renL_ds, renL_und] at h1 h2; subst h1 h2)) | (apply at_call; refine k_ocall [(1000, 1000)] (phas_y r0 w_true t1) hE ?_; rintro _ _ ⟨rfl, rfl⟩ <;> (intro _ _ h1 h2; simp only [renEqs, Nat.reduceBEq, renL_app, renL_ds, renL_und] at h1 h2; subst h1 h2)) | refine nx ?_ | apply aq_pq | (apply aq_block_y; decide) | (apply qr_move; refine r_move ?_) | (apply qr_assign; refine r_assign ?_) | (apply at_cond; first | refine c_t ?_ | refine c_f ?_ | (refine aw_cond rfl (fun hb => ?_) (fun hb => ?_) <;> ((try have hq := dX hb); (try (exfalso; omega))))) | (apply at_guard; first | refine g_go ?_ | refine g_nt ?_ | refine g_nf ?_ | refine g_nu ?_ | ((first | refine al_split_t rfl rfl (lt_ok rfl) (fun hb => ?_) (fun hb => ?_) | refine al_split_f rfl rfl (lt_ok rfl) (fun hb => ?_) (fun hb => ?_)) <;> ((try have hq := dX hb); (try (exfalso; omega))))) | (apply qr_pick; refine r_pick ?_) | (apply qr_eql; refine r_eql ?_) | (apply qr_add; refine r_add ?_) | (apply qr_load; refine r_load ?_) | (apply qr_faddr; refine r_faddr ?_) | (apply qr_nilck; refine r_nilck ?_) | (apply qr_alloc; refine r_alloc ?_) | (apply qr_store; refine r_store ?_) | (apply qr_build; refine r_build ?_) | (apply qr_lits; refine r_lits ?_))
  refine aq_nilcell 2 4 5 rfl rfl rfl ?_
  refine aq_p ?_
  refine oret1 (psr L (l.drop 1)) (by rfl) rv (⟨_, _, hR, rfl, rfl⟩) sb okx
 rw [t1, if_neg (by simp)] at hR
 cases t2 : isT l w_false
 rotate_left
 ·rw [t2, if_pos rfl] at hR
  refine obp_enter Tryz.func133 rfl (by decide) _ Tryz.ntmps133 (le_ok rfl) rfl (fun w Pr β κ hE => ?_)
  dsimp only [slotsV, Nat.zero_add, Nat.reduceAdd]
  repeat' (first | (apply at_call; refine k_ocall [(1000, 1000)] (pnext r0) hE ?_; rintro _ _ ⟨rfl, rfl⟩ <;> (intro _ _ h1 h2; simp only [renEqs, Nat.reduceBEq, renL_app, renL_ds, renL_und] at h1 h2; subst h1 h2)) | (apply at_call; refine k_ocall [(1000, 1000)] (phas_n r0 w_true t1) hE ?_; rintro _ _ ⟨rfl, rfl⟩ <;> (intro _ _ h1 h2; simp only [renEqs, Nat.reduceBEq, renL_app, renL_ds, renL_und] at h1 h2; subst h1 h2)) | (apply at_call; refine k_ocall [(1000, 1000)] (phas_y r0 w_false t2) hE ?_; rintro _ _ ⟨rfl, rfl⟩ <;> (intro _ _ h1 h2; simp only [renEqs, Nat.reduceBEq, renL_app, renL_ds, renL_und] at h1 h2; subst h1 h2)) | refine nx ?_ | apply aq_pq | (apply aq_block_y; decide) | (apply qr_move; refine r_move ?_) | (apply qr_assign; refine r_assign ?_) | (apply at_cond; first | refine c_t ?_ | refine c_f ?_ | (refine aw_cond rfl (fun hb => ?_) (fun hb => ?_) <;> ((try have hq := dX hb); (try (exfalso; omega))))) | (apply at_guard; first | refine g_go ?_ | refine g_nt ?_ | refine g_nf ?_ | refine g_nu ?_ | ((first | refine al_split_t rfl rfl (lt_ok rfl) (fun hb => ?_) (fun hb => ?_) | refine al_split_f rfl rfl (lt_ok rfl) (fun hb => ?_) (fun hb => ?_)) <;> ((try have hq := dX hb); (try (exfalso; omega))))) | (apply qr_pick; refine r_pick ?_) | (apply qr_eql; refine r_eql ?_) | (apply qr_add; refine r_add ?_) | (apply qr_load; refine r_load ?_) | (apply qr_faddr; refine r_faddr ?_) | (apply qr_nilck; refine r_nilck ?_) | (apply qr_alloc; refine r_alloc ?_) | (apply qr_store; refine r_store ?_) | (apply qr_build; refine r_build ?_) | (apply qr_lits; refine r_lits ?_))
  refine aq_nilcell 2 4 5 rfl rfl rfl ?_
  refine aq_p ?_
  refine oret1 (psr L (l.drop 1)) (by rfl) rv (⟨_, _, hR, rfl, rfl⟩) sb okx
 rw [t2, if_neg (by simp)] at hR
 cases t3 : isT l w_trip
 rotate_left
 ·rw [t3, if_pos rfl] at hR
  have r1 := r0.to (suf_is t3)
  have x1 := x0.suf (suf_is t3)
  refine obp_enter Tryz.func133 rfl (by decide) _ Tryz.ntmps133 (le_ok rfl) rfl (fun w Pr β κ hE => ?_)
  dsimp only [slotsV, Nat.zero_add, Nat.reduceAdd]
  repeat' (first | (apply at_call; refine k_ocall [(1000, 1000)] (pnext r0) hE ?_; rintro _ _ ⟨rfl, rfl⟩ <;> (intro _ _ h1 h2; simp only [renEqs, Nat.reduceBEq, renL_app, renL_ds, renL_und] at h1 h2; subst h1 h2)) | (apply at_call; refine k_ocall [(1000, 1000)] (phas_n r0 w_true t1) hE ?_; rintro _ _ ⟨rfl, rfl⟩ <;> (intro _ _ h1 h2; simp only [renEqs, Nat.reduceBEq, renL_app, renL_ds, renL_und] at h1 h2; subst h1 h2)) | (apply at_call; refine k_ocall [(1000, 1000)] (phas_n r0 w_false t2) hE ?_; rintro _ _ ⟨rfl, rfl⟩ <;> (intro _ _ h1 h2; simp only [renEqs, Nat.reduceBEq, renL_app, renL_ds, renL_und] at h1 h2; subst h1 h2)) | (apply at_call; refine k_ocall [(1000, 1000)] (phas_y r0 w_trip t3) hE ?_; rintro _ _ ⟨rfl, rfl⟩ <;> (intro _ _ h1 h2; simp only [renEqs, Nat.reduceBEq, renL_app, renL_ds, renL_und] at h1 h2; subst h1 h2)) | (apply at_call; refine k_pcall [(1000, 1000)] (pname r1 x1) hE (fun v hv => by (repeat (first | with_reducible refine ap_block ?_ | with_reducible refine ap_then ?_)); exact ap_body (bads_then hR hv)) ?_; rintro _ _ ⟨s, u1, hx1, rfl, rfl⟩; rw [hx1, then_ok] at hR <;> (intro _ _ h1 h2; simp only [renEqs, Nat.reduceBEq, renL_app, renL_ds, renL_und] at h1 h2; subst h1 h2)) | refine nx ?_ | apply aq_pq | (apply aq_block_y; decide) | (apply qr_move; refine r_move ?_) | (apply qr_assign; refine r_assign ?_) | (apply at_cond; first | refine c_t ?_ | refine c_f ?_ | (refine aw_cond rfl (fun hb => ?_) (fun hb => ?_) <;> ((try have hq := dX hb); (try (exfalso; omega))))) | (apply at_guard; first | refine g_go ?_ | refine g_nt ?_ | refine g_nf ?_ | refine g_nu ?_ | ((first | refine al_split_t rfl rfl (lt_ok rfl) (fun hb => ?_) (fun hb => ?_) | refine al_split_f rfl rfl (lt_ok rfl) (fun hb => ?_) (fun hb => ?_)) <;> ((try have hq := dX hb); (try (exfalso; omega))))) | (apply qr_pick; refine r_pick ?_) | (apply qr_eql; refine r_eql ?_) | (apply qr_add; refine r_add ?_) | (apply qr_load; refine r_load ?_) | (apply qr_faddr; refine r_faddr ?_) | (apply qr_nilck; refine r_nilck ?_) | (apply qr_alloc; refine r_alloc ?_) | (apply qr_store; refine r_store ?_) | (apply qr_build; refine r_build ?_) | (apply qr_lits; refine r_lits ?_))
  refine aq_nilcell 2 4 5 rfl rfl rfl ?_
  refine aq_p ?_
  refine oret1 (psr L u1) (by rfl) rv (⟨_, _, hR, rfl, rfl⟩) sb okx
 rw [t3, if_neg (by simp)] at hR
 cases t4 : isT l w_member
 rotate_left
 ·rw [t4, if_pos rfl] at hR
  have r1 := r0.to (suf_is t4)
  have x1 := x0.suf (suf_is t4)
  refine obp_enter Tryz.func133 rfl (by decide) _ Tryz.ntmps133 (le_ok rfl) rfl (fun w Pr β κ hE => ?_)
  dsimp only [slotsV, Nat.zero_add, Nat.reduceAdd]
  repeat' (first | (apply at_call; refine k_ocall [(1000, 1000)] (pnext r0) hE ?_; rintro _ _ ⟨rfl, rfl⟩ <;> (intro _ _ h1 h2; simp only [renEqs, Nat.reduceBEq, renL_app, renL_ds, renL_und] at h1 h2; subst h1 h2)) | (apply at_call; refine k_ocall [(1000, 1000)] (phas_n r0 w_true t1) hE ?_; rintro _ _ ⟨rfl, rfl⟩ <;> (intro _ _ h1 h2; simp only [renEqs, Nat.reduceBEq, renL_app, renL_ds, renL_und] at h1 h2; subst h1 h2)) | (apply at_call; refine k_ocall [(1000, 1000)] (phas_n r0 w_false t2) hE ?_; rintro _ _ ⟨rfl, rfl⟩ <;> (intro _ _ h1 h2; simp only [renEqs, Nat.reduceBEq, renL_app, renL_ds, renL_und] at h1 h2; subst h1 h2)) | (apply at_call; refine k_ocall [(1000, 1000)] (phas_n r0 w_trip t3) hE ?_; rintro _ _ ⟨rfl, rfl⟩ <;> (intro _ _ h1 h2; simp only [renEqs, Nat.reduceBEq, renL_app, renL_ds, renL_und] at h1 h2; subst h1 h2)) | (apply at_call; refine k_ocall [(1000, 1000)] (phas_y r0 w_member t4) hE ?_; rintro _ _ ⟨rfl, rfl⟩ <;> (intro _ _ h1 h2; simp only [renEqs, Nat.reduceBEq, renL_app, renL_ds, renL_und] at h1 h2; subst h1 h2)) | (apply at_call; refine k_pcall [(1000, 1000)] (pname r1 x1) hE (fun v hv => by (repeat (first | with_reducible refine ap_block ?_ | with_reducible refine ap_then ?_)); exact ap_body (bads_then hR hv)) ?_; rintro _ _ ⟨s, u1, hx1, rfl, rfl⟩; rw [hx1, then_ok] at hR <;> (intro _ _ h1 h2; simp only [renEqs, Nat.reduceBEq, renL_app, renL_ds, renL_und] at h1 h2; subst h1 h2)) | refine nx ?_ | apply aq_pq | (apply aq_block_y; decide) | (apply qr_move; refine r_move ?_) | (apply qr_assign; refine r_assign ?_) | (apply at_cond; first | refine c_t ?_ | refine c_f ?_ | (refine aw_cond rfl (fun hb => ?_) (fun hb => ?_) <;> ((try have hq := dX hb); (try (exfalso; omega))))) | (apply at_guard; first | refine g_go ?_ | refine g_nt ?_ | refine g_nf ?_ | refine g_nu ?_ | ((first | refine al_split_t rfl rfl (lt_ok rfl) (fun hb => ?_) (fun hb => ?_) | refine al_split_f rfl rfl (lt_ok rfl) (fun hb => ?_) (fun hb => ?_)) <;> ((try have hq := dX hb); (try (exfalso; omega))))) | (apply qr_pick; refine r_pick ?_) | (apply qr_eql; refine r_eql ?_) | (apply qr_add; refine r_add ?_) | (apply qr_load; refine r_load ?_) | (apply qr_faddr; refine r_faddr ?_) | (apply qr_nilck; refine r_nilck ?_) | (apply qr_alloc; refine r_alloc ?_) | (apply qr_store; refine r_store ?_) | (apply qr_build; refine r_build ?_) | (apply qr_lits; refine r_lits ?_))
  refine aq_nilcell 2 4 5 rfl rfl rfl ?_
  refine aq_p ?_
  refine oret1 (psr L u1) (by rfl) rv (⟨_, _, hR, rfl, rfl⟩) sb okx
 rw [t4, if_neg (by simp)] at hR
 have hmin := pis r0 w_min
 have hmax := pis r0 w_max
 cases t5 : isT l w_min
 rotate_left
 ·rw [t5, if_pos rfl] at hR
  have t6 := isT_two t5 (show w_min ≠ w_max by decide)
  rw [t5] at hmin
  rw [t6] at hmax
  have hw1 := pwant (r0.to (suf_is t5)) w_lp
  have r1 := r0.to (suf_is t5)
  have x1 := x0.suf (suf_is t5)
  have z1 := Ends.less (isT_k t5).1
  unfold both at hR
  refine obp_enter Tryz.func133 rfl (by decide) _ Tryz.ntmps133 (le_ok rfl) rfl (fun w Pr β κ hE => ?_)
  dsimp only [slotsV, Nat.zero_add, Nat.reduceAdd]
  repeat' (first | (apply at_call; refine k_ocall [(1000, 1000)] (pnext r0) hE ?_; rintro _ _ ⟨rfl, rfl⟩ <;> (intro _ _ h1 h2; simp only [renEqs, Nat.reduceBEq, renL_app, renL_ds, renL_und] at h1 h2; subst h1 h2)) | (apply at_call; refine k_ocall [(1000, 1000)] (phas_n r0 w_true t1) hE ?_; rintro _ _ ⟨rfl, rfl⟩ <;> (intro _ _ h1 h2; simp only [renEqs, Nat.reduceBEq, renL_app, renL_ds, renL_und] at h1 h2; subst h1 h2)) | (apply at_call; refine k_ocall [(1000, 1000)] (phas_n r0 w_false t2) hE ?_; rintro _ _ ⟨rfl, rfl⟩ <;> (intro _ _ h1 h2; simp only [renEqs, Nat.reduceBEq, renL_app, renL_ds, renL_und] at h1 h2; subst h1 h2)) | (apply at_call; refine k_ocall [(1000, 1000)] (phas_n r0 w_trip t3) hE ?_; rintro _ _ ⟨rfl, rfl⟩ <;> (intro _ _ h1 h2; simp only [renEqs, Nat.reduceBEq, renL_app, renL_ds, renL_und] at h1 h2; subst h1 h2)) | (apply at_call; refine k_ocall [(1000, 1000)] (phas_n r0 w_member t4) hE ?_; rintro _ _ ⟨rfl, rfl⟩ <;> (intro _ _ h1 h2; simp only [renEqs, Nat.reduceBEq, renL_app, renL_ds, renL_und] at h1 h2; subst h1 h2)) | (apply at_call; refine k_ocall [(1000, 1000)] (hmin) hE ?_; rintro _ _ ⟨rfl, rfl⟩ <;> (intro _ _ h1 h2; simp only [renEqs, Nat.reduceBEq, renL_app, renL_ds, renL_und] at h1 h2; subst h1 h2)) | (apply at_call; refine k_ocall [(1000, 1000)] (hmax) hE ?_; rintro _ _ ⟨rfl, rfl⟩ <;> (intro _ _ h1 h2; simp only [renEqs, Nat.reduceBEq, renL_app, renL_ds, renL_und] at h1 h2; subst h1 h2)) | refine nx ?_ | apply aq_pq | (apply aq_block_y; decide) | (apply qr_move; refine r_move ?_) | (apply qr_assign; refine r_assign ?_) | (apply at_cond; first | refine c_t ?_ | refine c_f ?_ | (refine aw_cond rfl (fun hb => ?_) (fun hb => ?_) <;> ((try have hq := dX hb); (try (exfalso; omega))))) | (apply at_guard; first | refine g_go ?_ | refine g_nt ?_ | refine g_nf ?_ | refine g_nu ?_ | ((first | refine al_split_t rfl rfl (lt_ok rfl) (fun hb => ?_) (fun hb => ?_) | refine al_split_f rfl rfl (lt_ok rfl) (fun hb => ?_) (fun hb => ?_)) <;> ((try have hq := dX hb); (try (exfalso; omega))))) | (apply qr_pick; refine r_pick ?_) | (apply qr_eql; refine r_eql ?_) | (apply qr_add; refine r_add ?_) | (apply qr_load; refine r_load ?_) | (apply qr_faddr; refine r_faddr ?_) | (apply qr_nilck; refine r_nilck ?_) | (apply qr_alloc; refine r_alloc ?_) | (apply qr_store; refine r_store ?_) | (apply qr_build; refine r_build ?_) | (apply qr_lits; refine r_lits ?_))
  rw [r0.step]
  repeat' (first | (apply at_call; refine k_pcall [(1000, 1000)] (hw1) hE (fun v hv => by (repeat (first | with_reducible refine ap_block ?_ | with_reducible refine ap_then ?_)); exact ap_body (bads_then hR hv)) ?_; rintro _ _ ⟨_, u1, hx1, rfl, rfl⟩; rw [hx1, then_ok] at hR; have r2 := r1.to (suf_want hx1); have x2 := x1.suf (suf_want hx1); have z2 := len_want hx1; have hr1 := hrec.run L u1 0 r2 x2 (by omega) <;> (intro _ _ h1 h2; simp only [renEqs, Nat.reduceBEq, renL_app, renL_ds, renL_und] at h1 h2; subst h1 h2)) | (apply at_call; refine k_pcall [(1000, 1000)] (hr1) hE (fun v hv => by (repeat (first | with_reducible refine ap_block ?_ | with_reducible refine ap_then ?_)); exact ap_body (bads_then hR hv)) ?_; rintro _ _ ⟨a, u2, hx2, rfl, rfl⟩; rw [hx2, then_ok] at hR; have r3 := r2.to (hrec.suf _ _ _ _ hx2); have x3 := x2.suf (hrec.suf _ _ _ _ hx2); have z3 := suf_less (hrec.suf _ _ _ _ hx2); have hw2 := pwant r3 w_comma <;> (intro _ _ h1 h2; simp only [renEqs, Nat.reduceBEq, renL_app, renL_ds, renL_und] at h1 h2; subst h1 h2)) | (apply at_call; refine k_pcall [(1000, 1000)] (hw2) hE (fun v hv => by (repeat (first | with_reducible refine ap_block ?_ | with_reducible refine ap_then ?_)); exact ap_body (bads_then hR hv)) ?_; rintro _ _ ⟨_, u3, hx3, rfl, rfl⟩; rw [hx3, then_ok] at hR; have r4 := r3.to (suf_want hx3); have x4 := x3.suf (suf_want hx3); have z4 := len_want hx3; have hr2 := hrec.run L u3 0 r4 x4 (by omega) <;> (intro _ _ h1 h2; simp only [renEqs, Nat.reduceBEq, renL_app, renL_ds, renL_und] at h1 h2; subst h1 h2)) | (apply at_call; refine k_pcall [(1000, 1000)] (hr2) hE (fun v hv => by (repeat (first | with_reducible refine ap_block ?_ | with_reducible refine ap_then ?_)); exact ap_body (bads_then hR hv)) ?_; rintro _ _ ⟨b, u4, hx4, rfl, rfl⟩; rw [hx4, then_ok] at hR; have r5 := r4.to (hrec.suf _ _ _ _ hx4); have x5 := x4.suf (hrec.suf _ _ _ _ hx4); have hw3 := pwant r5 w_rp <;> (intro _ _ h1 h2; simp only [renEqs, Nat.reduceBEq, renL_app, renL_ds, renL_und] at h1 h2; subst h1 h2)) | (apply at_call; refine k_pcall [(1000, 1000)] (hw3) hE (fun v hv => by (repeat (first | with_reducible refine ap_block ?_ | with_reducible refine ap_then ?_)); exact ap_body (bads_then hR hv)) ?_; rintro _ _ ⟨_, u5, hx5, rfl, rfl⟩; rw [hx5, then_ok] at hR <;> (intro _ _ h1 h2; simp only [renEqs, Nat.reduceBEq, renL_app, renL_ds, renL_und] at h1 h2; subst h1 h2)) | refine nx ?_ | apply aq_pq | (apply aq_block_y; decide) | (apply qr_move; refine r_move ?_) | (apply qr_assign; refine r_assign ?_) | (apply at_cond; first | refine c_t ?_ | refine c_f ?_ | (refine aw_cond rfl (fun hb => ?_) (fun hb => ?_) <;> ((try have hq := dX hb); (try (exfalso; omega))))) | (apply at_guard; first | refine g_go ?_ | refine g_nt ?_ | refine g_nf ?_ | refine g_nu ?_ | ((first | refine al_split_t rfl rfl (lt_ok rfl) (fun hb => ?_) (fun hb => ?_) | refine al_split_f rfl rfl (lt_ok rfl) (fun hb => ?_) (fun hb => ?_)) <;> ((try have hq := dX hb); (try (exfalso; omega))))) | (apply qr_pick; refine r_pick ?_) | (apply qr_eql; refine r_eql ?_) | (apply qr_add; refine r_add ?_) | (apply qr_load; refine r_load ?_) | (apply qr_faddr; refine r_faddr ?_) | (apply qr_nilck; refine r_nilck ?_) | (apply qr_alloc; refine r_alloc ?_) | (apply qr_store; refine r_store ?_) | (apply qr_build; refine r_build ?_) | (apply qr_lits; refine r_lits ?_))
  refine aq_p ?_
  refine oret1 (psr L u5) (by rfl) rv (⟨_, _, hR, congrArg (fun q => V.d (.agg q)) (two_val _ a b).symm, rfl⟩) sb okx
 rw [t5, if_neg (by simp)] at hR
 rw [t5] at hmin
 cases t6 : isT l w_max
 rotate_left
 ·rw [t6, if_pos rfl] at hR
  rw [t6] at hmax
  have hw1 := pwant (r0.to (suf_is t6)) w_lp
  have r1 := r0.to (suf_is t6)
  have x1 := x0.suf (suf_is t6)
  have z1 := Ends.less (isT_k t6).1
  unfold both at hR
  refine obp_enter Tryz.func133 rfl (by decide) _ Tryz.ntmps133 (le_ok rfl) rfl (fun w Pr β κ hE => ?_)
  dsimp only [slotsV, Nat.zero_add, Nat.reduceAdd]
  repeat' (first | (apply at_call; refine k_ocall [(1000, 1000)] (pnext r0) hE ?_; rintro _ _ ⟨rfl, rfl⟩ <;> (intro _ _ h1 h2; simp only [renEqs, Nat.reduceBEq, renL_app, renL_ds, renL_und] at h1 h2; subst h1 h2)) | (apply at_call; refine k_ocall [(1000, 1000)] (phas_n r0 w_true t1) hE ?_; rintro _ _ ⟨rfl, rfl⟩ <;> (intro _ _ h1 h2; simp only [renEqs, Nat.reduceBEq, renL_app, renL_ds, renL_und] at h1 h2; subst h1 h2)) | (apply at_call; refine k_ocall [(1000, 1000)] (phas_n r0 w_false t2) hE ?_; rintro _ _ ⟨rfl, rfl⟩ <;> (intro _ _ h1 h2; simp only [renEqs, Nat.reduceBEq, renL_app, renL_ds, renL_und] at h1 h2; subst h1 h2)) | (apply at_call; refine k_ocall [(1000, 1000)] (phas_n r0 w_trip t3) hE ?_; rintro _ _ ⟨rfl, rfl⟩ <;> (intro _ _ h1 h2; simp only [renEqs, Nat.reduceBEq, renL_app, renL_ds, renL_und] at h1 h2; subst h1 h2)) | (apply at_call; refine k_ocall [(1000, 1000)] (phas_n r0 w_member t4) hE ?_; rintro _ _ ⟨rfl, rfl⟩ <;> (intro _ _ h1 h2; simp only [renEqs, Nat.reduceBEq, renL_app, renL_ds, renL_und] at h1 h2; subst h1 h2)) | (apply at_call; refine k_ocall [(1000, 1000)] (hmin) hE ?_; rintro _ _ ⟨rfl, rfl⟩ <;> (intro _ _ h1 h2; simp only [renEqs, Nat.reduceBEq, renL_app, renL_ds, renL_und] at h1 h2; subst h1 h2)) | (apply at_call; refine k_ocall [(1000, 1000)] (hmax) hE ?_; rintro _ _ ⟨rfl, rfl⟩ <;> (intro _ _ h1 h2; simp only [renEqs, Nat.reduceBEq, renL_app, renL_ds, renL_und] at h1 h2; subst h1 h2)) | refine nx ?_ | apply aq_pq | (apply aq_block_y; decide) | (apply qr_move; refine r_move ?_) | (apply qr_assign; refine r_assign ?_) | (apply at_cond; first | refine c_t ?_ | refine c_f ?_ | (refine aw_cond rfl (fun hb => ?_) (fun hb => ?_) <;> ((try have hq := dX hb); (try (exfalso; omega))))) | (apply at_guard; first | refine g_go ?_ | refine g_nt ?_ | refine g_nf ?_ | refine g_nu ?_ | ((first | refine al_split_t rfl rfl (lt_ok rfl) (fun hb => ?_) (fun hb => ?_) | refine al_split_f rfl rfl (lt_ok rfl) (fun hb => ?_) (fun hb => ?_)) <;> ((try have hq := dX hb); (try (exfalso; omega))))) | (apply qr_pick; refine r_pick ?_) | (apply qr_eql; refine r_eql ?_) | (apply qr_add; refine r_add ?_) | (apply qr_load; refine r_load ?_) | (apply qr_faddr; refine r_faddr ?_) | (apply qr_nilck; refine r_nilck ?_) | (apply qr_alloc; refine r_alloc ?_) | (apply qr_store; refine r_store ?_) | (apply qr_build; refine r_build ?_) | (apply qr_lits; refine r_lits ?_))
  rw [r0.step]
  repeat' (first | (apply at_call; refine k_pcall [(1000, 1000)] (hw1) hE (fun v hv => by (repeat (first | with_reducible refine ap_block ?_ | with_reducible refine ap_then ?_)); exact ap_body (bads_then hR hv)) ?_; rintro _ _ ⟨_, u1, hx1, rfl, rfl⟩; rw [hx1, then_ok] at hR; have r2 := r1.to (suf_want hx1); have x2 := x1.suf (suf_want hx1); have z2 := len_want hx1; have hr1 := hrec.run L u1 0 r2 x2 (by omega) <;> (intro _ _ h1 h2; simp only [renEqs, Nat.reduceBEq, renL_app, renL_ds, renL_und] at h1 h2; subst h1 h2)) | (apply at_call; refine k_pcall [(1000, 1000)] (hr1) hE (fun v hv => by (repeat (first | with_reducible refine ap_block ?_ | with_reducible refine ap_then ?_)); exact ap_body (bads_then hR hv)) ?_; rintro _ _ ⟨a, u2, hx2, rfl, rfl⟩; rw [hx2, then_ok] at hR; have r3 := r2.to (hrec.suf _ _ _ _ hx2); have x3 := x2.suf (hrec.suf _ _ _ _ hx2); have z3 := suf_less (hrec.suf _ _ _ _ hx2); have hw2 := pwant r3 w_comma <;> (intro _ _ h1 h2; simp only [renEqs, Nat.reduceBEq, renL_app, renL_ds, renL_und] at h1 h2; subst h1 h2)) | (apply at_call; refine k_pcall [(1000, 1000)] (hw2) hE (fun v hv => by (repeat (first | with_reducible refine ap_block ?_ | with_reducible refine ap_then ?_)); exact ap_body (bads_then hR hv)) ?_; rintro _ _ ⟨_, u3, hx3, rfl, rfl⟩; rw [hx3, then_ok] at hR; have r4 := r3.to (suf_want hx3); have x4 := x3.suf (suf_want hx3); have z4 := len_want hx3; have hr2 := hrec.run L u3 0 r4 x4 (by omega) <;> (intro _ _ h1 h2; simp only [renEqs, Nat.reduceBEq, renL_app, renL_ds, renL_und] at h1 h2; subst h1 h2)) | (apply at_call; refine k_pcall [(1000, 1000)] (hr2) hE (fun v hv => by (repeat (first | with_reducible refine ap_block ?_ | with_reducible refine ap_then ?_)); exact ap_body (bads_then hR hv)) ?_; rintro _ _ ⟨b, u4, hx4, rfl, rfl⟩; rw [hx4, then_ok] at hR; have r5 := r4.to (hrec.suf _ _ _ _ hx4); have x5 := x4.suf (hrec.suf _ _ _ _ hx4); have hw3 := pwant r5 w_rp <;> (intro _ _ h1 h2; simp only [renEqs, Nat.reduceBEq, renL_app, renL_ds, renL_und] at h1 h2; subst h1 h2)) | (apply at_call; refine k_pcall [(1000, 1000)] (hw3) hE (fun v hv => by (repeat (first | with_reducible refine ap_block ?_ | with_reducible refine ap_then ?_)); exact ap_body (bads_then hR hv)) ?_; rintro _ _ ⟨_, u5, hx5, rfl, rfl⟩; rw [hx5, then_ok] at hR <;> (intro _ _ h1 h2; simp only [renEqs, Nat.reduceBEq, renL_app, renL_ds, renL_und] at h1 h2; subst h1 h2)) | refine nx ?_ | apply aq_pq | (apply aq_block_y; decide) | (apply qr_move; refine r_move ?_) | (apply qr_assign; refine r_assign ?_) | (apply at_cond; first | refine c_t ?_ | refine c_f ?_ | (refine aw_cond rfl (fun hb => ?_) (fun hb => ?_) <;> ((try have hq := dX hb); (try (exfalso; omega))))) | (apply at_guard; first | refine g_go ?_ | refine g_nt ?_ | refine g_nf ?_ | refine g_nu ?_ | ((first | refine al_split_t rfl rfl (lt_ok rfl) (fun hb => ?_) (fun hb => ?_) | refine al_split_f rfl rfl (lt_ok rfl) (fun hb => ?_) (fun hb => ?_)) <;> ((try have hq := dX hb); (try (exfalso; omega))))) | (apply qr_pick; refine r_pick ?_) | (apply qr_eql; refine r_eql ?_) | (apply qr_add; refine r_add ?_) | (apply qr_load; refine r_load ?_) | (apply qr_faddr; refine r_faddr ?_) | (apply qr_nilck; refine r_nilck ?_) | (apply qr_alloc; refine r_alloc ?_) | (apply qr_store; refine r_store ?_) | (apply qr_build; refine r_build ?_) | (apply qr_lits; refine r_lits ?_))
  refine aq_p ?_
  refine oret1 (psr L u5) (by rfl) rv (⟨_, _, hR, congrArg (fun q => V.d (.agg q)) (two_val _ a b).symm, rfl⟩) sb okx
 rw [t6, if_neg (by simp)] at hR
 rw [t6] at hmax
 cases t7 : isT l w_lp
 rotate_left
 ·rw [t7, if_pos rfl] at hR
  have r1 := r0.to (suf_is t7)
  have x1 := x0.suf (suf_is t7)
  have z1 := Ends.less (isT_k t7).1
  have hr1 := hrec.run L _ 0 r1 x1 (by omega)
  refine obp_enter Tryz.func133 rfl (by decide) _ Tryz.ntmps133 (le_ok rfl) rfl (fun w Pr β κ hE => ?_)
  dsimp only [slotsV, Nat.zero_add, Nat.reduceAdd]
  repeat' (first | (apply at_call; refine k_ocall [(1000, 1000)] (pnext r0) hE ?_; rintro _ _ ⟨rfl, rfl⟩ <;> (intro _ _ h1 h2; simp only [renEqs, Nat.reduceBEq, renL_app, renL_ds, renL_und] at h1 h2; subst h1 h2)) | (apply at_call; refine k_ocall [(1000, 1000)] (phas_n r0 w_true t1) hE ?_; rintro _ _ ⟨rfl, rfl⟩ <;> (intro _ _ h1 h2; simp only [renEqs, Nat.reduceBEq, renL_app, renL_ds, renL_und] at h1 h2; subst h1 h2)) | (apply at_call; refine k_ocall [(1000, 1000)] (phas_n r0 w_false t2) hE ?_; rintro _ _ ⟨rfl, rfl⟩ <;> (intro _ _ h1 h2; simp only [renEqs, Nat.reduceBEq, renL_app, renL_ds, renL_und] at h1 h2; subst h1 h2)) | (apply at_call; refine k_ocall [(1000, 1000)] (phas_n r0 w_trip t3) hE ?_; rintro _ _ ⟨rfl, rfl⟩ <;> (intro _ _ h1 h2; simp only [renEqs, Nat.reduceBEq, renL_app, renL_ds, renL_und] at h1 h2; subst h1 h2)) | (apply at_call; refine k_ocall [(1000, 1000)] (phas_n r0 w_member t4) hE ?_; rintro _ _ ⟨rfl, rfl⟩ <;> (intro _ _ h1 h2; simp only [renEqs, Nat.reduceBEq, renL_app, renL_ds, renL_und] at h1 h2; subst h1 h2)) | (apply at_call; refine k_ocall [(1000, 1000)] (hmin) hE ?_; rintro _ _ ⟨rfl, rfl⟩ <;> (intro _ _ h1 h2; simp only [renEqs, Nat.reduceBEq, renL_app, renL_ds, renL_und] at h1 h2; subst h1 h2)) | (apply at_call; refine k_ocall [(1000, 1000)] (hmax) hE ?_; rintro _ _ ⟨rfl, rfl⟩ <;> (intro _ _ h1 h2; simp only [renEqs, Nat.reduceBEq, renL_app, renL_ds, renL_und] at h1 h2; subst h1 h2)) | (apply at_call; refine k_ocall [(1000, 1000)] (phas_y r0 w_lp t7) hE ?_; rintro _ _ ⟨rfl, rfl⟩ <;> (intro _ _ h1 h2; simp only [renEqs, Nat.reduceBEq, renL_app, renL_ds, renL_und] at h1 h2; subst h1 h2)) | (apply at_call; refine k_pcall [(1000, 1000)] (hr1) hE (fun v hv => by (repeat (first | with_reducible refine ap_block ?_ | with_reducible refine ap_then ?_)); exact ap_body (bads_then hR hv)) ?_; rintro _ _ ⟨a, u2, hx2, rfl, rfl⟩; rw [hx2, then_ok] at hR; have r3 := r1.to (hrec.suf _ _ _ _ hx2); have hw2 := pwant r3 w_rp <;> (intro _ _ h1 h2; simp only [renEqs, Nat.reduceBEq, renL_app, renL_ds, renL_und] at h1 h2; subst h1 h2)) | (apply at_call; refine k_pcall [(1000, 1000)] (hw2) hE (fun v hv => by (repeat (first | with_reducible refine ap_block ?_ | with_reducible refine ap_then ?_)); exact ap_body (bads_then hR hv)) ?_; rintro _ _ ⟨_, u3, hx3, rfl, rfl⟩; rw [hx3, then_ok] at hR <;> (intro _ _ h1 h2; simp only [renEqs, Nat.reduceBEq, renL_app, renL_ds, renL_und] at h1 h2; subst h1 h2)) | refine nx ?_ | apply aq_pq | (apply aq_block_y; decide) | (apply qr_move; refine r_move ?_) | (apply qr_assign; refine r_assign ?_) | (apply at_cond; first | refine c_t ?_ | refine c_f ?_ | (refine aw_cond rfl (fun hb => ?_) (fun hb => ?_) <;> ((try have hq := dX hb); (try (exfalso; omega))))) | (apply at_guard; first | refine g_go ?_ | refine g_nt ?_ | refine g_nf ?_ | refine g_nu ?_ | ((first | refine al_split_t rfl rfl (lt_ok rfl) (fun hb => ?_) (fun hb => ?_) | refine al_split_f rfl rfl (lt_ok rfl) (fun hb => ?_) (fun hb => ?_)) <;> ((try have hq := dX hb); (try (exfalso; omega))))) | (apply qr_pick; refine r_pick ?_) | (apply qr_eql; refine r_eql ?_) | (apply qr_add; refine r_add ?_) | (apply qr_load; refine r_load ?_) | (apply qr_faddr; refine r_faddr ?_) | (apply qr_nilck; refine r_nilck ?_) | (apply qr_alloc; refine r_alloc ?_) | (apply qr_store; refine r_store ?_) | (apply qr_build; refine r_build ?_) | (apply qr_lits; refine r_lits ?_))
  refine aq_p ?_
  refine oret1 (psr L u3) (by rfl) rv (⟨_, _, hR, rfl, rfl⟩) sb okx
 rw [t7, if_neg (by simp)] at hR
 refine obp_enter Tryz.func133 rfl (by decide) _ Tryz.ntmps133 (le_ok rfl) rfl (fun w Pr β κ hE => ?_)
 dsimp only [slotsV, Nat.zero_add, Nat.reduceAdd]
 repeat' (first | (apply at_call; refine k_ocall [(1000, 1000)] (pnext r0) hE ?_; rintro _ _ ⟨rfl, rfl⟩ <;> (intro _ _ h1 h2; simp only [renEqs, Nat.reduceBEq, renL_app, renL_ds, renL_und] at h1 h2; subst h1 h2)) | (apply at_call; refine k_ocall [(1000, 1000)] (phas_n r0 w_true t1) hE ?_; rintro _ _ ⟨rfl, rfl⟩ <;> (intro _ _ h1 h2; simp only [renEqs, Nat.reduceBEq, renL_app, renL_ds, renL_und] at h1 h2; subst h1 h2)) | (apply at_call; refine k_ocall [(1000, 1000)] (phas_n r0 w_false t2) hE ?_; rintro _ _ ⟨rfl, rfl⟩ <;> (intro _ _ h1 h2; simp only [renEqs, Nat.reduceBEq, renL_app, renL_ds, renL_und] at h1 h2; subst h1 h2)) | (apply at_call; refine k_ocall [(1000, 1000)] (phas_n r0 w_trip t3) hE ?_; rintro _ _ ⟨rfl, rfl⟩ <;> (intro _ _ h1 h2; simp only [renEqs, Nat.reduceBEq, renL_app, renL_ds, renL_und] at h1 h2; subst h1 h2)) | (apply at_call; refine k_ocall [(1000, 1000)] (phas_n r0 w_member t4) hE ?_; rintro _ _ ⟨rfl, rfl⟩ <;> (intro _ _ h1 h2; simp only [renEqs, Nat.reduceBEq, renL_app, renL_ds, renL_und] at h1 h2; subst h1 h2)) | (apply at_call; refine k_ocall [(1000, 1000)] (hmin) hE ?_; rintro _ _ ⟨rfl, rfl⟩ <;> (intro _ _ h1 h2; simp only [renEqs, Nat.reduceBEq, renL_app, renL_ds, renL_und] at h1 h2; subst h1 h2)) | (apply at_call; refine k_ocall [(1000, 1000)] (hmax) hE ?_; rintro _ _ ⟨rfl, rfl⟩ <;> (intro _ _ h1 h2; simp only [renEqs, Nat.reduceBEq, renL_app, renL_ds, renL_und] at h1 h2; subst h1 h2)) | (apply at_call; refine k_ocall [(1000, 1000)] (phas_n r0 w_lp t7) hE ?_; rintro _ _ ⟨rfl, rfl⟩ <;> (intro _ _ h1 h2; simp only [renEqs, Nat.reduceBEq, renL_app, renL_ds, renL_und] at h1 h2; subst h1 h2)) | (apply at_call; refine k_pcall [(1000, 1000)] (pname r0 x0) hE (fun v hv => by (repeat (first | with_reducible refine ap_block ?_ | with_reducible refine ap_then ?_)); exact ap_body (bads_then hR hv)) ?_; rintro _ _ ⟨s, u1, hx1, rfl, rfl⟩; rw [hx1, then_ok] at hR <;> (intro _ _ h1 h2; simp only [renEqs, Nat.reduceBEq, renL_app, renL_ds, renL_und] at h1 h2; subst h1 h2)) | refine nx ?_ | apply aq_pq | (apply aq_block_y; decide) | (apply qr_move; refine r_move ?_) | (apply qr_assign; refine r_assign ?_) | (apply at_cond; first | refine c_t ?_ | refine c_f ?_ | (refine aw_cond rfl (fun hb => ?_) (fun hb => ?_) <;> ((try have hq := dX hb); (try (exfalso; omega))))) | (apply at_guard; first | refine g_go ?_ | refine g_nt ?_ | refine g_nf ?_ | refine g_nu ?_ | ((first | refine al_split_t rfl rfl (lt_ok rfl) (fun hb => ?_) (fun hb => ?_) | refine al_split_f rfl rfl (lt_ok rfl) (fun hb => ?_) (fun hb => ?_)) <;> ((try have hq := dX hb); (try (exfalso; omega))))) | (apply qr_pick; refine r_pick ?_) | (apply qr_eql; refine r_eql ?_) | (apply qr_add; refine r_add ?_) | (apply qr_load; refine r_load ?_) | (apply qr_faddr; refine r_faddr ?_) | (apply qr_nilck; refine r_nilck ?_) | (apply qr_alloc; refine r_alloc ?_) | (apply qr_store; refine r_store ?_) | (apply qr_build; refine r_build ?_) | (apply qr_lits; refine r_lits ?_))
 refine aq_nilcell 2 4 5 rfl rfl rfl ?_
 refine aq_p ?_
 refine oret1 (psr L u1) (by rfl) rv (⟨_, _, hR, rfl, rfl⟩) sb okx
end
end Go.Proofs.YtedoeogopmenpaaGreatDoor
end
section
set_option linter.unusedSimpArgs false
set_option linter.unusedVariables false
namespace Go.Proofs.YtedoeogopmenpaaGreatDoor
open Go.RowKit
theorem if_val (a b c : Ex) : exC (.mk 15 0 0 ⟨#[]⟩ [a, b, c]) = [.int 15, .int 0, .int 0, .str ⟨#[]⟩, .list 5 [exC a, exC b, exC c]] := by
 show [D.int 15, D.int 0, D.int 0, D.str ⟨#[]⟩, D.list 5 (Ex.rows [a, b, c])] = _
 rw [rows_map]
 rfl
theorem not_val (a : Ex) : exC (.mk 12 0 0 ⟨#[]⟩ [a]) = [.int 12, .int 0, .int 0, .str ⟨#[]⟩, .list 5 [exC a]] := by
 show [D.int 12, D.int 0, D.int 0, D.str ⟨#[]⟩, D.list 5 (Ex.rows [a])] = _
 rw [rows_map]
 rfl
abbrev exB (e : Ex) : O := .box 26 [.d (.int e.op), .d (.int e.num), .d (.int e.unit), .d (.str e.str), .d (.list 5 (Ex.rows e.args))]
abbrev pfO (R : Rd (Ex × Nat)) (L : List Tok) : V → Objs → Prop := Out R (fun q => .tup [.d (.agg (exC q.1)), .d (.int q.2)]) (psr L)
section
variable {rec : Nat → List Tok → Rd Ex} {m : Nat} {L l : List Tok}
theorem pprefix (hrec : RecOk rec m) (r0 : Rdy L l) (x0 : Texts l) (hm : l.length ≤ m + 1) (form : Nat) : ObP 91 [.box 1000 0, .d (.int form)] (psr L l) [] (pfO (prfx (primP nameV) ifP notP rec form l) L) (Bads (prfx (primP nameV) ifP notP rec form l)) := by
 have hle := r0.le
 obtain ⟨R, hR⟩ : ∃ R, R = prfx (primP nameV) ifP notP rec form l := ⟨_, rfl⟩
 rw [← hR]
 unfold prfx at hR
 by_cases h0 : form = 0 ∧ isT l w_if = true
 ·obtain ⟨rfl, hT⟩ := h0
  rw [if_pos rfl] at hR
  simp only [ifP, hT, if_true] at hR
  simp only [then_then] at hR
  have r1 := r0.to (suf_is hT)
  have x1 := x0.suf (suf_is hT)
  have z1 := Ends.less (isT_k hT).1
  have hr1 := hrec.run L _ 0 r1 x1 (by omega)
  have q1 : decide (((0 : Nat) : Int) = 0) = true := rfl
  refine obp_enter Tryz.func91 rfl (by decide) _ Tryz.ntmps91 (le_ok rfl) rfl (fun w Pr β κ hE => ?_)
  dsimp only [slotsV, Nat.zero_add, Nat.reduceAdd]
  repeat' (first | (apply at_call; refine k_ocall [(1000, 1000)] (phas_y r0 w_if hT) hE ?_; rintro _ _ ⟨rfl, rfl⟩ <;> (intro _ _ h1 h2; simp only [renEqs, Nat.reduceBEq, renL_app, renL_ds, renL_und] at h1 h2; subst h1 h2)) | (apply at_call; refine k_pcall [(1000, 1000)] (hr1) hE (fun v hv => by (repeat (first | with_reducible refine ap_block ?_ | with_reducible refine ap_then ?_)); exact ap_body (bads_then hR hv)) ?_; rintro _ _ ⟨a, u2, hx2, rfl, rfl⟩; rw [hx2, then_ok] at hR; have r2 := r1.to (hrec.suf _ _ _ _ hx2); have x2 := x1.suf (hrec.suf _ _ _ _ hx2); have z2 := suf_less (hrec.suf _ _ _ _ hx2); have hw1 := pwant r2 w_then <;> (intro _ _ h1 h2; simp only [renEqs, Nat.reduceBEq, renL_app, renL_ds, renL_und] at h1 h2; subst h1 h2)) | (apply at_call; refine k_pcall [(1000, 1000)] (hw1) hE (fun v hv => by (repeat (first | with_reducible refine ap_block ?_ | with_reducible refine ap_then ?_)); exact ap_body (bads_then hR hv)) ?_; rintro _ _ ⟨_, u3, hx3, rfl, rfl⟩; rw [hx3, then_ok] at hR; have r3 := r2.to (suf_want hx3); have x3 := x2.suf (suf_want hx3); have z3 := len_want hx3; have hr2 := hrec.run L u3 0 r3 x3 (by omega) <;> (intro _ _ h1 h2; simp only [renEqs, Nat.reduceBEq, renL_app, renL_ds, renL_und] at h1 h2; subst h1 h2)) | (apply at_call; refine k_pcall [(1000, 1000)] (hr2) hE (fun v hv => by (repeat (first | with_reducible refine ap_block ?_ | with_reducible refine ap_then ?_)); exact ap_body (bads_then hR hv)) ?_; rintro _ _ ⟨b, u4, hx4, rfl, rfl⟩; rw [hx4, then_ok] at hR; have r4 := r3.to (hrec.suf _ _ _ _ hx4); have x4 := x3.suf (hrec.suf _ _ _ _ hx4); have z4 := suf_less (hrec.suf _ _ _ _ hx4); have hw2 := pwant r4 w_else <;> (intro _ _ h1 h2; simp only [renEqs, Nat.reduceBEq, renL_app, renL_ds, renL_und] at h1 h2; subst h1 h2)) | (apply at_call; refine k_pcall [(1000, 1000)] (hw2) hE (fun v hv => by (repeat (first | with_reducible refine ap_block ?_ | with_reducible refine ap_then ?_)); exact ap_body (bads_then hR hv)) ?_; rintro _ _ ⟨_, u5, hx5, rfl, rfl⟩; rw [hx5, then_ok] at hR; have r5 := r4.to (suf_want hx5); have x5 := x4.suf (suf_want hx5); have z5 := len_want hx5; have hr3 := hrec.run L u5 0 r5 x5 (by omega) <;> (intro _ _ h1 h2; simp only [renEqs, Nat.reduceBEq, renL_app, renL_ds, renL_und] at h1 h2; subst h1 h2)) | refine nx ?_ | apply aq_pq | (apply qr_move; refine r_move ?_) | (apply qr_assign; refine r_assign ?_) | (apply at_cond; first | refine c_t ?_ | refine c_f ?_ | (refine aw_cond rfl (fun hb => ?_) (fun hb => ?_) <;> ((try have hq := dX hb); (try (exfalso; omega))))) | (apply at_guard; first | refine g_go ?_ | refine g_nt ?_ | refine g_nf ?_ | refine g_nu ?_ | ((first | refine al_split_t rfl rfl (lt_ok rfl) (fun hb => ?_) (fun hb => ?_) | refine al_split_f rfl rfl (lt_ok rfl) (fun hb => ?_) (fun hb => ?_)) <;> ((try have hq := dX hb); (try (exfalso; omega))))) | (apply qr_pick; refine r_pick ?_) | (apply qr_leq; refine r_leq ?_) | (apply qr_eql; refine r_eql ?_) | (apply qr_load; refine r_load ?_) | (apply qr_alloc; refine r_alloc ?_) | (apply qr_store; refine r_store ?_) | (apply qr_build; refine r_build ?_) | (apply qr_lits; refine r_lits ?_))
  refine aw_mixp (Bads _) ([(6, exB a), (7, exB b)]) [(0, true), (1, true), (2, true), (3, false), (4, false), (5, false)] [6, 7] (by kernel_rfl) (by kernel_rfl) (by kernel_rfl) (by decide) (by (repeat (first | exact obs_nil | (apply obs_cons; focus (first | rfl | (simp [find]; done)))))) (fun v hv => by (repeat (first | with_reducible refine ap_block ?_ | with_reducible refine ap_then ?_)); exact ap_body hv) ?_
  simp only [planned, tailed, List.filterMap_cons, List.filterMap_nil, List.getElem?_cons_zero, List.getElem?_cons_succ, Option.map_some]
  repeat' (first | apply am_nil | refine m_skip ?_ | refine n_skip ?_ | (apply at_am (.build _ _); refine am_nowd (by first | exact want_none | exact want_yes rfl rfl (by assumption) | exact want_yes rfl rfl (by with_reducible rfl)) (y_build rfl (by repeat (first | exact PartsD.nil | (apply PartsD.cons; first | exact ToD.d _ | exact ToD.row _ _ _ _ _ rfl))) (by first | (simp only [dfill, normV, normList, normMap]; rfl) | (simp [dfill, putD, cellsD, zerosD, Value.cells]; rfl))) (lt_ok rfl) ?_) | (apply at_mcall; refine m_pcall [(1000, 1000)] (hr3) hE (fun v hv => ap_panq (bads_then hR hv)) ?_; rintro _ _ ⟨c, u6, hx6, rfl, rfl⟩; rw [hx6, then_ok, then_ok] at hR <;> (intro _ _ h1 h2; simp only [renEqs, Nat.reduceBEq, renL_app, renL_ds, renL_und] at h1 h2; subst h1 h2; (try dsimp only [flatV, flat, D.plain, D.plainL]))) | (apply qm_move; refine m_move ?_) | (apply qm_load; refine m_load ?_) | (apply qn_build; refine n_build ?_) | (apply at_am (.buildSlice _ _ _); first | refine am_lit1 (by first | exact want_none | exact want_yes rfl rfl (by assumption) | exact want_yes rfl rfl (by with_reducible rfl)) rfl (by first | exact ToD.d _ | exact ToD.row _ _ _ _ _ rfl) (by first | (simp only [normV, normList, normMap]; rfl) | rfl) rfl (le_ok rfl) (lt_ok rfl) ?_ | refine am_lit (by first | exact want_none | exact want_yes rfl rfl (by assumption) | exact want_yes rfl rfl (by with_reducible rfl)) rfl (by repeat (first | exact PartsD.nil | (apply PartsD.cons; first | exact ToD.d _ | exact ToD.row _ _ _ _ _ rfl))) (by simp [dfill, putD, cellsD, zerosD, Value.cells]; rfl) (by first | (simp only [normV, normList, normMap]; rfl) | rfl) (by decide) (by decide) (lt_ok rfl) ?_) | (refine am_split rfl rfl (fun hb => ?_) (fun hb => ?_) <;> ((try have hq := dX hb); (try (exfalso; omega)))))
  repeat' (first | refine nx ?_ | apply aq_pq | (apply qr_move; refine r_move ?_) | (apply qr_assign; refine r_assign ?_) | (apply at_cond; first | refine c_t ?_ | refine c_f ?_ | (refine aw_cond rfl (fun hb => ?_) (fun hb => ?_) <;> ((try have hq := dX hb); (try (exfalso; omega))))) | (apply at_guard; first | refine g_go ?_ | refine g_nt ?_ | refine g_nf ?_ | refine g_nu ?_ | ((first | refine al_split_t rfl rfl (lt_ok rfl) (fun hb => ?_) (fun hb => ?_) | refine al_split_f rfl rfl (lt_ok rfl) (fun hb => ?_) (fun hb => ?_)) <;> ((try have hq := dX hb); (try (exfalso; omega))))) | (apply qr_pick; refine r_pick ?_) | (apply qr_leq; refine r_leq ?_) | (apply qr_eql; refine r_eql ?_) | (apply qr_load; refine r_load ?_) | (apply qr_alloc; refine r_alloc ?_) | (apply qr_store; refine r_store ?_) | (apply qr_build; refine r_build ?_) | (apply qr_lits; refine r_lits ?_))
  refine aq_p ?_
  refine oret2 (psr L u6) (by rfl) rv rv (⟨_, _, hR, congrArg (fun q => V.tup [V.d (.agg q), .d (.int 0)]) (if_val a b c).symm, rfl⟩) sb okx
 have hif : (if form = 0 then ifP rec l else none) = none := by
  split
  ·rename_i hf
   have : ¬ isT l w_if = true := fun hc => h0 ⟨hf, hc⟩
   simp [ifP, this]
  ·rfl
 rw [hif] at hR
 simp only at hR
 by_cases h3 : form ≤ 3 ∧ isT l w_not = true
 ·obtain ⟨h3, hT⟩ := h3
  rw [if_pos h3] at hR
  simp only [notP, hT, if_true] at hR
  simp only [then_then] at hR
  have r1 := r0.to (suf_is hT)
  have x1 := x0.suf (suf_is hT)
  have z1 := Ends.less (isT_k hT).1
  have hr1 := hrec.run L _ 3 r1 x1 (by omega)
  have q2 : decide ((form : Int) ≤ 3) = true := decide_eq_true (by omega)
  by_cases hf : form = 0
  ·have q1 : decide ((form : Int) = 0) = true := decide_eq_true (by omega)
   have hTi : isT l w_if = false := isT_two hT (by decide)
   refine obp_enter Tryz.func91 rfl (by decide) _ Tryz.ntmps91 (le_ok rfl) rfl (fun w Pr β κ hE => ?_)
   dsimp only [slotsV, Nat.zero_add, Nat.reduceAdd]
   repeat' (first | (apply at_call; refine k_ocall [(1000, 1000)] (phas_n r0 w_if hTi) hE ?_; rintro _ _ ⟨rfl, rfl⟩ <;> (intro _ _ h1 h2; simp only [renEqs, Nat.reduceBEq, renL_app, renL_ds, renL_und] at h1 h2; subst h1 h2)) | (apply at_call; refine k_ocall [(1000, 1000)] (phas_y r0 w_not hT) hE ?_; rintro _ _ ⟨rfl, rfl⟩ <;> (intro _ _ h1 h2; simp only [renEqs, Nat.reduceBEq, renL_app, renL_ds, renL_und] at h1 h2; subst h1 h2)) | (apply at_call; refine k_pcall [(1000, 1000)] (hr1) hE (fun v hv => by (repeat (first | with_reducible refine ap_block ?_ | with_reducible refine ap_then ?_)); exact ap_body (bads_then hR hv)) ?_; rintro _ _ ⟨a, u2, hx2, rfl, rfl⟩; rw [hx2, then_ok, then_ok] at hR <;> (intro _ _ h1 h2; simp only [renEqs, Nat.reduceBEq, renL_app, renL_ds, renL_und] at h1 h2; subst h1 h2)) | refine nx ?_ | apply aq_pq | (apply qr_move; refine r_move ?_) | (apply qr_assign; refine r_assign ?_) | (apply at_cond; first | refine c_t ?_ | refine c_f ?_ | (refine aw_cond rfl (fun hb => ?_) (fun hb => ?_) <;> ((try have hq := dX hb); (try (exfalso; omega))))) | (apply at_guard; first | refine g_go ?_ | refine g_nt ?_ | refine g_nf ?_ | refine g_nu ?_ | ((first | refine al_split_t rfl rfl (lt_ok rfl) (fun hb => ?_) (fun hb => ?_) | refine al_split_f rfl rfl (lt_ok rfl) (fun hb => ?_) (fun hb => ?_)) <;> ((try have hq := dX hb); (try (exfalso; omega))))) | (apply qr_pick; refine r_pick ?_) | (apply qr_leq; refine r_leq ?_) | (apply qr_eql; refine r_eql ?_) | (apply qr_load; refine r_load ?_) | (apply qr_alloc; refine r_alloc ?_) | (apply qr_store; refine r_store ?_) | (apply qr_build; refine r_build ?_) | (apply qr_lits; refine r_lits ?_))
   refine aq_p ?_
   refine oret2 (psr L u2) (by rfl) rv rv (⟨_, _, hR, congrArg (fun q => V.tup [V.d (.agg q), .d (.int 3)]) (not_val a).symm, rfl⟩) sb okx
  ·have q1 : decide ((form : Int) = 0) = false := decide_eq_false (by omega)
   refine obp_enter Tryz.func91 rfl (by decide) _ Tryz.ntmps91 (le_ok rfl) rfl (fun w Pr β κ hE => ?_)
   dsimp only [slotsV, Nat.zero_add, Nat.reduceAdd]
   repeat' (first | (apply at_call; refine k_ocall [(1000, 1000)] (phas_y r0 w_not hT) hE ?_; rintro _ _ ⟨rfl, rfl⟩ <;> (intro _ _ h1 h2; simp only [renEqs, Nat.reduceBEq, renL_app, renL_ds, renL_und] at h1 h2; subst h1 h2)) | (apply at_call; refine k_pcall [(1000, 1000)] (hr1) hE (fun v hv => by (repeat (first | with_reducible refine ap_block ?_ | with_reducible refine ap_then ?_)); exact ap_body (bads_then hR hv)) ?_; rintro _ _ ⟨a, u2, hx2, rfl, rfl⟩; rw [hx2, then_ok, then_ok] at hR <;> (intro _ _ h1 h2; simp only [renEqs, Nat.reduceBEq, renL_app, renL_ds, renL_und] at h1 h2; subst h1 h2)) | refine nx ?_ | apply aq_pq | (apply qr_move; refine r_move ?_) | (apply qr_assign; refine r_assign ?_) | (apply at_cond; first | refine c_t ?_ | refine c_f ?_ | (refine aw_cond rfl (fun hb => ?_) (fun hb => ?_) <;> ((try have hq := dX hb); (try (exfalso; omega))))) | (apply at_guard; first | refine g_go ?_ | refine g_nt ?_ | refine g_nf ?_ | refine g_nu ?_ | ((first | refine al_split_t rfl rfl (lt_ok rfl) (fun hb => ?_) (fun hb => ?_) | refine al_split_f rfl rfl (lt_ok rfl) (fun hb => ?_) (fun hb => ?_)) <;> ((try have hq := dX hb); (try (exfalso; omega))))) | (apply qr_pick; refine r_pick ?_) | (apply qr_leq; refine r_leq ?_) | (apply qr_eql; refine r_eql ?_) | (apply qr_load; refine r_load ?_) | (apply qr_alloc; refine r_alloc ?_) | (apply qr_store; refine r_store ?_) | (apply qr_build; refine r_build ?_) | (apply qr_lits; refine r_lits ?_))
   refine aq_p ?_
   refine oret2 (psr L u2) (by rfl) rv rv (⟨_, _, hR, congrArg (fun q => V.tup [V.d (.agg q), .d (.int 3)]) (not_val a).symm, rfl⟩) sb okx
 have hnot : (if form ≤ 3 then notP rec l else none) = none := by
  split
  ·rename_i hf
   have : ¬ isT l w_not = true := fun hc => h3 ⟨hf, hc⟩
   simp [notP, this]
  ·rfl
 rw [hnot] at hR
 simp only at hR
 have hp := pprim hrec r0 x0 hm
 by_cases hf : form = 0
 ·have q1 : decide ((form : Int) = 0) = true := decide_eq_true (by omega)
  have q2 : decide ((form : Int) ≤ 3) = true := decide_eq_true (by omega)
  have hTi : isT l w_if = false := by
   cases hc : isT l w_if
   ·rfl
   ·exact absurd ⟨hf, hc⟩ h0
  have hTn : isT l w_not = false := by
   cases hc : isT l w_not
   ·rfl
   ·exact absurd ⟨by omega, hc⟩ h3
  refine obp_enter Tryz.func91 rfl (by decide) _ Tryz.ntmps91 (le_ok rfl) rfl (fun w Pr β κ hE => ?_)
  dsimp only [slotsV, Nat.zero_add, Nat.reduceAdd]
  repeat' (first | (apply at_call; refine k_ocall [(1000, 1000)] (phas_n r0 w_if hTi) hE ?_; rintro _ _ ⟨rfl, rfl⟩ <;> (intro _ _ h1 h2; simp only [renEqs, Nat.reduceBEq, renL_app, renL_ds, renL_und] at h1 h2; subst h1 h2)) | (apply at_call; refine k_ocall [(1000, 1000)] (phas_n r0 w_not hTn) hE ?_; rintro _ _ ⟨rfl, rfl⟩ <;> (intro _ _ h1 h2; simp only [renEqs, Nat.reduceBEq, renL_app, renL_ds, renL_und] at h1 h2; subst h1 h2)) | (apply at_call; refine k_pcall [(1000, 1000)] (hp) hE (fun v hv => by (repeat (first | with_reducible refine ap_block ?_ | with_reducible refine ap_then ?_)); exact ap_body (bads_then hR hv)) ?_; rintro _ _ ⟨a, u2, hx2, rfl, rfl⟩; rw [hx2, then_ok] at hR <;> (intro _ _ h1 h2; simp only [renEqs, Nat.reduceBEq, renL_app, renL_ds, renL_und] at h1 h2; subst h1 h2)) | refine nx ?_ | apply aq_pq | (apply qr_move; refine r_move ?_) | (apply qr_assign; refine r_assign ?_) | (apply at_cond; first | refine c_t ?_ | refine c_f ?_ | (refine aw_cond rfl (fun hb => ?_) (fun hb => ?_) <;> ((try have hq := dX hb); (try (exfalso; omega))))) | (apply at_guard; first | refine g_go ?_ | refine g_nt ?_ | refine g_nf ?_ | refine g_nu ?_ | ((first | refine al_split_t rfl rfl (lt_ok rfl) (fun hb => ?_) (fun hb => ?_) | refine al_split_f rfl rfl (lt_ok rfl) (fun hb => ?_) (fun hb => ?_)) <;> ((try have hq := dX hb); (try (exfalso; omega))))) | (apply qr_pick; refine r_pick ?_) | (apply qr_leq; refine r_leq ?_) | (apply qr_eql; refine r_eql ?_) | (apply qr_load; refine r_load ?_) | (apply qr_alloc; refine r_alloc ?_) | (apply qr_store; refine r_store ?_) | (apply qr_build; refine r_build ?_) | (apply qr_lits; refine r_lits ?_))
  refine aq_p ?_
  refine oret2 (psr L u2) (by rfl) rv rv (⟨_, _, hR, rfl, rfl⟩) sb okx
 have q1 : decide ((form : Int) = 0) = false := decide_eq_false (by omega)
 by_cases hf3 : form ≤ 3
 ·have q2 : decide ((form : Int) ≤ 3) = true := decide_eq_true (by omega)
  have hTn : isT l w_not = false := by
   cases hc : isT l w_not
   ·rfl
   ·exact absurd ⟨hf3, hc⟩ h3
  refine obp_enter Tryz.func91 rfl (by decide) _ Tryz.ntmps91 (le_ok rfl) rfl (fun w Pr β κ hE => ?_)
  dsimp only [slotsV, Nat.zero_add, Nat.reduceAdd]
  repeat' (first | (apply at_call; refine k_ocall [(1000, 1000)] (phas_n r0 w_not hTn) hE ?_; rintro _ _ ⟨rfl, rfl⟩ <;> (intro _ _ h1 h2; simp only [renEqs, Nat.reduceBEq, renL_app, renL_ds, renL_und] at h1 h2; subst h1 h2)) | (apply at_call; refine k_pcall [(1000, 1000)] (hp) hE (fun v hv => by (repeat (first | with_reducible refine ap_block ?_ | with_reducible refine ap_then ?_)); exact ap_body (bads_then hR hv)) ?_; rintro _ _ ⟨a, u2, hx2, rfl, rfl⟩; rw [hx2, then_ok] at hR <;> (intro _ _ h1 h2; simp only [renEqs, Nat.reduceBEq, renL_app, renL_ds, renL_und] at h1 h2; subst h1 h2)) | refine nx ?_ | apply aq_pq | (apply qr_move; refine r_move ?_) | (apply qr_assign; refine r_assign ?_) | (apply at_cond; first | refine c_t ?_ | refine c_f ?_ | (refine aw_cond rfl (fun hb => ?_) (fun hb => ?_) <;> ((try have hq := dX hb); (try (exfalso; omega))))) | (apply at_guard; first | refine g_go ?_ | refine g_nt ?_ | refine g_nf ?_ | refine g_nu ?_ | ((first | refine al_split_t rfl rfl (lt_ok rfl) (fun hb => ?_) (fun hb => ?_) | refine al_split_f rfl rfl (lt_ok rfl) (fun hb => ?_) (fun hb => ?_)) <;> ((try have hq := dX hb); (try (exfalso; omega))))) | (apply qr_pick; refine r_pick ?_) | (apply qr_leq; refine r_leq ?_) | (apply qr_eql; refine r_eql ?_) | (apply qr_load; refine r_load ?_) | (apply qr_alloc; refine r_alloc ?_) | (apply qr_store; refine r_store ?_) | (apply qr_build; refine r_build ?_) | (apply qr_lits; refine r_lits ?_))
  refine aq_p ?_
  refine oret2 (psr L u2) (by rfl) rv rv (⟨_, _, hR, rfl, rfl⟩) sb okx
 ·have q2 : decide ((form : Int) ≤ 3) = false := decide_eq_false (by omega)
  refine obp_enter Tryz.func91 rfl (by decide) _ Tryz.ntmps91 (le_ok rfl) rfl (fun w Pr β κ hE => ?_)
  dsimp only [slotsV, Nat.zero_add, Nat.reduceAdd]
  repeat' (first | (apply at_call; refine k_pcall [(1000, 1000)] (hp) hE (fun v hv => by (repeat (first | with_reducible refine ap_block ?_ | with_reducible refine ap_then ?_)); exact ap_body (bads_then hR hv)) ?_; rintro _ _ ⟨a, u2, hx2, rfl, rfl⟩; rw [hx2, then_ok] at hR <;> (intro _ _ h1 h2; simp only [renEqs, Nat.reduceBEq, renL_app, renL_ds, renL_und] at h1 h2; subst h1 h2)) | refine nx ?_ | apply aq_pq | (apply qr_move; refine r_move ?_) | (apply qr_assign; refine r_assign ?_) | (apply at_cond; first | refine c_t ?_ | refine c_f ?_ | (refine aw_cond rfl (fun hb => ?_) (fun hb => ?_) <;> ((try have hq := dX hb); (try (exfalso; omega))))) | (apply at_guard; first | refine g_go ?_ | refine g_nt ?_ | refine g_nf ?_ | refine g_nu ?_ | ((first | refine al_split_t rfl rfl (lt_ok rfl) (fun hb => ?_) (fun hb => ?_) | refine al_split_f rfl rfl (lt_ok rfl) (fun hb => ?_) (fun hb => ?_)) <;> ((try have hq := dX hb); (try (exfalso; omega))))) | (apply qr_pick; refine r_pick ?_) | (apply qr_leq; refine r_leq ?_) | (apply qr_eql; refine r_eql ?_) | (apply qr_load; refine r_load ?_) | (apply qr_alloc; refine r_alloc ?_) | (apply qr_store; refine r_store ?_) | (apply qr_build; refine r_build ?_) | (apply qr_lits; refine r_lits ?_))
  refine aq_p ?_
  refine oret2 (psr L u2) (by rfl) rv rv (⟨_, _, hR, rfl, rfl⟩) sb okx
end
end Go.Proofs.YtedoeogopmenpaaGreatDoor
end
