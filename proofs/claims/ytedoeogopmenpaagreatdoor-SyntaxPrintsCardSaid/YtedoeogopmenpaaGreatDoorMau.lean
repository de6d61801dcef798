/-
  Conditions: none.
-/
import Derived.Test.YtedoeogopmenpaaGreatDoorMat
set_option maxHeartbeats 16000000
set_option maxRecDepth 20000
section
set_option linter.unusedSimpArgs false
set_option linter.unusedVariables false
namespace Go.Proofs.YtedoeogopmenpaaGreatDoor
open Go.RowKit
theorem rright_args {d : Nat} (hd : d ≤ 1000000) (ih : RRightC d) (e : Ex) (he : e.tame) (h0 : ¬ (e.op = 0 ∨ e.op = 1 ∨ e.op = 2 ∨ e.op = 3)) : PureC 69 [.agg (exC e), .int ((d + 1 : Nat) : Int)] (· = .bool (e.right (d + 1))) := by
 have hz := tame_str he
 have hln := tame_len he
 have hlen := rows_len e.args
 obtain ⟨R, hR⟩ : ∃ R, R = e.right (d + 1) := ⟨_, rfl⟩
 rw [← hR]
 rw [right_eq, if_neg (by omega), if_neg (by omega)] at hR
 have p1 : decide (((d + 1 : Nat) : Int) < 1) = false := decide_eq_false (by omega)
 by_cases h2 : e.op < 0
 ·have hov : operandsV e.op = -1 := by
   unfold operandsV
   rw [if_neg (by omega), if_neg (by omega), if_neg (by omega), if_pos (by omega)]
  rw [hov, decide_eq_false (by omega), Bool.false_and] at hR
  rw [hR]
  have p2 : decide (e.op < 0) = true := decide_eq_true h2
  refine pure_enter Tryz.func69 rfl (by decide) _ Tryz.ntmps69 (le_ok rfl) (fun w Pr hE => ?_)
  dsimp only [slotsOf, Nat.zero_add, Nat.reduceAdd]
  repeat' (first | refine nx ?_ | (apply aq_block_y; decide) | (apply qr_move; refine r_move ?_) | (apply qr_assign; refine r_assign ?_) | (apply at_cond; first | refine c_t ?_ | refine c_f ?_ | (refine aw_cond rfl (fun hb => ?_) (fun hb => ?_) <;> ((try have hq := dX hb); (try (exfalso; omega))))) | (apply at_guard; first | refine g_go ?_ | refine g_nt ?_ | refine g_nf ?_ | refine g_nu ?_ | ((first | refine al_split_t rfl rfl (lt_ok rfl) (fun hb => ?_) (fun hb => ?_) | refine al_split_f rfl rfl (lt_ok rfl) (fun hb => ?_) (fun hb => ?_)) <;> ((try have hq := dX hb); (try (exfalso; omega))))) | (apply qr_pick; refine r_pick ?_) | (apply qr_lss; refine r_lss ?_) | (apply qr_geq; refine r_geq ?_) | (apply qr_load; refine r_load ?_) | (apply qr_faddr; refine r_faddr ?_) | (apply qr_boxed; refine r_boxed ?_))
  refine rt1 ?_
  rfl
 have p2 : decide (e.op < 0) = false := decide_eq_false h2
 by_cases h3 : 16 ≤ e.op
 ·have hov : operandsV e.op = -1 := by
   unfold operandsV
   rw [if_neg (by omega), if_neg (by omega), if_neg (by omega), if_pos (by omega)]
  rw [hov, decide_eq_false (by omega), Bool.false_and] at hR
  rw [hR]
  have p3 : decide (16 ≤ e.op) = true := decide_eq_true h3
  refine pure_enter Tryz.func69 rfl (by decide) _ Tryz.ntmps69 (le_ok rfl) (fun w Pr hE => ?_)
  dsimp only [slotsOf, Nat.zero_add, Nat.reduceAdd]
  repeat' (first | refine nx ?_ | (apply aq_block_y; decide) | (apply qr_move; refine r_move ?_) | (apply qr_assign; refine r_assign ?_) | (apply at_cond; first | refine c_t ?_ | refine c_f ?_ | (refine aw_cond rfl (fun hb => ?_) (fun hb => ?_) <;> ((try have hq := dX hb); (try (exfalso; omega))))) | (apply at_guard; first | refine g_go ?_ | refine g_nt ?_ | refine g_nf ?_ | refine g_nu ?_ | ((first | refine al_split_t rfl rfl (lt_ok rfl) (fun hb => ?_) (fun hb => ?_) | refine al_split_f rfl rfl (lt_ok rfl) (fun hb => ?_) (fun hb => ?_)) <;> ((try have hq := dX hb); (try (exfalso; omega))))) | (apply qr_pick; refine r_pick ?_) | (apply qr_lss; refine r_lss ?_) | (apply qr_geq; refine r_geq ?_) | (apply qr_load; refine r_load ?_) | (apply qr_faddr; refine r_faddr ?_) | (apply qr_boxed; refine r_boxed ?_))
  refine rt1 ?_
  rfl
 have p3 : decide (16 ≤ e.op) = false := decide_eq_false h3
 have p4 : decide (e.op = 0) = false := decide_eq_false (by omega)
 have r1 : decide (e.op = 1) = false := decide_eq_false (by omega)
 have r2 : decide (e.op = 2) = false := decide_eq_false (by omega)
 have r3 : decide (e.op = 3) = false := decide_eq_false (by omega)
 have p7 : (!decide (e.op = 0)) = true := by rw [p4]; rfl
 rw [← hlen] at hR
 generalize hm : ((Ex.rows e.args).length : Int) = m at hR
 by_cases h12 : e.op = 12
 ·have p5 : decide (e.op = 12) = true := decide_eq_true h12
  have p6 : decide (e.op = 15) = false := decide_eq_false (by omega)
  have hov : operandsV e.op = 1 := by simp [operandsV, h12]
  rw [hov] at hR
  cases hl : decide (m = 1)
  ·rw [hl, Bool.false_and] at hR
   rw [hR]
   have p8 : (!decide (((Ex.rows e.args).length : Int) = 1)) = true := by rw [hm, hl]; rfl
   refine pure_enter Tryz.func69 rfl (by decide) _ Tryz.ntmps69 (le_ok rfl) (fun w Pr hE => ?_)
   dsimp only [slotsOf, Nat.zero_add, Nat.reduceAdd]
   repeat' (first | refine nx ?_ | (apply aq_block_y; decide) | (apply qr_move; refine r_move ?_) | (apply qr_assign; refine r_assign ?_) | (apply at_cond; first | refine c_t ?_ | refine c_f ?_ | (refine aw_cond rfl (fun hb => ?_) (fun hb => ?_) <;> ((try have hq := dX hb); (try (exfalso; omega))))) | (apply at_guard; first | refine g_go ?_ | refine g_nt ?_ | refine g_nf ?_ | refine g_nu ?_ | ((first | refine al_split_t rfl rfl (lt_ok rfl) (fun hb => ?_) (fun hb => ?_) | refine al_split_f rfl rfl (lt_ok rfl) (fun hb => ?_) (fun hb => ?_)) <;> ((try have hq := dX hb); (try (exfalso; omega))))) | (apply qr_pick; refine r_pick ?_) | (apply qr_lss; refine r_lss ?_) | (apply qr_geq; refine r_geq ?_) | (apply qr_eql; refine r_eql ?_) | (apply qr_neq; refine r_neq ?_) | (apply qr_len; refine r_len ?_) | (apply qr_load; refine r_load ?_) | (apply qr_faddr; refine r_faddr ?_) | (apply qr_boxed; refine r_boxed ?_))
   refine rt1 ?_
   rfl
  rw [hl, Bool.true_and] at hR
  have p8 : (!decide (((Ex.rows e.args).length : Int) = 1)) = false := by rw [hm, hl]; rfl
  cases hu : decide (e.unit = 0)
  ·rw [hu, Bool.and_false, Bool.false_and, Bool.false_and] at hR
   rw [hR]
   have p9 : (!decide (e.unit = 0)) = true := by rw [hu]; rfl
   refine pure_enter Tryz.func69 rfl (by decide) _ Tryz.ntmps69 (le_ok rfl) (fun w Pr hE => ?_)
   dsimp only [slotsOf, Nat.zero_add, Nat.reduceAdd]
   repeat' (first | refine nx ?_ | (apply aq_block_y; decide) | (apply qr_move; refine r_move ?_) | (apply qr_assign; refine r_assign ?_) | (apply at_cond; first | refine c_t ?_ | refine c_f ?_ | (refine aw_cond rfl (fun hb => ?_) (fun hb => ?_) <;> ((try have hq := dX hb); (try (exfalso; omega))))) | (apply at_guard; first | refine g_go ?_ | refine g_nt ?_ | refine g_nf ?_ | refine g_nu ?_ | ((first | refine al_split_t rfl rfl (lt_ok rfl) (fun hb => ?_) (fun hb => ?_) | refine al_split_f rfl rfl (lt_ok rfl) (fun hb => ?_) (fun hb => ?_)) <;> ((try have hq := dX hb); (try (exfalso; omega))))) | (apply qr_pick; refine r_pick ?_) | (apply qr_lss; refine r_lss ?_) | (apply qr_geq; refine r_geq ?_) | (apply qr_eql; refine r_eql ?_) | (apply qr_neq; refine r_neq ?_) | (apply qr_len; refine r_len ?_) | (apply qr_load; refine r_load ?_) | (apply qr_faddr; refine r_faddr ?_) | (apply qr_boxed; refine r_boxed ?_))
   refine rt1 ?_
   rfl
  have p9 : (!decide (e.unit = 0)) = false := by rw [hu]; rfl
  cases hn : decide (e.num = 0)
  ·rw [hn, Bool.false_and, Bool.false_and, Bool.false_and] at hR
   rw [hR]
   have p10 : (!decide (e.num = 0)) = true := by rw [hn]; rfl
   refine pure_enter Tryz.func69 rfl (by decide) _ Tryz.ntmps69 (le_ok rfl) (fun w Pr hE => ?_)
   dsimp only [slotsOf, Nat.zero_add, Nat.reduceAdd]
   repeat' (first | refine nx ?_ | (apply aq_block_y; decide) | (apply qr_move; refine r_move ?_) | (apply qr_assign; refine r_assign ?_) | (apply at_cond; first | refine c_t ?_ | refine c_f ?_ | (refine aw_cond rfl (fun hb => ?_) (fun hb => ?_) <;> ((try have hq := dX hb); (try (exfalso; omega))))) | (apply at_guard; first | refine g_go ?_ | refine g_nt ?_ | refine g_nf ?_ | refine g_nu ?_ | ((first | refine al_split_t rfl rfl (lt_ok rfl) (fun hb => ?_) (fun hb => ?_) | refine al_split_f rfl rfl (lt_ok rfl) (fun hb => ?_) (fun hb => ?_)) <;> ((try have hq := dX hb); (try (exfalso; omega))))) | (apply qr_pick; refine r_pick ?_) | (apply qr_lss; refine r_lss ?_) | (apply qr_geq; refine r_geq ?_) | (apply qr_eql; refine r_eql ?_) | (apply qr_neq; refine r_neq ?_) | (apply qr_len; refine r_len ?_) | (apply qr_load; refine r_load ?_) | (apply qr_faddr; refine r_faddr ?_) | (apply qr_boxed; refine r_boxed ?_))
   refine rt1 ?_
   rfl
  have p10 : (!decide (e.num = 0)) = false := by rw [hn]; rfl
  rw [hu, hn, Bool.true_and, Bool.true_and] at hR
  refine pure_enter Tryz.func69 rfl (by decide) _ Tryz.ntmps69 (le_ok rfl) (fun w Pr hE => ?_)
  dsimp only [slotsOf, Nat.zero_add, Nat.reduceAdd]
  repeat' (first | refine nx ?_ | (apply aq_block_y; decide) | (apply qr_move; refine r_move ?_) | (apply qr_assign; refine r_assign ?_) | (apply at_cond; first | refine c_t ?_ | refine c_f ?_ | (refine aw_cond rfl (fun hb => ?_) (fun hb => ?_) <;> ((try have hq := dX hb); (try (exfalso; omega))))) | (apply at_guard; first | refine g_go ?_ | refine g_nt ?_ | refine g_nf ?_ | refine g_nu ?_ | ((first | refine al_split_t rfl rfl (lt_ok rfl) (fun hb => ?_) (fun hb => ?_) | refine al_split_f rfl rfl (lt_ok rfl) (fun hb => ?_) (fun hb => ?_)) <;> ((try have hq := dX hb); (try (exfalso; omega))))) | (apply qr_pick; refine r_pick ?_) | (apply qr_lss; refine r_lss ?_) | (apply qr_geq; refine r_geq ?_) | (apply qr_eql; refine r_eql ?_) | (apply qr_neq; refine r_neq ?_) | (apply qr_len; refine r_len ?_) | (apply qr_load; refine r_load ?_) | (apply qr_faddr; refine r_faddr ?_) | (apply qr_boxed; refine r_boxed ?_))
  refine aw_lp (fun N sl ob => ∃ i : Nat, N = e.args.length - i ∧ i ≤ e.args.length ∧ ((e.args.take i).all fun x => x.right d) = true ∧ sl = [(7, .d (.int i)), (4, .d (.bool false)), (2, .box 2 0), (1, .d (.int ((d + 1 : Nat) : Int)))] ∧ ob = [(2, exO' e)]) (⟨0, rfl, Nat.zero_le _, by simp, rfl, rfl⟩) ?_
  rintro N sl ob ⟨i, rfl, hi, ha, rfl, rfl⟩
  by_cases hlt : i < e.args.length
  ·have hg := rows_get hlt
   have hc := ih e.args[i] (tame_get he hlt)
   have hw : ((d + 1 : Nat) : Int) - 1 = d := by omega
   rw [← hw] at hc
   have hnx := all_take (fun x : Ex => x.right d) hlt
   rw [ha, Bool.true_and] at hnx
   have q : decide ((i : Int) < (Ex.rows e.args).length) = true := decide_eq_true (by omega)
   cases hT : e.args[i].right d
   ·rw [hT] at hc
    have hany : (e.args.all fun x => x.right d) = false := by
     rw [Bool.eq_false_iff, Ne, List.all_eq_true]
     intro h
     have := h _ (List.getElem_mem hlt)
     rw [hT] at this
     cases this
    rw [hany, Bool.and_false] at hR
    rw [hR]
    generalize e.args[i] = z at hg hc
    repeat' (first | (apply at_op (.indexAddr _ _ _); refine al_ixq hg ?_) | (apply at_call; refine k_call (hc) hE ?_; rintro _ rfl) | refine nx ?_ | (apply aq_block_y; decide) | (apply qr_move; refine r_move ?_) | (apply qr_assign; refine r_assign ?_) | (apply at_cond; first | refine c_t ?_ | refine c_f ?_ | (refine aw_cond rfl (fun hb => ?_) (fun hb => ?_) <;> ((try have hq := dX hb); (try (exfalso; omega))))) | (apply qr_lss; refine r_lss ?_) | (apply qr_sub; refine r_sub ?_) | (apply qr_not; refine r_not ?_) | (apply qr_len; refine r_len ?_) | (apply qr_ix; refine r_ix ?_) | (apply qr_load; refine r_load ?_) | (apply qr_faddr; refine r_faddr ?_))
    refine rt1 ?_
    rfl
   ·rw [hT] at hc hnx
    generalize e.args[i] = z at hg hc
    repeat' (first | (apply at_op (.indexAddr _ _ _); refine al_ixq hg ?_) | (apply at_call; refine k_call (hc) hE ?_; rintro _ rfl) | refine nx ?_ | (apply aq_block_y; decide) | (apply qr_move; refine r_move ?_) | (apply qr_assign; refine r_assign ?_) | (apply at_cond; first | refine c_t ?_ | refine c_f ?_ | (refine aw_cond rfl (fun hb => ?_) (fun hb => ?_) <;> ((try have hq := dX hb); (try (exfalso; omega))))) | (apply qr_lss; refine r_lss ?_) | (apply qr_add; refine r_add ?_) | (apply qr_sub; refine r_sub ?_) | (apply qr_not; refine r_not ?_) | (apply qr_len; refine r_len ?_) | (apply qr_ix; refine r_ix ?_) | (apply qr_load; refine r_load ?_) | (apply qr_faddr; refine r_faddr ?_))
    refine aq_rd (⟨i + 1, rfl, by omega, hnx, rfl, rfl⟩) (by omega)
  ·rw [List.take_of_length_le (by omega)] at ha
   rw [ha, Bool.and_true] at hR
   rw [hR]
   have q : decide ((i : Int) < (Ex.rows e.args).length) = false := decide_eq_false (by omega)
   repeat' (first | refine nx ?_ | (apply aq_block_y; decide) | (apply qr_move; refine r_move ?_) | (apply qr_assign; refine r_assign ?_) | (apply at_cond; first | refine c_t ?_ | refine c_f ?_ | (refine aw_cond rfl (fun hb => ?_) (fun hb => ?_) <;> ((try have hq := dX hb); (try (exfalso; omega))))) | (apply qr_lss; refine r_lss ?_) | (apply qr_eql; refine r_eql ?_) | (apply qr_len; refine r_len ?_) | (apply qr_load; refine r_load ?_) | (apply qr_faddr; refine r_faddr ?_))
   refine rt1 ?_
   rfl
 have p5 : decide (e.op = 12) = false := decide_eq_false h12
 by_cases h15 : e.op = 15
 ·have p6 : decide (e.op = 15) = true := decide_eq_true h15
  have hov : operandsV e.op = 3 := by simp [operandsV, h15]
  rw [hov] at hR
  cases hl : decide (m = 3)
  ·rw [hl, Bool.false_and] at hR
   rw [hR]
   have p8 : (!decide (((Ex.rows e.args).length : Int) = 3)) = true := by rw [hm, hl]; rfl
   refine pure_enter Tryz.func69 rfl (by decide) _ Tryz.ntmps69 (le_ok rfl) (fun w Pr hE => ?_)
   dsimp only [slotsOf, Nat.zero_add, Nat.reduceAdd]
   repeat' (first | refine nx ?_ | (apply aq_block_y; decide) | (apply qr_move; refine r_move ?_) | (apply qr_assign; refine r_assign ?_) | (apply at_cond; first | refine c_t ?_ | refine c_f ?_ | (refine aw_cond rfl (fun hb => ?_) (fun hb => ?_) <;> ((try have hq := dX hb); (try (exfalso; omega))))) | (apply at_guard; first | refine g_go ?_ | refine g_nt ?_ | refine g_nf ?_ | refine g_nu ?_ | ((first | refine al_split_t rfl rfl (lt_ok rfl) (fun hb => ?_) (fun hb => ?_) | refine al_split_f rfl rfl (lt_ok rfl) (fun hb => ?_) (fun hb => ?_)) <;> ((try have hq := dX hb); (try (exfalso; omega))))) | (apply qr_pick; refine r_pick ?_) | (apply qr_lss; refine r_lss ?_) | (apply qr_geq; refine r_geq ?_) | (apply qr_eql; refine r_eql ?_) | (apply qr_neq; refine r_neq ?_) | (apply qr_len; refine r_len ?_) | (apply qr_load; refine r_load ?_) | (apply qr_faddr; refine r_faddr ?_) | (apply qr_boxed; refine r_boxed ?_))
   refine rt1 ?_
   rfl
  rw [hl, Bool.true_and] at hR
  have p8 : (!decide (((Ex.rows e.args).length : Int) = 3)) = false := by rw [hm, hl]; rfl
  cases hu : decide (e.unit = 0)
  ·rw [hu, Bool.and_false, Bool.false_and, Bool.false_and] at hR
   rw [hR]
   have p9 : (!decide (e.unit = 0)) = true := by rw [hu]; rfl
   refine pure_enter Tryz.func69 rfl (by decide) _ Tryz.ntmps69 (le_ok rfl) (fun w Pr hE => ?_)
   dsimp only [slotsOf, Nat.zero_add, Nat.reduceAdd]
   repeat' (first | refine nx ?_ | (apply aq_block_y; decide) | (apply qr_move; refine r_move ?_) | (apply qr_assign; refine r_assign ?_) | (apply at_cond; first | refine c_t ?_ | refine c_f ?_ | (refine aw_cond rfl (fun hb => ?_) (fun hb => ?_) <;> ((try have hq := dX hb); (try (exfalso; omega))))) | (apply at_guard; first | refine g_go ?_ | refine g_nt ?_ | refine g_nf ?_ | refine g_nu ?_ | ((first | refine al_split_t rfl rfl (lt_ok rfl) (fun hb => ?_) (fun hb => ?_) | refine al_split_f rfl rfl (lt_ok rfl) (fun hb => ?_) (fun hb => ?_)) <;> ((try have hq := dX hb); (try (exfalso; omega))))) | (apply qr_pick; refine r_pick ?_) | (apply qr_lss; refine r_lss ?_) | (apply qr_geq; refine r_geq ?_) | (apply qr_eql; refine r_eql ?_) | (apply qr_neq; refine r_neq ?_) | (apply qr_len; refine r_len ?_) | (apply qr_load; refine r_load ?_) | (apply qr_faddr; refine r_faddr ?_) | (apply qr_boxed; refine r_boxed ?_))
   refine rt1 ?_
   rfl
  have p9 : (!decide (e.unit = 0)) = false := by rw [hu]; rfl
  cases hn : decide (e.num = 0)
  ·rw [hn, Bool.false_and, Bool.false_and, Bool.false_and] at hR
   rw [hR]
   have p10 : (!decide (e.num = 0)) = true := by rw [hn]; rfl
   refine pure_enter Tryz.func69 rfl (by decide) _ Tryz.ntmps69 (le_ok rfl) (fun w Pr hE => ?_)
   dsimp only [slotsOf, Nat.zero_add, Nat.reduceAdd]
   repeat' (first | refine nx ?_ | (apply aq_block_y; decide) | (apply qr_move; refine r_move ?_) | (apply qr_assign; refine r_assign ?_) | (apply at_cond; first | refine c_t ?_ | refine c_f ?_ | (refine aw_cond rfl (fun hb => ?_) (fun hb => ?_) <;> ((try have hq := dX hb); (try (exfalso; omega))))) | (apply at_guard; first | refine g_go ?_ | refine g_nt ?_ | refine g_nf ?_ | refine g_nu ?_ | ((first | refine al_split_t rfl rfl (lt_ok rfl) (fun hb => ?_) (fun hb => ?_) | refine al_split_f rfl rfl (lt_ok rfl) (fun hb => ?_) (fun hb => ?_)) <;> ((try have hq := dX hb); (try (exfalso; omega))))) | (apply qr_pick; refine r_pick ?_) | (apply qr_lss; refine r_lss ?_) | (apply qr_geq; refine r_geq ?_) | (apply qr_eql; refine r_eql ?_) | (apply qr_neq; refine r_neq ?_) | (apply qr_len; refine r_len ?_) | (apply qr_load; refine r_load ?_) | (apply qr_faddr; refine r_faddr ?_) | (apply qr_boxed; refine r_boxed ?_))
   refine rt1 ?_
   rfl
  have p10 : (!decide (e.num = 0)) = false := by rw [hn]; rfl
  rw [hu, hn, Bool.true_and, Bool.true_and] at hR
  refine pure_enter Tryz.func69 rfl (by decide) _ Tryz.ntmps69 (le_ok rfl) (fun w Pr hE => ?_)
  dsimp only [slotsOf, Nat.zero_add, Nat.reduceAdd]
  repeat' (first | refine nx ?_ | (apply aq_block_y; decide) | (apply qr_move; refine r_move ?_) | (apply qr_assign; refine r_assign ?_) | (apply at_cond; first | refine c_t ?_ | refine c_f ?_ | (refine aw_cond rfl (fun hb => ?_) (fun hb => ?_) <;> ((try have hq := dX hb); (try (exfalso; omega))))) | (apply at_guard; first | refine g_go ?_ | refine g_nt ?_ | refine g_nf ?_ | refine g_nu ?_ | ((first | refine al_split_t rfl rfl (lt_ok rfl) (fun hb => ?_) (fun hb => ?_) | refine al_split_f rfl rfl (lt_ok rfl) (fun hb => ?_) (fun hb => ?_)) <;> ((try have hq := dX hb); (try (exfalso; omega))))) | (apply qr_pick; refine r_pick ?_) | (apply qr_lss; refine r_lss ?_) | (apply qr_geq; refine r_geq ?_) | (apply qr_eql; refine r_eql ?_) | (apply qr_neq; refine r_neq ?_) | (apply qr_len; refine r_len ?_) | (apply qr_load; refine r_load ?_) | (apply qr_faddr; refine r_faddr ?_) | (apply qr_boxed; refine r_boxed ?_))
  refine aw_lp (fun N sl ob => ∃ i : Nat, N = e.args.length - i ∧ i ≤ e.args.length ∧ ((e.args.take i).all fun x => x.right d) = true ∧ sl = [(7, .d (.int i)), (4, .d (.bool false)), (2, .box 2 0), (1, .d (.int ((d + 1 : Nat) : Int)))] ∧ ob = [(2, exO' e)]) (⟨0, rfl, Nat.zero_le _, by simp, rfl, rfl⟩) ?_
  rintro N sl ob ⟨i, rfl, hi, ha, rfl, rfl⟩
  by_cases hlt : i < e.args.length
  ·have hg := rows_get hlt
   have hc := ih e.args[i] (tame_get he hlt)
   have hw : ((d + 1 : Nat) : Int) - 1 = d := by omega
   rw [← hw] at hc
   have hnx := all_take (fun x : Ex => x.right d) hlt
   rw [ha, Bool.true_and] at hnx
   have q : decide ((i : Int) < (Ex.rows e.args).length) = true := decide_eq_true (by omega)
   cases hT : e.args[i].right d
   ·rw [hT] at hc
    have hany : (e.args.all fun x => x.right d) = false := by
     rw [Bool.eq_false_iff, Ne, List.all_eq_true]
     intro h
     have := h _ (List.getElem_mem hlt)
     rw [hT] at this
     cases this
    rw [hany, Bool.and_false] at hR
    rw [hR]
    generalize e.args[i] = z at hg hc
    repeat' (first | (apply at_op (.indexAddr _ _ _); refine al_ixq hg ?_) | (apply at_call; refine k_call (hc) hE ?_; rintro _ rfl) | refine nx ?_ | (apply aq_block_y; decide) | (apply qr_move; refine r_move ?_) | (apply qr_assign; refine r_assign ?_) | (apply at_cond; first | refine c_t ?_ | refine c_f ?_ | (refine aw_cond rfl (fun hb => ?_) (fun hb => ?_) <;> ((try have hq := dX hb); (try (exfalso; omega))))) | (apply qr_lss; refine r_lss ?_) | (apply qr_sub; refine r_sub ?_) | (apply qr_not; refine r_not ?_) | (apply qr_len; refine r_len ?_) | (apply qr_ix; refine r_ix ?_) | (apply qr_load; refine r_load ?_) | (apply qr_faddr; refine r_faddr ?_))
    refine rt1 ?_
    rfl
   ·rw [hT] at hc hnx
    generalize e.args[i] = z at hg hc
    repeat' (first | (apply at_op (.indexAddr _ _ _); refine al_ixq hg ?_) | (apply at_call; refine k_call (hc) hE ?_; rintro _ rfl) | refine nx ?_ | (apply aq_block_y; decide) | (apply qr_move; refine r_move ?_) | (apply qr_assign; refine r_assign ?_) | (apply at_cond; first | refine c_t ?_ | refine c_f ?_ | (refine aw_cond rfl (fun hb => ?_) (fun hb => ?_) <;> ((try have hq := dX hb); (try (exfalso; omega))))) | (apply qr_lss; refine r_lss ?_) | (apply qr_add; refine r_add ?_) | (apply qr_sub; refine r_sub ?_) | (apply qr_not; refine r_not ?_) | (apply qr_len; refine r_len ?_) | (apply qr_ix; refine r_ix ?_) | (apply qr_load; refine r_load ?_) | (apply qr_faddr; refine r_faddr ?_))
    refine aq_rd (⟨i + 1, rfl, by omega, hnx, rfl, rfl⟩) (by omega)
  ·rw [List.take_of_length_le (by omega)] at ha
   rw [ha, Bool.and_true] at hR
   rw [hR]
   have q : decide ((i : Int) < (Ex.rows e.args).length) = false := decide_eq_false (by omega)
   repeat' (first | refine nx ?_ | (apply aq_block_y; decide) | (apply qr_move; refine r_move ?_) | (apply qr_assign; refine r_assign ?_) | (apply at_cond; first | refine c_t ?_ | refine c_f ?_ | (refine aw_cond rfl (fun hb => ?_) (fun hb => ?_) <;> ((try have hq := dX hb); (try (exfalso; omega))))) | (apply qr_lss; refine r_lss ?_) | (apply qr_eql; refine r_eql ?_) | (apply qr_len; refine r_len ?_) | (apply qr_load; refine r_load ?_) | (apply qr_faddr; refine r_faddr ?_))
   refine rt1 ?_
   rfl
 have p6 : decide (e.op = 15) = false := decide_eq_false h15
 have hov : operandsV e.op = 2 := by
  unfold operandsV
  rw [if_neg (by omega), if_neg (by omega), if_neg (by omega), if_neg (by omega)]
 rw [hov] at hR
 cases hl : decide (m = 2)
 ·rw [hl, Bool.false_and] at hR
  rw [hR]
  have p8 : (!decide (((Ex.rows e.args).length : Int) = 2)) = true := by rw [hm, hl]; rfl
  refine pure_enter Tryz.func69 rfl (by decide) _ Tryz.ntmps69 (le_ok rfl) (fun w Pr hE => ?_)
  dsimp only [slotsOf, Nat.zero_add, Nat.reduceAdd]
  repeat' (first | refine nx ?_ | (apply aq_block_y; decide) | (apply qr_move; refine r_move ?_) | (apply qr_assign; refine r_assign ?_) | (apply at_cond; first | refine c_t ?_ | refine c_f ?_ | (refine aw_cond rfl (fun hb => ?_) (fun hb => ?_) <;> ((try have hq := dX hb); (try (exfalso; omega))))) | (apply at_guard; first | refine g_go ?_ | refine g_nt ?_ | refine g_nf ?_ | refine g_nu ?_ | ((first | refine al_split_t rfl rfl (lt_ok rfl) (fun hb => ?_) (fun hb => ?_) | refine al_split_f rfl rfl (lt_ok rfl) (fun hb => ?_) (fun hb => ?_)) <;> ((try have hq := dX hb); (try (exfalso; omega))))) | (apply qr_pick; refine r_pick ?_) | (apply qr_lss; refine r_lss ?_) | (apply qr_geq; refine r_geq ?_) | (apply qr_eql; refine r_eql ?_) | (apply qr_neq; refine r_neq ?_) | (apply qr_len; refine r_len ?_) | (apply qr_load; refine r_load ?_) | (apply qr_faddr; refine r_faddr ?_) | (apply qr_boxed; refine r_boxed ?_))
  refine rt1 ?_
  rfl
 rw [hl, Bool.true_and] at hR
 have p8 : (!decide (((Ex.rows e.args).length : Int) = 2)) = false := by rw [hm, hl]; rfl
 cases hu : decide (e.unit = 0)
 ·rw [hu, Bool.and_false, Bool.false_and, Bool.false_and] at hR
  rw [hR]
  have p9 : (!decide (e.unit = 0)) = true := by rw [hu]; rfl
  refine pure_enter Tryz.func69 rfl (by decide) _ Tryz.ntmps69 (le_ok rfl) (fun w Pr hE => ?_)
  dsimp only [slotsOf, Nat.zero_add, Nat.reduceAdd]
  repeat' (first | refine nx ?_ | (apply aq_block_y; decide) | (apply qr_move; refine r_move ?_) | (apply qr_assign; refine r_assign ?_) | (apply at_cond; first | refine c_t ?_ | refine c_f ?_ | (refine aw_cond rfl (fun hb => ?_) (fun hb => ?_) <;> ((try have hq := dX hb); (try (exfalso; omega))))) | (apply at_guard; first | refine g_go ?_ | refine g_nt ?_ | refine g_nf ?_ | refine g_nu ?_ | ((first | refine al_split_t rfl rfl (lt_ok rfl) (fun hb => ?_) (fun hb => ?_) | refine al_split_f rfl rfl (lt_ok rfl) (fun hb => ?_) (fun hb => ?_)) <;> ((try have hq := dX hb); (try (exfalso; omega))))) | (apply qr_pick; refine r_pick ?_) | (apply qr_lss; refine r_lss ?_) | (apply qr_geq; refine r_geq ?_) | (apply qr_eql; refine r_eql ?_) | (apply qr_neq; refine r_neq ?_) | (apply qr_len; refine r_len ?_) | (apply qr_load; refine r_load ?_) | (apply qr_faddr; refine r_faddr ?_) | (apply qr_boxed; refine r_boxed ?_))
  refine rt1 ?_
  rfl
 have p9 : (!decide (e.unit = 0)) = false := by rw [hu]; rfl
 cases hn : decide (e.num = 0)
 ·rw [hn, Bool.false_and, Bool.false_and, Bool.false_and] at hR
  rw [hR]
  have p10 : (!decide (e.num = 0)) = true := by rw [hn]; rfl
  refine pure_enter Tryz.func69 rfl (by decide) _ Tryz.ntmps69 (le_ok rfl) (fun w Pr hE => ?_)
  dsimp only [slotsOf, Nat.zero_add, Nat.reduceAdd]
  repeat' (first | refine nx ?_ | (apply aq_block_y; decide) | (apply qr_move; refine r_move ?_) | (apply qr_assign; refine r_assign ?_) | (apply at_cond; first | refine c_t ?_ | refine c_f ?_ | (refine aw_cond rfl (fun hb => ?_) (fun hb => ?_) <;> ((try have hq := dX hb); (try (exfalso; omega))))) | (apply at_guard; first | refine g_go ?_ | refine g_nt ?_ | refine g_nf ?_ | refine g_nu ?_ | ((first | refine al_split_t rfl rfl (lt_ok rfl) (fun hb => ?_) (fun hb => ?_) | refine al_split_f rfl rfl (lt_ok rfl) (fun hb => ?_) (fun hb => ?_)) <;> ((try have hq := dX hb); (try (exfalso; omega))))) | (apply qr_pick; refine r_pick ?_) | (apply qr_lss; refine r_lss ?_) | (apply qr_geq; refine r_geq ?_) | (apply qr_eql; refine r_eql ?_) | (apply qr_neq; refine r_neq ?_) | (apply qr_len; refine r_len ?_) | (apply qr_load; refine r_load ?_) | (apply qr_faddr; refine r_faddr ?_) | (apply qr_boxed; refine r_boxed ?_))
  refine rt1 ?_
  rfl
 have p10 : (!decide (e.num = 0)) = false := by rw [hn]; rfl
 rw [hu, hn, Bool.true_and, Bool.true_and] at hR
 refine pure_enter Tryz.func69 rfl (by decide) _ Tryz.ntmps69 (le_ok rfl) (fun w Pr hE => ?_)
 dsimp only [slotsOf, Nat.zero_add, Nat.reduceAdd]
 repeat' (first | refine nx ?_ | (apply aq_block_y; decide) | (apply qr_move; refine r_move ?_) | (apply qr_assign; refine r_assign ?_) | (apply at_cond; first | refine c_t ?_ | refine c_f ?_ | (refine aw_cond rfl (fun hb => ?_) (fun hb => ?_) <;> ((try have hq := dX hb); (try (exfalso; omega))))) | (apply at_guard; first | refine g_go ?_ | refine g_nt ?_ | refine g_nf ?_ | refine g_nu ?_ | ((first | refine al_split_t rfl rfl (lt_ok rfl) (fun hb => ?_) (fun hb => ?_) | refine al_split_f rfl rfl (lt_ok rfl) (fun hb => ?_) (fun hb => ?_)) <;> ((try have hq := dX hb); (try (exfalso; omega))))) | (apply qr_pick; refine r_pick ?_) | (apply qr_lss; refine r_lss ?_) | (apply qr_geq; refine r_geq ?_) | (apply qr_eql; refine r_eql ?_) | (apply qr_neq; refine r_neq ?_) | (apply qr_len; refine r_len ?_) | (apply qr_load; refine r_load ?_) | (apply qr_faddr; refine r_faddr ?_) | (apply qr_boxed; refine r_boxed ?_))
 refine aw_lp (fun N sl ob => ∃ i : Nat, N = e.args.length - i ∧ i ≤ e.args.length ∧ ((e.args.take i).all fun x => x.right d) = true ∧ sl = [(7, .d (.int i)), (4, .d (.bool false)), (2, .box 2 0), (1, .d (.int ((d + 1 : Nat) : Int)))] ∧ ob = [(2, exO' e)]) (⟨0, rfl, Nat.zero_le _, by simp, rfl, rfl⟩) ?_
 rintro N sl ob ⟨i, rfl, hi, ha, rfl, rfl⟩
 by_cases hlt : i < e.args.length
 ·have hg := rows_get hlt
  have hc := ih e.args[i] (tame_get he hlt)
  have hw : ((d + 1 : Nat) : Int) - 1 = d := by omega
  rw [← hw] at hc
  have hnx := all_take (fun x : Ex => x.right d) hlt
  rw [ha, Bool.true_and] at hnx
  have q : decide ((i : Int) < (Ex.rows e.args).length) = true := decide_eq_true (by omega)
  cases hT : e.args[i].right d
  ·rw [hT] at hc
   have hany : (e.args.all fun x => x.right d) = false := by
    rw [Bool.eq_false_iff, Ne, List.all_eq_true]
    intro h
    have := h _ (List.getElem_mem hlt)
    rw [hT] at this
    cases this
   rw [hany, Bool.and_false] at hR
   rw [hR]
   generalize e.args[i] = z at hg hc
   repeat' (first | (apply at_op (.indexAddr _ _ _); refine al_ixq hg ?_) | (apply at_call; refine k_call (hc) hE ?_; rintro _ rfl) | refine nx ?_ | (apply aq_block_y; decide) | (apply qr_move; refine r_move ?_) | (apply qr_assign; refine r_assign ?_) | (apply at_cond; first | refine c_t ?_ | refine c_f ?_ | (refine aw_cond rfl (fun hb => ?_) (fun hb => ?_) <;> ((try have hq := dX hb); (try (exfalso; omega))))) | (apply qr_lss; refine r_lss ?_) | (apply qr_sub; refine r_sub ?_) | (apply qr_not; refine r_not ?_) | (apply qr_len; refine r_len ?_) | (apply qr_ix; refine r_ix ?_) | (apply qr_load; refine r_load ?_) | (apply qr_faddr; refine r_faddr ?_))
   refine rt1 ?_
   rfl
  ·rw [hT] at hc hnx
   generalize e.args[i] = z at hg hc
   repeat' (first | (apply at_op (.indexAddr _ _ _); refine al_ixq hg ?_) | (apply at_call; refine k_call (hc) hE ?_; rintro _ rfl) | refine nx ?_ | (apply aq_block_y; decide) | (apply qr_move; refine r_move ?_) | (apply qr_assign; refine r_assign ?_) | (apply at_cond; first | refine c_t ?_ | refine c_f ?_ | (refine aw_cond rfl (fun hb => ?_) (fun hb => ?_) <;> ((try have hq := dX hb); (try (exfalso; omega))))) | (apply qr_lss; refine r_lss ?_) | (apply qr_add; refine r_add ?_) | (apply qr_sub; refine r_sub ?_) | (apply qr_not; refine r_not ?_) | (apply qr_len; refine r_len ?_) | (apply qr_ix; refine r_ix ?_) | (apply qr_load; refine r_load ?_) | (apply qr_faddr; refine r_faddr ?_))
   refine aq_rd (⟨i + 1, rfl, by omega, hnx, rfl, rfl⟩) (by omega)
 ·rw [List.take_of_length_le (by omega)] at ha
  rw [ha, Bool.and_true] at hR
  rw [hR]
  have q : decide ((i : Int) < (Ex.rows e.args).length) = false := decide_eq_false (by omega)
  repeat' (first | refine nx ?_ | (apply aq_block_y; decide) | (apply qr_move; refine r_move ?_) | (apply qr_assign; refine r_assign ?_) | (apply at_cond; first | refine c_t ?_ | refine c_f ?_ | (refine aw_cond rfl (fun hb => ?_) (fun hb => ?_) <;> ((try have hq := dX hb); (try (exfalso; omega))))) | (apply qr_lss; refine r_lss ?_) | (apply qr_eql; refine r_eql ?_) | (apply qr_len; refine r_len ?_) | (apply qr_load; refine r_load ?_) | (apply qr_faddr; refine r_faddr ?_))
  refine rt1 ?_
  rfl
theorem rright_any : ∀ d : Nat, d ≤ 1000000 → RRightC d
 | 0, _, e, he => by
  rw [right_zero]
  have p1 : decide (((0 : Nat) : Int) < 1) = true := rfl
  refine pure_enter Tryz.func69 rfl (by decide) _ Tryz.ntmps69 (le_ok rfl) (fun w Pr hE => ?_)
  dsimp only [slotsOf, Nat.zero_add, Nat.reduceAdd]
  repeat' (first | refine nx ?_ | (apply aq_block_y; decide) | (apply qr_move; refine r_move ?_) | (apply qr_assign; refine r_assign ?_) | (apply at_cond; first | refine c_t ?_ | refine c_f ?_ | (refine aw_cond rfl (fun hb => ?_) (fun hb => ?_) <;> ((try have hq := dX hb); (try (exfalso; omega))))) | (apply at_guard; first | refine g_go ?_ | refine g_nt ?_ | refine g_nf ?_ | refine g_nu ?_ | ((first | refine al_split_t rfl rfl (lt_ok rfl) (fun hb => ?_) (fun hb => ?_) | refine al_split_f rfl rfl (lt_ok rfl) (fun hb => ?_) (fun hb => ?_)) <;> ((try have hq := dX hb); (try (exfalso; omega))))) | (apply qr_pick; refine r_pick ?_) | (apply qr_lss; refine r_lss ?_) | (apply qr_geq; refine r_geq ?_) | (apply qr_load; refine r_load ?_) | (apply qr_faddr; refine r_faddr ?_) | (apply qr_boxed; refine r_boxed ?_))
  refine rt1 ?_
  rfl
 | d + 1, hd, e, he => by
  have ih := rright_any d (by omega)
  by_cases h : e.op = 0 ∨ e.op = 1 ∨ e.op = 2 ∨ e.op = 3
  ·rcases h with h | h
   ·exact rright_num (by omega) e he h
   ·exact rright_name (by omega) e he h
  ·exact rright_args (by omega) ih e he h
theorem rightExp_any (e : Ex) (he : e.tame) : PureC 24 [.agg (exC e)] (· = .bool (e.right 12)) := by
 have hc := right_any 12 (by omega) e he
 refine pure_enter Tryz.func24 rfl (by decide) _ Tryz.ntmps24 (le_ok rfl) (fun w Pr hE => ?_)
 dsimp only [slotsOf, Nat.zero_add, Nat.reduceAdd]
 repeat' (first | (apply at_call; refine k_call (hc) hE ?_; rintro _ rfl) | refine nx ?_ | (apply qr_assign; refine r_assign ?_) | (apply qr_load; refine r_load ?_) | (apply qr_boxed; refine r_boxed ?_))
 refine rt1 ?_
 rfl
theorem rrightExp_any (e : Ex) (he : e.tame) : PureC 25 [.agg (exC e)] (· = .bool (e.right 12)) := by
 have hc := rright_any 12 (by omega) e he
 refine pure_enter Tryz.func25 rfl (by decide) _ Tryz.ntmps25 (le_ok rfl) (fun w Pr hE => ?_)
 dsimp only [slotsOf, Nat.zero_add, Nat.reduceAdd]
 repeat' (first | (apply at_call; refine k_call (hc) hE ?_; rintro _ rfl) | refine nx ?_ | (apply qr_assign; refine r_assign ?_) | (apply qr_load; refine r_load ?_) | (apply qr_boxed; refine r_boxed ?_))
 refine rt1 ?_
 rfl
end Go.Proofs.YtedoeogopmenpaaGreatDoor
end
section
set_option linter.unusedSimpArgs false
set_option linter.unusedVariables false
namespace Go.Proofs.YtedoeogopmenpaaGreatDoor
open Go.RowKit
theorem show_op {d : Nat} (hd : d ≤ 12) (ih : ShowC d) (op : Int) (t : Tok) (g : Nat) (ho : opInfo op = some (t, g)) (x y : Ex) (ht : (two op x y).tame) (hx : x.right d = true) (hy : y.right d = true) (f fm : Nat) (hf : f ≤ fm) (hfm : PureC 107 [.agg (exC (two op x y))] (· = .int fm)) : PureC 55 [.agg (exC (two op x y)), .int f] (· = .str ((two op x y).text 0)) := by
 have hsz := opInfo_size ho
 have c0 : ObC 108 [.d (.int 0), .d (.int (leftV g)), .box 1002 0] (shO (two op x y)) [] (fun u o => u = .d (.str (x.text (leftV g))) ∧ o = shO (two op x y)) := show1_any ih (two op x y) ht 0 (leftV g) (show 0 < 2 by omega) hx (by unfold leftV; split <;> omega)
 have c1 : ObC 108 [.d (.int 1), .d (.int ((g : Int) + 1)), .box 1002 0] (shO (two op x y)) [] (fun u o => u = .d (.str (y.text (g + 1))) ∧ o = shO (two op x y)) := show1_any ih (two op x y) ht 1 (g + 1) (show 1 < 2 by omega) hy (by omega)
 have hsi := sindex (two op x y) (by show (opInfo op).isSome = true; rw [ho]; rfl)
 have zx := text_small hd hx ht.2.2.1 (leftV g)
 have zy := text_small hd hy ht.2.2.2.1 (g + 1)
 have hne : op ≠ 0 ∧ op ≠ 1 ∧ op ≠ 2 ∧ op ≠ 3 ∧ op ≠ 15 ∧ op ≠ 12 ∧ op ≠ 8 ∧ op ≠ 9 := by
  rcases opInfo_cases ho with ⟨rfl, _⟩ | ⟨rfl, _⟩ | ⟨rfl, _⟩ | ⟨rfl, _⟩ | ⟨rfl, _⟩ | ⟨rfl, _⟩ | ⟨rfl, _⟩ | ⟨rfl, _⟩ <;> decide
 obtain ⟨n0, n1, n2, n3, n15, n12, n8, n9⟩ := hne
 have p0 : decide (op = 0) = false := decide_eq_false n0
 have p1 : decide (op = 1) = false := decide_eq_false n1
 have p2 : decide (op = 2) = false := decide_eq_false n2
 have p3 : decide (op = 3) = false := decide_eq_false n3
 have p15 : decide (op = 15) = false := decide_eq_false n15
 have p12 : decide (op = 12) = false := decide_eq_false n12
 have p8 : decide (op = 8) = false := decide_eq_false n8
 have p9 : decide (op = 9) = false := decide_eq_false n9
 rw [text_op ho hx hy]
 have l1 : ByteArray.size ⟨#[32]⟩ = 1 := rfl
 have s1 := app_size (x.text (leftV g)) ⟨#[32]⟩
 have s2 := app_size (x.text (leftV g) ++ ⟨#[32]⟩) t.s
 have s3 := app_size (x.text (leftV g) ++ ⟨#[32]⟩ ++ t.s) ⟨#[32]⟩
 dsimp only [two, exC, Ex.op, Ex.num, Ex.unit, Ex.str, Ex.args] at hfm ⊢
 have q0 : decide ((fm : Int) < f) = false := decide_eq_false (by omega)
 refine pure_enter Tryz.func55 rfl (by decide) _ Tryz.ntmps55 (le_ok rfl) (fun w Pr hE => ?_)
 dsimp only [slotsOf, Nat.zero_add, Nat.reduceAdd]
 repeat' (first | (apply at_call; refine k_call (hfm) hE ?_; rintro _ rfl) | (apply at_op (.makeFunc (.func 108) _ _); refine al_y (y_clo (zs := [.box 2 0]) rfl) (lt_ok rfl) ?_) | (apply at_op (.makeFunc (.func 109) _ _); refine al_y (y_clo (zs := [.box 5 0]) rfl) (lt_ok rfl) ?_) | (apply at_op (.store _ _ _); refine al_step (st_store (v := .clo (.func 108) [.box 2 0]) (n := [.clo (.func 108) [.box 2 0]]) (l' := [.clo (.func 108) [.box 2 0]]) rfl rfl rfl nofun rfl (by intro z hz; rw [List.mem_singleton] at hz; subst hz; rfl) (.inl ⟨rfl, rfl⟩) rfl (le_ok rfl) rfl) rfl ?_) | refine nx ?_ | (apply aq_block_y; decide) | (apply qr_move; refine r_move ?_) | (apply qr_assign; refine r_assign ?_) | (apply at_cond; first | refine c_t ?_ | refine c_f ?_ | (refine aw_cond rfl (fun hb => ?_) (fun hb => ?_) <;> ((try have hq := dX hb); (try (exfalso; omega))))) | (apply qr_lss; refine r_lss ?_) | (apply qr_eql; refine r_eql ?_) | (apply qr_func; refine r_func ?_) | (apply qr_load; refine r_load ?_) | (apply qr_faddr; refine r_faddr ?_) | (apply qr_alloc; refine r_alloc ?_) | (apply qr_boxed; refine r_boxed ?_) | (apply qr_store; refine r_store ?_))
 clear hfm p0 p1 p2 p3 p15 p12 p8 p9 q0
 repeat' (first | (apply at_call; refine k_call (operators_any) hE ?_; rintro _ rfl) | (apply at_op (.makeFunc (.func 111) _ _); refine al_y (y_clo (zs := [.box 2 0]) rfl) (lt_ok rfl) ?_) | (apply at_call; refine k_ocall [(1002, 2)] (hsi) hE ?_; rintro _ _ ⟨⟨i, q, rfl, hqx, hqo⟩, rfl⟩; have hg0 : (opsL.map opC)[i]? = some (opC q) := by { rw [List.getElem?_map, hqx]; rfl } <;> (intro _ _ h1 h2; simp only [renEqs, Nat.reduceBEq, renL_app, renL_ds, renL_und] at h1 h2; subst h1 h2)) | (apply at_op (.indexAddr _ _ _); refine al_ixq hg0 ?_) | refine nx ?_ | (apply aq_block_y; decide) | (apply at_cond; first | refine c_t ?_ | refine c_f ?_ | (refine aw_cond rfl (fun hb => ?_) (fun hb => ?_) <;> ((try have hq := dX hb); (try (exfalso; omega))))) | (apply qr_func; refine r_func ?_) | (apply qr_ix; refine r_ix ?_) | (apply qr_load; refine r_load ?_) | (apply qr_alloc; refine r_alloc ?_) | (apply qr_store; refine r_store ?_))
 obtain ⟨t', ho', hts, hqn⟩ := op_hit hqx hqo
 have hoo : some (t', q.2.2.toNat) = some (t, g) := ho'.symm.trans ho
 injection hoo with hoo
 injection hoo with hoo1 hoo2
 subst hoo1
 obtain ⟨qs, qo, qg⟩ := q
 dsimp only at hts hqn hoo2 ⊢
 obtain rfl : qg = (g : Int) := by omega
 subst hts
 by_cases h4 : g = 4
 ·subst h4
  repeat' (first | refine nx ?_ | (apply aq_block_y; decide) | (apply qr_move; refine r_move ?_) | (apply qr_assign; refine r_assign ?_) | (apply at_cond; first | refine c_t ?_ | refine c_f ?_ | (refine aw_cond rfl (fun hb => ?_) (fun hb => ?_) <;> ((try have hq := dX hb); (try (exfalso; omega))))) | (apply qr_eql; refine r_eql ?_) | (apply qr_add; refine r_add ?_) | (apply qr_load; refine r_load ?_) | (apply qr_faddr; refine r_faddr ?_))
  refine aw_mixo ([(5, .box 125 [.clo (.func 108) [.box 2 0]]), (7, .box 120 [.d (.str t'.s), .d (.int qo), .d (.int ((4 : Nat) : Int))])]) [(0, true), (1, true), (4, true), (5, true), (8, true), (9, true), (10, true), (11, true), (2, false), (3, true), (6, true), (7, true), (12, false), (13, true)] [14] (by kernel_rfl) (by kernel_rfl) (by kernel_rfl) (by decide) (by (repeat (first | exact obs_nil | (apply obs_cons; focus (first | rfl | (simp [find]; done)))))) ?_
  simp only [planned, tailed, List.filterMap_cons, List.filterMap_nil, List.getElem?_cons_zero, List.getElem?_cons_succ, Option.map_some]
  repeat' (first | apply am_nil | refine m_skip ?_ | refine n_skip ?_ | (apply at_mcall; refine m_clocall2 [(1002, 2)] (c0) hE ?_; rintro _ _ ⟨rfl, rfl⟩; clear c0 <;> (intro _ _ h1 h2; simp only [renEqs, Nat.reduceBEq, renL_app, renL_ds, renL_und] at h1 h2; subst h1 h2; (try dsimp only [flatV, flat, D.plain, D.plainL]))) | (apply at_mcall; refine m_clocall2 [(1002, 2)] (c1) hE ?_; rintro _ _ ⟨rfl, rfl⟩ <;> (intro _ _ h1 h2; simp only [renEqs, Nat.reduceBEq, renL_app, renL_ds, renL_und] at h1 h2; subst h1 h2; (try dsimp only [flatV, flat, D.plain, D.plainL]))) | (apply qm_move; refine m_move ?_) | (apply qm_add; refine m_add ?_) | (apply qm_load; refine m_load ?_) | (apply qm_faddr; refine m_faddr ?_) | (refine am_split rfl rfl (fun hb => ?_) (fun hb => ?_) <;> ((try have hq := dX hb); (try (exfalso; omega)))))
  repeat' (first | refine nx ?_ | (apply aq_block_y; decide) | (apply qr_move; refine r_move ?_) | (apply qr_assign; refine r_assign ?_) | (apply at_cond; first | refine c_t ?_ | refine c_f ?_ | (refine aw_cond rfl (fun hb => ?_) (fun hb => ?_) <;> ((try have hq := dX hb); (try (exfalso; omega))))) | (apply qr_add; refine r_add ?_) | (apply qr_load; refine r_load ?_) | (apply qr_faddr; refine r_faddr ?_))
  refine rt1 ?_
  rfl
 ·have q4 : decide ((g : Int) = 4) = false := decide_eq_false (by omega)
  have hlv : leftV g = g := by unfold leftV; rw [if_neg h4]
  rw [hlv] at c0
  rw [hlv] at zx s1 s2 s3
  rw [hlv]
  repeat' (first | refine nx ?_ | (apply aq_block_y; decide) | (apply qr_move; refine r_move ?_) | (apply qr_assign; refine r_assign ?_) | (apply at_cond; first | refine c_t ?_ | refine c_f ?_ | (refine aw_cond rfl (fun hb => ?_) (fun hb => ?_) <;> ((try have hq := dX hb); (try (exfalso; omega))))) | (apply qr_eql; refine r_eql ?_) | (apply qr_load; refine r_load ?_) | (apply qr_faddr; refine r_faddr ?_))
  refine aw_mixo ([(5, .box 125 [.clo (.func 108) [.box 2 0]]), (7, .box 120 [.d (.str t'.s), .d (.int qo), .d (.int g)])]) [(0, true), (1, true), (4, true), (5, true), (8, true), (9, true), (10, true), (11, true), (2, false), (3, true), (6, true), (7, true), (12, false), (13, true)] [14] (by kernel_rfl) (by kernel_rfl) (by kernel_rfl) (by decide) (by (repeat (first | exact obs_nil | (apply obs_cons; focus (first | rfl | (simp [find]; done)))))) ?_
  simp only [planned, tailed, List.filterMap_cons, List.filterMap_nil, List.getElem?_cons_zero, List.getElem?_cons_succ, Option.map_some]
  repeat' (first | apply am_nil | refine m_skip ?_ | refine n_skip ?_ | (apply at_mcall; refine m_clocall2 [(1002, 2)] (c0) hE ?_; rintro _ _ ⟨rfl, rfl⟩; clear c0 <;> (intro _ _ h1 h2; simp only [renEqs, Nat.reduceBEq, renL_app, renL_ds, renL_und] at h1 h2; subst h1 h2; (try dsimp only [flatV, flat, D.plain, D.plainL]))) | (apply at_mcall; refine m_clocall2 [(1002, 2)] (c1) hE ?_; rintro _ _ ⟨rfl, rfl⟩ <;> (intro _ _ h1 h2; simp only [renEqs, Nat.reduceBEq, renL_app, renL_ds, renL_und] at h1 h2; subst h1 h2; (try dsimp only [flatV, flat, D.plain, D.plainL]))) | (apply qm_move; refine m_move ?_) | (apply qm_add; refine m_add ?_) | (apply qm_load; refine m_load ?_) | (apply qm_faddr; refine m_faddr ?_) | (refine am_split rfl rfl (fun hb => ?_) (fun hb => ?_) <;> ((try have hq := dX hb); (try (exfalso; omega)))))
  repeat' (first | refine nx ?_ | (apply aq_block_y; decide) | (apply qr_move; refine r_move ?_) | (apply qr_assign; refine r_assign ?_) | (apply at_cond; first | refine c_t ?_ | refine c_f ?_ | (refine aw_cond rfl (fun hb => ?_) (fun hb => ?_) <;> ((try have hq := dX hb); (try (exfalso; omega))))) | (apply qr_add; refine r_add ?_) | (apply qr_load; refine r_load ?_) | (apply qr_faddr; refine r_faddr ?_))
  refine rt1 ?_
  rfl
end Go.Proofs.YtedoeogopmenpaaGreatDoor
end
section
set_option linter.unusedSimpArgs false
set_option linter.unusedVariables false
namespace Go.Proofs.YtedoeogopmenpaaGreatDoor
open Go.RowKit
theorem show_in {d : Nat} (hd : d ≤ 12) (ih : ShowC d) (e : Ex) (f : Nat) (hr : e.right (d + 1) = true) (ht : e.tame) (hf : f ≤ formV e.op) : PureC 55 [.agg (exC e), .int f] (· = .str (e.text 0)) := by
 have hfm := form_any e
 rcases right_shape hr with ⟨n, u, rfl, hn⟩ | ⟨op, s, ho, rfl, hv⟩ | ⟨x, rfl, hx⟩ | ⟨x, y, z, rfl, hx, hy, hz⟩ | ⟨op, x, y, ho, rfl, hx, hy⟩ | ⟨op, x, y, t, g, ho, rfl, hx, hy⟩
 ·exact show_num n u hn f _ hf hfm
 ·exact show_leaf op ho s ht.1 f _ hf hfm
 ·exact show_not hd ih x ht hx f _ hf hfm
 ·exact show_if hd ih x y z ht hx hy hz f _ hf hfm
 ·exact show_call hd ih op ho x y ht hx hy f _ hf hfm
 ·exact show_op hd ih op t g ho x y ht hx hy f _ hf hfm
theorem show_any : ∀ d : Nat, d ≤ 12 → ShowC d
 | 0, _, e, f, hr, _, _ => by rw [right_zero] at hr; cases hr
 | d + 1, hd, e, f, hr, ht, hf7 => by
  have ih := show_any d (by omega)
  by_cases hf : f ≤ formV e.op
  ·rw [text_in hf]
   exact show_in (by omega) ih e f hr ht hf
  ·have hc : PureC 55 [.agg (exC e), .int 0] (· = .str (e.text 0)) := show_in (by omega) ih e 0 hr ht (Nat.zero_le _)
   have hfm := form_any e
   have hz := text_small hd hr ht 0
   rw [text_par hr (by omega)]
   have l1 : ByteArray.size ⟨#[40, 32]⟩ = 2 := rfl
   have l2 : ByteArray.size ⟨#[32, 41]⟩ = 2 := rfl
   have s1 := app_size ⟨#[40, 32]⟩ (e.text 0)
   generalize formV e.op = fm at hf hfm
   have q0 : decide ((fm : Int) < f) = true := decide_eq_true (by omega)
   refine pure_enter Tryz.func55 rfl (by decide) _ Tryz.ntmps55 (le_ok rfl) (fun w Pr hE => ?_)
   dsimp only [slotsOf, Nat.zero_add, Nat.reduceAdd]
   repeat' (first | (apply at_call; refine k_call (hfm) hE ?_; rintro _ rfl) | (apply at_call; refine k_call (hc) hE ?_; rintro _ rfl) | refine nx ?_ | (apply aq_block_y; decide) | (apply qr_move; refine r_move ?_) | (apply qr_assign; refine r_assign ?_) | (apply at_cond; first | refine c_t ?_ | refine c_f ?_ | (refine aw_cond rfl (fun hb => ?_) (fun hb => ?_) <;> ((try have hq := dX hb); (try (exfalso; omega))))) | (apply qr_lss; refine r_lss ?_) | (apply qr_add; refine r_add ?_) | (apply qr_load; refine r_load ?_) | (apply qr_boxed; refine r_boxed ?_))
   refine rt1 ?_
   rfl
def fitsD (s : ByteArray) : D := if 4000 < s.size then .tup [.str ⟨#[]⟩, .int 6] else .tup [.str s, .int 0]
def printED (e : Ex) : D := if e.right 12 = true then fitsD (e.text 0) else .tup [.str ⟨#[]⟩, .int 1]
theorem fits_any (s : ByteArray) : PureC 57 [.str s] (· = fitsD s) := by
 unfold fitsD
 by_cases h : 4000 < s.size
 ·rw [if_pos h]
  have q0 : decide ((4000 : Int) < s.size) = true := decide_eq_true (by omega)
  refine pure_enter Tryz.func57 rfl (by decide) _ Tryz.ntmps57 (le_ok rfl) (fun w Pr hE => ?_)
  dsimp only [slotsOf, Nat.zero_add, Nat.reduceAdd]
  repeat' (first | refine nx ?_ | (apply qr_move; refine r_move ?_) | (apply qr_assign; refine r_assign ?_) | (apply at_cond; first | refine c_t ?_ | refine c_f ?_ | (refine aw_cond rfl (fun hb => ?_) (fun hb => ?_) <;> ((try have hq := dX hb); (try (exfalso; omega))))) | (apply qr_gtr; refine r_gtr ?_) | (apply qr_len; refine r_len ?_))
  refine ret_two (by rfl) (by first | exact ToD.d _ | exact ToD.row _ _ _ _ _ rfl) (by first | exact ToD.d _ | exact ToD.row _ _ _ _ _ rfl) ?_
  rfl
 ·rw [if_neg h]
  have q0 : decide ((4000 : Int) < s.size) = false := decide_eq_false (by omega)
  refine pure_enter Tryz.func57 rfl (by decide) _ Tryz.ntmps57 (le_ok rfl) (fun w Pr hE => ?_)
  dsimp only [slotsOf, Nat.zero_add, Nat.reduceAdd]
  repeat' (first | refine nx ?_ | (apply qr_move; refine r_move ?_) | (apply qr_assign; refine r_assign ?_) | (apply at_cond; first | refine c_t ?_ | refine c_f ?_ | (refine aw_cond rfl (fun hb => ?_) (fun hb => ?_) <;> ((try have hq := dX hb); (try (exfalso; omega))))) | (apply qr_gtr; refine r_gtr ?_) | (apply qr_len; refine r_len ?_))
  refine ret_two (by rfl) (by first | exact ToD.d _ | exact ToD.row _ _ _ _ _ rfl) (by first | exact ToD.d _ | exact ToD.row _ _ _ _ _ rfl) ?_
  rfl
theorem rfits_any (s : ByteArray) : PureC 61 [.str s] (· = fitsD s) := by
 unfold fitsD
 by_cases h : 4000 < s.size
 ·rw [if_pos h]
  have q0 : decide ((4000 : Int) < s.size) = true := decide_eq_true (by omega)
  refine pure_enter Tryz.func61 rfl (by decide) _ Tryz.ntmps61 (le_ok rfl) (fun w Pr hE => ?_)
  dsimp only [slotsOf, Nat.zero_add, Nat.reduceAdd]
  repeat' (first | refine nx ?_ | (apply qr_move; refine r_move ?_) | (apply qr_assign; refine r_assign ?_) | (apply at_cond; first | refine c_t ?_ | refine c_f ?_ | (refine aw_cond rfl (fun hb => ?_) (fun hb => ?_) <;> ((try have hq := dX hb); (try (exfalso; omega))))) | (apply qr_gtr; refine r_gtr ?_) | (apply qr_len; refine r_len ?_))
  refine ret_two (by rfl) (by first | exact ToD.d _ | exact ToD.row _ _ _ _ _ rfl) (by first | exact ToD.d _ | exact ToD.row _ _ _ _ _ rfl) ?_
  rfl
 ·rw [if_neg h]
  have q0 : decide ((4000 : Int) < s.size) = false := decide_eq_false (by omega)
  refine pure_enter Tryz.func61 rfl (by decide) _ Tryz.ntmps61 (le_ok rfl) (fun w Pr hE => ?_)
  dsimp only [slotsOf, Nat.zero_add, Nat.reduceAdd]
  repeat' (first | refine nx ?_ | (apply qr_move; refine r_move ?_) | (apply qr_assign; refine r_assign ?_) | (apply at_cond; first | refine c_t ?_ | refine c_f ?_ | (refine aw_cond rfl (fun hb => ?_) (fun hb => ?_) <;> ((try have hq := dX hb); (try (exfalso; omega))))) | (apply qr_gtr; refine r_gtr ?_) | (apply qr_len; refine r_len ?_))
  refine ret_two (by rfl) (by first | exact ToD.d _ | exact ToD.row _ _ _ _ _ rfl) (by first | exact ToD.d _ | exact ToD.row _ _ _ _ _ rfl) ?_
  rfl
theorem fitsD_form (s : ByteArray) : ∃ t n, fitsD s = .tup [.str t, .int n] := by
 unfold fitsD
 split <;> exact ⟨_, _, rfl⟩
theorem printE_any (e : Ex) (ht : e.tame) : PureC 20 [.agg (exC e)] (· = printED e) := by
 have hr := rightExp_any e ht
 unfold printED
 cases hx : e.right 12
 ·rw [if_neg (by simp)]
  rw [hx] at hr
  refine pure_enter Tryz.func20 rfl (by decide) _ Tryz.ntmps20 (le_ok rfl) (fun w Pr hE => ?_)
  dsimp only [slotsOf, Nat.zero_add, Nat.reduceAdd]
  repeat' (first | (apply at_call; refine k_call (hr) hE ?_; rintro _ rfl) | refine nx ?_ | (apply qr_assign; refine r_assign ?_) | (apply at_cond; first | refine c_t ?_ | refine c_f ?_ | (refine aw_cond rfl (fun hb => ?_) (fun hb => ?_) <;> ((try have hq := dX hb); (try (exfalso; omega))))) | (apply qr_not; refine r_not ?_) | (apply qr_load; refine r_load ?_) | (apply qr_boxed; refine r_boxed ?_))
  refine ret_two (by rfl) (by first | exact ToD.d _ | exact ToD.row _ _ _ _ _ rfl) (by first | exact ToD.d _ | exact ToD.row _ _ _ _ _ rfl) ?_
  rfl
 ·rw [if_pos rfl]
  rw [hx] at hr
  have hs := show_any 12 (by omega) e 0 hx ht (by omega)
  have hf := fits_any (e.text 0)
  obtain ⟨t, n, hfe⟩ := fitsD_form (e.text 0)
  rw [hfe] at hf ⊢
  refine pure_enter Tryz.func20 rfl (by decide) _ Tryz.ntmps20 (le_ok rfl) (fun w Pr hE => ?_)
  dsimp only [slotsOf, Nat.zero_add, Nat.reduceAdd]
  repeat' (first | (apply at_call; refine k_call (hr) hE ?_; rintro _ rfl) | (apply at_call; refine k_call (hs) hE ?_; rintro _ rfl) | (apply at_call; refine k_call (hf) hE ?_; rintro _ rfl) | refine nx ?_ | (apply qr_assign; refine r_assign ?_) | (apply at_cond; first | refine c_t ?_ | refine c_f ?_ | (refine aw_cond rfl (fun hb => ?_) (fun hb => ?_) <;> ((try have hq := dX hb); (try (exfalso; omega))))) | (apply qr_not; refine r_not ?_) | (apply qr_extract; refine r_extract ?_) | (apply qr_load; refine r_load ?_) | (apply qr_boxed; refine r_boxed ?_))
  refine ret_two (by rfl) (by first | exact ToD.d _ | exact ToD.row _ _ _ _ _ rfl) (by first | exact ToD.d _ | exact ToD.row _ _ _ _ _ rfl) ?_
  rfl
def wordV (op : Int) : ByteArray := if op = 15 then w_if else if op = 12 then w_not else if op = 8 then w_min else if op = 9 then w_max else match opInfo op with
 | some (t, _) => t.s
 | none => ⟨#[]⟩
theorem rform_any (e : Ex) : PureC 113 [.agg (exC e)] (· = .tup [.int (formV e.op), .str (wordV e.op)]) := by
 generalize hop : e.op = op
 dsimp only [exC]
 rw [hop]
 refine pure_enter Tryz.func113 rfl (by decide) _ Tryz.ntmps113 (le_ok rfl) (fun w Pr hE => ?_)
 dsimp only [slotsOf, Nat.zero_add, Nat.reduceAdd]
 repeat' (first | refine nx ?_ | (apply aq_block_y; decide) | (apply qr_assign; refine r_assign ?_) | (apply at_cond; first | refine c_t ?_ | refine c_f ?_ | (refine aw_cond rfl (fun hb => ?_) (fun hb => ?_) <;> ((try have hq := dX hb); (try (exfalso; omega))))) | (apply qr_eql; refine r_eql ?_) | (apply qr_load; refine r_load ?_) | (apply qr_faddr; refine r_faddr ?_) | (apply qr_boxed; refine r_boxed ?_))
 all_goals
  refine ret_two (by rfl) (by exact ToD.d _) (by exact ToD.d _) ?_
  simp [formV, wordV, opInfo, *]
end Go.Proofs.YtedoeogopmenpaaGreatDoor
end
