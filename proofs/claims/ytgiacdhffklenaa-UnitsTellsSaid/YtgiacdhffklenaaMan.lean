/-
  Conditions: none.
-/
import Derived.Test.YtgiacdhffklenaaMam
set_option maxHeartbeats 16000000
set_option maxRecDepth 20000
section
set_option linter.unusedSimpArgs false
set_option linter.unusedVariables false
namespace Go.Proofs.Ytgiacdhffklenaa
open Go.RowKit
theorem rright_args {d : Nat} (hd : d ≤ 1000000) (ih : RRightC d) (e : Ex) (he : e.tame) (h0 : ¬ (e.op = 0 ∨ e.op = 1 ∨ e.op = 2 ∨ e.op = 3)) : PureC 44 [.agg (exC e), .int ((d + 1 : Nat) : Int)] (· = .bool (e.right (d + 1))) := by
 have hz := tame_str he
 have hln := tame_len he
 have hlen := rows_len e.args
 obtain ⟨R, hR⟩ : ∃ R, R = e.right (d + 1) := ⟨_, rfl⟩
 rw [← hR]
 rw [right_eq, if_neg (by omega), if_neg (by omega)] at hR
 have p1 : decide (((d + 1 : Nat) : Int) < 1) = false := decide_eq_false (by omega)
 by_cases h2 : e.op < 0
 ·have hov : operandsV e.op = -1 := by
   unfold operandsV
   rw [if_neg (by omega), if_neg (by omega), if_neg (by omega), if_pos (by omega)]
  rw [hov, decide_eq_false (by omega), Bool.false_and] at hR
  rw [hR]
  have p2 : decide (e.op < 0) = true := decide_eq_true h2
  refine pure_enter Try.func44 rfl (by decide) _ Try.ntmps44 (le_ok rfl) (fun w Pr hE => ?_)
  dsimp only [slotsOf, Nat.zero_add, Nat.reduceAdd]
  repeat' (first | refine nx ?_ | (apply aq_block_y; decide) | (apply qr_move; refine r_move ?_) | (apply qr_assign; refine r_assign ?_) | (apply at_cond; first | refine c_t ?_ | refine c_f ?_ | (refine aw_cond rfl (fun hb => ?_) (fun hb => ?_) <;> ((try have hq := dX hb); (try (exfalso; omega))))) | (apply at_guard; first | refine g_go ?_ | refine g_nt ?_ | refine g_nf ?_ | refine g_nu ?_ | ((first | refine al_split_t rfl rfl (lt_ok rfl) (fun hb => ?_) (fun hb => ?_) | refine al_split_f rfl rfl (lt_ok rfl) (fun hb => ?_) (fun hb => ?_)) <;> ((try have hq := dX hb); (try (exfalso; omega))))) | (apply qr_pick; refine r_pick ?_) | (apply qr_lss; refine r_lss ?_) | (apply qr_geq; refine r_geq ?_) | (apply qr_load; refine r_load ?_) | (apply qr_faddr; refine r_faddr ?_) | (apply qr_boxed; refine r_boxed ?_))
  refine rt1 ?_
  rfl
 have p2 : decide (e.op < 0) = false := decide_eq_false h2
 by_cases h3 : 16 ≤ e.op
 ·have hov : operandsV e.op = -1 := by
   unfold operandsV
   rw [if_neg (by omega), if_neg (by omega), if_neg (by omega), if_pos (by omega)]
  rw [hov, decide_eq_false (by omega), Bool.false_and] at hR
  rw [hR]
  have p3 : decide (16 ≤ e.op) = true := decide_eq_true h3
  refine pure_enter Try.func44 rfl (by decide) _ Try.ntmps44 (le_ok rfl) (fun w Pr hE => ?_)
  dsimp only [slotsOf, Nat.zero_add, Nat.reduceAdd]
  repeat' (first | refine nx ?_ | (apply aq_block_y; decide) | (apply qr_move; refine r_move ?_) | (apply qr_assign; refine r_assign ?_) | (apply at_cond; first | refine c_t ?_ | refine c_f ?_ | (refine aw_cond rfl (fun hb => ?_) (fun hb => ?_) <;> ((try have hq := dX hb); (try (exfalso; omega))))) | (apply at_guard; first | refine g_go ?_ | refine g_nt ?_ | refine g_nf ?_ | refine g_nu ?_ | ((first | refine al_split_t rfl rfl (lt_ok rfl) (fun hb => ?_) (fun hb => ?_) | refine al_split_f rfl rfl (lt_ok rfl) (fun hb => ?_) (fun hb => ?_)) <;> ((try have hq := dX hb); (try (exfalso; omega))))) | (apply qr_pick; refine r_pick ?_) | (apply qr_lss; refine r_lss ?_) | (apply qr_geq; refine r_geq ?_) | (apply qr_load; refine r_load ?_) | (apply qr_faddr; refine r_faddr ?_) | (apply qr_boxed; refine r_boxed ?_))
  refine rt1 ?_
  rfl
 have p3 : decide (16 ≤ e.op) = false := decide_eq_false h3
 have p4 : decide (e.op = 0) = false := decide_eq_false (by omega)
 have r1 : decide (e.op = 1) = false := decide_eq_false (by omega)
 have r2 : decide (e.op = 2) = false := decide_eq_false (by omega)
 have r3 : decide (e.op = 3) = false := decide_eq_false (by omega)
 have p7 : (!decide (e.op = 0)) = true := by rw [p4]; rfl
 rw [← hlen] at hR
 generalize hm : ((Ex.rows e.args).length : Int) = m at hR
 by_cases h12 : e.op = 12
 ·have p5 : decide (e.op = 12) = true := decide_eq_true h12
  have p6 : decide (e.op = 15) = false := decide_eq_false (by omega)
  have hov : operandsV e.op = 1 := by simp [operandsV, h12]
  rw [hov] at hR
  cases hl : decide (m = 1)
  ·rw [hl, Bool.false_and] at hR
   rw [hR]
   have p8 : (!decide (((Ex.rows e.args).length : Int) = 1)) = true := by rw [hm, hl]; rfl
   refine pure_enter Try.func44 rfl (by decide) _ Try.ntmps44 (le_ok rfl) (fun w Pr hE => ?_)
   dsimp only [slotsOf, Nat.zero_add, Nat.reduceAdd]
   repeat' (first | refine nx ?_ | (apply aq_block_y; decide) | (apply qr_move; refine r_move ?_) | (apply qr_assign; refine r_assign ?_) | (apply at_cond; first | refine c_t ?_ | refine c_f ?_ | (refine aw_cond rfl (fun hb => ?_) (fun hb => ?_) <;> ((try have hq := dX hb); (try (exfalso; omega))))) | (apply at_guard; first | refine g_go ?_ | refine g_nt ?_ | refine g_nf ?_ | refine g_nu ?_ | ((first | refine al_split_t rfl rfl (lt_ok rfl) (fun hb => ?_) (fun hb => ?_) | refine al_split_f rfl rfl (lt_ok rfl) (fun hb => ?_) (fun hb => ?_)) <;> ((try have hq := dX hb); (try (exfalso; omega))))) | (apply qr_pick; refine r_pick ?_) | (apply qr_lss; refine r_lss ?_) | (apply qr_geq; refine r_geq ?_) | (apply qr_eql; refine r_eql ?_) | (apply qr_neq; refine r_neq ?_) | (apply qr_len; refine r_len ?_) | (apply qr_load; refine r_load ?_) | (apply qr_faddr; refine r_faddr ?_) | (apply qr_boxed; refine r_boxed ?_))
   refine rt1 ?_
   rfl
  rw [hl, Bool.true_and] at hR
  have p8 : (!decide (((Ex.rows e.args).length : Int) = 1)) = false := by rw [hm, hl]; rfl
  cases hu : decide (e.unit = 0)
  ·rw [hu, Bool.and_false, Bool.false_and, Bool.false_and] at hR
   rw [hR]
   have p9 : (!decide (e.unit = 0)) = true := by rw [hu]; rfl
   refine pure_enter Try.func44 rfl (by decide) _ Try.ntmps44 (le_ok rfl) (fun w Pr hE => ?_)
   dsimp only [slotsOf, Nat.zero_add, Nat.reduceAdd]
   repeat' (first | refine nx ?_ | (apply aq_block_y; decide) | (apply qr_move; refine r_move ?_) | (apply qr_assign; refine r_assign ?_) | (apply at_cond; first | refine c_t ?_ | refine c_f ?_ | (refine aw_cond rfl (fun hb => ?_) (fun hb => ?_) <;> ((try have hq := dX hb); (try (exfalso; omega))))) | (apply at_guard; first | refine g_go ?_ | refine g_nt ?_ | refine g_nf ?_ | refine g_nu ?_ | ((first | refine al_split_t rfl rfl (lt_ok rfl) (fun hb => ?_) (fun hb => ?_) | refine al_split_f rfl rfl (lt_ok rfl) (fun hb => ?_) (fun hb => ?_)) <;> ((try have hq := dX hb); (try (exfalso; omega))))) | (apply qr_pick; refine r_pick ?_) | (apply qr_lss; refine r_lss ?_) | (apply qr_geq; refine r_geq ?_) | (apply qr_eql; refine r_eql ?_) | (apply qr_neq; refine r_neq ?_) | (apply qr_len; refine r_len ?_) | (apply qr_load; refine r_load ?_) | (apply qr_faddr; refine r_faddr ?_) | (apply qr_boxed; refine r_boxed ?_))
   refine rt1 ?_
   rfl
  have p9 : (!decide (e.unit = 0)) = false := by rw [hu]; rfl
  cases hn : decide (e.num = 0)
  ·rw [hn, Bool.false_and, Bool.false_and, Bool.false_and] at hR
   rw [hR]
   have p10 : (!decide (e.num = 0)) = true := by rw [hn]; rfl
   refine pure_enter Try.func44 rfl (by decide) _ Try.ntmps44 (le_ok rfl) (fun w Pr hE => ?_)
   dsimp only [slotsOf, Nat.zero_add, Nat.reduceAdd]
   repeat' (first | refine nx ?_ | (apply aq_block_y; decide) | (apply qr_move; refine r_move ?_) | (apply qr_assign; refine r_assign ?_) | (apply at_cond; first | refine c_t ?_ | refine c_f ?_ | (refine aw_cond rfl (fun hb => ?_) (fun hb => ?_) <;> ((try have hq := dX hb); (try (exfalso; omega))))) | (apply at_guard; first | refine g_go ?_ | refine g_nt ?_ | refine g_nf ?_ | refine g_nu ?_ | ((first | refine al_split_t rfl rfl (lt_ok rfl) (fun hb => ?_) (fun hb => ?_) | refine al_split_f rfl rfl (lt_ok rfl) (fun hb => ?_) (fun hb => ?_)) <;> ((try have hq := dX hb); (try (exfalso; omega))))) | (apply qr_pick; refine r_pick ?_) | (apply qr_lss; refine r_lss ?_) | (apply qr_geq; refine r_geq ?_) | (apply qr_eql; refine r_eql ?_) | (apply qr_neq; refine r_neq ?_) | (apply qr_len; refine r_len ?_) | (apply qr_load; refine r_load ?_) | (apply qr_faddr; refine r_faddr ?_) | (apply qr_boxed; refine r_boxed ?_))
   refine rt1 ?_
   rfl
  have p10 : (!decide (e.num = 0)) = false := by rw [hn]; rfl
  rw [hu, hn, Bool.true_and, Bool.true_and] at hR
  refine pure_enter Try.func44 rfl (by decide) _ Try.ntmps44 (le_ok rfl) (fun w Pr hE => ?_)
  dsimp only [slotsOf, Nat.zero_add, Nat.reduceAdd]
  repeat' (first | refine nx ?_ | (apply aq_block_y; decide) | (apply qr_move; refine r_move ?_) | (apply qr_assign; refine r_assign ?_) | (apply at_cond; first | refine c_t ?_ | refine c_f ?_ | (refine aw_cond rfl (fun hb => ?_) (fun hb => ?_) <;> ((try have hq := dX hb); (try (exfalso; omega))))) | (apply at_guard; first | refine g_go ?_ | refine g_nt ?_ | refine g_nf ?_ | refine g_nu ?_ | ((first | refine al_split_t rfl rfl (lt_ok rfl) (fun hb => ?_) (fun hb => ?_) | refine al_split_f rfl rfl (lt_ok rfl) (fun hb => ?_) (fun hb => ?_)) <;> ((try have hq := dX hb); (try (exfalso; omega))))) | (apply qr_pick; refine r_pick ?_) | (apply qr_lss; refine r_lss ?_) | (apply qr_geq; refine r_geq ?_) | (apply qr_eql; refine r_eql ?_) | (apply qr_neq; refine r_neq ?_) | (apply qr_len; refine r_len ?_) | (apply qr_load; refine r_load ?_) | (apply qr_faddr; refine r_faddr ?_) | (apply qr_boxed; refine r_boxed ?_))
  refine aw_lp (fun N sl ob => ∃ i : Nat, N = e.args.length - i ∧ i ≤ e.args.length ∧ ((e.args.take i).all fun x => x.right d) = true ∧ sl = [(7, .d (.int i)), (4, .d (.bool false)), (2, .box 2 0), (1, .d (.int ((d + 1 : Nat) : Int)))] ∧ ob = [(2, exO' e)]) (⟨0, rfl, Nat.zero_le _, by simp, rfl, rfl⟩) ?_
  rintro N sl ob ⟨i, rfl, hi, ha, rfl, rfl⟩
  by_cases hlt : i < e.args.length
  ·have hg := rows_get hlt
   have hc := ih e.args[i] (tame_get he hlt)
   have hw : ((d + 1 : Nat) : Int) - 1 = d := by omega
   rw [← hw] at hc
   have hnx := all_take (fun x : Ex => x.right d) hlt
   rw [ha, Bool.true_and] at hnx
   have q : decide ((i : Int) < (Ex.rows e.args).length) = true := decide_eq_true (by omega)
   cases hT : e.args[i].right d
   ·rw [hT] at hc
    have hany : (e.args.all fun x => x.right d) = false := by
     rw [Bool.eq_false_iff, Ne, List.all_eq_true]
     intro h
     have := h _ (List.getElem_mem hlt)
     rw [hT] at this
     cases this
    rw [hany, Bool.and_false] at hR
    rw [hR]
    generalize e.args[i] = z at hg hc
    repeat' (first | (apply at_op (.indexAddr _ _ _); refine al_ixq hg ?_) | (apply at_call; refine k_call (hc) hE ?_; rintro _ rfl) | refine nx ?_ | (apply aq_block_y; decide) | (apply qr_move; refine r_move ?_) | (apply qr_assign; refine r_assign ?_) | (apply at_cond; first | refine c_t ?_ | refine c_f ?_ | (refine aw_cond rfl (fun hb => ?_) (fun hb => ?_) <;> ((try have hq := dX hb); (try (exfalso; omega))))) | (apply qr_lss; refine r_lss ?_) | (apply qr_sub; refine r_sub ?_) | (apply qr_not; refine r_not ?_) | (apply qr_len; refine r_len ?_) | (apply qr_ix; refine r_ix ?_) | (apply qr_load; refine r_load ?_) | (apply qr_faddr; refine r_faddr ?_))
    refine rt1 ?_
    rfl
   ·rw [hT] at hc hnx
    generalize e.args[i] = z at hg hc
    repeat' (first | (apply at_op (.indexAddr _ _ _); refine al_ixq hg ?_) | (apply at_call; refine k_call (hc) hE ?_; rintro _ rfl) | refine nx ?_ | (apply aq_block_y; decide) | (apply qr_move; refine r_move ?_) | (apply qr_assign; refine r_assign ?_) | (apply at_cond; first | refine c_t ?_ | refine c_f ?_ | (refine aw_cond rfl (fun hb => ?_) (fun hb => ?_) <;> ((try have hq := dX hb); (try (exfalso; omega))))) | (apply qr_lss; refine r_lss ?_) | (apply qr_add; refine r_add ?_) | (apply qr_sub; refine r_sub ?_) | (apply qr_not; refine r_not ?_) | (apply qr_len; refine r_len ?_) | (apply qr_ix; refine r_ix ?_) | (apply qr_load; refine r_load ?_) | (apply qr_faddr; refine r_faddr ?_))
    refine aq_rd (⟨i + 1, rfl, by omega, hnx, rfl, rfl⟩) (by omega)
  ·rw [List.take_of_length_le (by omega)] at ha
   rw [ha, Bool.and_true] at hR
   rw [hR]
   have q : decide ((i : Int) < (Ex.rows e.args).length) = false := decide_eq_false (by omega)
   repeat' (first | refine nx ?_ | (apply aq_block_y; decide) | (apply qr_move; refine r_move ?_) | (apply qr_assign; refine r_assign ?_) | (apply at_cond; first | refine c_t ?_ | refine c_f ?_ | (refine aw_cond rfl (fun hb => ?_) (fun hb => ?_) <;> ((try have hq := dX hb); (try (exfalso; omega))))) | (apply qr_lss; refine r_lss ?_) | (apply qr_eql; refine r_eql ?_) | (apply qr_len; refine r_len ?_) | (apply qr_load; refine r_load ?_) | (apply qr_faddr; refine r_faddr ?_))
   refine rt1 ?_
   rfl
 have p5 : decide (e.op = 12) = false := decide_eq_false h12
 by_cases h15 : e.op = 15
 ·have p6 : decide (e.op = 15) = true := decide_eq_true h15
  have hov : operandsV e.op = 3 := by simp [operandsV, h15]
  rw [hov] at hR
  cases hl : decide (m = 3)
  ·rw [hl, Bool.false_and] at hR
   rw [hR]
   have p8 : (!decide (((Ex.rows e.args).length : Int) = 3)) = true := by rw [hm, hl]; rfl
   refine pure_enter Try.func44 rfl (by decide) _ Try.ntmps44 (le_ok rfl) (fun w Pr hE => ?_)
   dsimp only [slotsOf, Nat.zero_add, Nat.reduceAdd]
   repeat' (first | refine nx ?_ | (apply aq_block_y; decide) | (apply qr_move; refine r_move ?_) | (apply qr_assign; refine r_assign ?_) | (apply at_cond; first | refine c_t ?_ | refine c_f ?_ | (refine aw_cond rfl (fun hb => ?_) (fun hb => ?_) <;> ((try have hq := dX hb); (try (exfalso; omega))))) | (apply at_guard; first | refine g_go ?_ | refine g_nt ?_ | refine g_nf ?_ | refine g_nu ?_ | ((first | refine al_split_t rfl rfl (lt_ok rfl) (fun hb => ?_) (fun hb => ?_) | refine al_split_f rfl rfl (lt_ok rfl) (fun hb => ?_) (fun hb => ?_)) <;> ((try have hq := dX hb); (try (exfalso; omega))))) | (apply qr_pick; refine r_pick ?_) | (apply qr_lss; refine r_lss ?_) | (apply qr_geq; refine r_geq ?_) | (apply qr_eql; refine r_eql ?_) | (apply qr_neq; refine r_neq ?_) | (apply qr_len; refine r_len ?_) | (apply qr_load; refine r_load ?_) | (apply qr_faddr; refine r_faddr ?_) | (apply qr_boxed; refine r_boxed ?_))
   refine rt1 ?_
   rfl
  rw [hl, Bool.true_and] at hR
  have p8 : (!decide (((Ex.rows e.args).length : Int) = 3)) = false := by rw [hm, hl]; rfl
  cases hu : decide (e.unit = 0)
  ·rw [hu, Bool.and_false, Bool.false_and, Bool.false_and] at hR
   rw [hR]
   have p9 : (!decide (e.unit = 0)) = true := by rw [hu]; rfl
   refine pure_enter Try.func44 rfl (by decide) _ Try.ntmps44 (le_ok rfl) (fun w Pr hE => ?_)
   dsimp only [slotsOf, Nat.zero_add, Nat.reduceAdd]
   repeat' (first | refine nx ?_ | (apply aq_block_y; decide) | (apply qr_move; refine r_move ?_) | (apply qr_assign; refine r_assign ?_) | (apply at_cond; first | refine c_t ?_ | refine c_f ?_ | (refine aw_cond rfl (fun hb => ?_) (fun hb => ?_) <;> ((try have hq := dX hb); (try (exfalso; omega))))) | (apply at_guard; first | refine g_go ?_ | refine g_nt ?_ | refine g_nf ?_ | refine g_nu ?_ | ((first | refine al_split_t rfl rfl (lt_ok rfl) (fun hb => ?_) (fun hb => ?_) | refine al_split_f rfl rfl (lt_ok rfl) (fun hb => ?_) (fun hb => ?_)) <;> ((try have hq := dX hb); (try (exfalso; omega))))) | (apply qr_pick; refine r_pick ?_) | (apply qr_lss; refine r_lss ?_) | (apply qr_geq; refine r_geq ?_) | (apply qr_eql; refine r_eql ?_) | (apply qr_neq; refine r_neq ?_) | (apply qr_len; refine r_len ?_) | (apply qr_load; refine r_load ?_) | (apply qr_faddr; refine r_faddr ?_) | (apply qr_boxed; refine r_boxed ?_))
   refine rt1 ?_
   rfl
  have p9 : (!decide (e.unit = 0)) = false := by rw [hu]; rfl
  cases hn : decide (e.num = 0)
  ·rw [hn, Bool.false_and, Bool.false_and, Bool.false_and] at hR
   rw [hR]
   have p10 : (!decide (e.num = 0)) = true := by rw [hn]; rfl
   refine pure_enter Try.func44 rfl (by decide) _ Try.ntmps44 (le_ok rfl) (fun w Pr hE => ?_)
   dsimp only [slotsOf, Nat.zero_add, Nat.reduceAdd]
   repeat' (first | refine nx ?_ | (apply aq_block_y; decide) | (apply qr_move; refine r_move ?_) | (apply qr_assign; refine r_assign ?_) | (apply at_cond; first | refine c_t ?_ | refine c_f ?_ | (refine aw_cond rfl (fun hb => ?_) (fun hb => ?_) <;> ((try have hq := dX hb); (try (exfalso; omega))))) | (apply at_guard; first | refine g_go ?_ | refine g_nt ?_ | refine g_nf ?_ | refine g_nu ?_ | ((first | refine al_split_t rfl rfl (lt_ok rfl) (fun hb => ?_) (fun hb => ?_) | refine al_split_f rfl rfl (lt_ok rfl) (fun hb => ?_) (fun hb => ?_)) <;> ((try have hq := dX hb); (try (exfalso; omega))))) | (apply qr_pick; refine r_pick ?_) | (apply qr_lss; refine r_lss ?_) | (apply qr_geq; refine r_geq ?_) | (apply qr_eql; refine r_eql ?_) | (apply qr_neq; refine r_neq ?_) | (apply qr_len; refine r_len ?_) | (apply qr_load; refine r_load ?_) | (apply qr_faddr; refine r_faddr ?_) | (apply qr_boxed; refine r_boxed ?_))
   refine rt1 ?_
   rfl
  have p10 : (!decide (e.num = 0)) = false := by rw [hn]; rfl
  rw [hu, hn, Bool.true_and, Bool.true_and] at hR
  refine pure_enter Try.func44 rfl (by decide) _ Try.ntmps44 (le_ok rfl) (fun w Pr hE => ?_)
  dsimp only [slotsOf, Nat.zero_add, Nat.reduceAdd]
  repeat' (first | refine nx ?_ | (apply aq_block_y; decide) | (apply qr_move; refine r_move ?_) | (apply qr_assign; refine r_assign ?_) | (apply at_cond; first | refine c_t ?_ | refine c_f ?_ | (refine aw_cond rfl (fun hb => ?_) (fun hb => ?_) <;> ((try have hq := dX hb); (try (exfalso; omega))))) | (apply at_guard; first | refine g_go ?_ | refine g_nt ?_ | refine g_nf ?_ | refine g_nu ?_ | ((first | refine al_split_t rfl rfl (lt_ok rfl) (fun hb => ?_) (fun hb => ?_) | refine al_split_f rfl rfl (lt_ok rfl) (fun hb => ?_) (fun hb => ?_)) <;> ((try have hq := dX hb); (try (exfalso; omega))))) | (apply qr_pick; refine r_pick ?_) | (apply qr_lss; refine r_lss ?_) | (apply qr_geq; refine r_geq ?_) | (apply qr_eql; refine r_eql ?_) | (apply qr_neq; refine r_neq ?_) | (apply qr_len; refine r_len ?_) | (apply qr_load; refine r_load ?_) | (apply qr_faddr; refine r_faddr ?_) | (apply qr_boxed; refine r_boxed ?_))
  refine aw_lp (fun N sl ob => ∃ i : Nat, N = e.args.length - i ∧ i ≤ e.args.length ∧ ((e.args.take i).all fun x => x.right d) = true ∧ sl = [(7, .d (.int i)), (4, .d (.bool false)), (2, .box 2 0), (1, .d (.int ((d + 1 : Nat) : Int)))] ∧ ob = [(2, exO' e)]) (⟨0, rfl, Nat.zero_le _, by simp, rfl, rfl⟩) ?_
  rintro N sl ob ⟨i, rfl, hi, ha, rfl, rfl⟩
  by_cases hlt : i < e.args.length
  ·have hg := rows_get hlt
   have hc := ih e.args[i] (tame_get he hlt)
   have hw : ((d + 1 : Nat) : Int) - 1 = d := by omega
   rw [← hw] at hc
   have hnx := all_take (fun x : Ex => x.right d) hlt
   rw [ha, Bool.true_and] at hnx
   have q : decide ((i : Int) < (Ex.rows e.args).length) = true := decide_eq_true (by omega)
   cases hT : e.args[i].right d
   ·rw [hT] at hc
    have hany : (e.args.all fun x => x.right d) = false := by
     rw [Bool.eq_false_iff, Ne, List.all_eq_true]
     intro h
     have := h _ (List.getElem_mem hlt)
     rw [hT] at this
     cases this
    rw [hany, Bool.and_false] at hR
    rw [hR]
    generalize e.args[i] = z at hg hc
    repeat' (first | (apply at_op (.indexAddr _ _ _); refine al_ixq hg ?_) | (apply at_call; refine k_call (hc) hE ?_; rintro _ rfl) | refine nx ?_ | (apply aq_block_y; decide) | (apply qr_move; refine r_move ?_) | (apply qr_assign; refine r_assign ?_) | (apply at_cond; first | refine c_t ?_ | refine c_f ?_ | (refine aw_cond rfl (fun hb => ?_) (fun hb => ?_) <;> ((try have hq := dX hb); (try (exfalso; omega))))) | (apply qr_lss; refine r_lss ?_) | (apply qr_sub; refine r_sub ?_) | (apply qr_not; refine r_not ?_) | (apply qr_len; refine r_len ?_) | (apply qr_ix; refine r_ix ?_) | (apply qr_load; refine r_load ?_) | (apply qr_faddr; refine r_faddr ?_))
    refine rt1 ?_
    rfl
   ·rw [hT] at hc hnx
    generalize e.args[i] = z at hg hc
    repeat' (first | (apply at_op (.indexAddr _ _ _); refine al_ixq hg ?_) | (apply at_call; refine k_call (hc) hE ?_; rintro _ rfl) | refine nx ?_ | (apply aq_block_y; decide) | (apply qr_move; refine r_move ?_) | (apply qr_assign; refine r_assign ?_) | (apply at_cond; first | refine c_t ?_ | refine c_f ?_ | (refine aw_cond rfl (fun hb => ?_) (fun hb => ?_) <;> ((try have hq := dX hb); (try (exfalso; omega))))) | (apply qr_lss; refine r_lss ?_) | (apply qr_add; refine r_add ?_) | (apply qr_sub; refine r_sub ?_) | (apply qr_not; refine r_not ?_) | (apply qr_len; refine r_len ?_) | (apply qr_ix; refine r_ix ?_) | (apply qr_load; refine r_load ?_) | (apply qr_faddr; refine r_faddr ?_))
    refine aq_rd (⟨i + 1, rfl, by omega, hnx, rfl, rfl⟩) (by omega)
  ·rw [List.take_of_length_le (by omega)] at ha
   rw [ha, Bool.and_true] at hR
   rw [hR]
   have q : decide ((i : Int) < (Ex.rows e.args).length) = false := decide_eq_false (by omega)
   repeat' (first | refine nx ?_ | (apply aq_block_y; decide) | (apply qr_move; refine r_move ?_) | (apply qr_assign; refine r_assign ?_) | (apply at_cond; first | refine c_t ?_ | refine c_f ?_ | (refine aw_cond rfl (fun hb => ?_) (fun hb => ?_) <;> ((try have hq := dX hb); (try (exfalso; omega))))) | (apply qr_lss; refine r_lss ?_) | (apply qr_eql; refine r_eql ?_) | (apply qr_len; refine r_len ?_) | (apply qr_load; refine r_load ?_) | (apply qr_faddr; refine r_faddr ?_))
   refine rt1 ?_
   rfl
 have p6 : decide (e.op = 15) = false := decide_eq_false h15
 have hov : operandsV e.op = 2 := by
  unfold operandsV
  rw [if_neg (by omega), if_neg (by omega), if_neg (by omega), if_neg (by omega)]
 rw [hov] at hR
 cases hl : decide (m = 2)
 ·rw [hl, Bool.false_and] at hR
  rw [hR]
  have p8 : (!decide (((Ex.rows e.args).length : Int) = 2)) = true := by rw [hm, hl]; rfl
  refine pure_enter Try.func44 rfl (by decide) _ Try.ntmps44 (le_ok rfl) (fun w Pr hE => ?_)
  dsimp only [slotsOf, Nat.zero_add, Nat.reduceAdd]
  repeat' (first | refine nx ?_ | (apply aq_block_y; decide) | (apply qr_move; refine r_move ?_) | (apply qr_assign; refine r_assign ?_) | (apply at_cond; first | refine c_t ?_ | refine c_f ?_ | (refine aw_cond rfl (fun hb => ?_) (fun hb => ?_) <;> ((try have hq := dX hb); (try (exfalso; omega))))) | (apply at_guard; first | refine g_go ?_ | refine g_nt ?_ | refine g_nf ?_ | refine g_nu ?_ | ((first | refine al_split_t rfl rfl (lt_ok rfl) (fun hb => ?_) (fun hb => ?_) | refine al_split_f rfl rfl (lt_ok rfl) (fun hb => ?_) (fun hb => ?_)) <;> ((try have hq := dX hb); (try (exfalso; omega))))) | (apply qr_pick; refine r_pick ?_) | (apply qr_lss; refine r_lss ?_) | (apply qr_geq; refine r_geq ?_) | (apply qr_eql; refine r_eql ?_) | (apply qr_neq; refine r_neq ?_) | (apply qr_len; refine r_len ?_) | (apply qr_load; refine r_load ?_) | (apply qr_faddr; refine r_faddr ?_) | (apply qr_boxed; refine r_boxed ?_))
  refine rt1 ?_
  rfl
 rw [hl, Bool.true_and] at hR
 have p8 : (!decide (((Ex.rows e.args).length : Int) = 2)) = false := by rw [hm, hl]; rfl
 cases hu : decide (e.unit = 0)
 ·rw [hu, Bool.and_false, Bool.false_and, Bool.false_and] at hR
  rw [hR]
  have p9 : (!decide (e.unit = 0)) = true := by rw [hu]; rfl
  refine pure_enter Try.func44 rfl (by decide) _ Try.ntmps44 (le_ok rfl) (fun w Pr hE => ?_)
  dsimp only [slotsOf, Nat.zero_add, Nat.reduceAdd]
  repeat' (first | refine nx ?_ | (apply aq_block_y; decide) | (apply qr_move; refine r_move ?_) | (apply qr_assign; refine r_assign ?_) | (apply at_cond; first | refine c_t ?_ | refine c_f ?_ | (refine aw_cond rfl (fun hb => ?_) (fun hb => ?_) <;> ((try have hq := dX hb); (try (exfalso; omega))))) | (apply at_guard; first | refine g_go ?_ | refine g_nt ?_ | refine g_nf ?_ | refine g_nu ?_ | ((first | refine al_split_t rfl rfl (lt_ok rfl) (fun hb => ?_) (fun hb => ?_) | refine al_split_f rfl rfl (lt_ok rfl) (fun hb => ?_) (fun hb => ?_)) <;> ((try have hq := dX hb); (try (exfalso; omega))))) | (apply qr_pick; refine r_pick ?_) | (apply qr_lss; refine r_lss ?_) | (apply qr_geq; refine r_geq ?_) | (apply qr_eql; refine r_eql ?_) | (apply qr_neq; refine r_neq ?_) | (apply qr_len; refine r_len ?_) | (apply qr_load; refine r_load ?_) | (apply qr_faddr; refine r_faddr ?_) | (apply qr_boxed; refine r_boxed ?_))
  refine rt1 ?_
  rfl
 have p9 : (!decide (e.unit = 0)) = false := by rw [hu]; rfl
 cases hn : decide (e.num = 0)
 ·rw [hn, Bool.false_and, Bool.false_and, Bool.false_and] at hR
  rw [hR]
  have p10 : (!decide (e.num = 0)) = true := by rw [hn]; rfl
  refine pure_enter Try.func44 rfl (by decide) _ Try.ntmps44 (le_ok rfl) (fun w Pr hE => ?_)
  dsimp only [slotsOf, Nat.zero_add, Nat.reduceAdd]
  repeat' (first | refine nx ?_ | (apply aq_block_y; decide) | (apply qr_move; refine r_move ?_) | (apply qr_assign; refine r_assign ?_) | (apply at_cond; first | refine c_t ?_ | refine c_f ?_ | (refine aw_cond rfl (fun hb => ?_) (fun hb => ?_) <;> ((try have hq := dX hb); (try (exfalso; omega))))) | (apply at_guard; first | refine g_go ?_ | refine g_nt ?_ | refine g_nf ?_ | refine g_nu ?_ | ((first | refine al_split_t rfl rfl (lt_ok rfl) (fun hb => ?_) (fun hb => ?_) | refine al_split_f rfl rfl (lt_ok rfl) (fun hb => ?_) (fun hb => ?_)) <;> ((try have hq := dX hb); (try (exfalso; omega))))) | (apply qr_pick; refine r_pick ?_) | (apply qr_lss; refine r_lss ?_) | (apply qr_geq; refine r_geq ?_) | (apply qr_eql; refine r_eql ?_) | (apply qr_neq; refine r_neq ?_) | (apply qr_len; refine r_len ?_) | (apply qr_load; refine r_load ?_) | (apply qr_faddr; refine r_faddr ?_) | (apply qr_boxed; refine r_boxed ?_))
  refine rt1 ?_
  rfl
 have p10 : (!decide (e.num = 0)) = false := by rw [hn]; rfl
 rw [hu, hn, Bool.true_and, Bool.true_and] at hR
 refine pure_enter Try.func44 rfl (by decide) _ Try.ntmps44 (le_ok rfl) (fun w Pr hE => ?_)
 dsimp only [slotsOf, Nat.zero_add, Nat.reduceAdd]
 repeat' (first | refine nx ?_ | (apply aq_block_y; decide) | (apply qr_move; refine r_move ?_) | (apply qr_assign; refine r_assign ?_) | (apply at_cond; first | refine c_t ?_ | refine c_f ?_ | (refine aw_cond rfl (fun hb => ?_) (fun hb => ?_) <;> ((try have hq := dX hb); (try (exfalso; omega))))) | (apply at_guard; first | refine g_go ?_ | refine g_nt ?_ | refine g_nf ?_ | refine g_nu ?_ | ((first | refine al_split_t rfl rfl (lt_ok rfl) (fun hb => ?_) (fun hb => ?_) | refine al_split_f rfl rfl (lt_ok rfl) (fun hb => ?_) (fun hb => ?_)) <;> ((try have hq := dX hb); (try (exfalso; omega))))) | (apply qr_pick; refine r_pick ?_) | (apply qr_lss; refine r_lss ?_) | (apply qr_geq; refine r_geq ?_) | (apply qr_eql; refine r_eql ?_) | (apply qr_neq; refine r_neq ?_) | (apply qr_len; refine r_len ?_) | (apply qr_load; refine r_load ?_) | (apply qr_faddr; refine r_faddr ?_) | (apply qr_boxed; refine r_boxed ?_))
 refine aw_lp (fun N sl ob => ∃ i : Nat, N = e.args.length - i ∧ i ≤ e.args.length ∧ ((e.args.take i).all fun x => x.right d) = true ∧ sl = [(7, .d (.int i)), (4, .d (.bool false)), (2, .box 2 0), (1, .d (.int ((d + 1 : Nat) : Int)))] ∧ ob = [(2, exO' e)]) (⟨0, rfl, Nat.zero_le _, by simp, rfl, rfl⟩) ?_
 rintro N sl ob ⟨i, rfl, hi, ha, rfl, rfl⟩
 by_cases hlt : i < e.args.length
 ·have hg := rows_get hlt
  have hc := ih e.args[i] (tame_get he hlt)
  have hw : ((d + 1 : Nat) : Int) - 1 = d := by omega
  rw [← hw] at hc
  have hnx := all_take (fun x : Ex => x.right d) hlt
  rw [ha, Bool.true_and] at hnx
  have q : decide ((i : Int) < (Ex.rows e.args).length) = true := decide_eq_true (by omega)
  cases hT : e.args[i].right d
  ·rw [hT] at hc
   have hany : (e.args.all fun x => x.right d) = false := by
    rw [Bool.eq_false_iff, Ne, List.all_eq_true]
    intro h
    have := h _ (List.getElem_mem hlt)
    rw [hT] at this
    cases this
   rw [hany, Bool.and_false] at hR
   rw [hR]
   generalize e.args[i] = z at hg hc
   repeat' (first | (apply at_op (.indexAddr _ _ _); refine al_ixq hg ?_) | (apply at_call; refine k_call (hc) hE ?_; rintro _ rfl) | refine nx ?_ | (apply aq_block_y; decide) | (apply qr_move; refine r_move ?_) | (apply qr_assign; refine r_assign ?_) | (apply at_cond; first | refine c_t ?_ | refine c_f ?_ | (refine aw_cond rfl (fun hb => ?_) (fun hb => ?_) <;> ((try have hq := dX hb); (try (exfalso; omega))))) | (apply qr_lss; refine r_lss ?_) | (apply qr_sub; refine r_sub ?_) | (apply qr_not; refine r_not ?_) | (apply qr_len; refine r_len ?_) | (apply qr_ix; refine r_ix ?_) | (apply qr_load; refine r_load ?_) | (apply qr_faddr; refine r_faddr ?_))
   refine rt1 ?_
   rfl
  ·rw [hT] at hc hnx
   generalize e.args[i] = z at hg hc
   repeat' (first | (apply at_op (.indexAddr _ _ _); refine al_ixq hg ?_) | (apply at_call; refine k_call (hc) hE ?_; rintro _ rfl) | refine nx ?_ | (apply aq_block_y; decide) | (apply qr_move; refine r_move ?_) | (apply qr_assign; refine r_assign ?_) | (apply at_cond; first | refine c_t ?_ | refine c_f ?_ | (refine aw_cond rfl (fun hb => ?_) (fun hb => ?_) <;> ((try have hq := dX hb); (try (exfalso; omega))))) | (apply qr_lss; refine r_lss ?_) | (apply qr_add; refine r_add ?_) | (apply qr_sub; refine r_sub ?_) | (apply qr_not; refine r_not ?_) | (apply qr_len; refine r_len ?_) | (apply qr_ix; refine r_ix ?_) | (apply qr_load; refine r_load ?_) | (apply qr_faddr; refine r_faddr ?_))
   refine aq_rd (⟨i + 1, rfl, by omega, hnx, rfl, rfl⟩) (by omega)
 ·rw [List.take_of_length_le (by omega)] at ha
  rw [ha, Bool.and_true] at hR
  rw [hR]
  have q : decide ((i : Int) < (Ex.rows e.args).length) = false := decide_eq_false (by omega)
  repeat' (first | refine nx ?_ | (apply aq_block_y; decide) | (apply qr_move; refine r_move ?_) | (apply qr_assign; refine r_assign ?_) | (apply at_cond; first | refine c_t ?_ | refine c_f ?_ | (refine aw_cond rfl (fun hb => ?_) (fun hb => ?_) <;> ((try have hq := dX hb); (try (exfalso; omega))))) | (apply qr_lss; refine r_lss ?_) | (apply qr_eql; refine r_eql ?_) | (apply qr_len; refine r_len ?_) | (apply qr_load; refine r_load ?_) | (apply qr_faddr; refine r_faddr ?_))
  refine rt1 ?_
  rfl
theorem rright_any : ∀ d : Nat, d ≤ 1000000 → RRightC d
 | 0, _, e, he => by
  rw [right_zero]
  have p1 : decide (((0 : Nat) : Int) < 1) = true := rfl
  refine pure_enter Try.func44 rfl (by decide) _ Try.ntmps44 (le_ok rfl) (fun w Pr hE => ?_)
  dsimp only [slotsOf, Nat.zero_add, Nat.reduceAdd]
  repeat' (first | refine nx ?_ | (apply aq_block_y; decide) | (apply qr_move; refine r_move ?_) | (apply qr_assign; refine r_assign ?_) | (apply at_cond; first | refine c_t ?_ | refine c_f ?_ | (refine aw_cond rfl (fun hb => ?_) (fun hb => ?_) <;> ((try have hq := dX hb); (try (exfalso; omega))))) | (apply at_guard; first | refine g_go ?_ | refine g_nt ?_ | refine g_nf ?_ | refine g_nu ?_ | ((first | refine al_split_t rfl rfl (lt_ok rfl) (fun hb => ?_) (fun hb => ?_) | refine al_split_f rfl rfl (lt_ok rfl) (fun hb => ?_) (fun hb => ?_)) <;> ((try have hq := dX hb); (try (exfalso; omega))))) | (apply qr_pick; refine r_pick ?_) | (apply qr_lss; refine r_lss ?_) | (apply qr_geq; refine r_geq ?_) | (apply qr_load; refine r_load ?_) | (apply qr_faddr; refine r_faddr ?_) | (apply qr_boxed; refine r_boxed ?_))
  refine rt1 ?_
  rfl
 | d + 1, hd, e, he => by
  have ih := rright_any d (by omega)
  by_cases h : e.op = 0 ∨ e.op = 1 ∨ e.op = 2 ∨ e.op = 3
  ·rcases h with h | h
   ·exact rright_num (by omega) e he h
   ·exact rright_name (by omega) e he h
  ·exact rright_args (by omega) ih e he h
theorem rightExpW_any (e : Ex) (he : e.wide) : PureC 22 [.agg (exC e)] (· = .bool (e.right 12)) := by
 have hc := right_any 12 (by omega) e he
 refine pure_enter Try.func22 rfl (by decide) _ Try.ntmps22 (le_ok rfl) (fun w Pr hE => ?_)
 dsimp only [slotsOf, Nat.zero_add, Nat.reduceAdd]
 repeat' (first | (apply at_call; refine k_call (hc) hE ?_; rintro _ rfl) | refine nx ?_ | (apply qr_assign; refine r_assign ?_) | (apply qr_load; refine r_load ?_) | (apply qr_boxed; refine r_boxed ?_))
 refine rt1 ?_
 rfl
theorem rightExp_any (e : Ex) (he : e.tame) : PureC 22 [.agg (exC e)] (· = .bool (e.right 12)) := rightExpW_any e (tame_wide he)
theorem rrightExp_any (e : Ex) (he : e.tame) : PureC 34 [.agg (exC e)] (· = .bool (e.right 12)) := by
 have hc := rright_any 12 (by omega) e he
 refine pure_enter Try.func34 rfl (by decide) _ Try.ntmps34 (le_ok rfl) (fun w Pr hE => ?_)
 dsimp only [slotsOf, Nat.zero_add, Nat.reduceAdd]
 repeat' (first | (apply at_call; refine k_call (hc) hE ?_; rintro _ rfl) | refine nx ?_ | (apply qr_assign; refine r_assign ?_) | (apply qr_load; refine r_load ?_) | (apply qr_boxed; refine r_boxed ?_))
 refine rt1 ?_
 rfl
end Go.Proofs.Ytgiacdhffklenaa
end
section
namespace Go.Proofs.Ytgiacdhffklenaa
open Go.RowKit
end Go.Proofs.Ytgiacdhffklenaa
end
section
namespace Go.Proofs.Ytgiacdhffklenaa
open Go.RowKit
def fitsD (s : ByteArray) : D := if 4000 < s.size then .tup [.str ⟨#[]⟩, .int 6] else .tup [.str s, .int 0]
def printED (e : Ex) : D := if e.right 12 = true then fitsD (e.text 0) else .tup [.str ⟨#[]⟩, .int 1]
def wordV (op : Int) : ByteArray := if op = 15 then w_if else if op = 12 then w_not else if op = 8 then w_min else if op = 9 then w_max else match opInfo op with
 | some (t, _) => t.s
 | none => ⟨#[]⟩
end Go.Proofs.Ytgiacdhffklenaa
end
section
namespace Go.Proofs.Ytgiacdhffklenaa
open Go.RowKit
section
variable {d : Nat}
end
end Go.Proofs.Ytgiacdhffklenaa
end
section
namespace Go.Proofs.Ytgiacdhffklenaa
open Go.RowKit
mutual
def Ex.same : Ex → Ex → Bool
 | .mk o n u s a, .mk o' n' u' s' a' => decide (o = o') && (decide (n = n') && (decide (u = u') && (decide (s = s') && Ex.sameL a a')))
def Ex.sameL : List Ex → List Ex → Bool
 | [], [] => true
 | x :: r, y :: t => x.same y && Ex.sameL r t
 | [], _ :: _ => false
 | _ :: _, [] => false
end
abbrev SameC (n : Nat) (f : FuncId) : Prop := ∀ a b : Ex, a.levels ≤ n → a.tame → b.tame → PureC f [.agg (exC a), .agg (exC b)] (· = .bool (a.same b))
end Go.Proofs.Ytgiacdhffklenaa
end
section
namespace Go.Proofs.Ytgiacdhffklenaa
open Go.RowKit
end Go.Proofs.Ytgiacdhffklenaa
end
section
namespace Go.Proofs.Ytgiacdhffklenaa
open Go.RowKit
def letSame (p q : ByteArray × Ex) : Bool := decide (p.1 = q.1) && p.2.same q.2
def letsSame : List (ByteArray × Ex) → List (ByteArray × Ex) → Bool
 | [], [] => true
 | x :: r, y :: t => letSame x y && letsSame r t
 | [], _ :: _ => false
 | _ :: _, [] => false
def letTame (q : ByteArray × Ex) : Prop := q.1.size ≤ 100000 ∧ q.2.tame
structure By.tame (x : By) : Prop where
 name : x.name.size ≤ 100000
 len : x.lets.length ≤ 100000
 lets : ∀ q ∈ x.lets, letTame q
 admit : x.admit.tame
 fare : x.fare.tame
 late : x.late.tame
 noshow : x.noshow.tame
def By.same (a b : By) : Bool := decide (a.name = b.name) && (decide (a.quota = b.quota) && (decide (a.share = b.share) && (decide (a.change = b.change) && (letsSame a.lets b.lets && (a.admit.same b.admit && (a.fare.same b.fare && (a.late.same b.late && a.noshow.same b.noshow)))))))
abbrev letsD (l : List (ByteArray × Ex)) : D := .list 6 (l.map letC)
end Go.Proofs.Ytgiacdhffklenaa
end
section
namespace Go.Proofs.Ytgiacdhffklenaa
open Go.RowKit
abbrev byO' (x : By) : O := .box 27 [.d (.str x.name), .d (letsD x.lets), .d (.int x.admit.op), .d (.int x.admit.num), .d (.int x.admit.unit), .d (.str x.admit.str), .d (.list 5 (Ex.rows x.admit.args)), .d (.int x.fare.op), .d (.int x.fare.num), .d (.int x.fare.unit), .d (.str x.fare.str), .d (.list 5 (Ex.rows x.fare.args)), .d (.int x.late.op), .d (.int x.late.num), .d (.int x.late.unit), .d (.str x.late.str), .d (.list 5 (Ex.rows x.late.args)), .d (.int x.noshow.op), .d (.int x.noshow.num), .d (.int x.noshow.unit), .d (.str x.noshow.str), .d (.list 5 (Ex.rows x.noshow.args)), .d (.int x.quota), .d (.int x.share), .d (.int x.change)]
end Go.Proofs.Ytgiacdhffklenaa
end
section
set_option linter.unusedSimpArgs false
set_option linter.unusedVariables false
namespace Go.Proofs.Ytgiacdhffklenaa
open Go.RowKit
def uniqA (l : List ByteArray) (i : Nat) : Bool := nameV (l.getD i ⟨#[]⟩) && !((l.take i).any fun w => decide (w = l.getD i ⟨#[]⟩))
def uniqF (l : List ByteArray) : Bool := (List.range l.length).all (uniqA l)
def uniqV (l : List ByteArray) (most : Int) : Bool := uniqF l && decide ((l.length : Int) ≤ most)
theorem uniq_no {l : List ByteArray} {i : Nat} (h : i < l.length) (h1 : uniqA l i = false) : uniqF l = false := by
 rw [Bool.eq_false_iff, Ne, uniqF, List.all_eq_true]
 intro h2
 have := h2 i (List.mem_range.2 h)
 rw [h1] at this
 cases this
theorem uniq_yes {l : List ByteArray} (h : ∀ i < l.length, uniqA l i = true) : uniqF l = true := by
 rw [uniqF, List.all_eq_true]
 intro i hi
 exact h i (List.mem_range.1 hi)
theorem getD_at {l : List ByteArray} {i : Nat} (h : i < l.length) : l.getD i ⟨#[]⟩ = l[i] := by
 rw [List.getD_eq_getElem?_getD, List.getElem?_eq_getElem h]
 rfl
theorem map_take (l : List ByteArray) (i : Nat) : (l.map fun s => [D.str s]).take i = (l.take i).map fun s => [D.str s] := by rw [List.map_take]
theorem unique_any (l : List ByteArray) (most : Int) (hl : l.length ≤ 100000) (hs : ∀ s ∈ l, s.size ≤ 100000) : PureC 48 [strsD l, .int most] (· = .bool (uniqV l most)) := by
 have hm : (l.map fun s => [D.str s]).length = l.length := List.length_map ..
 unfold uniqV
 refine pure_enter Try.func48 rfl (by decide) _ Try.ntmps48 (le_ok rfl) (fun w Pr hE => ?_)
 dsimp only [slotsOf, Nat.zero_add, Nat.reduceAdd]
 repeat' (first | refine nx ?_ | (apply aq_block_y; decide) | (apply qr_move; refine r_move ?_) | (apply qr_assign; refine r_assign ?_) | (apply at_cond; first | refine c_t ?_ | refine c_f ?_ | (refine aw_cond rfl (fun hb => ?_) (fun hb => ?_) <;> ((try have hq := dX hb); (try (exfalso; omega))))) | (apply qr_len; refine r_len ?_))
 refine aw_lp (fun N sl ob => ∃ i : Nat, N = l.length - i ∧ i ≤ l.length ∧ (∀ j < i, uniqA l j = true) ∧ sl = [(9, .d (.int i)), (8, .d (.int (l.map fun s => [D.str s]).length)), (7, .d (strsD l)), (1, .d (.int most)), (0, .d (strsD l))] ∧ ob = []) (⟨0, rfl, Nat.zero_le _, fun j h => by omega, rfl, rfl⟩) ?_
 rintro N sl ob ⟨i, rfl, hi, ha, rfl, rfl⟩
 by_cases hlt : i < l.length
 ·have hg : (l.map fun s => [D.str s])[i]? = some [D.str l[i]] := by rw [get_map hlt]
  have hna := name_any l[i] (by have := hs _ (List.getElem_mem hlt); omega)
  have hcon := contains_str (l.take i) l[i] (by rw [List.length_take]; omega)
  have hdt : (l.take i).map (fun s => [D.str s]) = List.drop 0 (List.take i (l.map fun s => [D.str s])) := by rw [List.map_take]; rfl
  unfold strsD at hcon
  rw [hdt] at hcon
  have hu : uniqA l i = (nameV l[i] && !((l.take i).any fun w => decide (w = l[i]))) := by rw [uniqA, getD_at hlt]
  have q : decide ((i : Int) < (l.map fun s => [D.str s]).length) = true := decide_eq_true (by omega)
  generalize l[i] = x at hg hna hcon hu
  cases h1 : nameV x
  ·rw [h1] at hna
   rw [h1, Bool.false_and] at hu
   rw [uniq_no hlt hu, Bool.false_and]
   repeat' (first | (apply at_op (.indexAddr _ _ _); refine al_ixq hg ?_) | (apply at_call; refine k_call (hna) hE ?_; rintro _ rfl) | refine nx ?_ | (apply aq_block_y; decide) | (apply qr_move; refine r_move ?_) | (apply qr_assign; refine r_assign ?_) | (apply at_cond; first | refine c_t ?_ | refine c_f ?_ | (refine aw_cond rfl (fun hb => ?_) (fun hb => ?_) <;> ((try have hq := dX hb); (try (exfalso; omega))))) | (apply at_guard; first | refine g_go ?_ | refine g_nt ?_ | refine g_nf ?_ | refine g_nu ?_ | ((first | refine al_split_t rfl rfl (lt_ok rfl) (fun hb => ?_) (fun hb => ?_) | refine al_split_f rfl rfl (lt_ok rfl) (fun hb => ?_) (fun hb => ?_)) <;> ((try have hq := dX hb); (try (exfalso; omega))))) | (apply qr_pick; refine r_pick ?_) | (apply qr_lss; refine r_lss ?_) | (apply qr_not; refine r_not ?_) | (apply qr_slice; refine r_slice ?_) | (apply qr_ix; refine r_ix ?_) | (apply qr_load; refine r_load ?_))
   refine rt1 ?_
   rfl
  ·rw [h1] at hna
   rw [h1, Bool.true_and] at hu
   cases h2 : ((l.take i).any fun w => decide (w = x))
   ·rw [h2] at hcon hu
    have hnext : ∀ j < i + 1, uniqA l j = true := fun j hj => by
     rcases Nat.lt_succ_iff_lt_or_eq.1 hj with h | rfl
     ·exact ha j h
     ·exact hu
    repeat' (first | (apply at_op (.indexAddr _ _ _); refine al_ixq hg ?_) | (apply at_call; refine k_call (hna) hE ?_; rintro _ rfl) | (apply at_call; refine k_call (hcon) hE ?_; rintro _ rfl) | refine nx ?_ | (apply aq_block_y; decide) | (apply qr_move; refine r_move ?_) | (apply qr_assign; refine r_assign ?_) | (apply at_cond; first | refine c_t ?_ | refine c_f ?_ | (refine aw_cond rfl (fun hb => ?_) (fun hb => ?_) <;> ((try have hq := dX hb); (try (exfalso; omega))))) | (apply at_guard; first | refine g_go ?_ | refine g_nt ?_ | refine g_nf ?_ | refine g_nu ?_ | ((first | refine al_split_t rfl rfl (lt_ok rfl) (fun hb => ?_) (fun hb => ?_) | refine al_split_f rfl rfl (lt_ok rfl) (fun hb => ?_) (fun hb => ?_)) <;> ((try have hq := dX hb); (try (exfalso; omega))))) | (apply qr_pick; refine r_pick ?_) | (apply qr_lss; refine r_lss ?_) | (apply qr_add; refine r_add ?_) | (apply qr_not; refine r_not ?_) | (apply qr_slice; refine r_slice ?_) | (apply qr_ix; refine r_ix ?_) | (apply qr_load; refine r_load ?_))
    refine aq_rd (⟨i + 1, rfl, by omega, hnext, rfl, rfl⟩) (by omega)
   ·rw [h2] at hcon hu
    rw [uniq_no hlt hu, Bool.false_and]
    repeat' (first | (apply at_op (.indexAddr _ _ _); refine al_ixq hg ?_) | (apply at_call; refine k_call (hna) hE ?_; rintro _ rfl) | (apply at_call; refine k_call (hcon) hE ?_; rintro _ rfl) | refine nx ?_ | (apply aq_block_y; decide) | (apply qr_move; refine r_move ?_) | (apply qr_assign; refine r_assign ?_) | (apply at_cond; first | refine c_t ?_ | refine c_f ?_ | (refine aw_cond rfl (fun hb => ?_) (fun hb => ?_) <;> ((try have hq := dX hb); (try (exfalso; omega))))) | (apply at_guard; first | refine g_go ?_ | refine g_nt ?_ | refine g_nf ?_ | refine g_nu ?_ | ((first | refine al_split_t rfl rfl (lt_ok rfl) (fun hb => ?_) (fun hb => ?_) | refine al_split_f rfl rfl (lt_ok rfl) (fun hb => ?_) (fun hb => ?_)) <;> ((try have hq := dX hb); (try (exfalso; omega))))) | (apply qr_pick; refine r_pick ?_) | (apply qr_lss; refine r_lss ?_) | (apply qr_not; refine r_not ?_) | (apply qr_slice; refine r_slice ?_) | (apply qr_ix; refine r_ix ?_) | (apply qr_load; refine r_load ?_))
    refine rt1 ?_
    rfl
 ·rw [uniq_yes (fun j hj => ha j (by omega)), Bool.true_and]
  have q : decide ((i : Int) < (l.map fun s => [D.str s]).length) = false := decide_eq_false (by omega)
  repeat' (first | refine nx ?_ | (apply aq_block_y; decide) | (apply qr_move; refine r_move ?_) | (apply qr_assign; refine r_assign ?_) | (apply at_cond; first | refine c_t ?_ | refine c_f ?_ | (refine aw_cond rfl (fun hb => ?_) (fun hb => ?_) <;> ((try have hq := dX hb); (try (exfalso; omega))))) | (apply qr_lss; refine r_lss ?_) | (apply qr_leq; refine r_leq ?_) | (apply qr_len; refine r_len ?_))
  refine rt1 ?_
  rfl
theorem any_take_no {l : List ByteArray} {i : Nat} {x : ByteArray} (h : ∀ (j : Nat) (hj : j < l.length), j < i → l[j] ≠ x) : ((l.take i).any fun w => decide (w = x)) = false := by
 rw [Bool.eq_false_iff, Ne, List.any_eq_true]
 rintro ⟨w, hw, he⟩
 obtain ⟨j, hj, rfl⟩ := List.mem_iff_getElem.1 hw
 rw [List.length_take] at hj
 rw [List.getElem_take] at he
 exact h j (by omega) (by omega) (of_decide_eq_true he)
theorem any_take_yes {l : List ByteArray} {i j : Nat} {x : ByteArray} (hj : j < l.length) (hi : j < i) (h : l[j] = x) : ((l.take i).any fun w => decide (w = x)) = true := by
 rw [List.any_eq_true]
 refine ⟨l[j], ?_, decide_eq_true h⟩
 rw [List.mem_iff_getElem]
 exact ⟨j, by rw [List.length_take]; omega, List.getElem_take ..⟩
theorem names_any (l : List ByteArray) (most : Nat) (hmo : most ≤ 1000) (hl : l.length ≤ 100000) (hs : ∀ s ∈ l, s.size ≤ 100000) : PureC 53 [strsD l, .int most] (· = .bool (uniqV l most)) := by
 have hm : (l.map fun s => [D.str s]).length = l.length := List.length_map ..
 unfold uniqV
 refine pure_enter Try.func53 rfl (by decide) _ Try.ntmps53 (le_ok rfl) (fun w Pr hE => ?_)
 dsimp only [slotsOf, Nat.zero_add, Nat.reduceAdd]
 repeat' (first | refine nx ?_ | (apply aq_block_y; decide) | (apply qr_assign; refine r_assign ?_) | (apply at_cond; first | refine c_t ?_ | refine c_f ?_ | (refine aw_cond rfl (fun hb => ?_) (fun hb => ?_) <;> ((try have hq := dX hb); (try (exfalso; omega))))))
 refine aw_lp (fun N sl ob => ∃ i : Nat, N = l.length - i ∧ i ≤ l.length ∧ (∀ j < i, uniqA l j = true) ∧ ∃ z : V, sl = [(6, z), (5, .d (.int i)), (4, .d (.bool false)), (1, .d (.int most)), (0, .d (strsD l))] ∧ ob = []) (⟨0, rfl, Nat.zero_le _, fun j h => by omega, _, rfl, rfl⟩) ?_
 rintro N sl ob ⟨i, rfl, hi, ha, z, rfl, rfl⟩
 by_cases hlt : i < l.length ∧ i ≤ most
 ·obtain ⟨hlt, him⟩ := hlt
  have hg : (l.map fun s => [D.str s])[i]? = some [D.str l[i]] := by rw [get_map hlt]
  have hna := rname_any l[i] (by have := hs _ (List.getElem_mem hlt); omega)
  have hu : uniqA l i = (nameV l[i] && !((l.take i).any fun w => decide (w = l[i]))) := by rw [uniqA, getD_at hlt]
  have q : decide ((i : Int) < (l.map fun s => [D.str s]).length) = true := decide_eq_true (by omega)
  have q2 : decide ((i : Int) ≤ most) = true := decide_eq_true (by omega)
  generalize hx : l[i] = x at hg hna hu
  cases h1 : nameV x
  ·rw [h1] at hna
   rw [h1, Bool.false_and] at hu
   rw [uniq_no hlt hu, Bool.false_and]
   repeat' (first | (apply at_op (.indexAddr _ _ _); refine al_ixq hg ?_) | (apply at_call; refine k_call (hna) hE ?_; rintro _ rfl) | refine nx ?_ | (apply aq_block_y; decide) | (apply qr_move; refine r_move ?_) | (apply qr_assign; refine r_assign ?_) | (apply at_cond; first | refine c_t ?_ | refine c_f ?_ | (refine aw_cond rfl (fun hb => ?_) (fun hb => ?_) <;> ((try have hq := dX hb); (try (exfalso; omega))))) | (apply at_guard; first | refine g_go ?_ | refine g_nt ?_ | refine g_nf ?_ | refine g_nu ?_ | ((first | refine al_split_t rfl rfl (lt_ok rfl) (fun hb => ?_) (fun hb => ?_) | refine al_split_f rfl rfl (lt_ok rfl) (fun hb => ?_) (fun hb => ?_)) <;> ((try have hq := dX hb); (try (exfalso; omega))))) | (apply qr_pick; refine r_pick ?_) | (apply qr_lss; refine r_lss ?_) | (apply qr_leq; refine r_leq ?_) | (apply qr_not; refine r_not ?_) | (apply qr_len; refine r_len ?_) | (apply qr_ix; refine r_ix ?_) | (apply qr_load; refine r_load ?_))
   refine rt1 ?_
   rfl
  ·rw [h1] at hna
   rw [h1, Bool.true_and] at hu
   repeat' (first | (apply at_op (.indexAddr _ _ _); refine al_ixq hg ?_) | (apply at_call; refine k_call (hna) hE ?_; rintro _ rfl) | refine nx ?_ | (apply aq_block_y; decide) | (apply qr_move; refine r_move ?_) | (apply qr_assign; refine r_assign ?_) | (apply at_cond; first | refine c_t ?_ | refine c_f ?_ | (refine aw_cond rfl (fun hb => ?_) (fun hb => ?_) <;> ((try have hq := dX hb); (try (exfalso; omega))))) | (apply at_guard; first | refine g_go ?_ | refine g_nt ?_ | refine g_nf ?_ | refine g_nu ?_ | ((first | refine al_split_t rfl rfl (lt_ok rfl) (fun hb => ?_) (fun hb => ?_) | refine al_split_f rfl rfl (lt_ok rfl) (fun hb => ?_) (fun hb => ?_)) <;> ((try have hq := dX hb); (try (exfalso; omega))))) | (apply qr_pick; refine r_pick ?_) | (apply qr_lss; refine r_lss ?_) | (apply qr_leq; refine r_leq ?_) | (apply qr_not; refine r_not ?_) | (apply qr_len; refine r_len ?_) | (apply qr_ix; refine r_ix ?_) | (apply qr_load; refine r_load ?_))
   clear q q2 hna
   refine aw_lp (fun N sl ob => ∃ k : Nat, N = i - k ∧ k ≤ i ∧ (∀ (j : Nat) (hj : j < l.length), j < k → l[j] ≠ x) ∧ sl = [(6, .d (.int k)), (5, .d (.int i)), (4, .d (.bool false)), (1, .d (.int most)), (0, .d (strsD l))] ∧ ob = []) (⟨0, rfl, Nat.zero_le _, fun j _ h => by omega, rfl, rfl⟩) ?_
   rintro N2 sl ob ⟨k, rfl, hk, hne, rfl, rfl⟩
   by_cases hki : k < i
   ·have hkl : k < l.length := by omega
    have hg2 : (l.map fun s => [D.str s])[k]? = some [D.str l[k]] := by rw [get_map hkl]
    by_cases hex : l[k] = x
    ·rw [any_take_yes hkl hki hex] at hu
     rw [uniq_no hlt hu, Bool.false_and]
     have q3 : decide (l[k] = x) = true := decide_eq_true hex
     generalize l[k] = y at hg2 q3
     repeat' (first | refine nx ?_ | (apply aq_block_y; decide) | (apply qr_move; refine r_move ?_) | (apply at_cond; first | refine c_t ?_ | refine c_f ?_ | (refine aw_cond rfl (fun hb => ?_) (fun hb => ?_) <;> ((try have hq := dX hb); (try (exfalso; omega))))) | (apply qr_lss; refine r_lss ?_))
     refine aw_mix [(0, true), (1, true), (2, true), (3, true), (4, true), (5, true), (6, true), (7, true), (8, true)] [] (by kernel_rfl) (by kernel_rfl) (by kernel_rfl) (by decide) ?_
     simp only [planned, tailed, List.filterMap_cons, List.filterMap_nil, List.getElem?_cons_zero, List.getElem?_cons_succ, Option.map_some]
     repeat' (first | apply am_nil | refine m_skip ?_ | refine n_skip ?_ | (apply at_am (.indexAddr _ _ _); refine am_y (by first | exact want_none | exact want_yes rfl rfl (by assumption) | exact want_yes rfl rfl (by with_reducible rfl)) (y_ix (by first | exact ToD.d _ | exact ToD.row _ _ _ _ _ rfl) rfl rfl (by first | with_reducible rfl | exact lit0 | exact lit1 | exact lit2 | exact lit3 | exact lit4 | exact int_s _ | exact int_p _ _ | exact int_nat _ (by omega)) hg2) (lt_ok rfl) ?_; clear hg2) | (apply at_am (.indexAddr _ _ _); refine am_y (by first | exact want_none | exact want_yes rfl rfl (by assumption) | exact want_yes rfl rfl (by with_reducible rfl)) (y_ix (by first | exact ToD.d _ | exact ToD.row _ _ _ _ _ rfl) rfl rfl (by first | with_reducible rfl | exact lit0 | exact lit1 | exact lit2 | exact lit3 | exact lit4 | exact int_s _ | exact int_p _ _ | exact int_nat _ (by omega)) hg) (lt_ok rfl) ?_) | (apply qm_move; refine m_move ?_) | (apply qm_eql; refine m_eql ?_) | (apply qm_ix; refine m_ix ?_) | (apply qm_load; refine m_load ?_) | (refine am_split rfl rfl (fun hb => ?_) (fun hb => ?_) <;> ((try have hq := dX hb); (try (exfalso; omega)))))
     repeat' (first | refine nx ?_ | (apply aq_block_y; decide) | (apply qr_move; refine r_move ?_) | (apply qr_assign; refine r_assign ?_) | (apply at_cond; first | refine c_t ?_ | refine c_f ?_ | (refine aw_cond rfl (fun hb => ?_) (fun hb => ?_) <;> ((try have hq := dX hb); (try (exfalso; omega))))) | (apply qr_eql; refine r_eql ?_) | (apply qr_ix; refine r_ix ?_) | (apply qr_load; refine r_load ?_))
     refine rt1 ?_
     rfl
    ·have hnext : ∀ (j : Nat) (hj : j < l.length), j < k + 1 → l[j] ≠ x := fun j hj h3 => by
      rcases Nat.lt_succ_iff_lt_or_eq.1 h3 with h | rfl
      ·exact hne j hj h
      ·exact hex
     have q3 : decide (l[k] = x) = false := decide_eq_false hex
     generalize l[k] = y at hg2 q3
     repeat' (first | refine nx ?_ | (apply aq_block_y; decide) | (apply qr_move; refine r_move ?_) | (apply at_cond; first | refine c_t ?_ | refine c_f ?_ | (refine aw_cond rfl (fun hb => ?_) (fun hb => ?_) <;> ((try have hq := dX hb); (try (exfalso; omega))))) | (apply qr_lss; refine r_lss ?_))
     refine aw_mix [(0, true), (1, true), (2, true), (3, true), (4, true), (5, true), (6, true), (7, true), (8, true)] [] (by kernel_rfl) (by kernel_rfl) (by kernel_rfl) (by decide) ?_
     simp only [planned, tailed, List.filterMap_cons, List.filterMap_nil, List.getElem?_cons_zero, List.getElem?_cons_succ, Option.map_some]
     repeat' (first | apply am_nil | refine m_skip ?_ | refine n_skip ?_ | (apply at_am (.indexAddr _ _ _); refine am_y (by first | exact want_none | exact want_yes rfl rfl (by assumption) | exact want_yes rfl rfl (by with_reducible rfl)) (y_ix (by first | exact ToD.d _ | exact ToD.row _ _ _ _ _ rfl) rfl rfl (by first | with_reducible rfl | exact lit0 | exact lit1 | exact lit2 | exact lit3 | exact lit4 | exact int_s _ | exact int_p _ _ | exact int_nat _ (by omega)) hg2) (lt_ok rfl) ?_; clear hg2) | (apply at_am (.indexAddr _ _ _); refine am_y (by first | exact want_none | exact want_yes rfl rfl (by assumption) | exact want_yes rfl rfl (by with_reducible rfl)) (y_ix (by first | exact ToD.d _ | exact ToD.row _ _ _ _ _ rfl) rfl rfl (by first | with_reducible rfl | exact lit0 | exact lit1 | exact lit2 | exact lit3 | exact lit4 | exact int_s _ | exact int_p _ _ | exact int_nat _ (by omega)) hg) (lt_ok rfl) ?_) | (apply qm_move; refine m_move ?_) | (apply qm_eql; refine m_eql ?_) | (apply qm_ix; refine m_ix ?_) | (apply qm_load; refine m_load ?_) | (refine am_split rfl rfl (fun hb => ?_) (fun hb => ?_) <;> ((try have hq := dX hb); (try (exfalso; omega)))))
     repeat' (first | refine nx ?_ | (apply aq_block_y; decide) | (apply qr_move; refine r_move ?_) | (apply qr_assign; refine r_assign ?_) | (apply at_cond; first | refine c_t ?_ | refine c_f ?_ | (refine aw_cond rfl (fun hb => ?_) (fun hb => ?_) <;> ((try have hq := dX hb); (try (exfalso; omega))))) | (apply qr_eql; refine r_eql ?_) | (apply qr_add; refine r_add ?_) | (apply qr_ix; refine r_ix ?_) | (apply qr_load; refine r_load ?_))
     refine aq_rd (⟨k + 1, rfl, by omega, hnext, rfl, rfl⟩) (by omega)
   ·rw [any_take_no (fun j hj hji => hne j hj (by omega))] at hu
    have hnext : ∀ j < i + 1, uniqA l j = true := fun j hj => by
     rcases Nat.lt_succ_iff_lt_or_eq.1 hj with h | rfl
     ·exact ha j h
     ·exact hu
    repeat' (first | refine nx ?_ | (apply aq_block_y; decide) | (apply qr_move; refine r_move ?_) | (apply qr_assign; refine r_assign ?_) | (apply at_cond; first | refine c_t ?_ | refine c_f ?_ | (refine aw_cond rfl (fun hb => ?_) (fun hb => ?_) <;> ((try have hq := dX hb); (try (exfalso; omega))))) | (apply qr_lss; refine r_lss ?_) | (apply qr_add; refine r_add ?_))
    refine aq_rd (⟨i + 1, rfl, by omega, hnext, _, rfl, rfl⟩) (by omega)
 ·by_cases hlt2 : i < l.length
  ·have q : decide ((i : Int) < (l.map fun s => [D.str s]).length) = true := decide_eq_true (by omega)
   have q2 : decide ((i : Int) ≤ most) = false := decide_eq_false (by omega)
   have hno : decide ((l.length : Int) ≤ most) = false := decide_eq_false (by omega)
   rw [hno, Bool.and_false]
   have q3 : decide (((l.map fun s => [D.str s]).length : Int) ≤ most) = false := by rw [hm]; exact hno
   repeat' (first | refine nx ?_ | (apply aq_block_y; decide) | (apply qr_move; refine r_move ?_) | (apply qr_assign; refine r_assign ?_) | (apply at_cond; first | refine c_t ?_ | refine c_f ?_ | (refine aw_cond rfl (fun hb => ?_) (fun hb => ?_) <;> ((try have hq := dX hb); (try (exfalso; omega))))) | (apply at_guard; first | refine g_go ?_ | refine g_nt ?_ | refine g_nf ?_ | refine g_nu ?_ | ((first | refine al_split_t rfl rfl (lt_ok rfl) (fun hb => ?_) (fun hb => ?_) | refine al_split_f rfl rfl (lt_ok rfl) (fun hb => ?_) (fun hb => ?_)) <;> ((try have hq := dX hb); (try (exfalso; omega))))) | (apply qr_pick; refine r_pick ?_) | (apply qr_lss; refine r_lss ?_) | (apply qr_leq; refine r_leq ?_) | (apply qr_len; refine r_len ?_))
   refine rt1 ?_
   rw [hno]
  ·rw [uniq_yes (fun j hj => ha j (by omega)), Bool.true_and]
   have q : decide ((i : Int) < (l.map fun s => [D.str s]).length) = false := decide_eq_false (by omega)
   repeat' (first | refine nx ?_ | (apply aq_block_y; decide) | (apply qr_move; refine r_move ?_) | (apply qr_assign; refine r_assign ?_) | (apply at_cond; first | refine c_t ?_ | refine c_f ?_ | (refine aw_cond rfl (fun hb => ?_) (fun hb => ?_) <;> ((try have hq := dX hb); (try (exfalso; omega))))) | (apply at_guard; first | refine g_go ?_ | refine g_nt ?_ | refine g_nf ?_ | refine g_nu ?_ | ((first | refine al_split_t rfl rfl (lt_ok rfl) (fun hb => ?_) (fun hb => ?_) | refine al_split_f rfl rfl (lt_ok rfl) (fun hb => ?_) (fun hb => ?_)) <;> ((try have hq := dX hb); (try (exfalso; omega))))) | (apply qr_pick; refine r_pick ?_) | (apply qr_lss; refine r_lss ?_) | (apply qr_leq; refine r_leq ?_) | (apply qr_len; refine r_len ?_))
   refine rt1 ?_
   rfl
end Go.Proofs.Ytgiacdhffklenaa
end
