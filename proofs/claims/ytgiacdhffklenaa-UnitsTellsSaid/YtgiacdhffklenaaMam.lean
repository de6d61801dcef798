/-
  Conditions: none.
-/
import Derived.Test.YtgiacdhffklenaaMal
set_option maxHeartbeats 16000000
set_option maxRecDepth 20000
set_option linter.unusedSimpArgs false
set_option linter.unusedVariables false
namespace Go.Proofs.Ytgiacdhffklenaa
open Go.RowKit
theorem within_any (n a b : Int) : PureC 52 [.int n, .int a, .int b] (· = .bool (decide (a ≤ n) && decide (n ≤ b))) := by
 cases h : decide (a ≤ n)
 ·rw [Bool.false_and]
  refine pure_enter Try.func52 rfl (by decide) _ Try.ntmps52 (le_ok rfl) (fun w Pr hE => ?_)
  dsimp only [slotsOf, Nat.zero_add, Nat.reduceAdd]
  repeat' (first | refine nx ?_ | (apply qr_move; refine r_move ?_) | (apply qr_assign; refine r_assign ?_) | (apply at_guard; first | refine g_go ?_ | refine g_nt ?_ | refine g_nf ?_ | refine g_nu ?_ | ((first | refine al_split_t rfl rfl (lt_ok rfl) (fun hb => ?_) (fun hb => ?_) | refine al_split_f rfl rfl (lt_ok rfl) (fun hb => ?_) (fun hb => ?_)) <;> ((try have hq := dX hb); (try (exfalso; omega))))) | (apply qr_pick; refine r_pick ?_) | (apply qr_leq; refine r_leq ?_) | (apply qr_geq; refine r_geq ?_))
  refine rt1 ?_
  rfl
 ·rw [Bool.true_and]
  refine pure_enter Try.func52 rfl (by decide) _ Try.ntmps52 (le_ok rfl) (fun w Pr hE => ?_)
  dsimp only [slotsOf, Nat.zero_add, Nat.reduceAdd]
  repeat' (first | refine nx ?_ | (apply qr_move; refine r_move ?_) | (apply qr_assign; refine r_assign ?_) | (apply at_guard; first | refine g_go ?_ | refine g_nt ?_ | refine g_nf ?_ | refine g_nu ?_ | ((first | refine al_split_t rfl rfl (lt_ok rfl) (fun hb => ?_) (fun hb => ?_) | refine al_split_f rfl rfl (lt_ok rfl) (fun hb => ?_) (fun hb => ?_)) <;> ((try have hq := dX hb); (try (exfalso; omega))))) | (apply qr_pick; refine r_pick ?_) | (apply qr_leq; refine r_leq ?_) | (apply qr_geq; refine r_geq ?_))
  refine rt1 ?_
  rfl
abbrev RRightC (d : Nat) : Prop := ∀ e : Ex, e.tame → PureC 44 [.agg (exC e), .int d] (· = .bool (e.right d))
theorem all_take {α : Type} (f : α → Bool) {l : List α} {i : Nat} (h : i < l.length) : (l.take (i + 1)).all f = ((l.take i).all f && f l[i]) := by
 rw [List.take_succ_eq_append_getElem h, List.all_append]
 simp only [List.all_cons, List.all_nil, Bool.and_true]
theorem numRight_with (n u : Int) (s : ByteArray) : numRight n u s = (decide (s = ⟨#[]⟩) && ((decide (0 ≤ u) && decide (u ≤ 3)) && ((decide (0 ≤ n) && decide (n ≤ 1000000000000000)) && (!decide (u = 3) || decide (n ≤ 1))))) := by
 rw [Bool.eq_iff_iff]
 by_cases hu : u = 3
 ·simp only [hu, if_true, numRight, Bool.and_eq_true, decide_eq_true_eq, decide_true, Bool.not_true, Bool.false_or]
  constructor
  ·rintro ⟨⟨h1, h2⟩, h3⟩
   exact ⟨h1, h2, by omega, by omega⟩
  ·rintro ⟨h1, h2, h3, h4⟩
   exact ⟨⟨h1, h2⟩, by omega, by omega⟩
 ·simp only [hu, if_false, numRight, Bool.and_eq_true, decide_eq_true_eq, decide_false, Bool.not_false, Bool.true_or]
  constructor
  ·rintro ⟨⟨h1, h2⟩, h3⟩
   exact ⟨h1, h2, h3, trivial⟩
  ·rintro ⟨h1, h2, h3, h4⟩
   exact ⟨⟨h1, h2⟩, h3⟩
theorem rright_num {d : Nat} (hd : d ≤ 1000000) (e : Ex) (he : e.tame) (h0 : e.op = 0) : PureC 44 [.agg (exC e), .int ((d + 1 : Nat) : Int)] (· = .bool (e.right (d + 1))) := by
 have hln := tame_len he
 have hlen := rows_len e.args
 obtain ⟨R, hR⟩ : ∃ R, R = e.right (d + 1) := ⟨_, rfl⟩
 rw [← hR]
 rw [right_eq, if_pos h0, numRight_with] at hR
 have hov : operandsV e.op = 0 := by simp [operandsV, h0]
 rw [hov] at hR
 have p1 : decide (((d + 1 : Nat) : Int) < 1) = false := decide_eq_false (by omega)
 have p2 : decide (e.op < 0) = false := decide_eq_false (by omega)
 have p3 : decide (16 ≤ e.op) = false := decide_eq_false (by omega)
 have p4 : decide (e.op = 0) = true := decide_eq_true h0
 have p5 : decide (e.op = 12) = false := decide_eq_false (by omega)
 have p6 : decide (e.op = 15) = false := decide_eq_false (by omega)
 have p7 : (!decide (e.op = 0)) = false := by simp [h0]
 rw [← hlen] at hR
 generalize hm : ((Ex.rows e.args).length : Int) = m at hR
 cases hl : decide (m = 0)
 ·rw [hl, Bool.false_and] at hR
  rw [hR]
  have p8 : (!decide (((Ex.rows e.args).length : Int) = 0)) = true := by rw [hm, hl]; rfl
  refine pure_enter Try.func44 rfl (by decide) _ Try.ntmps44 (le_ok rfl) (fun w Pr hE => ?_)
  dsimp only [slotsOf, Nat.zero_add, Nat.reduceAdd]
  repeat' (first | refine nx ?_ | (apply aq_block_y; decide) | (apply qr_move; refine r_move ?_) | (apply qr_assign; refine r_assign ?_) | (apply at_cond; first | refine c_t ?_ | refine c_f ?_ | (refine aw_cond rfl (fun hb => ?_) (fun hb => ?_) <;> ((try have hq := dX hb); (try (exfalso; omega))))) | (apply at_guard; first | refine g_go ?_ | refine g_nt ?_ | refine g_nf ?_ | refine g_nu ?_ | ((first | refine al_split_t rfl rfl (lt_ok rfl) (fun hb => ?_) (fun hb => ?_) | refine al_split_f rfl rfl (lt_ok rfl) (fun hb => ?_) (fun hb => ?_)) <;> ((try have hq := dX hb); (try (exfalso; omega))))) | (apply qr_pick; refine r_pick ?_) | (apply qr_lss; refine r_lss ?_) | (apply qr_geq; refine r_geq ?_) | (apply qr_eql; refine r_eql ?_) | (apply qr_neq; refine r_neq ?_) | (apply qr_len; refine r_len ?_) | (apply qr_load; refine r_load ?_) | (apply qr_faddr; refine r_faddr ?_) | (apply qr_boxed; refine r_boxed ?_))
  refine rt1 ?_
  rfl
 rw [hl, Bool.true_and] at hR
 have p8 : (!decide (((Ex.rows e.args).length : Int) = 0)) = false := by rw [hm, hl]; rfl
 have hw1 := within_any e.unit 0 3
 have hw2 := within_any e.num 0 1000000000000000
 cases hs : decide (e.str = ⟨#[]⟩)
 ·rw [hs, Bool.false_and] at hR
  rw [hR]
  refine pure_enter Try.func44 rfl (by decide) _ Try.ntmps44 (le_ok rfl) (fun w Pr hE => ?_)
  dsimp only [slotsOf, Nat.zero_add, Nat.reduceAdd]
  repeat' (first | refine nx ?_ | (apply aq_block_y; decide) | (apply qr_move; refine r_move ?_) | (apply qr_assign; refine r_assign ?_) | (apply at_cond; first | refine c_t ?_ | refine c_f ?_ | (refine aw_cond rfl (fun hb => ?_) (fun hb => ?_) <;> ((try have hq := dX hb); (try (exfalso; omega))))) | (apply at_guard; first | refine g_go ?_ | refine g_nt ?_ | refine g_nf ?_ | refine g_nu ?_ | ((first | refine al_split_t rfl rfl (lt_ok rfl) (fun hb => ?_) (fun hb => ?_) | refine al_split_f rfl rfl (lt_ok rfl) (fun hb => ?_) (fun hb => ?_)) <;> ((try have hq := dX hb); (try (exfalso; omega))))) | (apply qr_pick; refine r_pick ?_) | (apply qr_lss; refine r_lss ?_) | (apply qr_leq; refine r_leq ?_) | (apply qr_geq; refine r_geq ?_) | (apply qr_eql; refine r_eql ?_) | (apply qr_neq; refine r_neq ?_) | (apply qr_len; refine r_len ?_) | (apply qr_load; refine r_load ?_) | (apply qr_faddr; refine r_faddr ?_) | (apply qr_boxed; refine r_boxed ?_))
  refine rt1 ?_
  rfl
 rw [hs, Bool.true_and] at hR
 cases hb1 : (decide (0 ≤ e.unit) && decide (e.unit ≤ 3))
 ·rw [hb1, Bool.false_and] at hR
  rw [hb1] at hw1
  rw [hR]
  refine pure_enter Try.func44 rfl (by decide) _ Try.ntmps44 (le_ok rfl) (fun w Pr hE => ?_)
  dsimp only [slotsOf, Nat.zero_add, Nat.reduceAdd]
  repeat' (first | (apply at_call; refine k_call (hw1) hE ?_; rintro _ rfl) | refine nx ?_ | (apply aq_block_y; decide) | (apply qr_move; refine r_move ?_) | (apply qr_assign; refine r_assign ?_) | (apply at_cond; first | refine c_t ?_ | refine c_f ?_ | (refine aw_cond rfl (fun hb => ?_) (fun hb => ?_) <;> ((try have hq := dX hb); (try (exfalso; omega))))) | (apply at_guard; first | refine g_go ?_ | refine g_nt ?_ | refine g_nf ?_ | refine g_nu ?_ | ((first | refine al_split_t rfl rfl (lt_ok rfl) (fun hb => ?_) (fun hb => ?_) | refine al_split_f rfl rfl (lt_ok rfl) (fun hb => ?_) (fun hb => ?_)) <;> ((try have hq := dX hb); (try (exfalso; omega))))) | (apply qr_pick; refine r_pick ?_) | (apply qr_lss; refine r_lss ?_) | (apply qr_leq; refine r_leq ?_) | (apply qr_geq; refine r_geq ?_) | (apply qr_eql; refine r_eql ?_) | (apply qr_neq; refine r_neq ?_) | (apply qr_len; refine r_len ?_) | (apply qr_load; refine r_load ?_) | (apply qr_faddr; refine r_faddr ?_) | (apply qr_boxed; refine r_boxed ?_))
  refine rt1 ?_
  rfl
 rw [hb1, Bool.true_and] at hR
 rw [hb1] at hw1
 cases hb2 : (decide (0 ≤ e.num) && decide (e.num ≤ 1000000000000000))
 ·rw [hb2, Bool.false_and] at hR
  rw [hb2] at hw2
  rw [hR]
  refine pure_enter Try.func44 rfl (by decide) _ Try.ntmps44 (le_ok rfl) (fun w Pr hE => ?_)
  dsimp only [slotsOf, Nat.zero_add, Nat.reduceAdd]
  repeat' (first | (apply at_call; refine k_call (hw1) hE ?_; rintro _ rfl; clear hw1) | (apply at_call; refine k_call (hw2) hE ?_; rintro _ rfl) | refine nx ?_ | (apply aq_block_y; decide) | (apply qr_move; refine r_move ?_) | (apply qr_assign; refine r_assign ?_) | (apply at_cond; first | refine c_t ?_ | refine c_f ?_ | (refine aw_cond rfl (fun hb => ?_) (fun hb => ?_) <;> ((try have hq := dX hb); (try (exfalso; omega))))) | (apply at_guard; first | refine g_go ?_ | refine g_nt ?_ | refine g_nf ?_ | refine g_nu ?_ | ((first | refine al_split_t rfl rfl (lt_ok rfl) (fun hb => ?_) (fun hb => ?_) | refine al_split_f rfl rfl (lt_ok rfl) (fun hb => ?_) (fun hb => ?_)) <;> ((try have hq := dX hb); (try (exfalso; omega))))) | (apply qr_pick; refine r_pick ?_) | (apply qr_lss; refine r_lss ?_) | (apply qr_leq; refine r_leq ?_) | (apply qr_geq; refine r_geq ?_) | (apply qr_eql; refine r_eql ?_) | (apply qr_neq; refine r_neq ?_) | (apply qr_len; refine r_len ?_) | (apply qr_load; refine r_load ?_) | (apply qr_faddr; refine r_faddr ?_) | (apply qr_boxed; refine r_boxed ?_))
  refine rt1 ?_
  rfl
 rw [hb2, Bool.true_and] at hR
 rw [hb2] at hw2
 cases hb3 : (!decide (e.unit = 3))
 ·rw [hb3, Bool.false_or] at hR
  rw [hR]
  refine pure_enter Try.func44 rfl (by decide) _ Try.ntmps44 (le_ok rfl) (fun w Pr hE => ?_)
  dsimp only [slotsOf, Nat.zero_add, Nat.reduceAdd]
  repeat' (first | (apply at_call; refine k_call (hw1) hE ?_; rintro _ rfl; clear hw1) | (apply at_call; refine k_call (hw2) hE ?_; rintro _ rfl) | refine nx ?_ | (apply aq_block_y; decide) | (apply qr_move; refine r_move ?_) | (apply qr_assign; refine r_assign ?_) | (apply at_cond; first | refine c_t ?_ | refine c_f ?_ | (refine aw_cond rfl (fun hb => ?_) (fun hb => ?_) <;> ((try have hq := dX hb); (try (exfalso; omega))))) | (apply at_guard; first | refine g_go ?_ | refine g_nt ?_ | refine g_nf ?_ | refine g_nu ?_ | ((first | refine al_split_t rfl rfl (lt_ok rfl) (fun hb => ?_) (fun hb => ?_) | refine al_split_f rfl rfl (lt_ok rfl) (fun hb => ?_) (fun hb => ?_)) <;> ((try have hq := dX hb); (try (exfalso; omega))))) | (apply qr_pick; refine r_pick ?_) | (apply qr_lss; refine r_lss ?_) | (apply qr_leq; refine r_leq ?_) | (apply qr_geq; refine r_geq ?_) | (apply qr_eql; refine r_eql ?_) | (apply qr_neq; refine r_neq ?_) | (apply qr_len; refine r_len ?_) | (apply qr_load; refine r_load ?_) | (apply qr_faddr; refine r_faddr ?_) | (apply qr_boxed; refine r_boxed ?_))
  refine rt1 ?_
  rfl
 ·rw [hb3, Bool.true_or] at hR
  rw [hR]
  refine pure_enter Try.func44 rfl (by decide) _ Try.ntmps44 (le_ok rfl) (fun w Pr hE => ?_)
  dsimp only [slotsOf, Nat.zero_add, Nat.reduceAdd]
  repeat' (first | (apply at_call; refine k_call (hw1) hE ?_; rintro _ rfl; clear hw1) | (apply at_call; refine k_call (hw2) hE ?_; rintro _ rfl) | refine nx ?_ | (apply aq_block_y; decide) | (apply qr_move; refine r_move ?_) | (apply qr_assign; refine r_assign ?_) | (apply at_cond; first | refine c_t ?_ | refine c_f ?_ | (refine aw_cond rfl (fun hb => ?_) (fun hb => ?_) <;> ((try have hq := dX hb); (try (exfalso; omega))))) | (apply at_guard; first | refine g_go ?_ | refine g_nt ?_ | refine g_nf ?_ | refine g_nu ?_ | ((first | refine al_split_t rfl rfl (lt_ok rfl) (fun hb => ?_) (fun hb => ?_) | refine al_split_f rfl rfl (lt_ok rfl) (fun hb => ?_) (fun hb => ?_)) <;> ((try have hq := dX hb); (try (exfalso; omega))))) | (apply qr_pick; refine r_pick ?_) | (apply qr_lss; refine r_lss ?_) | (apply qr_leq; refine r_leq ?_) | (apply qr_geq; refine r_geq ?_) | (apply qr_eql; refine r_eql ?_) | (apply qr_neq; refine r_neq ?_) | (apply qr_len; refine r_len ?_) | (apply qr_load; refine r_load ?_) | (apply qr_faddr; refine r_faddr ?_) | (apply qr_boxed; refine r_boxed ?_))
  refine rt1 ?_
  rfl
theorem rright_name {d : Nat} (hd : d ≤ 1000000) (e : Ex) (he : e.tame) (h1 : e.op = 1 ∨ e.op = 2 ∨ e.op = 3) : PureC 44 [.agg (exC e), .int ((d + 1 : Nat) : Int)] (· = .bool (e.right (d + 1))) := by
 have hz := tame_str he
 have hlen := rows_len e.args
 obtain ⟨R, hR⟩ : ∃ R, R = e.right (d + 1) := ⟨_, rfl⟩
 rw [← hR]
 have h0 : ¬ e.op = 0 := by omega
 rw [right_eq, if_neg h0, if_pos h1] at hR
 have hov : operandsV e.op = 0 := by rcases h1 with h | h | h <;> simp [operandsV, h]
 rw [hov] at hR
 have p1 : decide (((d + 1 : Nat) : Int) < 1) = false := decide_eq_false (by omega)
 have p2 : decide (e.op < 0) = false := decide_eq_false (by omega)
 have p3 : decide (16 ≤ e.op) = false := decide_eq_false (by omega)
 have p4 : decide (e.op = 0) = false := decide_eq_false h0
 have p5 : decide (e.op = 12) = false := decide_eq_false (by omega)
 have p6 : decide (e.op = 15) = false := decide_eq_false (by omega)
 have p7 : (!decide (e.op = 0)) = true := by simp [h0]
 have hna := rname_any e.str (by omega)
 rw [← hlen] at hR
 generalize hm : ((Ex.rows e.args).length : Int) = m at hR
 rcases h1 with h1 | h1 | h1
 ·have r1 : decide (e.op = 1) = true := decide_eq_true h1
  have r2 : decide (e.op = 2) = false := decide_eq_false (by omega)
  have r3 : decide (e.op = 3) = false := decide_eq_false (by omega)
  cases hl : decide (m = 0)
  ·rw [hl, Bool.false_and] at hR
   rw [hR]
   have p8 : (!decide (((Ex.rows e.args).length : Int) = 0)) = true := by rw [hm, hl]; rfl
   refine pure_enter Try.func44 rfl (by decide) _ Try.ntmps44 (le_ok rfl) (fun w Pr hE => ?_)
   dsimp only [slotsOf, Nat.zero_add, Nat.reduceAdd]
   repeat' (first | refine nx ?_ | (apply aq_block_y; decide) | (apply qr_move; refine r_move ?_) | (apply qr_assign; refine r_assign ?_) | (apply at_cond; first | refine c_t ?_ | refine c_f ?_ | (refine aw_cond rfl (fun hb => ?_) (fun hb => ?_) <;> ((try have hq := dX hb); (try (exfalso; omega))))) | (apply at_guard; first | refine g_go ?_ | refine g_nt ?_ | refine g_nf ?_ | refine g_nu ?_ | ((first | refine al_split_t rfl rfl (lt_ok rfl) (fun hb => ?_) (fun hb => ?_) | refine al_split_f rfl rfl (lt_ok rfl) (fun hb => ?_) (fun hb => ?_)) <;> ((try have hq := dX hb); (try (exfalso; omega))))) | (apply qr_pick; refine r_pick ?_) | (apply qr_lss; refine r_lss ?_) | (apply qr_geq; refine r_geq ?_) | (apply qr_eql; refine r_eql ?_) | (apply qr_neq; refine r_neq ?_) | (apply qr_len; refine r_len ?_) | (apply qr_load; refine r_load ?_) | (apply qr_faddr; refine r_faddr ?_) | (apply qr_boxed; refine r_boxed ?_))
   refine rt1 ?_
   rfl
  rw [hl, Bool.true_and] at hR
  have p8 : (!decide (((Ex.rows e.args).length : Int) = 0)) = false := by rw [hm, hl]; rfl
  cases hu : decide (e.unit = 0)
  ·rw [hu, Bool.and_false, Bool.false_and] at hR
   rw [hR]
   have p9 : (!decide (e.unit = 0)) = true := by rw [hu]; rfl
   refine pure_enter Try.func44 rfl (by decide) _ Try.ntmps44 (le_ok rfl) (fun w Pr hE => ?_)
   dsimp only [slotsOf, Nat.zero_add, Nat.reduceAdd]
   repeat' (first | refine nx ?_ | (apply aq_block_y; decide) | (apply qr_move; refine r_move ?_) | (apply qr_assign; refine r_assign ?_) | (apply at_cond; first | refine c_t ?_ | refine c_f ?_ | (refine aw_cond rfl (fun hb => ?_) (fun hb => ?_) <;> ((try have hq := dX hb); (try (exfalso; omega))))) | (apply at_guard; first | refine g_go ?_ | refine g_nt ?_ | refine g_nf ?_ | refine g_nu ?_ | ((first | refine al_split_t rfl rfl (lt_ok rfl) (fun hb => ?_) (fun hb => ?_) | refine al_split_f rfl rfl (lt_ok rfl) (fun hb => ?_) (fun hb => ?_)) <;> ((try have hq := dX hb); (try (exfalso; omega))))) | (apply qr_pick; refine r_pick ?_) | (apply qr_lss; refine r_lss ?_) | (apply qr_geq; refine r_geq ?_) | (apply qr_eql; refine r_eql ?_) | (apply qr_neq; refine r_neq ?_) | (apply qr_len; refine r_len ?_) | (apply qr_load; refine r_load ?_) | (apply qr_faddr; refine r_faddr ?_) | (apply qr_boxed; refine r_boxed ?_))
   refine rt1 ?_
   rfl
  have p9 : (!decide (e.unit = 0)) = false := by rw [hu]; rfl
  cases hn : decide (e.num = 0)
  ·rw [hn, Bool.false_and, Bool.false_and] at hR
   rw [hR]
   have p10 : (!decide (e.num = 0)) = true := by rw [hn]; rfl
   refine pure_enter Try.func44 rfl (by decide) _ Try.ntmps44 (le_ok rfl) (fun w Pr hE => ?_)
   dsimp only [slotsOf, Nat.zero_add, Nat.reduceAdd]
   repeat' (first | refine nx ?_ | (apply aq_block_y; decide) | (apply qr_move; refine r_move ?_) | (apply qr_assign; refine r_assign ?_) | (apply at_cond; first | refine c_t ?_ | refine c_f ?_ | (refine aw_cond rfl (fun hb => ?_) (fun hb => ?_) <;> ((try have hq := dX hb); (try (exfalso; omega))))) | (apply at_guard; first | refine g_go ?_ | refine g_nt ?_ | refine g_nf ?_ | refine g_nu ?_ | ((first | refine al_split_t rfl rfl (lt_ok rfl) (fun hb => ?_) (fun hb => ?_) | refine al_split_f rfl rfl (lt_ok rfl) (fun hb => ?_) (fun hb => ?_)) <;> ((try have hq := dX hb); (try (exfalso; omega))))) | (apply qr_pick; refine r_pick ?_) | (apply qr_lss; refine r_lss ?_) | (apply qr_geq; refine r_geq ?_) | (apply qr_eql; refine r_eql ?_) | (apply qr_neq; refine r_neq ?_) | (apply qr_len; refine r_len ?_) | (apply qr_load; refine r_load ?_) | (apply qr_faddr; refine r_faddr ?_) | (apply qr_boxed; refine r_boxed ?_))
   refine rt1 ?_
   rfl
  have p10 : (!decide (e.num = 0)) = false := by rw [hn]; rfl
  rw [hu, hn, Bool.true_and, Bool.true_and] at hR
  rw [hR]
  refine pure_enter Try.func44 rfl (by decide) _ Try.ntmps44 (le_ok rfl) (fun w Pr hE => ?_)
  dsimp only [slotsOf, Nat.zero_add, Nat.reduceAdd]
  repeat' (first | (apply at_call; refine k_call (hna) hE ?_; rintro _ rfl) | refine nx ?_ | (apply aq_block_y; decide) | (apply qr_move; refine r_move ?_) | (apply qr_assign; refine r_assign ?_) | (apply at_cond; first | refine c_t ?_ | refine c_f ?_ | (refine aw_cond rfl (fun hb => ?_) (fun hb => ?_) <;> ((try have hq := dX hb); (try (exfalso; omega))))) | (apply at_guard; first | refine g_go ?_ | refine g_nt ?_ | refine g_nf ?_ | refine g_nu ?_ | ((first | refine al_split_t rfl rfl (lt_ok rfl) (fun hb => ?_) (fun hb => ?_) | refine al_split_f rfl rfl (lt_ok rfl) (fun hb => ?_) (fun hb => ?_)) <;> ((try have hq := dX hb); (try (exfalso; omega))))) | (apply qr_pick; refine r_pick ?_) | (apply qr_lss; refine r_lss ?_) | (apply qr_geq; refine r_geq ?_) | (apply qr_eql; refine r_eql ?_) | (apply qr_neq; refine r_neq ?_) | (apply qr_len; refine r_len ?_) | (apply qr_load; refine r_load ?_) | (apply qr_faddr; refine r_faddr ?_) | (apply qr_boxed; refine r_boxed ?_))
  refine rt1 ?_
  rfl
 ·have r1 : decide (e.op = 1) = false := decide_eq_false (by omega)
  have r2 : decide (e.op = 2) = true := decide_eq_true h1
  have r3 : decide (e.op = 3) = false := decide_eq_false (by omega)
  cases hl : decide (m = 0)
  ·rw [hl, Bool.false_and] at hR
   rw [hR]
   have p8 : (!decide (((Ex.rows e.args).length : Int) = 0)) = true := by rw [hm, hl]; rfl
   refine pure_enter Try.func44 rfl (by decide) _ Try.ntmps44 (le_ok rfl) (fun w Pr hE => ?_)
   dsimp only [slotsOf, Nat.zero_add, Nat.reduceAdd]
   repeat' (first | refine nx ?_ | (apply aq_block_y; decide) | (apply qr_move; refine r_move ?_) | (apply qr_assign; refine r_assign ?_) | (apply at_cond; first | refine c_t ?_ | refine c_f ?_ | (refine aw_cond rfl (fun hb => ?_) (fun hb => ?_) <;> ((try have hq := dX hb); (try (exfalso; omega))))) | (apply at_guard; first | refine g_go ?_ | refine g_nt ?_ | refine g_nf ?_ | refine g_nu ?_ | ((first | refine al_split_t rfl rfl (lt_ok rfl) (fun hb => ?_) (fun hb => ?_) | refine al_split_f rfl rfl (lt_ok rfl) (fun hb => ?_) (fun hb => ?_)) <;> ((try have hq := dX hb); (try (exfalso; omega))))) | (apply qr_pick; refine r_pick ?_) | (apply qr_lss; refine r_lss ?_) | (apply qr_geq; refine r_geq ?_) | (apply qr_eql; refine r_eql ?_) | (apply qr_neq; refine r_neq ?_) | (apply qr_len; refine r_len ?_) | (apply qr_load; refine r_load ?_) | (apply qr_faddr; refine r_faddr ?_) | (apply qr_boxed; refine r_boxed ?_))
   refine rt1 ?_
   rfl
  rw [hl, Bool.true_and] at hR
  have p8 : (!decide (((Ex.rows e.args).length : Int) = 0)) = false := by rw [hm, hl]; rfl
  cases hu : decide (e.unit = 0)
  ·rw [hu, Bool.and_false, Bool.false_and] at hR
   rw [hR]
   have p9 : (!decide (e.unit = 0)) = true := by rw [hu]; rfl
   refine pure_enter Try.func44 rfl (by decide) _ Try.ntmps44 (le_ok rfl) (fun w Pr hE => ?_)
   dsimp only [slotsOf, Nat.zero_add, Nat.reduceAdd]
   repeat' (first | refine nx ?_ | (apply aq_block_y; decide) | (apply qr_move; refine r_move ?_) | (apply qr_assign; refine r_assign ?_) | (apply at_cond; first | refine c_t ?_ | refine c_f ?_ | (refine aw_cond rfl (fun hb => ?_) (fun hb => ?_) <;> ((try have hq := dX hb); (try (exfalso; omega))))) | (apply at_guard; first | refine g_go ?_ | refine g_nt ?_ | refine g_nf ?_ | refine g_nu ?_ | ((first | refine al_split_t rfl rfl (lt_ok rfl) (fun hb => ?_) (fun hb => ?_) | refine al_split_f rfl rfl (lt_ok rfl) (fun hb => ?_) (fun hb => ?_)) <;> ((try have hq := dX hb); (try (exfalso; omega))))) | (apply qr_pick; refine r_pick ?_) | (apply qr_lss; refine r_lss ?_) | (apply qr_geq; refine r_geq ?_) | (apply qr_eql; refine r_eql ?_) | (apply qr_neq; refine r_neq ?_) | (apply qr_len; refine r_len ?_) | (apply qr_load; refine r_load ?_) | (apply qr_faddr; refine r_faddr ?_) | (apply qr_boxed; refine r_boxed ?_))
   refine rt1 ?_
   rfl
  have p9 : (!decide (e.unit = 0)) = false := by rw [hu]; rfl
  cases hn : decide (e.num = 0)
  ·rw [hn, Bool.false_and, Bool.false_and] at hR
   rw [hR]
   have p10 : (!decide (e.num = 0)) = true := by rw [hn]; rfl
   refine pure_enter Try.func44 rfl (by decide) _ Try.ntmps44 (le_ok rfl) (fun w Pr hE => ?_)
   dsimp only [slotsOf, Nat.zero_add, Nat.reduceAdd]
   repeat' (first | refine nx ?_ | (apply aq_block_y; decide) | (apply qr_move; refine r_move ?_) | (apply qr_assign; refine r_assign ?_) | (apply at_cond; first | refine c_t ?_ | refine c_f ?_ | (refine aw_cond rfl (fun hb => ?_) (fun hb => ?_) <;> ((try have hq := dX hb); (try (exfalso; omega))))) | (apply at_guard; first | refine g_go ?_ | refine g_nt ?_ | refine g_nf ?_ | refine g_nu ?_ | ((first | refine al_split_t rfl rfl (lt_ok rfl) (fun hb => ?_) (fun hb => ?_) | refine al_split_f rfl rfl (lt_ok rfl) (fun hb => ?_) (fun hb => ?_)) <;> ((try have hq := dX hb); (try (exfalso; omega))))) | (apply qr_pick; refine r_pick ?_) | (apply qr_lss; refine r_lss ?_) | (apply qr_geq; refine r_geq ?_) | (apply qr_eql; refine r_eql ?_) | (apply qr_neq; refine r_neq ?_) | (apply qr_len; refine r_len ?_) | (apply qr_load; refine r_load ?_) | (apply qr_faddr; refine r_faddr ?_) | (apply qr_boxed; refine r_boxed ?_))
   refine rt1 ?_
   rfl
  have p10 : (!decide (e.num = 0)) = false := by rw [hn]; rfl
  rw [hu, hn, Bool.true_and, Bool.true_and] at hR
  rw [hR]
  refine pure_enter Try.func44 rfl (by decide) _ Try.ntmps44 (le_ok rfl) (fun w Pr hE => ?_)
  dsimp only [slotsOf, Nat.zero_add, Nat.reduceAdd]
  repeat' (first | (apply at_call; refine k_call (hna) hE ?_; rintro _ rfl) | refine nx ?_ | (apply aq_block_y; decide) | (apply qr_move; refine r_move ?_) | (apply qr_assign; refine r_assign ?_) | (apply at_cond; first | refine c_t ?_ | refine c_f ?_ | (refine aw_cond rfl (fun hb => ?_) (fun hb => ?_) <;> ((try have hq := dX hb); (try (exfalso; omega))))) | (apply at_guard; first | refine g_go ?_ | refine g_nt ?_ | refine g_nf ?_ | refine g_nu ?_ | ((first | refine al_split_t rfl rfl (lt_ok rfl) (fun hb => ?_) (fun hb => ?_) | refine al_split_f rfl rfl (lt_ok rfl) (fun hb => ?_) (fun hb => ?_)) <;> ((try have hq := dX hb); (try (exfalso; omega))))) | (apply qr_pick; refine r_pick ?_) | (apply qr_lss; refine r_lss ?_) | (apply qr_geq; refine r_geq ?_) | (apply qr_eql; refine r_eql ?_) | (apply qr_neq; refine r_neq ?_) | (apply qr_len; refine r_len ?_) | (apply qr_load; refine r_load ?_) | (apply qr_faddr; refine r_faddr ?_) | (apply qr_boxed; refine r_boxed ?_))
  refine rt1 ?_
  rfl
 ·have r1 : decide (e.op = 1) = false := decide_eq_false (by omega)
  have r2 : decide (e.op = 2) = false := decide_eq_false (by omega)
  have r3 : decide (e.op = 3) = true := decide_eq_true h1
  cases hl : decide (m = 0)
  ·rw [hl, Bool.false_and] at hR
   rw [hR]
   have p8 : (!decide (((Ex.rows e.args).length : Int) = 0)) = true := by rw [hm, hl]; rfl
   refine pure_enter Try.func44 rfl (by decide) _ Try.ntmps44 (le_ok rfl) (fun w Pr hE => ?_)
   dsimp only [slotsOf, Nat.zero_add, Nat.reduceAdd]
   repeat' (first | refine nx ?_ | (apply aq_block_y; decide) | (apply qr_move; refine r_move ?_) | (apply qr_assign; refine r_assign ?_) | (apply at_cond; first | refine c_t ?_ | refine c_f ?_ | (refine aw_cond rfl (fun hb => ?_) (fun hb => ?_) <;> ((try have hq := dX hb); (try (exfalso; omega))))) | (apply at_guard; first | refine g_go ?_ | refine g_nt ?_ | refine g_nf ?_ | refine g_nu ?_ | ((first | refine al_split_t rfl rfl (lt_ok rfl) (fun hb => ?_) (fun hb => ?_) | refine al_split_f rfl rfl (lt_ok rfl) (fun hb => ?_) (fun hb => ?_)) <;> ((try have hq := dX hb); (try (exfalso; omega))))) | (apply qr_pick; refine r_pick ?_) | (apply qr_lss; refine r_lss ?_) | (apply qr_geq; refine r_geq ?_) | (apply qr_eql; refine r_eql ?_) | (apply qr_neq; refine r_neq ?_) | (apply qr_len; refine r_len ?_) | (apply qr_load; refine r_load ?_) | (apply qr_faddr; refine r_faddr ?_) | (apply qr_boxed; refine r_boxed ?_))
   refine rt1 ?_
   rfl
  rw [hl, Bool.true_and] at hR
  have p8 : (!decide (((Ex.rows e.args).length : Int) = 0)) = false := by rw [hm, hl]; rfl
  cases hu : decide (e.unit = 0)
  ·rw [hu, Bool.and_false, Bool.false_and] at hR
   rw [hR]
   have p9 : (!decide (e.unit = 0)) = true := by rw [hu]; rfl
   refine pure_enter Try.func44 rfl (by decide) _ Try.ntmps44 (le_ok rfl) (fun w Pr hE => ?_)
   dsimp only [slotsOf, Nat.zero_add, Nat.reduceAdd]
   repeat' (first | refine nx ?_ | (apply aq_block_y; decide) | (apply qr_move; refine r_move ?_) | (apply qr_assign; refine r_assign ?_) | (apply at_cond; first | refine c_t ?_ | refine c_f ?_ | (refine aw_cond rfl (fun hb => ?_) (fun hb => ?_) <;> ((try have hq := dX hb); (try (exfalso; omega))))) | (apply at_guard; first | refine g_go ?_ | refine g_nt ?_ | refine g_nf ?_ | refine g_nu ?_ | ((first | refine al_split_t rfl rfl (lt_ok rfl) (fun hb => ?_) (fun hb => ?_) | refine al_split_f rfl rfl (lt_ok rfl) (fun hb => ?_) (fun hb => ?_)) <;> ((try have hq := dX hb); (try (exfalso; omega))))) | (apply qr_pick; refine r_pick ?_) | (apply qr_lss; refine r_lss ?_) | (apply qr_geq; refine r_geq ?_) | (apply qr_eql; refine r_eql ?_) | (apply qr_neq; refine r_neq ?_) | (apply qr_len; refine r_len ?_) | (apply qr_load; refine r_load ?_) | (apply qr_faddr; refine r_faddr ?_) | (apply qr_boxed; refine r_boxed ?_))
   refine rt1 ?_
   rfl
  have p9 : (!decide (e.unit = 0)) = false := by rw [hu]; rfl
  cases hn : decide (e.num = 0)
  ·rw [hn, Bool.false_and, Bool.false_and] at hR
   rw [hR]
   have p10 : (!decide (e.num = 0)) = true := by rw [hn]; rfl
   refine pure_enter Try.func44 rfl (by decide) _ Try.ntmps44 (le_ok rfl) (fun w Pr hE => ?_)
   dsimp only [slotsOf, Nat.zero_add, Nat.reduceAdd]
   repeat' (first | refine nx ?_ | (apply aq_block_y; decide) | (apply qr_move; refine r_move ?_) | (apply qr_assign; refine r_assign ?_) | (apply at_cond; first | refine c_t ?_ | refine c_f ?_ | (refine aw_cond rfl (fun hb => ?_) (fun hb => ?_) <;> ((try have hq := dX hb); (try (exfalso; omega))))) | (apply at_guard; first | refine g_go ?_ | refine g_nt ?_ | refine g_nf ?_ | refine g_nu ?_ | ((first | refine al_split_t rfl rfl (lt_ok rfl) (fun hb => ?_) (fun hb => ?_) | refine al_split_f rfl rfl (lt_ok rfl) (fun hb => ?_) (fun hb => ?_)) <;> ((try have hq := dX hb); (try (exfalso; omega))))) | (apply qr_pick; refine r_pick ?_) | (apply qr_lss; refine r_lss ?_) | (apply qr_geq; refine r_geq ?_) | (apply qr_eql; refine r_eql ?_) | (apply qr_neq; refine r_neq ?_) | (apply qr_len; refine r_len ?_) | (apply qr_load; refine r_load ?_) | (apply qr_faddr; refine r_faddr ?_) | (apply qr_boxed; refine r_boxed ?_))
   refine rt1 ?_
   rfl
  have p10 : (!decide (e.num = 0)) = false := by rw [hn]; rfl
  rw [hu, hn, Bool.true_and, Bool.true_and] at hR
  rw [hR]
  refine pure_enter Try.func44 rfl (by decide) _ Try.ntmps44 (le_ok rfl) (fun w Pr hE => ?_)
  dsimp only [slotsOf, Nat.zero_add, Nat.reduceAdd]
  repeat' (first | (apply at_call; refine k_call (hna) hE ?_; rintro _ rfl) | refine nx ?_ | (apply aq_block_y; decide) | (apply qr_move; refine r_move ?_) | (apply qr_assign; refine r_assign ?_) | (apply at_cond; first | refine c_t ?_ | refine c_f ?_ | (refine aw_cond rfl (fun hb => ?_) (fun hb => ?_) <;> ((try have hq := dX hb); (try (exfalso; omega))))) | (apply at_guard; first | refine g_go ?_ | refine g_nt ?_ | refine g_nf ?_ | refine g_nu ?_ | ((first | refine al_split_t rfl rfl (lt_ok rfl) (fun hb => ?_) (fun hb => ?_) | refine al_split_f rfl rfl (lt_ok rfl) (fun hb => ?_) (fun hb => ?_)) <;> ((try have hq := dX hb); (try (exfalso; omega))))) | (apply qr_pick; refine r_pick ?_) | (apply qr_lss; refine r_lss ?_) | (apply qr_geq; refine r_geq ?_) | (apply qr_eql; refine r_eql ?_) | (apply qr_neq; refine r_neq ?_) | (apply qr_len; refine r_len ?_) | (apply qr_load; refine r_load ?_) | (apply qr_faddr; refine r_faddr ?_) | (apply qr_boxed; refine r_boxed ?_))
  refine rt1 ?_
  rfl
end Go.Proofs.Ytgiacdhffklenaa
