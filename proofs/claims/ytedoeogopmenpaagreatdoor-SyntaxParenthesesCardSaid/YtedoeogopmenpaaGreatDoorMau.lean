/-
  Conditions: none.
-/
import Derived.Test.YtedoeogopmenpaaGreatDoorMat
set_option maxHeartbeats 16000000
set_option maxRecDepth 20000
section
set_option linter.unusedSimpArgs false
set_option linter.unusedVariables false
namespace Go.Proofs.YtedoeogopmenpaaGreatDoor
open Go.RowKit
theorem levels_arg {e : Ex} {n : Nat} (h : e.levels ≤ n + 1) : ∀ x ∈ e.args, Ex.levels x ≤ n := by
 intro x hx
 obtain ⟨i, hi, rfl⟩ := List.mem_iff_getElem.1 hx
 have h1 := levelsL_get hi
 have h2 := levels_args e
 omega
theorem sameE_n : ∀ n : Nat, SameC n 27
 | 0, a, _, h, _, _ => by have := levels_pos a; omega
 | n + 1, a, b, h, ta, tb => by
  have hc := equal_exps (sameE_n n) a.args b.args (levels_arg h) (tame_args ta) (tame_args tb) (tame_len ta) (tame_len tb)
  rw [same_eq]
  cases c1 : decide (a.op = b.op)
  ·rw [Bool.false_and]
   refine pure_enter Tryz.func27 rfl (by decide) _ Tryz.ntmps27 (le_ok rfl) (fun w Pr hE => ?_)
   dsimp only [slotsOf, Nat.zero_add, Nat.reduceAdd]
   repeat' (first | refine nx ?_ | (apply qr_move; refine r_move ?_) | (apply qr_assign; refine r_assign ?_) | (apply at_guard; first | refine g_go ?_ | refine g_nt ?_ | refine g_nf ?_ | refine g_nu ?_ | ((first | refine al_split_t rfl rfl (lt_ok rfl) (fun hb => ?_) (fun hb => ?_) | refine al_split_f rfl rfl (lt_ok rfl) (fun hb => ?_) (fun hb => ?_)) <;> ((try have hq := dX hb); (try (exfalso; omega))))) | (apply qr_pick; refine r_pick ?_) | (apply qr_eql; refine r_eql ?_) | (apply qr_load; refine r_load ?_) | (apply qr_faddr; refine r_faddr ?_) | (apply qr_boxed; refine r_boxed ?_))
   refine rt1 ?_
   rfl
  rw [Bool.true_and]
  cases c2 : decide (a.num = b.num)
  ·rw [Bool.false_and]
   refine pure_enter Tryz.func27 rfl (by decide) _ Tryz.ntmps27 (le_ok rfl) (fun w Pr hE => ?_)
   dsimp only [slotsOf, Nat.zero_add, Nat.reduceAdd]
   repeat' (first | refine nx ?_ | (apply qr_move; refine r_move ?_) | (apply qr_assign; refine r_assign ?_) | (apply at_guard; first | refine g_go ?_ | refine g_nt ?_ | refine g_nf ?_ | refine g_nu ?_ | ((first | refine al_split_t rfl rfl (lt_ok rfl) (fun hb => ?_) (fun hb => ?_) | refine al_split_f rfl rfl (lt_ok rfl) (fun hb => ?_) (fun hb => ?_)) <;> ((try have hq := dX hb); (try (exfalso; omega))))) | (apply qr_pick; refine r_pick ?_) | (apply qr_eql; refine r_eql ?_) | (apply qr_load; refine r_load ?_) | (apply qr_faddr; refine r_faddr ?_) | (apply qr_boxed; refine r_boxed ?_))
   refine rt1 ?_
   rfl
  rw [Bool.true_and]
  cases c3 : decide (a.unit = b.unit)
  ·rw [Bool.false_and]
   refine pure_enter Tryz.func27 rfl (by decide) _ Tryz.ntmps27 (le_ok rfl) (fun w Pr hE => ?_)
   dsimp only [slotsOf, Nat.zero_add, Nat.reduceAdd]
   repeat' (first | refine nx ?_ | (apply qr_move; refine r_move ?_) | (apply qr_assign; refine r_assign ?_) | (apply at_guard; first | refine g_go ?_ | refine g_nt ?_ | refine g_nf ?_ | refine g_nu ?_ | ((first | refine al_split_t rfl rfl (lt_ok rfl) (fun hb => ?_) (fun hb => ?_) | refine al_split_f rfl rfl (lt_ok rfl) (fun hb => ?_) (fun hb => ?_)) <;> ((try have hq := dX hb); (try (exfalso; omega))))) | (apply qr_pick; refine r_pick ?_) | (apply qr_eql; refine r_eql ?_) | (apply qr_load; refine r_load ?_) | (apply qr_faddr; refine r_faddr ?_) | (apply qr_boxed; refine r_boxed ?_))
   refine rt1 ?_
   rfl
  rw [Bool.true_and]
  cases c4 : decide (a.str = b.str)
  ·rw [Bool.false_and]
   refine pure_enter Tryz.func27 rfl (by decide) _ Tryz.ntmps27 (le_ok rfl) (fun w Pr hE => ?_)
   dsimp only [slotsOf, Nat.zero_add, Nat.reduceAdd]
   repeat' (first | refine nx ?_ | (apply qr_move; refine r_move ?_) | (apply qr_assign; refine r_assign ?_) | (apply at_guard; first | refine g_go ?_ | refine g_nt ?_ | refine g_nf ?_ | refine g_nu ?_ | ((first | refine al_split_t rfl rfl (lt_ok rfl) (fun hb => ?_) (fun hb => ?_) | refine al_split_f rfl rfl (lt_ok rfl) (fun hb => ?_) (fun hb => ?_)) <;> ((try have hq := dX hb); (try (exfalso; omega))))) | (apply qr_pick; refine r_pick ?_) | (apply qr_eql; refine r_eql ?_) | (apply qr_load; refine r_load ?_) | (apply qr_faddr; refine r_faddr ?_) | (apply qr_boxed; refine r_boxed ?_))
   refine rt1 ?_
   rfl
  rw [Bool.true_and]
  refine pure_enter Tryz.func27 rfl (by decide) _ Tryz.ntmps27 (le_ok rfl) (fun w Pr hE => ?_)
  dsimp only [slotsOf, Nat.zero_add, Nat.reduceAdd]
  repeat' (first | (apply at_call; refine k_call (hc) hE ?_; rintro _ rfl) | refine nx ?_ | (apply qr_move; refine r_move ?_) | (apply qr_assign; refine r_assign ?_) | (apply at_guard; first | refine g_go ?_ | refine g_nt ?_ | refine g_nf ?_ | refine g_nu ?_ | ((first | refine al_split_t rfl rfl (lt_ok rfl) (fun hb => ?_) (fun hb => ?_) | refine al_split_f rfl rfl (lt_ok rfl) (fun hb => ?_) (fun hb => ?_)) <;> ((try have hq := dX hb); (try (exfalso; omega))))) | (apply qr_pick; refine r_pick ?_) | (apply qr_eql; refine r_eql ?_) | (apply qr_load; refine r_load ?_) | (apply qr_faddr; refine r_faddr ?_) | (apply qr_boxed; refine r_boxed ?_))
  refine rt1 ?_
  rfl
theorem sameE_any (a b : Ex) (ta : a.tame) (tb : b.tame) : PureC 27 [.agg (exC a), .agg (exC b)] (· = .bool (a.same b)) := sameE_n a.levels a b (Nat.le_refl _) ta tb
theorem rsameE_n : ∀ n : Nat, SameC n 14
 | 0, a, _, h, _, _ => by have := levels_pos a; omega
 | n + 1, a, b, h, ta, tb => by
  have ih := rsameE_n n
  have hla := rows_len a.args
  have hlb := rows_len b.args
  have lla := tame_len ta
  have llb := tame_len tb
  rw [same_eq]
  cases c1 : (!decide (a.op = b.op))
  case true =>
   rw [show decide (a.op = b.op) = false by simpa using c1, Bool.false_and]
   refine pure_enter Tryz.func14 rfl (by decide) _ Tryz.ntmps14 (le_ok rfl) (fun w Pr hE => ?_)
   dsimp only [slotsOf, Nat.zero_add, Nat.reduceAdd]
   repeat' (first | refine nx ?_ | (apply aq_block_y; decide) | (apply qr_move; refine r_move ?_) | (apply qr_assign; refine r_assign ?_) | (apply at_cond; first | refine c_t ?_ | refine c_f ?_ | (refine aw_cond rfl (fun hb => ?_) (fun hb => ?_) <;> ((try have hq := dX hb); (try (exfalso; omega))))) | (apply at_guard; first | refine g_go ?_ | refine g_nt ?_ | refine g_nf ?_ | refine g_nu ?_ | ((first | refine al_split_t rfl rfl (lt_ok rfl) (fun hb => ?_) (fun hb => ?_) | refine al_split_f rfl rfl (lt_ok rfl) (fun hb => ?_) (fun hb => ?_)) <;> ((try have hq := dX hb); (try (exfalso; omega))))) | (apply qr_pick; refine r_pick ?_) | (apply qr_neq; refine r_neq ?_) | (apply qr_len; refine r_len ?_) | (apply qr_load; refine r_load ?_) | (apply qr_faddr; refine r_faddr ?_) | (apply qr_boxed; refine r_boxed ?_))
   refine rt1 ?_
   rfl
  rw [show decide (a.op = b.op) = true by simpa using c1, Bool.true_and]
  cases c2 : (!decide (a.num = b.num))
  case true =>
   rw [show decide (a.num = b.num) = false by simpa using c2, Bool.false_and]
   refine pure_enter Tryz.func14 rfl (by decide) _ Tryz.ntmps14 (le_ok rfl) (fun w Pr hE => ?_)
   dsimp only [slotsOf, Nat.zero_add, Nat.reduceAdd]
   repeat' (first | refine nx ?_ | (apply aq_block_y; decide) | (apply qr_move; refine r_move ?_) | (apply qr_assign; refine r_assign ?_) | (apply at_cond; first | refine c_t ?_ | refine c_f ?_ | (refine aw_cond rfl (fun hb => ?_) (fun hb => ?_) <;> ((try have hq := dX hb); (try (exfalso; omega))))) | (apply at_guard; first | refine g_go ?_ | refine g_nt ?_ | refine g_nf ?_ | refine g_nu ?_ | ((first | refine al_split_t rfl rfl (lt_ok rfl) (fun hb => ?_) (fun hb => ?_) | refine al_split_f rfl rfl (lt_ok rfl) (fun hb => ?_) (fun hb => ?_)) <;> ((try have hq := dX hb); (try (exfalso; omega))))) | (apply qr_pick; refine r_pick ?_) | (apply qr_neq; refine r_neq ?_) | (apply qr_len; refine r_len ?_) | (apply qr_load; refine r_load ?_) | (apply qr_faddr; refine r_faddr ?_) | (apply qr_boxed; refine r_boxed ?_))
   refine rt1 ?_
   rfl
  rw [show decide (a.num = b.num) = true by simpa using c2, Bool.true_and]
  cases c3 : (!decide (a.unit = b.unit))
  case true =>
   rw [show decide (a.unit = b.unit) = false by simpa using c3, Bool.false_and]
   refine pure_enter Tryz.func14 rfl (by decide) _ Tryz.ntmps14 (le_ok rfl) (fun w Pr hE => ?_)
   dsimp only [slotsOf, Nat.zero_add, Nat.reduceAdd]
   repeat' (first | refine nx ?_ | (apply aq_block_y; decide) | (apply qr_move; refine r_move ?_) | (apply qr_assign; refine r_assign ?_) | (apply at_cond; first | refine c_t ?_ | refine c_f ?_ | (refine aw_cond rfl (fun hb => ?_) (fun hb => ?_) <;> ((try have hq := dX hb); (try (exfalso; omega))))) | (apply at_guard; first | refine g_go ?_ | refine g_nt ?_ | refine g_nf ?_ | refine g_nu ?_ | ((first | refine al_split_t rfl rfl (lt_ok rfl) (fun hb => ?_) (fun hb => ?_) | refine al_split_f rfl rfl (lt_ok rfl) (fun hb => ?_) (fun hb => ?_)) <;> ((try have hq := dX hb); (try (exfalso; omega))))) | (apply qr_pick; refine r_pick ?_) | (apply qr_neq; refine r_neq ?_) | (apply qr_len; refine r_len ?_) | (apply qr_load; refine r_load ?_) | (apply qr_faddr; refine r_faddr ?_) | (apply qr_boxed; refine r_boxed ?_))
   refine rt1 ?_
   rfl
  rw [show decide (a.unit = b.unit) = true by simpa using c3, Bool.true_and]
  cases c4 : (!decide (a.str = b.str))
  case true =>
   rw [show decide (a.str = b.str) = false by simpa using c4, Bool.false_and]
   refine pure_enter Tryz.func14 rfl (by decide) _ Tryz.ntmps14 (le_ok rfl) (fun w Pr hE => ?_)
   dsimp only [slotsOf, Nat.zero_add, Nat.reduceAdd]
   repeat' (first | refine nx ?_ | (apply aq_block_y; decide) | (apply qr_move; refine r_move ?_) | (apply qr_assign; refine r_assign ?_) | (apply at_cond; first | refine c_t ?_ | refine c_f ?_ | (refine aw_cond rfl (fun hb => ?_) (fun hb => ?_) <;> ((try have hq := dX hb); (try (exfalso; omega))))) | (apply at_guard; first | refine g_go ?_ | refine g_nt ?_ | refine g_nf ?_ | refine g_nu ?_ | ((first | refine al_split_t rfl rfl (lt_ok rfl) (fun hb => ?_) (fun hb => ?_) | refine al_split_f rfl rfl (lt_ok rfl) (fun hb => ?_) (fun hb => ?_)) <;> ((try have hq := dX hb); (try (exfalso; omega))))) | (apply qr_pick; refine r_pick ?_) | (apply qr_neq; refine r_neq ?_) | (apply qr_len; refine r_len ?_) | (apply qr_load; refine r_load ?_) | (apply qr_faddr; refine r_faddr ?_) | (apply qr_boxed; refine r_boxed ?_))
   refine rt1 ?_
   rfl
  rw [show decide (a.str = b.str) = true by simpa using c4, Bool.true_and]
  by_cases hl : a.args.length = b.args.length
  ·have q0 : (!decide (((Ex.rows a.args).length : Int) = (Ex.rows b.args).length)) = false := by simp [hla, hlb, hl]
   refine pure_enter Tryz.func14 rfl (by decide) _ Tryz.ntmps14 (le_ok rfl) (fun w Pr hE => ?_)
   dsimp only [slotsOf, Nat.zero_add, Nat.reduceAdd]
   repeat' (first | refine nx ?_ | (apply aq_block_y; decide) | (apply qr_move; refine r_move ?_) | (apply qr_assign; refine r_assign ?_) | (apply at_cond; first | refine c_t ?_ | refine c_f ?_ | (refine aw_cond rfl (fun hb => ?_) (fun hb => ?_) <;> ((try have hq := dX hb); (try (exfalso; omega))))) | (apply at_guard; first | refine g_go ?_ | refine g_nt ?_ | refine g_nf ?_ | refine g_nu ?_ | ((first | refine al_split_t rfl rfl (lt_ok rfl) (fun hb => ?_) (fun hb => ?_) | refine al_split_f rfl rfl (lt_ok rfl) (fun hb => ?_) (fun hb => ?_)) <;> ((try have hq := dX hb); (try (exfalso; omega))))) | (apply qr_pick; refine r_pick ?_) | (apply qr_neq; refine r_neq ?_) | (apply qr_len; refine r_len ?_) | (apply qr_load; refine r_load ?_) | (apply qr_faddr; refine r_faddr ?_) | (apply qr_boxed; refine r_boxed ?_))
   refine aw_lp (fun N sl ob => ∃ i : Nat, N = a.args.length - i ∧ i ≤ a.args.length ∧ (∀ (j : Nat) (ha : j < a.args.length) (hb : j < b.args.length), j < i → a.args[j].same b.args[j] = true) ∧ sl = [(5, .d (.int i)), (4, .d (.bool false)), (3, .box 3 0), (2, .box 2 0)] ∧ ob = [(3, exO' b), (2, exO' a)]) (⟨0, rfl, Nat.zero_le _, fun j _ _ h => by omega, rfl, rfl⟩) ?_
   rintro N sl ob ⟨i, rfl, hi, hs, rfl, rfl⟩
   by_cases hlt : i < a.args.length
   ·have hlt2 : i < b.args.length := by omega
    have hg1 := rows_get hlt
    have hg2 := rows_get hlt2
    have hc := ih a.args[i] b.args[i] (levels_arg h _ (List.getElem_mem hlt)) (tame_get ta hlt) (tame_get tb hlt2)
    have q : decide ((i : Int) < (Ex.rows a.args).length) = true := decide_eq_true (by omega)
    cases hT : a.args[i].same b.args[i]
    ·rw [sameL_no hlt hlt2 hT]
     rw [hT] at hc
     generalize a.args[i] = x at hg1 hc
     generalize b.args[i] = y at hg2 hc
     repeat' (first | refine nx ?_ | (apply aq_block_y; decide) | (apply qr_move; refine r_move ?_) | (apply at_cond; first | refine c_t ?_ | refine c_f ?_ | (refine aw_cond rfl (fun hb => ?_) (fun hb => ?_) <;> ((try have hq := dX hb); (try (exfalso; omega))))) | (apply qr_lss; refine r_lss ?_) | (apply qr_len; refine r_len ?_) | (apply qr_load; refine r_load ?_) | (apply qr_faddr; refine r_faddr ?_))
     refine aw_mixo ([(3, exO' b), (2, exO' a)]) [(0, true), (1, true), (2, true), (3, true), (4, true), (5, true), (6, true), (7, true), (8, true), (9, true), (10, false), (11, true)] [] (by kernel_rfl) (by kernel_rfl) (by kernel_rfl) (by decide) (by (repeat (first | exact obs_nil | (apply obs_cons; focus (first | rfl | (simp [find]; done)))))) ?_
     simp only [planned, tailed, List.filterMap_cons, List.filterMap_nil, List.getElem?_cons_zero, List.getElem?_cons_succ, Option.map_some]
     repeat' (first | apply am_nil | refine m_skip ?_ | refine n_skip ?_ | (apply at_am (.indexAddr _ _ _); refine am_y (by first | exact want_none | exact want_yes rfl rfl (by assumption) | exact want_yes rfl rfl (by with_reducible rfl)) (y_ix (by first | exact ToD.d _ | exact ToD.row _ _ _ _ _ rfl) rfl rfl (by first | with_reducible rfl | exact lit0 | exact lit1 | exact lit2 | exact lit3 | exact lit4 | exact int_s _ | exact int_p _ _ | exact int_nat _ (by omega)) hg1) (lt_ok rfl) ?_; clear hg1) | (apply at_am (.indexAddr _ _ _); refine am_y (by first | exact want_none | exact want_yes rfl rfl (by assumption) | exact want_yes rfl rfl (by with_reducible rfl)) (y_ix (by first | exact ToD.d _ | exact ToD.row _ _ _ _ _ rfl) rfl rfl (by first | with_reducible rfl | exact lit0 | exact lit1 | exact lit2 | exact lit3 | exact lit4 | exact int_s _ | exact int_p _ _ | exact int_nat _ (by omega)) hg2) (lt_ok rfl) ?_) | (apply at_mcall; refine m_call (hc) hE ?_; rintro _ rfl; (try dsimp only [flat, D.plain, D.plainL])) | (apply qm_move; refine m_move ?_) | (apply qm_not; refine m_not ?_) | (apply qm_ix; refine m_ix ?_) | (apply qm_load; refine m_load ?_) | (apply qm_faddr; refine m_faddr ?_) | (refine am_split rfl rfl (fun hb => ?_) (fun hb => ?_) <;> ((try have hq := dX hb); (try (exfalso; omega)))))
     repeat' (first | refine nx ?_ | (apply aq_block_y; decide) | (apply qr_move; refine r_move ?_) | (apply qr_assign; refine r_assign ?_) | (apply at_cond; first | refine c_t ?_ | refine c_f ?_ | (refine aw_cond rfl (fun hb => ?_) (fun hb => ?_) <;> ((try have hq := dX hb); (try (exfalso; omega))))) | (apply qr_not; refine r_not ?_) | (apply qr_ix; refine r_ix ?_) | (apply qr_load; refine r_load ?_) | (apply qr_faddr; refine r_faddr ?_))
     refine rt1 ?_
     rfl
    ·have hnext : ∀ (j : Nat) (ha : j < a.args.length) (hb : j < b.args.length), j < i + 1 → a.args[j].same b.args[j] = true := fun j h1 h2 h3 => by
      rcases Nat.lt_succ_iff_lt_or_eq.1 h3 with h | rfl
      ·exact hs j h1 h2 h
      ·exact hT
     rw [hT] at hc
     generalize a.args[i] = x at hg1 hc
     generalize b.args[i] = y at hg2 hc
     repeat' (first | refine nx ?_ | (apply aq_block_y; decide) | (apply qr_move; refine r_move ?_) | (apply at_cond; first | refine c_t ?_ | refine c_f ?_ | (refine aw_cond rfl (fun hb => ?_) (fun hb => ?_) <;> ((try have hq := dX hb); (try (exfalso; omega))))) | (apply qr_lss; refine r_lss ?_) | (apply qr_len; refine r_len ?_) | (apply qr_load; refine r_load ?_) | (apply qr_faddr; refine r_faddr ?_))
     refine aw_mixo ([(3, exO' b), (2, exO' a)]) [(0, true), (1, true), (2, true), (3, true), (4, true), (5, true), (6, true), (7, true), (8, true), (9, true), (10, false), (11, true)] [] (by kernel_rfl) (by kernel_rfl) (by kernel_rfl) (by decide) (by (repeat (first | exact obs_nil | (apply obs_cons; focus (first | rfl | (simp [find]; done)))))) ?_
     simp only [planned, tailed, List.filterMap_cons, List.filterMap_nil, List.getElem?_cons_zero, List.getElem?_cons_succ, Option.map_some]
     repeat' (first | apply am_nil | refine m_skip ?_ | refine n_skip ?_ | (apply at_am (.indexAddr _ _ _); refine am_y (by first | exact want_none | exact want_yes rfl rfl (by assumption) | exact want_yes rfl rfl (by with_reducible rfl)) (y_ix (by first | exact ToD.d _ | exact ToD.row _ _ _ _ _ rfl) rfl rfl (by first | with_reducible rfl | exact lit0 | exact lit1 | exact lit2 | exact lit3 | exact lit4 | exact int_s _ | exact int_p _ _ | exact int_nat _ (by omega)) hg1) (lt_ok rfl) ?_; clear hg1) | (apply at_am (.indexAddr _ _ _); refine am_y (by first | exact want_none | exact want_yes rfl rfl (by assumption) | exact want_yes rfl rfl (by with_reducible rfl)) (y_ix (by first | exact ToD.d _ | exact ToD.row _ _ _ _ _ rfl) rfl rfl (by first | with_reducible rfl | exact lit0 | exact lit1 | exact lit2 | exact lit3 | exact lit4 | exact int_s _ | exact int_p _ _ | exact int_nat _ (by omega)) hg2) (lt_ok rfl) ?_) | (apply at_mcall; refine m_call (hc) hE ?_; rintro _ rfl; (try dsimp only [flat, D.plain, D.plainL])) | (apply qm_move; refine m_move ?_) | (apply qm_not; refine m_not ?_) | (apply qm_ix; refine m_ix ?_) | (apply qm_load; refine m_load ?_) | (apply qm_faddr; refine m_faddr ?_) | (refine am_split rfl rfl (fun hb => ?_) (fun hb => ?_) <;> ((try have hq := dX hb); (try (exfalso; omega)))))
     repeat' (first | refine nx ?_ | (apply aq_block_y; decide) | (apply qr_move; refine r_move ?_) | (apply qr_assign; refine r_assign ?_) | (apply at_cond; first | refine c_t ?_ | refine c_f ?_ | (refine aw_cond rfl (fun hb => ?_) (fun hb => ?_) <;> ((try have hq := dX hb); (try (exfalso; omega))))) | (apply qr_add; refine r_add ?_) | (apply qr_not; refine r_not ?_) | (apply qr_ix; refine r_ix ?_) | (apply qr_load; refine r_load ?_) | (apply qr_faddr; refine r_faddr ?_))
     refine aq_rd (⟨i + 1, rfl, by omega, hnext, rfl, rfl⟩) (by omega)
   ·rw [sameL_yes hl (fun j h1 h2 => hs j h1 h2 (by omega))]
    have q : decide ((i : Int) < (Ex.rows a.args).length) = false := decide_eq_false (by omega)
    repeat' (first | refine nx ?_ | (apply aq_block_y; decide) | (apply qr_move; refine r_move ?_) | (apply qr_assign; refine r_assign ?_) | (apply at_cond; first | refine c_t ?_ | refine c_f ?_ | (refine aw_cond rfl (fun hb => ?_) (fun hb => ?_) <;> ((try have hq := dX hb); (try (exfalso; omega))))) | (apply qr_lss; refine r_lss ?_) | (apply qr_len; refine r_len ?_) | (apply qr_load; refine r_load ?_) | (apply qr_faddr; refine r_faddr ?_))
    refine rt1 ?_
    rfl
  ·rw [sameL_len hl]
   have q0 : (!decide (((Ex.rows a.args).length : Int) = (Ex.rows b.args).length)) = true := by
    have : ¬ (a.args.length : Int) = b.args.length := by omega
    simp [hla, hlb, this]
   refine pure_enter Tryz.func14 rfl (by decide) _ Tryz.ntmps14 (le_ok rfl) (fun w Pr hE => ?_)
   dsimp only [slotsOf, Nat.zero_add, Nat.reduceAdd]
   repeat' (first | refine nx ?_ | (apply aq_block_y; decide) | (apply qr_move; refine r_move ?_) | (apply qr_assign; refine r_assign ?_) | (apply at_cond; first | refine c_t ?_ | refine c_f ?_ | (refine aw_cond rfl (fun hb => ?_) (fun hb => ?_) <;> ((try have hq := dX hb); (try (exfalso; omega))))) | (apply at_guard; first | refine g_go ?_ | refine g_nt ?_ | refine g_nf ?_ | refine g_nu ?_ | ((first | refine al_split_t rfl rfl (lt_ok rfl) (fun hb => ?_) (fun hb => ?_) | refine al_split_f rfl rfl (lt_ok rfl) (fun hb => ?_) (fun hb => ?_)) <;> ((try have hq := dX hb); (try (exfalso; omega))))) | (apply qr_pick; refine r_pick ?_) | (apply qr_neq; refine r_neq ?_) | (apply qr_len; refine r_len ?_) | (apply qr_load; refine r_load ?_) | (apply qr_faddr; refine r_faddr ?_) | (apply qr_boxed; refine r_boxed ?_))
   refine rt1 ?_
   rfl
theorem rsameE_any (a b : Ex) (ta : a.tame) (tb : b.tame) : PureC 14 [.agg (exC a), .agg (exC b)] (· = .bool (a.same b)) := rsameE_n a.levels a b (Nat.le_refl _) ta tb
end Go.Proofs.YtedoeogopmenpaaGreatDoor
end
section
set_option linter.unusedSimpArgs false
set_option linter.unusedVariables false
namespace Go.Proofs.YtedoeogopmenpaaGreatDoor
open Go.RowKit
def letSame (p q : ByteArray × Ex) : Bool := decide (p.1 = q.1) && p.2.same q.2
def letsSame : List (ByteArray × Ex) → List (ByteArray × Ex) → Bool
 | [], [] => true
 | x :: r, y :: t => letSame x y && letsSame r t
 | [], _ :: _ => false
 | _ :: _, [] => false
theorem letSame_iff (p q : ByteArray × Ex) : letSame p q = true ↔ p = q := by
 obtain ⟨a, b⟩ := p
 obtain ⟨c, d⟩ := q
 simp only [letSame, Bool.and_eq_true, decide_eq_true_eq, same_iff, Prod.mk.injEq]
theorem letsSame_iff : ∀ a b, letsSame a b = true ↔ a = b
 | [], [] => by simp [letsSame]
 | x :: r, y :: t => by simp only [letsSame, Bool.and_eq_true, letSame_iff x y, letsSame_iff r t, List.cons.injEq]
 | [], _ :: _ => by simp [letsSame]
 | _ :: _, [] => by simp [letsSame]
theorem lets_len {a b : List (ByteArray × Ex)} (h : a.length ≠ b.length) : letsSame a b = false := by
 rw [Bool.eq_false_iff, Ne, letsSame_iff]
 rintro rfl
 exact h rfl
theorem lets_no {a b : List (ByteArray × Ex)} {i : Nat} (ha : i < a.length) (hb : i < b.length) (h : letSame a[i] b[i] = false) : letsSame a b = false := by
 rw [Bool.eq_false_iff, Ne, letsSame_iff]
 rintro rfl
 have := (letSame_iff a[i] a[i]).2 rfl
 rw [h] at this
 cases this
theorem lets_yes {a b : List (ByteArray × Ex)} (hl : a.length = b.length) (h : ∀ (i : Nat) (ha : i < a.length) (hb : i < b.length), letSame a[i] b[i] = true) : letsSame a b = true := by
 rw [letsSame_iff]
 apply List.ext_getElem hl
 intro i h1 h2
 exact (letSame_iff _ _).1 (h i h1 h2)
def letTame (q : ByteArray × Ex) : Prop := q.1.size ≤ 100000 ∧ q.2.tame
structure By.tame (x : By) : Prop where
 name : x.name.size ≤ 100000
 len : x.lets.length ≤ 100000
 lets : ∀ q ∈ x.lets, letTame q
 admit : x.admit.tame
 fare : x.fare.tame
 late : x.late.tame
 noshow : x.noshow.tame
def By.same (a b : By) : Bool := decide (a.name = b.name) && (decide (a.quota = b.quota) && (decide (a.share = b.share) && (decide (a.change = b.change) && (letsSame a.lets b.lets && (a.admit.same b.admit && (a.fare.same b.fare && (a.late.same b.late && a.noshow.same b.noshow)))))))
theorem bySame_iff (a b : By) : a.same b = true ↔ a = b := by
 obtain ⟨a1, a2, a3, a4, a5, a6, a7, a8, a9⟩ := a
 obtain ⟨b1, b2, b3, b4, b5, b6, b7, b8, b9⟩ := b
 simp only [By.same, Bool.and_eq_true, decide_eq_true_eq, same_iff, letsSame_iff, By.mk.injEq]
 constructor
 ·rintro ⟨h1, h2, h3, h4, h5, h6, h7, h8, h9⟩
  exact ⟨h1, h5, h6, h7, h8, h9, h2, h3, h4⟩
 ·rintro ⟨h1, h5, h6, h7, h8, h9, h2, h3, h4⟩
  exact ⟨h1, h2, h3, h4, h5, h6, h7, h8, h9⟩
abbrev letsD (l : List (ByteArray × Ex)) : D := .list 6 (l.map letC)
theorem same1_any (p q : ByteArray × Ex) (tp : letTame p) (tq : letTame q) : PureC 71 [.agg (letC p), .agg (letC q)] (· = .bool (letSame p q)) := by
 have hc := sameE_any p.2 q.2 tp.2 tq.2
 unfold letSame
 cases c1 : decide (p.1 = q.1)
 ·rw [Bool.false_and]
  refine pure_enter Tryz.func71 rfl (by decide) _ Tryz.ntmps71 (le_ok rfl) (fun w Pr hE => ?_)
  dsimp only [slotsOf, Nat.zero_add, Nat.reduceAdd]
  repeat' (first | refine nx ?_ | (apply qr_move; refine r_move ?_) | (apply qr_assign; refine r_assign ?_) | (apply at_guard; first | refine g_go ?_ | refine g_nt ?_ | refine g_nf ?_ | refine g_nu ?_ | ((first | refine al_split_t rfl rfl (lt_ok rfl) (fun hb => ?_) (fun hb => ?_) | refine al_split_f rfl rfl (lt_ok rfl) (fun hb => ?_) (fun hb => ?_)) <;> ((try have hq := dX hb); (try (exfalso; omega))))) | (apply qr_pick; refine r_pick ?_) | (apply qr_eql; refine r_eql ?_) | (apply qr_load; refine r_load ?_) | (apply qr_faddr; refine r_faddr ?_) | (apply qr_boxed; refine r_boxed ?_))
  refine rt1 ?_
  rfl
 ·rw [Bool.true_and]
  refine pure_enter Tryz.func71 rfl (by decide) _ Tryz.ntmps71 (le_ok rfl) (fun w Pr hE => ?_)
  dsimp only [slotsOf, Nat.zero_add, Nat.reduceAdd]
  repeat' (first | (apply at_call; refine k_call (hc) hE ?_; rintro _ rfl) | refine nx ?_ | (apply qr_move; refine r_move ?_) | (apply qr_assign; refine r_assign ?_) | (apply at_guard; first | refine g_go ?_ | refine g_nt ?_ | refine g_nf ?_ | refine g_nu ?_ | ((first | refine al_split_t rfl rfl (lt_ok rfl) (fun hb => ?_) (fun hb => ?_) | refine al_split_f rfl rfl (lt_ok rfl) (fun hb => ?_) (fun hb => ?_)) <;> ((try have hq := dX hb); (try (exfalso; omega))))) | (apply qr_pick; refine r_pick ?_) | (apply qr_eql; refine r_eql ?_) | (apply qr_load; refine r_load ?_) | (apply qr_faddr; refine r_faddr ?_) | (apply qr_boxed; refine r_boxed ?_))
  refine rt1 ?_
  rfl
theorem equal_lets (a b : List (ByteArray × Ex)) (ta : ∀ x ∈ a, letTame x) (tb : ∀ x ∈ b, letTame x) (la : a.length ≤ 100000) (lb : b.length ≤ 100000) : PureC 70 [letsD a, letsD b, .val (.func (.func 71) #[] #[])] (· = .bool (letsSame a b)) := by
 have hla : (a.map letC).length = a.length := List.length_map ..
 have hlb : (b.map letC).length = b.length := List.length_map ..
 by_cases hl : a.length = b.length
 ·have q0 : (!decide (((a.map letC).length : Int) = (b.map letC).length)) = false := by simp [hla, hlb, hl]
  refine pure_enter Tryz.func70 rfl (by decide) _ Tryz.ntmps70 (le_ok rfl) (fun w Pr hE => ?_)
  dsimp only [slotsOf, Nat.zero_add, Nat.reduceAdd]
  repeat' (first | refine nx ?_ | (apply aq_block_y; decide) | (apply qr_move; refine r_move ?_) | (apply qr_assign; refine r_assign ?_) | (apply at_cond; first | refine c_t ?_ | refine c_f ?_ | (refine aw_cond rfl (fun hb => ?_) (fun hb => ?_) <;> ((try have hq := dX hb); (try (exfalso; omega))))) | (apply qr_neq; refine r_neq ?_) | (apply qr_len; refine r_len ?_))
  refine aw_lp (fun N sl ob => ∃ i : Nat, N = a.length - i ∧ i ≤ a.length ∧ (∀ (j : Nat) (ha : j < a.length) (hb : j < b.length), j < i → letSame a[j] b[j] = true) ∧ sl = [(17, .d (.int i)), (16, .d (.int (a.map letC).length)), (15, .d (letsD a)), (2, .d (.val (.func (.func 71) #[] #[]))), (1, .d (letsD b))] ∧ ob = []) (⟨0, rfl, Nat.zero_le _, fun j _ _ h => by omega, rfl, rfl⟩) ?_
  rintro N sl ob ⟨i, rfl, hi, hs, rfl, rfl⟩
  by_cases hlt : i < a.length
  ·have hlt2 : i < b.length := by omega
   have hg1 : (a.map letC)[i]? = some (letC a[i]) := by rw [get_map hlt]
   have hg2 : (b.map letC)[i]? = some (letC b[i]) := by rw [get_map hlt2]
   have hc := same1_any a[i] b[i] (ta _ (List.getElem_mem hlt)) (tb _ (List.getElem_mem hlt2))
   have q : decide ((i : Int) < (a.map letC).length) = true := decide_eq_true (by omega)
   cases hT : letSame a[i] b[i]
   ·rw [lets_no hlt hlt2 hT]
    rw [hT] at hc
    generalize a[i] = x at hg1 hc
    generalize b[i] = y at hg2 hc
    repeat' (first | (apply at_op (.indexAddr _ _ _); refine al_ixq hg1 ?_; clear hg1) | (apply at_op (.indexAddr _ _ _); refine al_ixq hg2 ?_) | (apply at_call; refine k_call (hc) hE ?_; rintro _ rfl) | refine nx ?_ | (apply aq_block_y; decide) | (apply qr_move; refine r_move ?_) | (apply qr_assign; refine r_assign ?_) | (apply at_cond; first | refine c_t ?_ | refine c_f ?_ | (refine aw_cond rfl (fun hb => ?_) (fun hb => ?_) <;> ((try have hq := dX hb); (try (exfalso; omega))))) | (apply qr_lss; refine r_lss ?_) | (apply qr_not; refine r_not ?_) | (apply qr_ix; refine r_ix ?_) | (apply qr_load; refine r_load ?_) | (apply qr_alloc; refine r_alloc ?_) | (apply qr_store; refine r_store ?_))
    refine rt1 ?_
    rfl
   ·have hnext : ∀ (j : Nat) (ha : j < a.length) (hb : j < b.length), j < i + 1 → letSame a[j] b[j] = true := fun j h1 h2 h3 => by
     rcases Nat.lt_succ_iff_lt_or_eq.1 h3 with h | rfl
     ·exact hs j h1 h2 h
     ·exact hT
    rw [hT] at hc
    generalize a[i] = x at hg1 hc
    generalize b[i] = y at hg2 hc
    repeat' (first | (apply at_op (.indexAddr _ _ _); refine al_ixq hg1 ?_; clear hg1) | (apply at_op (.indexAddr _ _ _); refine al_ixq hg2 ?_) | (apply at_call; refine k_call (hc) hE ?_; rintro _ rfl) | refine nx ?_ | (apply aq_block_y; decide) | (apply qr_move; refine r_move ?_) | (apply qr_assign; refine r_assign ?_) | (apply at_cond; first | refine c_t ?_ | refine c_f ?_ | (refine aw_cond rfl (fun hb => ?_) (fun hb => ?_) <;> ((try have hq := dX hb); (try (exfalso; omega))))) | (apply qr_lss; refine r_lss ?_) | (apply qr_add; refine r_add ?_) | (apply qr_not; refine r_not ?_) | (apply qr_ix; refine r_ix ?_) | (apply qr_load; refine r_load ?_) | (apply qr_alloc; refine r_alloc ?_) | (apply qr_store; refine r_store ?_))
    refine aq_rd (⟨i + 1, rfl, by omega, hnext, rfl, rfl⟩) (by omega)
  ·rw [lets_yes hl (fun j h1 h2 => hs j h1 h2 (by omega))]
   have q : decide ((i : Int) < (a.map letC).length) = false := decide_eq_false (by omega)
   repeat' (first | refine nx ?_ | (apply aq_block_y; decide) | (apply qr_assign; refine r_assign ?_) | (apply at_cond; first | refine c_t ?_ | refine c_f ?_ | (refine aw_cond rfl (fun hb => ?_) (fun hb => ?_) <;> ((try have hq := dX hb); (try (exfalso; omega))))) | (apply qr_lss; refine r_lss ?_))
   refine rt1 ?_
   rfl
 ·rw [lets_len hl]
  have q0 : (!decide (((a.map letC).length : Int) = (b.map letC).length)) = true := by
   have : ¬ (a.length : Int) = b.length := by omega
   simp [hla, hlb, this]
  refine pure_enter Tryz.func70 rfl (by decide) _ Tryz.ntmps70 (le_ok rfl) (fun w Pr hE => ?_)
  dsimp only [slotsOf, Nat.zero_add, Nat.reduceAdd]
  repeat' (first | refine nx ?_ | (apply aq_block_y; decide) | (apply qr_move; refine r_move ?_) | (apply qr_assign; refine r_assign ?_) | (apply at_cond; first | refine c_t ?_ | refine c_f ?_ | (refine aw_cond rfl (fun hb => ?_) (fun hb => ?_) <;> ((try have hq := dX hb); (try (exfalso; omega))))) | (apply qr_neq; refine r_neq ?_) | (apply qr_len; refine r_len ?_))
  refine rt1 ?_
  rfl
theorem same_any (a b : By) (ta : a.tame) (tb : b.tame) : PureC 26 [.agg (byC a), .agg (byC b)] (· = .bool (a.same b)) := by
 have hlets := equal_lets a.lets b.lets ta.lets tb.lets ta.len tb.len
 have k1 := sameE_any a.admit b.admit ta.admit tb.admit
 have k2 := sameE_any a.fare b.fare ta.fare tb.fare
 have k3 := sameE_any a.late b.late ta.late tb.late
 have k4 := sameE_any a.noshow b.noshow ta.noshow tb.noshow
 unfold By.same
 generalize letsSame a.lets b.lets = ll at hlets ⊢
 generalize a.admit.same b.admit = l1 at k1 ⊢
 generalize a.fare.same b.fare = l2 at k2 ⊢
 generalize a.late.same b.late = l3 at k3 ⊢
 cases c2 : decide (a.quota = b.quota)
 ·rw [Bool.false_and, Bool.and_false]
  cases c1 : decide (a.name = b.name)
  ·skip
   refine pure_enter Tryz.func26 rfl (by decide) _ Tryz.ntmps26 (le_ok rfl) (fun w Pr hE => ?_)
   dsimp only [slotsOf, Nat.zero_add, Nat.reduceAdd]
   repeat' (first | (apply at_call; refine k_call (hlets) hE ?_; rintro _ rfl) | (apply at_call; refine k_call (k1) hE ?_; rintro _ rfl; clear k1) | (apply at_call; refine k_call (k2) hE ?_; rintro _ rfl; clear k2) | (apply at_call; refine k_call (k3) hE ?_; rintro _ rfl; clear k3) | (apply at_call; refine k_call (k4) hE ?_; rintro _ rfl) | refine nx ?_ | (apply qr_move; refine r_move ?_) | (apply qr_assign; refine r_assign ?_) | (apply at_guard; first | refine g_go ?_ | refine g_nt ?_ | refine g_nf ?_ | refine g_nu ?_ | ((first | refine al_split_t rfl rfl (lt_ok rfl) (fun hb => ?_) (fun hb => ?_) | refine al_split_f rfl rfl (lt_ok rfl) (fun hb => ?_) (fun hb => ?_)) <;> ((try have hq := dX hb); (try (exfalso; omega))))) | (apply qr_pick; refine r_pick ?_) | (apply qr_eql; refine r_eql ?_) | (apply qr_load; refine r_load ?_) | (apply qr_faddr; refine r_faddr ?_) | (apply qr_boxed; refine r_boxed ?_))
   refine rt1 ?_
   rfl
  ·skip
   refine pure_enter Tryz.func26 rfl (by decide) _ Tryz.ntmps26 (le_ok rfl) (fun w Pr hE => ?_)
   dsimp only [slotsOf, Nat.zero_add, Nat.reduceAdd]
   repeat' (first | (apply at_call; refine k_call (hlets) hE ?_; rintro _ rfl) | (apply at_call; refine k_call (k1) hE ?_; rintro _ rfl; clear k1) | (apply at_call; refine k_call (k2) hE ?_; rintro _ rfl; clear k2) | (apply at_call; refine k_call (k3) hE ?_; rintro _ rfl; clear k3) | (apply at_call; refine k_call (k4) hE ?_; rintro _ rfl) | refine nx ?_ | (apply qr_move; refine r_move ?_) | (apply qr_assign; refine r_assign ?_) | (apply at_guard; first | refine g_go ?_ | refine g_nt ?_ | refine g_nf ?_ | refine g_nu ?_ | ((first | refine al_split_t rfl rfl (lt_ok rfl) (fun hb => ?_) (fun hb => ?_) | refine al_split_f rfl rfl (lt_ok rfl) (fun hb => ?_) (fun hb => ?_)) <;> ((try have hq := dX hb); (try (exfalso; omega))))) | (apply qr_pick; refine r_pick ?_) | (apply qr_eql; refine r_eql ?_) | (apply qr_load; refine r_load ?_) | (apply qr_faddr; refine r_faddr ?_) | (apply qr_boxed; refine r_boxed ?_))
   refine rt1 ?_
   rfl
 rw [Bool.true_and]
 cases c3 : decide (a.share = b.share)
 ·rw [Bool.false_and, Bool.and_false]
  cases c1 : decide (a.name = b.name)
  ·skip
   refine pure_enter Tryz.func26 rfl (by decide) _ Tryz.ntmps26 (le_ok rfl) (fun w Pr hE => ?_)
   dsimp only [slotsOf, Nat.zero_add, Nat.reduceAdd]
   repeat' (first | (apply at_call; refine k_call (hlets) hE ?_; rintro _ rfl) | (apply at_call; refine k_call (k1) hE ?_; rintro _ rfl; clear k1) | (apply at_call; refine k_call (k2) hE ?_; rintro _ rfl; clear k2) | (apply at_call; refine k_call (k3) hE ?_; rintro _ rfl; clear k3) | (apply at_call; refine k_call (k4) hE ?_; rintro _ rfl) | refine nx ?_ | (apply qr_move; refine r_move ?_) | (apply qr_assign; refine r_assign ?_) | (apply at_guard; first | refine g_go ?_ | refine g_nt ?_ | refine g_nf ?_ | refine g_nu ?_ | ((first | refine al_split_t rfl rfl (lt_ok rfl) (fun hb => ?_) (fun hb => ?_) | refine al_split_f rfl rfl (lt_ok rfl) (fun hb => ?_) (fun hb => ?_)) <;> ((try have hq := dX hb); (try (exfalso; omega))))) | (apply qr_pick; refine r_pick ?_) | (apply qr_eql; refine r_eql ?_) | (apply qr_load; refine r_load ?_) | (apply qr_faddr; refine r_faddr ?_) | (apply qr_boxed; refine r_boxed ?_))
   refine rt1 ?_
   rfl
  ·skip
   refine pure_enter Tryz.func26 rfl (by decide) _ Tryz.ntmps26 (le_ok rfl) (fun w Pr hE => ?_)
   dsimp only [slotsOf, Nat.zero_add, Nat.reduceAdd]
   repeat' (first | (apply at_call; refine k_call (hlets) hE ?_; rintro _ rfl) | (apply at_call; refine k_call (k1) hE ?_; rintro _ rfl; clear k1) | (apply at_call; refine k_call (k2) hE ?_; rintro _ rfl; clear k2) | (apply at_call; refine k_call (k3) hE ?_; rintro _ rfl; clear k3) | (apply at_call; refine k_call (k4) hE ?_; rintro _ rfl) | refine nx ?_ | (apply qr_move; refine r_move ?_) | (apply qr_assign; refine r_assign ?_) | (apply at_guard; first | refine g_go ?_ | refine g_nt ?_ | refine g_nf ?_ | refine g_nu ?_ | ((first | refine al_split_t rfl rfl (lt_ok rfl) (fun hb => ?_) (fun hb => ?_) | refine al_split_f rfl rfl (lt_ok rfl) (fun hb => ?_) (fun hb => ?_)) <;> ((try have hq := dX hb); (try (exfalso; omega))))) | (apply qr_pick; refine r_pick ?_) | (apply qr_eql; refine r_eql ?_) | (apply qr_load; refine r_load ?_) | (apply qr_faddr; refine r_faddr ?_) | (apply qr_boxed; refine r_boxed ?_))
   refine rt1 ?_
   rfl
 rw [Bool.true_and]
 cases c4 : decide (a.change = b.change)
 ·rw [Bool.false_and, Bool.and_false]
  cases c1 : decide (a.name = b.name)
  ·skip
   refine pure_enter Tryz.func26 rfl (by decide) _ Tryz.ntmps26 (le_ok rfl) (fun w Pr hE => ?_)
   dsimp only [slotsOf, Nat.zero_add, Nat.reduceAdd]
   repeat' (first | (apply at_call; refine k_call (hlets) hE ?_; rintro _ rfl) | (apply at_call; refine k_call (k1) hE ?_; rintro _ rfl; clear k1) | (apply at_call; refine k_call (k2) hE ?_; rintro _ rfl; clear k2) | (apply at_call; refine k_call (k3) hE ?_; rintro _ rfl; clear k3) | (apply at_call; refine k_call (k4) hE ?_; rintro _ rfl) | refine nx ?_ | (apply qr_move; refine r_move ?_) | (apply qr_assign; refine r_assign ?_) | (apply at_guard; first | refine g_go ?_ | refine g_nt ?_ | refine g_nf ?_ | refine g_nu ?_ | ((first | refine al_split_t rfl rfl (lt_ok rfl) (fun hb => ?_) (fun hb => ?_) | refine al_split_f rfl rfl (lt_ok rfl) (fun hb => ?_) (fun hb => ?_)) <;> ((try have hq := dX hb); (try (exfalso; omega))))) | (apply qr_pick; refine r_pick ?_) | (apply qr_eql; refine r_eql ?_) | (apply qr_load; refine r_load ?_) | (apply qr_faddr; refine r_faddr ?_) | (apply qr_boxed; refine r_boxed ?_))
   refine rt1 ?_
   rfl
  ·skip
   refine pure_enter Tryz.func26 rfl (by decide) _ Tryz.ntmps26 (le_ok rfl) (fun w Pr hE => ?_)
   dsimp only [slotsOf, Nat.zero_add, Nat.reduceAdd]
   repeat' (first | (apply at_call; refine k_call (hlets) hE ?_; rintro _ rfl) | (apply at_call; refine k_call (k1) hE ?_; rintro _ rfl; clear k1) | (apply at_call; refine k_call (k2) hE ?_; rintro _ rfl; clear k2) | (apply at_call; refine k_call (k3) hE ?_; rintro _ rfl; clear k3) | (apply at_call; refine k_call (k4) hE ?_; rintro _ rfl) | refine nx ?_ | (apply qr_move; refine r_move ?_) | (apply qr_assign; refine r_assign ?_) | (apply at_guard; first | refine g_go ?_ | refine g_nt ?_ | refine g_nf ?_ | refine g_nu ?_ | ((first | refine al_split_t rfl rfl (lt_ok rfl) (fun hb => ?_) (fun hb => ?_) | refine al_split_f rfl rfl (lt_ok rfl) (fun hb => ?_) (fun hb => ?_)) <;> ((try have hq := dX hb); (try (exfalso; omega))))) | (apply qr_pick; refine r_pick ?_) | (apply qr_eql; refine r_eql ?_) | (apply qr_load; refine r_load ?_) | (apply qr_faddr; refine r_faddr ?_) | (apply qr_boxed; refine r_boxed ?_))
   refine rt1 ?_
   rfl
 rw [Bool.true_and]
 cases c1 : decide (a.name = b.name)
 ·rw [Bool.false_and]
  refine pure_enter Tryz.func26 rfl (by decide) _ Tryz.ntmps26 (le_ok rfl) (fun w Pr hE => ?_)
  dsimp only [slotsOf, Nat.zero_add, Nat.reduceAdd]
  repeat' (first | (apply at_call; refine k_call (hlets) hE ?_; rintro _ rfl) | (apply at_call; refine k_call (k1) hE ?_; rintro _ rfl; clear k1) | (apply at_call; refine k_call (k2) hE ?_; rintro _ rfl; clear k2) | (apply at_call; refine k_call (k3) hE ?_; rintro _ rfl; clear k3) | (apply at_call; refine k_call (k4) hE ?_; rintro _ rfl) | refine nx ?_ | (apply qr_move; refine r_move ?_) | (apply qr_assign; refine r_assign ?_) | (apply at_guard; first | refine g_go ?_ | refine g_nt ?_ | refine g_nf ?_ | refine g_nu ?_ | ((first | refine al_split_t rfl rfl (lt_ok rfl) (fun hb => ?_) (fun hb => ?_) | refine al_split_f rfl rfl (lt_ok rfl) (fun hb => ?_) (fun hb => ?_)) <;> ((try have hq := dX hb); (try (exfalso; omega))))) | (apply qr_pick; refine r_pick ?_) | (apply qr_eql; refine r_eql ?_) | (apply qr_load; refine r_load ?_) | (apply qr_faddr; refine r_faddr ?_) | (apply qr_boxed; refine r_boxed ?_))
  refine rt1 ?_
  rfl
 rw [Bool.true_and]
 cases ll
 ·rw [Bool.false_and]
  refine pure_enter Tryz.func26 rfl (by decide) _ Tryz.ntmps26 (le_ok rfl) (fun w Pr hE => ?_)
  dsimp only [slotsOf, Nat.zero_add, Nat.reduceAdd]
  repeat' (first | (apply at_call; refine k_call (hlets) hE ?_; rintro _ rfl) | (apply at_call; refine k_call (k1) hE ?_; rintro _ rfl; clear k1) | (apply at_call; refine k_call (k2) hE ?_; rintro _ rfl; clear k2) | (apply at_call; refine k_call (k3) hE ?_; rintro _ rfl; clear k3) | (apply at_call; refine k_call (k4) hE ?_; rintro _ rfl) | refine nx ?_ | (apply qr_move; refine r_move ?_) | (apply qr_assign; refine r_assign ?_) | (apply at_guard; first | refine g_go ?_ | refine g_nt ?_ | refine g_nf ?_ | refine g_nu ?_ | ((first | refine al_split_t rfl rfl (lt_ok rfl) (fun hb => ?_) (fun hb => ?_) | refine al_split_f rfl rfl (lt_ok rfl) (fun hb => ?_) (fun hb => ?_)) <;> ((try have hq := dX hb); (try (exfalso; omega))))) | (apply qr_pick; refine r_pick ?_) | (apply qr_eql; refine r_eql ?_) | (apply qr_load; refine r_load ?_) | (apply qr_faddr; refine r_faddr ?_) | (apply qr_boxed; refine r_boxed ?_))
  refine rt1 ?_
  rfl
 rw [Bool.true_and]
 cases l1
 ·rw [Bool.false_and]
  refine pure_enter Tryz.func26 rfl (by decide) _ Tryz.ntmps26 (le_ok rfl) (fun w Pr hE => ?_)
  dsimp only [slotsOf, Nat.zero_add, Nat.reduceAdd]
  repeat' (first | (apply at_call; refine k_call (hlets) hE ?_; rintro _ rfl) | (apply at_call; refine k_call (k1) hE ?_; rintro _ rfl; clear k1) | (apply at_call; refine k_call (k2) hE ?_; rintro _ rfl; clear k2) | (apply at_call; refine k_call (k3) hE ?_; rintro _ rfl; clear k3) | (apply at_call; refine k_call (k4) hE ?_; rintro _ rfl) | refine nx ?_ | (apply qr_move; refine r_move ?_) | (apply qr_assign; refine r_assign ?_) | (apply at_guard; first | refine g_go ?_ | refine g_nt ?_ | refine g_nf ?_ | refine g_nu ?_ | ((first | refine al_split_t rfl rfl (lt_ok rfl) (fun hb => ?_) (fun hb => ?_) | refine al_split_f rfl rfl (lt_ok rfl) (fun hb => ?_) (fun hb => ?_)) <;> ((try have hq := dX hb); (try (exfalso; omega))))) | (apply qr_pick; refine r_pick ?_) | (apply qr_eql; refine r_eql ?_) | (apply qr_load; refine r_load ?_) | (apply qr_faddr; refine r_faddr ?_) | (apply qr_boxed; refine r_boxed ?_))
  refine rt1 ?_
  rfl
 rw [Bool.true_and]
 cases l2
 ·rw [Bool.false_and]
  refine pure_enter Tryz.func26 rfl (by decide) _ Tryz.ntmps26 (le_ok rfl) (fun w Pr hE => ?_)
  dsimp only [slotsOf, Nat.zero_add, Nat.reduceAdd]
  repeat' (first | (apply at_call; refine k_call (hlets) hE ?_; rintro _ rfl) | (apply at_call; refine k_call (k1) hE ?_; rintro _ rfl; clear k1) | (apply at_call; refine k_call (k2) hE ?_; rintro _ rfl; clear k2) | (apply at_call; refine k_call (k3) hE ?_; rintro _ rfl; clear k3) | (apply at_call; refine k_call (k4) hE ?_; rintro _ rfl) | refine nx ?_ | (apply qr_move; refine r_move ?_) | (apply qr_assign; refine r_assign ?_) | (apply at_guard; first | refine g_go ?_ | refine g_nt ?_ | refine g_nf ?_ | refine g_nu ?_ | ((first | refine al_split_t rfl rfl (lt_ok rfl) (fun hb => ?_) (fun hb => ?_) | refine al_split_f rfl rfl (lt_ok rfl) (fun hb => ?_) (fun hb => ?_)) <;> ((try have hq := dX hb); (try (exfalso; omega))))) | (apply qr_pick; refine r_pick ?_) | (apply qr_eql; refine r_eql ?_) | (apply qr_load; refine r_load ?_) | (apply qr_faddr; refine r_faddr ?_) | (apply qr_boxed; refine r_boxed ?_))
  refine rt1 ?_
  rfl
 rw [Bool.true_and]
 cases l3
 ·rw [Bool.false_and]
  refine pure_enter Tryz.func26 rfl (by decide) _ Tryz.ntmps26 (le_ok rfl) (fun w Pr hE => ?_)
  dsimp only [slotsOf, Nat.zero_add, Nat.reduceAdd]
  repeat' (first | (apply at_call; refine k_call (hlets) hE ?_; rintro _ rfl) | (apply at_call; refine k_call (k1) hE ?_; rintro _ rfl; clear k1) | (apply at_call; refine k_call (k2) hE ?_; rintro _ rfl; clear k2) | (apply at_call; refine k_call (k3) hE ?_; rintro _ rfl; clear k3) | (apply at_call; refine k_call (k4) hE ?_; rintro _ rfl) | refine nx ?_ | (apply qr_move; refine r_move ?_) | (apply qr_assign; refine r_assign ?_) | (apply at_guard; first | refine g_go ?_ | refine g_nt ?_ | refine g_nf ?_ | refine g_nu ?_ | ((first | refine al_split_t rfl rfl (lt_ok rfl) (fun hb => ?_) (fun hb => ?_) | refine al_split_f rfl rfl (lt_ok rfl) (fun hb => ?_) (fun hb => ?_)) <;> ((try have hq := dX hb); (try (exfalso; omega))))) | (apply qr_pick; refine r_pick ?_) | (apply qr_eql; refine r_eql ?_) | (apply qr_load; refine r_load ?_) | (apply qr_faddr; refine r_faddr ?_) | (apply qr_boxed; refine r_boxed ?_))
  refine rt1 ?_
  rfl
 rw [Bool.true_and]
 refine pure_enter Tryz.func26 rfl (by decide) _ Tryz.ntmps26 (le_ok rfl) (fun w Pr hE => ?_)
 dsimp only [slotsOf, Nat.zero_add, Nat.reduceAdd]
 repeat' (first | (apply at_call; refine k_call (hlets) hE ?_; rintro _ rfl) | (apply at_call; refine k_call (k1) hE ?_; rintro _ rfl; clear k1) | (apply at_call; refine k_call (k2) hE ?_; rintro _ rfl; clear k2) | (apply at_call; refine k_call (k3) hE ?_; rintro _ rfl; clear k3) | (apply at_call; refine k_call (k4) hE ?_; rintro _ rfl) | refine nx ?_ | (apply qr_move; refine r_move ?_) | (apply qr_assign; refine r_assign ?_) | (apply at_guard; first | refine g_go ?_ | refine g_nt ?_ | refine g_nf ?_ | refine g_nu ?_ | ((first | refine al_split_t rfl rfl (lt_ok rfl) (fun hb => ?_) (fun hb => ?_) | refine al_split_f rfl rfl (lt_ok rfl) (fun hb => ?_) (fun hb => ?_)) <;> ((try have hq := dX hb); (try (exfalso; omega))))) | (apply qr_pick; refine r_pick ?_) | (apply qr_eql; refine r_eql ?_) | (apply qr_load; refine r_load ?_) | (apply qr_faddr; refine r_faddr ?_) | (apply qr_boxed; refine r_boxed ?_))
 refine rt1 ?_
 rfl
end Go.Proofs.YtedoeogopmenpaaGreatDoor
end
section
set_option linter.unusedSimpArgs false
set_option linter.unusedVariables false
namespace Go.Proofs.YtedoeogopmenpaaGreatDoor
open Go.RowKit
abbrev byO' (x : By) : O := .box 28 [.d (.str x.name), .d (letsD x.lets), .d (.int x.admit.op), .d (.int x.admit.num), .d (.int x.admit.unit), .d (.str x.admit.str), .d (.list 5 (Ex.rows x.admit.args)), .d (.int x.fare.op), .d (.int x.fare.num), .d (.int x.fare.unit), .d (.str x.fare.str), .d (.list 5 (Ex.rows x.fare.args)), .d (.int x.late.op), .d (.int x.late.num), .d (.int x.late.unit), .d (.str x.late.str), .d (.list 5 (Ex.rows x.late.args)), .d (.int x.noshow.op), .d (.int x.noshow.num), .d (.int x.noshow.unit), .d (.str x.noshow.str), .d (.list 5 (Ex.rows x.noshow.args)), .d (.int x.quota), .d (.int x.share), .d (.int x.change)]
end Go.Proofs.YtedoeogopmenpaaGreatDoor
end
section
set_option linter.unusedSimpArgs false
set_option linter.unusedVariables false
namespace Go.Proofs.YtedoeogopmenpaaGreatDoor
open Go.RowKit
def uniqA (l : List ByteArray) (i : Nat) : Bool := nameV (l.getD i ⟨#[]⟩) && !((l.take i).any fun w => decide (w = l.getD i ⟨#[]⟩))
def uniqF (l : List ByteArray) : Bool := (List.range l.length).all (uniqA l)
def uniqV (l : List ByteArray) (most : Int) : Bool := uniqF l && decide ((l.length : Int) ≤ most)
theorem uniq_no {l : List ByteArray} {i : Nat} (h : i < l.length) (h1 : uniqA l i = false) : uniqF l = false := by
 rw [Bool.eq_false_iff, Ne, uniqF, List.all_eq_true]
 intro h2
 have := h2 i (List.mem_range.2 h)
 rw [h1] at this
 cases this
theorem uniq_yes {l : List ByteArray} (h : ∀ i < l.length, uniqA l i = true) : uniqF l = true := by
 rw [uniqF, List.all_eq_true]
 intro i hi
 exact h i (List.mem_range.1 hi)
theorem getD_at {l : List ByteArray} {i : Nat} (h : i < l.length) : l.getD i ⟨#[]⟩ = l[i] := by
 rw [List.getD_eq_getElem?_getD, List.getElem?_eq_getElem h]
 rfl
theorem map_take (l : List ByteArray) (i : Nat) : (l.map fun s => [D.str s]).take i = (l.take i).map fun s => [D.str s] := by rw [List.map_take]
theorem unique_any (l : List ByteArray) (most : Int) (hl : l.length ≤ 100000) (hs : ∀ s ∈ l, s.size ≤ 100000) : PureC 63 [strsD l, .int most] (· = .bool (uniqV l most)) := by
 have hm : (l.map fun s => [D.str s]).length = l.length := List.length_map ..
 unfold uniqV
 refine pure_enter Tryz.func63 rfl (by decide) _ Tryz.ntmps63 (le_ok rfl) (fun w Pr hE => ?_)
 dsimp only [slotsOf, Nat.zero_add, Nat.reduceAdd]
 repeat' (first | refine nx ?_ | (apply aq_block_y; decide) | (apply qr_move; refine r_move ?_) | (apply qr_assign; refine r_assign ?_) | (apply at_cond; first | refine c_t ?_ | refine c_f ?_ | (refine aw_cond rfl (fun hb => ?_) (fun hb => ?_) <;> ((try have hq := dX hb); (try (exfalso; omega))))) | (apply qr_len; refine r_len ?_))
 refine aw_lp (fun N sl ob => ∃ i : Nat, N = l.length - i ∧ i ≤ l.length ∧ (∀ j < i, uniqA l j = true) ∧ sl = [(9, .d (.int i)), (8, .d (.int (l.map fun s => [D.str s]).length)), (7, .d (strsD l)), (1, .d (.int most)), (0, .d (strsD l))] ∧ ob = []) (⟨0, rfl, Nat.zero_le _, fun j h => by omega, rfl, rfl⟩) ?_
 rintro N sl ob ⟨i, rfl, hi, ha, rfl, rfl⟩
 by_cases hlt : i < l.length
 ·have hg : (l.map fun s => [D.str s])[i]? = some [D.str l[i]] := by rw [get_map hlt]
  have hna := name_any l[i] (by have := hs _ (List.getElem_mem hlt); omega)
  have hcon := contains_str (l.take i) l[i] (by rw [List.length_take]; omega)
  have hdt : (l.take i).map (fun s => [D.str s]) = List.drop 0 (List.take i (l.map fun s => [D.str s])) := by rw [List.map_take]; rfl
  unfold strsD at hcon
  rw [hdt] at hcon
  have hu : uniqA l i = (nameV l[i] && !((l.take i).any fun w => decide (w = l[i]))) := by rw [uniqA, getD_at hlt]
  have q : decide ((i : Int) < (l.map fun s => [D.str s]).length) = true := decide_eq_true (by omega)
  generalize l[i] = x at hg hna hcon hu
  cases h1 : nameV x
  ·rw [h1] at hna
   rw [h1, Bool.false_and] at hu
   rw [uniq_no hlt hu, Bool.false_and]
   repeat' (first | (apply at_op (.indexAddr _ _ _); refine al_ixq hg ?_) | (apply at_call; refine k_call (hna) hE ?_; rintro _ rfl) | refine nx ?_ | (apply aq_block_y; decide) | (apply qr_move; refine r_move ?_) | (apply qr_assign; refine r_assign ?_) | (apply at_cond; first | refine c_t ?_ | refine c_f ?_ | (refine aw_cond rfl (fun hb => ?_) (fun hb => ?_) <;> ((try have hq := dX hb); (try (exfalso; omega))))) | (apply at_guard; first | refine g_go ?_ | refine g_nt ?_ | refine g_nf ?_ | refine g_nu ?_ | ((first | refine al_split_t rfl rfl (lt_ok rfl) (fun hb => ?_) (fun hb => ?_) | refine al_split_f rfl rfl (lt_ok rfl) (fun hb => ?_) (fun hb => ?_)) <;> ((try have hq := dX hb); (try (exfalso; omega))))) | (apply qr_pick; refine r_pick ?_) | (apply qr_lss; refine r_lss ?_) | (apply qr_not; refine r_not ?_) | (apply qr_slice; refine r_slice ?_) | (apply qr_ix; refine r_ix ?_) | (apply qr_load; refine r_load ?_))
   refine rt1 ?_
   rfl
  ·rw [h1] at hna
   rw [h1, Bool.true_and] at hu
   cases h2 : ((l.take i).any fun w => decide (w = x))
   ·rw [h2] at hcon hu
    have hnext : ∀ j < i + 1, uniqA l j = true := fun j hj => by
     rcases Nat.lt_succ_iff_lt_or_eq.1 hj with h | rfl
     ·exact ha j h
     ·exact hu
    repeat' (first | (apply at_op (.indexAddr _ _ _); refine al_ixq hg ?_) | (apply at_call; refine k_call (hna) hE ?_; rintro _ rfl) | (apply at_call; refine k_call (hcon) hE ?_; rintro _ rfl) | refine nx ?_ | (apply aq_block_y; decide) | (apply qr_move; refine r_move ?_) | (apply qr_assign; refine r_assign ?_) | (apply at_cond; first | refine c_t ?_ | refine c_f ?_ | (refine aw_cond rfl (fun hb => ?_) (fun hb => ?_) <;> ((try have hq := dX hb); (try (exfalso; omega))))) | (apply at_guard; first | refine g_go ?_ | refine g_nt ?_ | refine g_nf ?_ | refine g_nu ?_ | ((first | refine al_split_t rfl rfl (lt_ok rfl) (fun hb => ?_) (fun hb => ?_) | refine al_split_f rfl rfl (lt_ok rfl) (fun hb => ?_) (fun hb => ?_)) <;> ((try have hq := dX hb); (try (exfalso; omega))))) | (apply qr_pick; refine r_pick ?_) | (apply qr_lss; refine r_lss ?_) | (apply qr_add; refine r_add ?_) | (apply qr_not; refine r_not ?_) | (apply qr_slice; refine r_slice ?_) | (apply qr_ix; refine r_ix ?_) | (apply qr_load; refine r_load ?_))
    refine aq_rd (⟨i + 1, rfl, by omega, hnext, rfl, rfl⟩) (by omega)
   ·rw [h2] at hcon hu
    rw [uniq_no hlt hu, Bool.false_and]
    repeat' (first | (apply at_op (.indexAddr _ _ _); refine al_ixq hg ?_) | (apply at_call; refine k_call (hna) hE ?_; rintro _ rfl) | (apply at_call; refine k_call (hcon) hE ?_; rintro _ rfl) | refine nx ?_ | (apply aq_block_y; decide) | (apply qr_move; refine r_move ?_) | (apply qr_assign; refine r_assign ?_) | (apply at_cond; first | refine c_t ?_ | refine c_f ?_ | (refine aw_cond rfl (fun hb => ?_) (fun hb => ?_) <;> ((try have hq := dX hb); (try (exfalso; omega))))) | (apply at_guard; first | refine g_go ?_ | refine g_nt ?_ | refine g_nf ?_ | refine g_nu ?_ | ((first | refine al_split_t rfl rfl (lt_ok rfl) (fun hb => ?_) (fun hb => ?_) | refine al_split_f rfl rfl (lt_ok rfl) (fun hb => ?_) (fun hb => ?_)) <;> ((try have hq := dX hb); (try (exfalso; omega))))) | (apply qr_pick; refine r_pick ?_) | (apply qr_lss; refine r_lss ?_) | (apply qr_not; refine r_not ?_) | (apply qr_slice; refine r_slice ?_) | (apply qr_ix; refine r_ix ?_) | (apply qr_load; refine r_load ?_))
    refine rt1 ?_
    rfl
 ·rw [uniq_yes (fun j hj => ha j (by omega)), Bool.true_and]
  have q : decide ((i : Int) < (l.map fun s => [D.str s]).length) = false := decide_eq_false (by omega)
  repeat' (first | refine nx ?_ | (apply aq_block_y; decide) | (apply qr_move; refine r_move ?_) | (apply qr_assign; refine r_assign ?_) | (apply at_cond; first | refine c_t ?_ | refine c_f ?_ | (refine aw_cond rfl (fun hb => ?_) (fun hb => ?_) <;> ((try have hq := dX hb); (try (exfalso; omega))))) | (apply qr_lss; refine r_lss ?_) | (apply qr_leq; refine r_leq ?_) | (apply qr_len; refine r_len ?_))
  refine rt1 ?_
  rfl
end Go.Proofs.YtedoeogopmenpaaGreatDoor
end
