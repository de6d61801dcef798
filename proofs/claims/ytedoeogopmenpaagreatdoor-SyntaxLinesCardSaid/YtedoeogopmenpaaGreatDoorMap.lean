/-
  Conditions: none.
-/
import Derived.Test.YtedoeogopmenpaaGreatDoorMao
set_option maxHeartbeats 16000000
set_option maxRecDepth 20000
section
set_option linter.unusedSimpArgs false
set_option linter.unusedVariables false
namespace Go.Proofs.YtedoeogopmenpaaGreatDoor
open Go.RowKit
abbrev dpB (d : Nat) : Objs := [(1001, .box 3 [.d (.int d)])]
abbrev RightC (d : Nat) : Prop := ∀ e : Ex, e.tame → PureC 68 [.agg (exC e), .int d] (· = .bool (e.right d))
theorem right1_any {d : Nat} (hd : d ≤ 1000000) (ih : RightC d) (e : Ex) (he : e.tame) : ObC 119 [.d (.agg (exC e)), .box 1001 0] (dpB (d + 1)) [] (fun x o => x = .d (.bool (!e.right d)) ∧ o = dpB (d + 1)) := by
 have hc := ih e he
 have hw : ((d + 1 : Nat) : Int) - 1 = d := by omega
 rw [← hw] at hc
 refine ob_enter Tryz.func119 rfl (by decide) _ Tryz.ntmps119 (le_ok rfl) rfl (fun w Pr β κ hE => ?_)
 dsimp only [slotsV, Nat.zero_add, Nat.reduceAdd]
 repeat' (first | (apply at_call; refine k_call (hc) hE ?_; rintro _ rfl) | refine nx ?_ | (apply qr_assign; refine r_assign ?_) | (apply qr_sub; refine r_sub ?_) | (apply qr_not; refine r_not ?_) | (apply qr_load; refine r_load ?_) | (apply qr_boxed; refine r_boxed ?_))
 refine oret1 (dpB (d + 1)) (by rfl) rv (⟨rfl, rfl⟩) sb okx
theorem eindex {d : Nat} (hd : d ≤ 1000000) (ih : RightC d) (l : List Ex) (hl : l.length ≤ 100000) (ht : ∀ x ∈ l, Ex.tame x) : ObC 117 [.d (.list 5 (Ex.rows l)), .clo (.func 119) [.box 1001 0]] (dpB (d + 1)) [] (fun x o => (∃ r, x = .d (.int r) ∧ decide (0 ≤ r) = l.any fun x => !x.right d) ∧ o = dpB (d + 1)) := by
 have hlen := rows_len l
 refine ob_enter Tryz.func117 rfl (by decide) _ Tryz.ntmps117 (le_ok rfl) rfl (fun w Pr β κ hE => ?_)
 dsimp only [slotsV, Nat.zero_add, Nat.reduceAdd]
 repeat' (first | refine nx ?_ | (apply aq_block_y; decide) | (apply qr_move; refine r_move ?_) | (apply qr_assign; refine r_assign ?_) | (apply at_cond; first | refine c_t ?_ | refine c_f ?_ | (refine aw_cond rfl (fun hb => ?_) (fun hb => ?_) <;> ((try have hq := dX hb); (try (exfalso; omega))))) | (apply qr_lss; refine r_lss ?_) | (apply qr_add; refine r_add ?_) | (apply qr_len; refine r_len ?_) | (apply qr_ix; refine r_ix ?_) | (apply qr_load; refine r_load ?_))
 rw [hlen]
 refine aw_lp (fun N sl ob => ∃ i : Nat, N = l.length - i ∧ i ≤ l.length ∧ ((l.take i).any fun x => !x.right d) = false ∧ sl = [(8, .d (.int i)), (7, .d (.int l.length)), (1, .clo (.func 119) [.box 1001 0]), (0, .d (.list 5 (Ex.rows l)))] ∧ ob = dpB (d + 1)) (⟨0, rfl, Nat.zero_le _, by simp, rfl, rfl⟩) ?_
 rintro N sl ob ⟨i, rfl, hi, hs, rfl, rfl⟩
 by_cases hlt : i < l.length
 ·have hg := rows_get hlt
  have hnext := any_take (fun x : Ex => !x.right d) hlt
  rw [hs, Bool.false_or] at hnext
  have hc := right1_any hd ih l[i] (ht _ (List.getElem_mem hlt))
  cases hT : l[i].right d
  ·rw [hT] at hc
   have hany : (l.any fun x => !x.right d) = true := List.any_eq_true.2 ⟨l[i], List.getElem_mem hlt, by simp [hT]⟩
   generalize l[i] = z at hg hc
   repeat' (first | (apply at_op (.indexAddr _ _ _); refine al_ixq hg ?_) | (apply at_call; refine k_clocall1 [(1001, 1001)] (hc) hE ?_; rintro _ _ ⟨rfl, rfl⟩ <;> (intro _ _ h1 h2; simp only [renEqs, Nat.reduceBEq, renL_app, renL_ds, renL_und] at h1 h2; subst h1 h2)) | refine nx ?_ | (apply aq_block_y; decide) | (apply qr_move; refine r_move ?_) | (apply qr_assign; refine r_assign ?_) | (apply at_cond; first | refine c_t ?_ | refine c_f ?_ | (refine aw_cond rfl (fun hb => ?_) (fun hb => ?_) <;> ((try have hq := dX hb); (try (exfalso; omega))))) | (apply qr_lss; refine r_lss ?_) | (apply qr_add; refine r_add ?_) | (apply qr_len; refine r_len ?_) | (apply qr_ix; refine r_ix ?_) | (apply qr_load; refine r_load ?_))
   refine oret1 (dpB (d + 1)) (by rfl) rv (⟨⟨i, rfl, by rw [hany]; exact decide_eq_true (by omega)⟩, rfl⟩) sb okx
  ·rw [hT] at hc hnext
   generalize l[i] = z at hg hc
   repeat' (first | (apply at_op (.indexAddr _ _ _); refine al_ixq hg ?_) | (apply at_call; refine k_clocall1 [(1001, 1001)] (hc) hE ?_; rintro _ _ ⟨rfl, rfl⟩ <;> (intro _ _ h1 h2; simp only [renEqs, Nat.reduceBEq, renL_app, renL_ds, renL_und] at h1 h2; subst h1 h2)) | refine nx ?_ | (apply aq_block_y; decide) | (apply qr_move; refine r_move ?_) | (apply qr_assign; refine r_assign ?_) | (apply at_cond; first | refine c_t ?_ | refine c_f ?_ | (refine aw_cond rfl (fun hb => ?_) (fun hb => ?_) <;> ((try have hq := dX hb); (try (exfalso; omega))))) | (apply qr_lss; refine r_lss ?_) | (apply qr_add; refine r_add ?_) | (apply qr_len; refine r_len ?_) | (apply qr_ix; refine r_ix ?_) | (apply qr_load; refine r_load ?_))
   refine aq_rd (⟨i + 1, rfl, by omega, hnext, rfl, rfl⟩) (by omega)
 ·rw [List.take_of_length_le (by omega)] at hs
  repeat' (first | refine nx ?_ | (apply aq_block_y; decide) | (apply qr_move; refine r_move ?_) | (apply qr_assign; refine r_assign ?_) | (apply at_cond; first | refine c_t ?_ | refine c_f ?_ | (refine aw_cond rfl (fun hb => ?_) (fun hb => ?_) <;> ((try have hq := dX hb); (try (exfalso; omega))))) | (apply qr_lss; refine r_lss ?_) | (apply qr_add; refine r_add ?_) | (apply qr_len; refine r_len ?_) | (apply qr_ix; refine r_ix ?_) | (apply qr_load; refine r_load ?_))
  refine oret1 (dpB (d + 1)) (by rfl) rv (⟨⟨-1, rfl, by rw [hs]; rfl⟩, rfl⟩) sb okx
theorem econtains {d : Nat} (hd : d ≤ 1000000) (ih : RightC d) (l : List Ex) (hl : l.length ≤ 100000) (ht : ∀ x ∈ l, Ex.tame x) : ObC 64 [.d (.list 5 (Ex.rows l)), .clo (.func 119) [.box 1001 0]] (dpB (d + 1)) [] (fun x o => x = .d (.bool (l.any fun x => !x.right d)) ∧ o = dpB (d + 1)) := by
 have hc := eindex hd ih l hl ht
 refine ob_enter Tryz.func64 rfl (by decide) _ Tryz.ntmps64 (le_ok rfl) rfl (fun w Pr β κ hE => ?_)
 dsimp only [slotsV, Nat.zero_add, Nat.reduceAdd]
 repeat' (first | (apply at_call; refine k_ocall [(1001, 1001)] (hc) hE ?_; rintro _ _ ⟨⟨r, rfl, hr⟩, rfl⟩ <;> (intro _ _ h1 h2; simp only [renEqs, Nat.reduceBEq, renL_app, renL_ds, renL_und] at h1 h2; subst h1 h2)) | refine nx ?_ | (apply qr_move; refine r_move ?_) | (apply qr_assign; refine r_assign ?_) | (apply qr_geq; refine r_geq ?_))
 refine oret1 (dpB (d + 1)) (by rfl) rv (⟨by rw [hr], rfl⟩) sb okx
theorem tame_args {e : Ex} (h : e.tame) : ∀ x ∈ e.args, Ex.tame x := by
 intro x hx
 obtain ⟨i, hi, rfl⟩ := List.mem_iff_getElem.1 hx
 exact tame_get h hi
theorem any_not {α : Type} (l : List α) (f : α → Bool) : (!l.any fun x => !f x) = l.all f := by
 induction l with
 | nil => rfl
 | cons x r ih => simp only [List.any_cons, List.all_cons, Bool.not_or, Bool.not_not, ih]
theorem numRight_in (n u : Int) (s : ByteArray) : numRight n u s = (decide (s = ⟨#[]⟩) && (!([u].any fun n => (decide (n < 0) || decide (3 < n)))) && !([n].any fun m => (decide (m < 0) || decide ((if u = 3 then 1 else 1000000000000000) < m)))) := by
 rw [Bool.eq_iff_iff]
 by_cases hu : u = 3 <;> simp only [hu, if_true, if_false, numRight, List.any_cons, List.any_nil, Bool.or_false, Bool.and_eq_true, Bool.not_eq_true', Bool.or_eq_false_iff, decide_eq_true_eq, decide_eq_false_iff_not]
 all_goals
  constructor <;> (rintro ⟨⟨h1, h2⟩, h3⟩; exact ⟨⟨h1, by omega⟩, by omega⟩)
abbrev exO' (e : Ex) : O := .box 26 [.d (.int e.op), .d (.int e.num), .d (.int e.unit), .d (.str e.str), .d (.list 5 (Ex.rows e.args))]
theorem right_any : ∀ d : Nat, d ≤ 1000000 → RightC d
 | 0, _, e, he => by
  rw [right_zero]
  have q0 : decide (((0 : Nat) : Int) = 0) = true := rfl
  refine pure_enter Tryz.func68 rfl (by decide) _ Tryz.ntmps68 (le_ok rfl) (fun w Pr hE => ?_)
  dsimp only [slotsOf, Nat.zero_add, Nat.reduceAdd]
  repeat' (first | refine nx ?_ | (apply aq_block_y; decide) | (apply qr_assign; refine r_assign ?_) | (apply at_cond; first | refine c_t ?_ | refine c_f ?_ | (refine aw_cond rfl (fun hb => ?_) (fun hb => ?_) <;> ((try have hq := dX hb); (try (exfalso; omega))))) | (apply qr_boxed; refine r_boxed ?_))
  refine aw_mixo ([(2, exO' e), (3, .box 3 [.d (.int ((0 : Nat) : Int))])]) [(0, true), (1, true), (2, true), (3, true), (4, true), (5, true), (6, true), (7, true), (8, false), (9, true), (10, true)] [] (by kernel_rfl) (by kernel_rfl) (by kernel_rfl) (by decide) (by (repeat (first | exact obs_nil | (apply obs_cons; focus (first | rfl | (simp [find]; done)))))) ?_
  simp only [planned, tailed, List.filterMap_cons, List.filterMap_nil, List.getElem?_cons_zero, List.getElem?_cons_succ, Option.map_some]
  repeat' (first | apply am_nil | refine m_skip ?_ | refine n_skip ?_ | (apply qm_move; refine m_move ?_) | (apply qm_pick; refine m_pick ?_) | (apply qm_eql; refine m_eql ?_) | (apply qm_neq; refine m_neq ?_) | (apply qm_len; refine m_len ?_) | (apply qm_load; refine m_load ?_) | (apply qm_faddr; refine m_faddr ?_) | (refine am_split rfl rfl (fun hb => ?_) (fun hb => ?_) <;> ((try have hq := dX hb); (try (exfalso; omega)))))
  repeat' (first | refine nx ?_ | (apply aq_block_y; decide) | (apply qr_move; refine r_move ?_) | (apply qr_assign; refine r_assign ?_) | (apply at_cond; first | refine c_t ?_ | refine c_f ?_ | (refine aw_cond rfl (fun hb => ?_) (fun hb => ?_) <;> ((try have hq := dX hb); (try (exfalso; omega))))) | (apply at_guard; first | refine g_go ?_ | refine g_nt ?_ | refine g_nf ?_ | refine g_nu ?_ | ((first | refine al_split_t rfl rfl (lt_ok rfl) (fun hb => ?_) (fun hb => ?_) | refine al_split_f rfl rfl (lt_ok rfl) (fun hb => ?_) (fun hb => ?_)) <;> ((try have hq := dX hb); (try (exfalso; omega))))) | (apply qr_pick; refine r_pick ?_) | (apply qr_eql; refine r_eql ?_) | (apply qr_neq; refine r_neq ?_) | (apply qr_len; refine r_len ?_) | (apply qr_load; refine r_load ?_) | (apply qr_faddr; refine r_faddr ?_))
  refine rt1 ?_
  rfl
 | d + 1, hd, e, he => by
  have ih := right_any d (by omega)
  have hz := tame_str he
  have hln := tame_len he
  have hop := operands_any e.op
  have hlen := rows_len e.args
  have q0 : decide (((d + 1 : Nat) : Int) = 0) = false := decide_eq_false (by omega)
  obtain ⟨R, hR⟩ : ∃ R, R = e.right (d + 1) := ⟨_, rfl⟩
  rw [← hR]
  rw [right_eq] at hR
  by_cases hl : (e.args.length : Int) = operandsV e.op
  ·rw [decide_eq_true hl, Bool.true_and] at hR
   have q1 : (!decide (((Ex.rows e.args).length : Int) = operandsV e.op)) = false := by simp [hl, hlen]
   refine pure_enter Tryz.func68 rfl (by decide) _ Tryz.ntmps68 (le_ok rfl) (fun w Pr hE => ?_)
   dsimp only [slotsOf, Nat.zero_add, Nat.reduceAdd]
   repeat' (first | refine nx ?_ | (apply aq_block_y; decide) | (apply qr_assign; refine r_assign ?_) | (apply at_cond; first | refine c_t ?_ | refine c_f ?_ | (refine aw_cond rfl (fun hb => ?_) (fun hb => ?_) <;> ((try have hq := dX hb); (try (exfalso; omega))))) | (apply qr_boxed; refine r_boxed ?_))
   refine aw_mixo ([(2, exO' e), (3, .box 3 [.d (.int ((d + 1 : Nat) : Int))])]) [(0, true), (1, true), (2, true), (3, true), (4, true), (5, true), (6, true), (7, true), (8, false), (9, true), (10, true)] [] (by kernel_rfl) (by kernel_rfl) (by kernel_rfl) (by decide) (by (repeat (first | exact obs_nil | (apply obs_cons; focus (first | rfl | (simp [find]; done)))))) ?_
   simp only [planned, tailed, List.filterMap_cons, List.filterMap_nil, List.getElem?_cons_zero, List.getElem?_cons_succ, Option.map_some]
   repeat' (first | apply am_nil | refine m_skip ?_ | refine n_skip ?_ | (apply at_mcall; refine m_call (hop) hE ?_; rintro _ rfl; (try dsimp only [flat, D.plain, D.plainL])) | (apply qm_move; refine m_move ?_) | (apply qm_pick; refine m_pick ?_) | (apply qm_eql; refine m_eql ?_) | (apply qm_neq; refine m_neq ?_) | (apply qm_len; refine m_len ?_) | (apply qm_load; refine m_load ?_) | (apply qm_faddr; refine m_faddr ?_) | (refine am_split rfl rfl (fun hb => ?_) (fun hb => ?_) <;> ((try have hq := dX hb); (try (exfalso; omega)))))
   clear q0 hop
   by_cases h0 : e.op = 0
   ·rw [if_pos h0, numRight_in] at hR
    have q2 : decide (e.op = 0) = true := decide_eq_true h0
    have hi1 := in_any 0 3 [e.unit] (by simp)
    cases hs : decide (e.str = ⟨#[]⟩)
    ·rw [hs, Bool.false_and, Bool.false_and] at hR
     rw [hR]
     cases hu : decide (e.unit = 3)
     all_goals
      repeat' (first | (apply at_call; refine k_call (hi1) hE ?_; rintro _ rfl) | refine nx ?_ | (apply aq_block_y; decide) | (apply qr_move; refine r_move ?_) | (apply qr_assign; refine r_assign ?_) | (apply at_cond; first | refine c_t ?_ | refine c_f ?_ | (refine aw_cond rfl (fun hb => ?_) (fun hb => ?_) <;> ((try have hq := dX hb); (try (exfalso; omega))))) | (apply at_guard; first | refine g_go ?_ | refine g_nt ?_ | refine g_nf ?_ | refine g_nu ?_ | ((first | refine al_split_t rfl rfl (lt_ok rfl) (fun hb => ?_) (fun hb => ?_) | refine al_split_f rfl rfl (lt_ok rfl) (fun hb => ?_) (fun hb => ?_)) <;> ((try have hq := dX hb); (try (exfalso; omega))))) | (apply qr_pick; refine r_pick ?_) | (apply qr_eql; refine r_eql ?_) | (apply qr_neq; refine r_neq ?_) | (apply qr_len; refine r_len ?_) | (apply qr_load; refine r_load ?_) | (apply qr_faddr; refine r_faddr ?_) | (apply qr_lits; refine r_lits ?_))
      refine rt1 ?_
      rfl
    rw [hs, Bool.true_and] at hR
    obtain ⟨b1, hb1⟩ : ∃ b1, b1 = (!([e.unit].any fun n => (decide (n < 0) || decide (3 < n)))) := ⟨_, rfl⟩
    rw [← hb1] at hR hi1
    cases b1
    ·rw [Bool.false_and] at hR
     rw [hR]
     cases hu : decide (e.unit = 3)
     all_goals
      repeat' (first | (apply at_call; refine k_call (hi1) hE ?_; rintro _ rfl) | refine nx ?_ | (apply aq_block_y; decide) | (apply qr_move; refine r_move ?_) | (apply qr_assign; refine r_assign ?_) | (apply at_cond; first | refine c_t ?_ | refine c_f ?_ | (refine aw_cond rfl (fun hb => ?_) (fun hb => ?_) <;> ((try have hq := dX hb); (try (exfalso; omega))))) | (apply at_guard; first | refine g_go ?_ | refine g_nt ?_ | refine g_nf ?_ | refine g_nu ?_ | ((first | refine al_split_t rfl rfl (lt_ok rfl) (fun hb => ?_) (fun hb => ?_) | refine al_split_f rfl rfl (lt_ok rfl) (fun hb => ?_) (fun hb => ?_)) <;> ((try have hq := dX hb); (try (exfalso; omega))))) | (apply qr_pick; refine r_pick ?_) | (apply qr_eql; refine r_eql ?_) | (apply qr_neq; refine r_neq ?_) | (apply qr_len; refine r_len ?_) | (apply qr_load; refine r_load ?_) | (apply qr_faddr; refine r_faddr ?_) | (apply qr_lits; refine r_lits ?_))
      refine rt1 ?_
      rfl
    rw [Bool.true_and] at hR
    by_cases hu : e.unit = 3
    ·have q3 : decide (e.unit = 3) = true := decide_eq_true hu
     rw [if_pos hu] at hR
     have hi2 := in_any 0 1 [e.num] (by simp)
     rw [← hR] at hi2
     repeat' (first | (apply at_call; refine k_call (hi1) hE ?_; rintro _ rfl; clear hi1) | (apply at_call; refine k_call (hi2) hE ?_; rintro _ rfl) | refine nx ?_ | (apply aq_block_y; decide) | (apply qr_move; refine r_move ?_) | (apply qr_assign; refine r_assign ?_) | (apply at_cond; first | refine c_t ?_ | refine c_f ?_ | (refine aw_cond rfl (fun hb => ?_) (fun hb => ?_) <;> ((try have hq := dX hb); (try (exfalso; omega))))) | (apply at_guard; first | refine g_go ?_ | refine g_nt ?_ | refine g_nf ?_ | refine g_nu ?_ | ((first | refine al_split_t rfl rfl (lt_ok rfl) (fun hb => ?_) (fun hb => ?_) | refine al_split_f rfl rfl (lt_ok rfl) (fun hb => ?_) (fun hb => ?_)) <;> ((try have hq := dX hb); (try (exfalso; omega))))) | (apply qr_pick; refine r_pick ?_) | (apply qr_eql; refine r_eql ?_) | (apply qr_neq; refine r_neq ?_) | (apply qr_len; refine r_len ?_) | (apply qr_load; refine r_load ?_) | (apply qr_faddr; refine r_faddr ?_) | (apply qr_lits; refine r_lits ?_))
     refine rt1 ?_
     rfl
    ·have q3 : decide (e.unit = 3) = false := decide_eq_false hu
     rw [if_neg hu] at hR
     have hi2 := in_any 0 1000000000000000 [e.num] (by simp)
     rw [← hR] at hi2
     repeat' (first | (apply at_call; refine k_call (hi1) hE ?_; rintro _ rfl; clear hi1) | (apply at_call; refine k_call (hi2) hE ?_; rintro _ rfl) | refine nx ?_ | (apply aq_block_y; decide) | (apply qr_move; refine r_move ?_) | (apply qr_assign; refine r_assign ?_) | (apply at_cond; first | refine c_t ?_ | refine c_f ?_ | (refine aw_cond rfl (fun hb => ?_) (fun hb => ?_) <;> ((try have hq := dX hb); (try (exfalso; omega))))) | (apply at_guard; first | refine g_go ?_ | refine g_nt ?_ | refine g_nf ?_ | refine g_nu ?_ | ((first | refine al_split_t rfl rfl (lt_ok rfl) (fun hb => ?_) (fun hb => ?_) | refine al_split_f rfl rfl (lt_ok rfl) (fun hb => ?_) (fun hb => ?_)) <;> ((try have hq := dX hb); (try (exfalso; omega))))) | (apply qr_pick; refine r_pick ?_) | (apply qr_eql; refine r_eql ?_) | (apply qr_neq; refine r_neq ?_) | (apply qr_len; refine r_len ?_) | (apply qr_load; refine r_load ?_) | (apply qr_faddr; refine r_faddr ?_) | (apply qr_lits; refine r_lits ?_))
     refine rt1 ?_
     rfl
   ·have q2 : decide (e.op = 0) = false := decide_eq_false h0
    rw [if_neg h0] at hR
    by_cases h1 : e.op = 1 ∨ e.op = 2 ∨ e.op = 3
    ·rw [if_pos h1] at hR
     have hna := name_any e.str (by omega)
     cases hn0 : decide (e.num = 0)
     ·rw [hn0, Bool.false_and, Bool.false_and] at hR
      rw [hR]
      repeat' (first | refine nx ?_ | (apply aq_block_y; decide) | (apply qr_move; refine r_move ?_) | (apply qr_assign; refine r_assign ?_) | (apply at_cond; first | refine c_t ?_ | refine c_f ?_ | (refine aw_cond rfl (fun hb => ?_) (fun hb => ?_) <;> ((try have hq := dX hb); (try (exfalso; omega))))) | (apply at_guard; first | refine g_go ?_ | refine g_nt ?_ | refine g_nf ?_ | refine g_nu ?_ | ((first | refine al_split_t rfl rfl (lt_ok rfl) (fun hb => ?_) (fun hb => ?_) | refine al_split_f rfl rfl (lt_ok rfl) (fun hb => ?_) (fun hb => ?_)) <;> ((try have hq := dX hb); (try (exfalso; omega))))) | (apply qr_pick; refine r_pick ?_) | (apply qr_eql; refine r_eql ?_) | (apply qr_neq; refine r_neq ?_) | (apply qr_len; refine r_len ?_) | (apply qr_load; refine r_load ?_) | (apply qr_faddr; refine r_faddr ?_))
      all_goals first
       | (exfalso; simp only [decide_eq_false_iff_not] at *; omega)
       | skip
      all_goals
       refine rt1 ?_
       rfl
     cases hn1 : decide (e.unit = 0)
     ·rw [hn0, hn1, Bool.true_and, Bool.false_and] at hR
      rw [hR]
      repeat' (first | refine nx ?_ | (apply aq_block_y; decide) | (apply qr_move; refine r_move ?_) | (apply qr_assign; refine r_assign ?_) | (apply at_cond; first | refine c_t ?_ | refine c_f ?_ | (refine aw_cond rfl (fun hb => ?_) (fun hb => ?_) <;> ((try have hq := dX hb); (try (exfalso; omega))))) | (apply at_guard; first | refine g_go ?_ | refine g_nt ?_ | refine g_nf ?_ | refine g_nu ?_ | ((first | refine al_split_t rfl rfl (lt_ok rfl) (fun hb => ?_) (fun hb => ?_) | refine al_split_f rfl rfl (lt_ok rfl) (fun hb => ?_) (fun hb => ?_)) <;> ((try have hq := dX hb); (try (exfalso; omega))))) | (apply qr_pick; refine r_pick ?_) | (apply qr_eql; refine r_eql ?_) | (apply qr_neq; refine r_neq ?_) | (apply qr_len; refine r_len ?_) | (apply qr_load; refine r_load ?_) | (apply qr_faddr; refine r_faddr ?_))
      all_goals first
       | (exfalso; simp only [decide_eq_false_iff_not] at *; omega)
       | skip
      all_goals
       refine rt1 ?_
       rfl
     ·rw [hn0, hn1, Bool.true_and, Bool.true_and] at hR
      rw [hR]
      repeat' (first | (apply at_call; refine k_call (hna) hE ?_; rintro _ rfl) | refine nx ?_ | (apply aq_block_y; decide) | (apply qr_move; refine r_move ?_) | (apply qr_assign; refine r_assign ?_) | (apply at_cond; first | refine c_t ?_ | refine c_f ?_ | (refine aw_cond rfl (fun hb => ?_) (fun hb => ?_) <;> ((try have hq := dX hb); (try (exfalso; omega))))) | (apply at_guard; first | refine g_go ?_ | refine g_nt ?_ | refine g_nf ?_ | refine g_nu ?_ | ((first | refine al_split_t rfl rfl (lt_ok rfl) (fun hb => ?_) (fun hb => ?_) | refine al_split_f rfl rfl (lt_ok rfl) (fun hb => ?_) (fun hb => ?_)) <;> ((try have hq := dX hb); (try (exfalso; omega))))) | (apply qr_pick; refine r_pick ?_) | (apply qr_eql; refine r_eql ?_) | (apply qr_neq; refine r_neq ?_) | (apply qr_len; refine r_len ?_) | (apply qr_load; refine r_load ?_) | (apply qr_faddr; refine r_faddr ?_))
      all_goals first
       | (exfalso; simp only [decide_eq_false_iff_not] at *; omega)
       | skip
      all_goals
       refine rt1 ?_
       rfl
    ·rw [if_neg h1] at hR
     have q3 : decide (e.op = 1) = false := decide_eq_false (by omega)
     have q4 : decide (e.op = 2) = false := decide_eq_false (by omega)
     have q5 : decide (e.op = 3) = false := decide_eq_false (by omega)
     have hcn := econtains (by omega) ih e.args hln (tame_args he)
     have hna := any_not e.args (fun x => x.right d)
     rw [← hna] at hR
     cases hn0 : decide (e.num = 0)
     ·rw [hn0, Bool.false_and, Bool.false_and, Bool.false_and] at hR
      rw [hR]
      repeat' (first | refine nx ?_ | (apply aq_block_y; decide) | (apply qr_move; refine r_move ?_) | (apply qr_assign; refine r_assign ?_) | (apply at_cond; first | refine c_t ?_ | refine c_f ?_ | (refine aw_cond rfl (fun hb => ?_) (fun hb => ?_) <;> ((try have hq := dX hb); (try (exfalso; omega))))) | (apply at_guard; first | refine g_go ?_ | refine g_nt ?_ | refine g_nf ?_ | refine g_nu ?_ | ((first | refine al_split_t rfl rfl (lt_ok rfl) (fun hb => ?_) (fun hb => ?_) | refine al_split_f rfl rfl (lt_ok rfl) (fun hb => ?_) (fun hb => ?_)) <;> ((try have hq := dX hb); (try (exfalso; omega))))) | (apply qr_pick; refine r_pick ?_) | (apply qr_eql; refine r_eql ?_) | (apply qr_neq; refine r_neq ?_) | (apply qr_not; refine r_not ?_) | (apply qr_len; refine r_len ?_) | (apply qr_func; refine r_func ?_) | (apply qr_load; refine r_load ?_) | (apply qr_faddr; refine r_faddr ?_))
      refine rt1 ?_
      rfl
     cases hn1 : decide (e.unit = 0)
     ·rw [hn0, hn1, Bool.true_and, Bool.false_and, Bool.false_and] at hR
      rw [hR]
      repeat' (first | refine nx ?_ | (apply aq_block_y; decide) | (apply qr_move; refine r_move ?_) | (apply qr_assign; refine r_assign ?_) | (apply at_cond; first | refine c_t ?_ | refine c_f ?_ | (refine aw_cond rfl (fun hb => ?_) (fun hb => ?_) <;> ((try have hq := dX hb); (try (exfalso; omega))))) | (apply at_guard; first | refine g_go ?_ | refine g_nt ?_ | refine g_nf ?_ | refine g_nu ?_ | ((first | refine al_split_t rfl rfl (lt_ok rfl) (fun hb => ?_) (fun hb => ?_) | refine al_split_f rfl rfl (lt_ok rfl) (fun hb => ?_) (fun hb => ?_)) <;> ((try have hq := dX hb); (try (exfalso; omega))))) | (apply qr_pick; refine r_pick ?_) | (apply qr_eql; refine r_eql ?_) | (apply qr_neq; refine r_neq ?_) | (apply qr_not; refine r_not ?_) | (apply qr_len; refine r_len ?_) | (apply qr_func; refine r_func ?_) | (apply qr_load; refine r_load ?_) | (apply qr_faddr; refine r_faddr ?_))
      refine rt1 ?_
      rfl
     cases hn2 : decide (e.str = ⟨#[]⟩)
     ·rw [hn0, hn1, hn2, Bool.true_and, Bool.true_and, Bool.false_and] at hR
      rw [hR]
      repeat' (first | refine nx ?_ | (apply aq_block_y; decide) | (apply qr_move; refine r_move ?_) | (apply qr_assign; refine r_assign ?_) | (apply at_cond; first | refine c_t ?_ | refine c_f ?_ | (refine aw_cond rfl (fun hb => ?_) (fun hb => ?_) <;> ((try have hq := dX hb); (try (exfalso; omega))))) | (apply at_guard; first | refine g_go ?_ | refine g_nt ?_ | refine g_nf ?_ | refine g_nu ?_ | ((first | refine al_split_t rfl rfl (lt_ok rfl) (fun hb => ?_) (fun hb => ?_) | refine al_split_f rfl rfl (lt_ok rfl) (fun hb => ?_) (fun hb => ?_)) <;> ((try have hq := dX hb); (try (exfalso; omega))))) | (apply qr_pick; refine r_pick ?_) | (apply qr_eql; refine r_eql ?_) | (apply qr_neq; refine r_neq ?_) | (apply qr_not; refine r_not ?_) | (apply qr_len; refine r_len ?_) | (apply qr_func; refine r_func ?_) | (apply qr_load; refine r_load ?_) | (apply qr_faddr; refine r_faddr ?_))
      refine rt1 ?_
      rfl
     ·rw [hn0, hn1, hn2, Bool.true_and, Bool.true_and, Bool.true_and] at hR
      rw [hR]
      repeat' (first | (apply at_op (.makeFunc _ _ _); refine al_y (y_clo rfl) (lt_ok rfl) ?_) | (apply at_call; refine k_ocall [(1001, 3)] (hcn) hE ?_; rintro _ _ ⟨rfl, rfl⟩ <;> (intro _ _ h1 h2; simp only [renEqs, Nat.reduceBEq, renL_app, renL_ds, renL_und] at h1 h2; subst h1 h2)) | refine nx ?_ | (apply aq_block_y; decide) | (apply qr_move; refine r_move ?_) | (apply qr_assign; refine r_assign ?_) | (apply at_cond; first | refine c_t ?_ | refine c_f ?_ | (refine aw_cond rfl (fun hb => ?_) (fun hb => ?_) <;> ((try have hq := dX hb); (try (exfalso; omega))))) | (apply at_guard; first | refine g_go ?_ | refine g_nt ?_ | refine g_nf ?_ | refine g_nu ?_ | ((first | refine al_split_t rfl rfl (lt_ok rfl) (fun hb => ?_) (fun hb => ?_) | refine al_split_f rfl rfl (lt_ok rfl) (fun hb => ?_) (fun hb => ?_)) <;> ((try have hq := dX hb); (try (exfalso; omega))))) | (apply qr_pick; refine r_pick ?_) | (apply qr_eql; refine r_eql ?_) | (apply qr_neq; refine r_neq ?_) | (apply qr_not; refine r_not ?_) | (apply qr_len; refine r_len ?_) | (apply qr_func; refine r_func ?_) | (apply qr_load; refine r_load ?_) | (apply qr_faddr; refine r_faddr ?_))
      refine rt1 ?_
      rfl
  ·rw [decide_eq_false hl, Bool.false_and] at hR
   have q1 : (!decide (((Ex.rows e.args).length : Int) = operandsV e.op)) = true := by simp [hl, hlen]
   rw [hR]
   refine pure_enter Tryz.func68 rfl (by decide) _ Tryz.ntmps68 (le_ok rfl) (fun w Pr hE => ?_)
   dsimp only [slotsOf, Nat.zero_add, Nat.reduceAdd]
   repeat' (first | refine nx ?_ | (apply aq_block_y; decide) | (apply qr_assign; refine r_assign ?_) | (apply at_cond; first | refine c_t ?_ | refine c_f ?_ | (refine aw_cond rfl (fun hb => ?_) (fun hb => ?_) <;> ((try have hq := dX hb); (try (exfalso; omega))))) | (apply qr_boxed; refine r_boxed ?_))
   refine aw_mixo ([(2, exO' e), (3, .box 3 [.d (.int ((d + 1 : Nat) : Int))])]) [(0, true), (1, true), (2, true), (3, true), (4, true), (5, true), (6, true), (7, true), (8, false), (9, true), (10, true)] [] (by kernel_rfl) (by kernel_rfl) (by kernel_rfl) (by decide) (by (repeat (first | exact obs_nil | (apply obs_cons; focus (first | rfl | (simp [find]; done)))))) ?_
   simp only [planned, tailed, List.filterMap_cons, List.filterMap_nil, List.getElem?_cons_zero, List.getElem?_cons_succ, Option.map_some]
   repeat' (first | apply am_nil | refine m_skip ?_ | refine n_skip ?_ | (apply at_mcall; refine m_call (hop) hE ?_; rintro _ rfl; (try dsimp only [flat, D.plain, D.plainL])) | (apply qm_move; refine m_move ?_) | (apply qm_pick; refine m_pick ?_) | (apply qm_eql; refine m_eql ?_) | (apply qm_neq; refine m_neq ?_) | (apply qm_len; refine m_len ?_) | (apply qm_load; refine m_load ?_) | (apply qm_faddr; refine m_faddr ?_) | (refine am_split rfl rfl (fun hb => ?_) (fun hb => ?_) <;> ((try have hq := dX hb); (try (exfalso; omega)))))
   repeat' (first | refine nx ?_ | (apply aq_block_y; decide) | (apply qr_move; refine r_move ?_) | (apply qr_assign; refine r_assign ?_) | (apply at_cond; first | refine c_t ?_ | refine c_f ?_ | (refine aw_cond rfl (fun hb => ?_) (fun hb => ?_) <;> ((try have hq := dX hb); (try (exfalso; omega))))) | (apply at_guard; first | refine g_go ?_ | refine g_nt ?_ | refine g_nf ?_ | refine g_nu ?_ | ((first | refine al_split_t rfl rfl (lt_ok rfl) (fun hb => ?_) (fun hb => ?_) | refine al_split_f rfl rfl (lt_ok rfl) (fun hb => ?_) (fun hb => ?_)) <;> ((try have hq := dX hb); (try (exfalso; omega))))) | (apply qr_pick; refine r_pick ?_) | (apply qr_eql; refine r_eql ?_) | (apply qr_neq; refine r_neq ?_) | (apply qr_len; refine r_len ?_) | (apply qr_load; refine r_load ?_) | (apply qr_faddr; refine r_faddr ?_))
   refine rt1 ?_
   rfl
end Go.Proofs.YtedoeogopmenpaaGreatDoor
end
section
set_option linter.unusedSimpArgs false
set_option linter.unusedVariables false
namespace Go.Proofs.YtedoeogopmenpaaGreatDoor
open Go.RowKit
theorem app_size (a b : ByteArray) : (a ++ b).size = a.size + b.size := ByteArray.size_append
theorem lit_size (l : List UInt8) : ByteArray.size ⟨⟨l⟩⟩ = l.length := rfl
theorem opInfo_size {op : Int} {t : Tok} {g : Nat} (h : opInfo op = some (t, g)) : t.s.size ≤ 3 ∧ 1 ≤ g ∧ g ≤ 6 ∧ t.s ≠ ⟨#[]⟩ := by
 rcases opInfo_cases h with ⟨_, rfl, rfl⟩ | ⟨_, rfl, rfl⟩ | ⟨_, rfl, rfl⟩ | ⟨_, rfl, rfl⟩ | ⟨_, rfl, rfl⟩ | ⟨_, rfl, rfl⟩ | ⟨_, rfl, rfl⟩ | ⟨_, rfl, rfl⟩ <;> decide
theorem numRight_rng {n u : Int} {s : ByteArray} (h : numRight n u s = true) : 0 ≤ n ∧ n ≤ 1000000000000000 ∧ 0 ≤ u ∧ u ≤ 3 := by
 unfold numRight at h
 simp only [Bool.and_eq_true, decide_eq_true_eq] at h
 obtain ⟨⟨_, h1, h2⟩, h3, h4⟩ := h
 split at h4 <;> omega
theorem text_size : ∀ (d : Nat) (e : Ex) (f : Nat), e.right d = true → e.tame → (e.text f).size ≤ 200000 * 4 ^ d
 | 0, e, f, h, _ => by rw [right_zero] at h; cases h
 | d + 1, e, f, h, ht => by
  have ih := text_size d
  have hp : 1 ≤ 4 ^ d := Nat.pow_pos (by omega)
  have h4 : 4 ^ (d + 1) = 4 * 4 ^ d := by rw [Nat.pow_succ]; omega
  generalize hS : 200000 * 4 ^ d = S at ih
  have hS1 : 200000 * 4 ^ (d + 1) = 4 * S := by rw [h4, ← hS]; omega
  have hS2 : 200000 ≤ S := by omega
  have key : (e.text 0).size ≤ 3 * S + 100 := by
   rcases right_shape h with ⟨n, u, rfl, hn⟩ | ⟨op, s, ho, rfl, _⟩ | ⟨x, rfl, hx⟩ | ⟨x, y, z, rfl, hx, hy, hz⟩ | ⟨op, x, y, ho, rfl, hx, hy⟩ | ⟨op, x, y, t, g, ho, rfl, hx, hy⟩
   ·have hr := numRight_rng hn
    have hz := itoaB_size hr.1 (by omega)
    have k1 : w_true.size = 4 := rfl
    have k2 : w_false.size = 5 := rfl
    rw [text_num]
    split
    ·split <;> omega
    ·split
     ·rw [app_size]
      simp only [lit_size, List.length_cons, List.length_nil]
      omega
     ·split
      ·rw [app_size]
       simp only [lit_size, List.length_cons, List.length_nil]
       omega
      ·omega
   ·have hz : s.size ≤ 100000 := ht.1
    rw [text_leaf ho]
    split
    ·omega
    ·split <;> (rw [app_size]; simp only [lit_size, List.length_cons, List.length_nil]; omega)
   ·have k1 := ih x 3 hx ht.2.2.1
    rw [text_not hx]
    simp only [app_size, lit_size, List.length_cons, List.length_nil]
    omega
   ·have k1 := ih x 0 hx ht.2.2.1
    have k2 := ih y 0 hy ht.2.2.2.1
    have k3 := ih z 0 hz ht.2.2.2.2.1
    rw [text_if hx hy hz]
    simp only [app_size, lit_size, List.length_cons, List.length_nil]
    omega
   ·have k1 := ih x 0 hx ht.2.2.1
    have k2 := ih y 0 hy ht.2.2.2.1
    have k3 : (if op = 8 then w_min else w_max).size = 3 := by split <;> rfl
    rw [text_call ho hx hy]
    simp only [app_size, lit_size, List.length_cons, List.length_nil]
    omega
   ·have k1 := ih x (leftV g) hx ht.2.2.1
    have k2 := ih y (g + 1) hy ht.2.2.2.1
    have k3 := (opInfo_size ho).1
    rw [text_op ho hx hy]
    simp only [app_size, lit_size, List.length_cons, List.length_nil]
    omega
  by_cases hf : formV e.op < f
  ·rw [text_par h hf]
   simp only [app_size, lit_size, List.length_cons, List.length_nil]
   omega
  ·rw [text_in (by omega)]
   omega
theorem pow_4 {d : Nat} (h : d ≤ 12) : 200000 * 4 ^ d ≤ 3355443200000 := by
 have : 4 ^ d ≤ 4 ^ 12 := Nat.pow_le_pow_right (by omega) h
 omega
theorem text_small {d : Nat} (hd : d ≤ 12) {e : Ex} (h : e.right d = true) (ht : e.tame) (f : Nat) : (e.text f).size ≤ 3355443200000 := Nat.le_trans (text_size d e f h ht) (pow_4 hd)
theorem form_hit {op : Int} {i : Nat} {q : ByteArray × Int × Int} (h : opsL[i]? = some q) (hq : q.2.1 = op) : ((formV op : Nat) : Int) = q.2.2 := by
 match i, h with
 | 0, h => cases h; subst hq; rfl
 | 1, h => cases h; subst hq; rfl
 | 2, h => cases h; subst hq; rfl
 | 3, h => cases h; subst hq; rfl
 | 4, h => cases h; subst hq; rfl
 | 5, h => cases h; subst hq; rfl
 | 6, h => cases h; subst hq; rfl
 | 7, h => cases h; subst hq; rfl
 | i + 8, h => simp [opsL] at h
theorem opInfo_none {op : Int} (h : ∀ q ∈ opsL, q.2.1 ≠ op) : opInfo op = none := by
 have h1 := h (w_or, 14, 1) (by simp [opsL])
 have h2 := h (w_and, 13, 2) (by simp [opsL])
 have h3 := h (w_eq, 11, 4) (by simp [opsL])
 have h4 := h (w_lt, 10, 4) (by simp [opsL])
 have h5 := h (w_plus, 4, 5) (by simp [opsL])
 have h6 := h (w_minus, 5, 5) (by simp [opsL])
 have h7 := h (w_times, 6, 6) (by simp [opsL])
 have h8 := h (w_by, 7, 6) (by simp [opsL])
 simp only at h1 h2 h3 h4 h5 h6 h7 h8
 unfold opInfo
 rw [if_neg (by omega), if_neg (by omega), if_neg (by omega), if_neg (by omega), if_neg (by omega), if_neg (by omega), if_neg (by omega), if_neg (by omega)]
theorem form_none {op : Int} (h15 : op ≠ 15) (h12 : op ≠ 12) (h : ∀ q ∈ opsL, q.2.1 ≠ op) : formV op = 7 := by
 unfold formV
 rw [if_neg h15, if_neg h12, opInfo_none h]
theorem op_hit {op : Int} {i : Nat} {q : ByteArray × Int × Int} (h : opsL[i]? = some q) (hq : q.2.1 = op) : ∃ t, opInfo op = some (t, q.2.2.toNat) ∧ t.s = q.1 ∧ 0 ≤ q.2.2 := by
 match i, h with
 | 0, h => cases h; subst hq; exact ⟨_, rfl, rfl, by decide⟩
 | 1, h => cases h; subst hq; exact ⟨_, rfl, rfl, by decide⟩
 | 2, h => cases h; subst hq; exact ⟨_, rfl, rfl, by decide⟩
 | 3, h => cases h; subst hq; exact ⟨_, rfl, rfl, by decide⟩
 | 4, h => cases h; subst hq; exact ⟨_, rfl, rfl, by decide⟩
 | 5, h => cases h; subst hq; exact ⟨_, rfl, rfl, by decide⟩
 | 6, h => cases h; subst hq; exact ⟨_, rfl, rfl, by decide⟩
 | 7, h => cases h; subst hq; exact ⟨_, rfl, rfl, by decide⟩
 | i + 8, h => simp [opsL] at h
theorem form_any (e : Ex) : PureC 107 [.agg (exC e)] (· = .int (formV e.op)) := by
 by_cases h15 : e.op = 15
 ·have q1 : decide (e.op = 15) = true := decide_eq_true h15
  have hf : formV e.op = 0 := by rw [h15]; rfl
  rw [hf]
  refine pure_enter Tryz.func107 rfl (by decide) _ Tryz.ntmps107 (le_ok rfl) (fun w Pr hE => ?_)
  dsimp only [slotsOf, Nat.zero_add, Nat.reduceAdd]
  repeat' (first | refine nx ?_ | (apply aq_block_y; decide) | (apply qr_assign; refine r_assign ?_) | (apply at_cond; first | refine c_t ?_ | refine c_f ?_ | (refine aw_cond rfl (fun hb => ?_) (fun hb => ?_) <;> ((try have hq := dX hb); (try (exfalso; omega))))) | (apply qr_eql; refine r_eql ?_) | (apply qr_load; refine r_load ?_) | (apply qr_faddr; refine r_faddr ?_) | (apply qr_boxed; refine r_boxed ?_))
  refine rt1 ?_
  rfl
 have q1 : decide (e.op = 15) = false := decide_eq_false h15
 by_cases h12 : e.op = 12
 ·have q2 : decide (e.op = 12) = true := decide_eq_true h12
  have hf : formV e.op = 3 := by rw [h12]; rfl
  rw [hf]
  refine pure_enter Tryz.func107 rfl (by decide) _ Tryz.ntmps107 (le_ok rfl) (fun w Pr hE => ?_)
  dsimp only [slotsOf, Nat.zero_add, Nat.reduceAdd]
  repeat' (first | refine nx ?_ | (apply aq_block_y; decide) | (apply qr_assign; refine r_assign ?_) | (apply at_cond; first | refine c_t ?_ | refine c_f ?_ | (refine aw_cond rfl (fun hb => ?_) (fun hb => ?_) <;> ((try have hq := dX hb); (try (exfalso; omega))))) | (apply qr_eql; refine r_eql ?_) | (apply qr_load; refine r_load ?_) | (apply qr_faddr; refine r_faddr ?_) | (apply qr_boxed; refine r_boxed ?_))
  refine rt1 ?_
  rfl
 have q2 : decide (e.op = 12) = false := decide_eq_false h12
 refine pure_enter Tryz.func107 rfl (by decide) _ Tryz.ntmps107 (le_ok rfl) (fun w Pr hE => ?_)
 dsimp only [slotsOf, Nat.zero_add, Nat.reduceAdd]
 repeat' (first | (apply at_call; refine k_call (operators_any) hE ?_; rintro _ rfl) | refine nx ?_ | (apply aq_block_y; decide) | (apply qr_move; refine r_move ?_) | (apply qr_assign; refine r_assign ?_) | (apply at_cond; first | refine c_t ?_ | refine c_f ?_ | (refine aw_cond rfl (fun hb => ?_) (fun hb => ?_) <;> ((try have hq := dX hb); (try (exfalso; omega))))) | (apply qr_eql; refine r_eql ?_) | (apply qr_len; refine r_len ?_) | (apply qr_load; refine r_load ?_) | (apply qr_faddr; refine r_faddr ?_) | (apply qr_boxed; refine r_boxed ?_))
 refine aw_lp (fun N sl ob => ∃ i : Nat, N = 8 - i ∧ i ≤ 8 ∧ (∀ q ∈ opsL.take i, q.2.1 ≠ e.op) ∧ sl = [(13, .d (.int i)), (12, .d (.int 8)), (11, .d (.list 3 (opsL.map opC))), (2, .d (.int 0)), (1, .box 1 0)] ∧ ob = [(1, exO' e)]) (⟨0, rfl, Nat.zero_le _, by simp, rfl, rfl⟩) ?_
 rintro N sl ob ⟨i, rfl, hi, hs, rfl, rfl⟩
 by_cases hlt : i < 8
 ·have hl8 : i < opsL.length := hlt
  obtain ⟨q, hx⟩ : ∃ q, opsL[i]? = some q := ⟨_, List.getElem?_eq_getElem hl8⟩
  have hg : (opsL.map opC)[i]? = some (opC q) := by rw [List.getElem?_map, hx]; rfl
  by_cases hq : q.2.1 = e.op
  ·have q3 : decide (q.2.1 = e.op) = true := decide_eq_true hq
   have hf := form_hit hx hq
   rw [hf]
   repeat' (first | (apply at_op (.indexAddr _ _ _); refine al_ixq hg ?_) | refine nx ?_ | (apply aq_block_y; decide) | (apply qr_assign; refine r_assign ?_) | (apply at_cond; first | refine c_t ?_ | refine c_f ?_ | (refine aw_cond rfl (fun hb => ?_) (fun hb => ?_) <;> ((try have hq := dX hb); (try (exfalso; omega))))) | (apply qr_lss; refine r_lss ?_) | (apply qr_eql; refine r_eql ?_) | (apply qr_ix; refine r_ix ?_) | (apply qr_load; refine r_load ?_) | (apply qr_faddr; refine r_faddr ?_) | (apply qr_alloc; refine r_alloc ?_) | (apply qr_store; refine r_store ?_))
   refine rt1 ?_
   rfl
  ·have q3 : decide (q.2.1 = e.op) = false := decide_eq_false hq
   have hnext : ∀ p ∈ opsL.take (i + 1), p.2.1 ≠ e.op := fun p hp => by
    rw [List.take_add_one, hx] at hp
    rcases List.mem_append.1 hp with hp | hp
    ·exact hs p hp
    ·simp at hp
     subst hp
     exact hq
   repeat' (first | (apply at_op (.indexAddr _ _ _); refine al_ixq hg ?_) | refine nx ?_ | (apply aq_block_y; decide) | (apply qr_move; refine r_move ?_) | (apply at_cond; first | refine c_t ?_ | refine c_f ?_ | (refine aw_cond rfl (fun hb => ?_) (fun hb => ?_) <;> ((try have hq := dX hb); (try (exfalso; omega))))) | (apply qr_lss; refine r_lss ?_) | (apply qr_eql; refine r_eql ?_) | (apply qr_add; refine r_add ?_) | (apply qr_ix; refine r_ix ?_) | (apply qr_load; refine r_load ?_) | (apply qr_faddr; refine r_faddr ?_) | (apply qr_alloc; refine r_alloc ?_) | (apply qr_store; refine r_store ?_))
   refine aq_rd (⟨i + 1, rfl, by omega, hnext, rfl, rfl⟩) (by omega)
 ·have hf := form_none h15 h12 (fun q hq => hs q (by rw [List.take_of_length_le (show opsL.length ≤ i by show 8 ≤ i; omega)]; exact hq))
  rw [hf]
  repeat' (first | refine nx ?_ | (apply aq_block_y; decide) | (apply qr_assign; refine r_assign ?_) | (apply at_cond; first | refine c_t ?_ | refine c_f ?_ | (refine aw_cond rfl (fun hb => ?_) (fun hb => ?_) <;> ((try have hq := dX hb); (try (exfalso; omega))))) | (apply qr_lss; refine r_lss ?_))
  refine rt1 ?_
  rfl
theorem numtext_any (n u : Int) (s : ByteArray) (a : List Ex) (h0 : 0 ≤ n) (h1 : n ≤ 1000000000000000) : PureC 110 [.agg (exC (.mk 0 n u s a))] (· = .str ((Ex.mk 0 n u s a).text 0)) := by
 rw [text_num]
 dsimp only [exC, Ex.op, Ex.num, Ex.unit, Ex.str, Ex.args]
 have hit := itoa_any n (by omega) (by omega)
 have hz := itoaB_size h0 (by omega)
 have l1 : ByteArray.size ⟨#[32, 99, 101, 110, 116, 115]⟩ = 6 := rfl
 have l2 : ByteArray.size ⟨#[32, 109, 105, 110, 117, 116, 101, 115]⟩ = 8 := rfl
 by_cases hu3 : u = 3
 ·rw [if_pos hu3]
  have q1 : decide (u = 3) = true := decide_eq_true hu3
  by_cases hn : n = 1
  ·rw [if_pos hn]
   have q2 : decide (n = 1) = true := decide_eq_true hn
   refine pure_enter Tryz.func110 rfl (by decide) _ Tryz.ntmps110 (le_ok rfl) (fun w Pr hE => ?_)
   dsimp only [slotsOf, Nat.zero_add, Nat.reduceAdd]
   repeat' (first | (apply at_call; refine k_call (hit) hE ?_; rintro _ rfl) | refine nx ?_ | (apply aq_block_y; decide) | (apply qr_assign; refine r_assign ?_) | (apply at_cond; first | refine c_t ?_ | refine c_f ?_ | (refine aw_cond rfl (fun hb => ?_) (fun hb => ?_) <;> ((try have hq := dX hb); (try (exfalso; omega))))) | (apply qr_eql; refine r_eql ?_) | (apply qr_load; refine r_load ?_) | (apply qr_faddr; refine r_faddr ?_) | (apply qr_boxed; refine r_boxed ?_))
   refine rt1 ?_
   rfl
  ·rw [if_neg hn]
   have q2 : decide (n = 1) = false := decide_eq_false hn
   refine pure_enter Tryz.func110 rfl (by decide) _ Tryz.ntmps110 (le_ok rfl) (fun w Pr hE => ?_)
   dsimp only [slotsOf, Nat.zero_add, Nat.reduceAdd]
   repeat' (first | (apply at_call; refine k_call (hit) hE ?_; rintro _ rfl) | refine nx ?_ | (apply aq_block_y; decide) | (apply qr_assign; refine r_assign ?_) | (apply at_cond; first | refine c_t ?_ | refine c_f ?_ | (refine aw_cond rfl (fun hb => ?_) (fun hb => ?_) <;> ((try have hq := dX hb); (try (exfalso; omega))))) | (apply qr_eql; refine r_eql ?_) | (apply qr_load; refine r_load ?_) | (apply qr_faddr; refine r_faddr ?_) | (apply qr_boxed; refine r_boxed ?_))
   refine rt1 ?_
   rfl
 rw [if_neg hu3]
 have q1 : decide (u = 3) = false := decide_eq_false hu3
 by_cases hu1 : u = 1
 ·rw [if_pos hu1]
  have q2 : decide (u = 1) = true := decide_eq_true hu1
  refine pure_enter Tryz.func110 rfl (by decide) _ Tryz.ntmps110 (le_ok rfl) (fun w Pr hE => ?_)
  dsimp only [slotsOf, Nat.zero_add, Nat.reduceAdd]
  repeat' (first | (apply at_call; refine k_call (hit) hE ?_; rintro _ rfl) | refine nx ?_ | (apply aq_block_y; decide) | (apply qr_move; refine r_move ?_) | (apply qr_assign; refine r_assign ?_) | (apply at_cond; first | refine c_t ?_ | refine c_f ?_ | (refine aw_cond rfl (fun hb => ?_) (fun hb => ?_) <;> ((try have hq := dX hb); (try (exfalso; omega))))) | (apply qr_eql; refine r_eql ?_) | (apply qr_add; refine r_add ?_) | (apply qr_load; refine r_load ?_) | (apply qr_faddr; refine r_faddr ?_) | (apply qr_boxed; refine r_boxed ?_))
  refine rt1 ?_
  rfl
 rw [if_neg hu1]
 have q2 : decide (u = 1) = false := decide_eq_false hu1
 by_cases hu2 : u = 2
 ·rw [if_pos hu2]
  have q3 : decide (u = 2) = true := decide_eq_true hu2
  refine pure_enter Tryz.func110 rfl (by decide) _ Tryz.ntmps110 (le_ok rfl) (fun w Pr hE => ?_)
  dsimp only [slotsOf, Nat.zero_add, Nat.reduceAdd]
  repeat' (first | (apply at_call; refine k_call (hit) hE ?_; rintro _ rfl) | refine nx ?_ | (apply aq_block_y; decide) | (apply qr_move; refine r_move ?_) | (apply qr_assign; refine r_assign ?_) | (apply at_cond; first | refine c_t ?_ | refine c_f ?_ | (refine aw_cond rfl (fun hb => ?_) (fun hb => ?_) <;> ((try have hq := dX hb); (try (exfalso; omega))))) | (apply qr_eql; refine r_eql ?_) | (apply qr_add; refine r_add ?_) | (apply qr_load; refine r_load ?_) | (apply qr_faddr; refine r_faddr ?_) | (apply qr_boxed; refine r_boxed ?_))
  refine rt1 ?_
  rfl
 rw [if_neg hu2]
 have q3 : decide (u = 2) = false := decide_eq_false hu2
 refine pure_enter Tryz.func110 rfl (by decide) _ Tryz.ntmps110 (le_ok rfl) (fun w Pr hE => ?_)
 dsimp only [slotsOf, Nat.zero_add, Nat.reduceAdd]
 repeat' (first | (apply at_call; refine k_call (hit) hE ?_; rintro _ rfl) | refine nx ?_ | (apply aq_block_y; decide) | (apply qr_move; refine r_move ?_) | (apply qr_assign; refine r_assign ?_) | (apply at_cond; first | refine c_t ?_ | refine c_f ?_ | (refine aw_cond rfl (fun hb => ?_) (fun hb => ?_) <;> ((try have hq := dX hb); (try (exfalso; omega))))) | (apply qr_eql; refine r_eql ?_) | (apply qr_load; refine r_load ?_) | (apply qr_faddr; refine r_faddr ?_) | (apply qr_boxed; refine r_boxed ?_))
 refine rt1 ?_
 rfl
end Go.Proofs.YtedoeogopmenpaaGreatDoor
end
section
set_option linter.unusedSimpArgs false
set_option linter.unusedVariables false
namespace Go.Proofs.YtedoeogopmenpaaGreatDoor
open Go.RowKit
abbrev ShowC (d : Nat) : Prop := ∀ (e : Ex) (f : Nat), e.right d = true → e.tame → f ≤ 7 → PureC 55 [.agg (exC e), .int f] (· = .str (e.text f))
abbrev shO (e : Ex) : Objs := [(1002, exO' e)]
abbrev shB (e : Ex) : Objs := [(1005, .box 125 [.clo (.func 108) [.box 1002 0]]), (1002, exO' e)]
theorem show1_any {d : Nat} (ih : ShowC d) (e : Ex) (ht : e.tame) (i f : Nat) (hi : i < e.args.length) (hr : e.args[i].right d = true) (hf : f ≤ 7) : ObC 108 [.d (.int i), .d (.int f), .box 1002 0] (shO e) [] (fun x o => x = .d (.str (e.args[i].text f)) ∧ o = shO e) := by
 have hc := ih e.args[i] f hr (tame_get ht hi) hf
 have hg := rows_get hi
 have hln := tame_len ht
 have hlen := rows_len e.args
 generalize e.args[i] = z at hg hc
 refine ob_enter Tryz.func108 rfl (by decide) _ Tryz.ntmps108 (le_ok rfl) rfl (fun w Pr β κ hE => ?_)
 dsimp only [slotsV, Nat.zero_add, Nat.reduceAdd]
 repeat' (first | (apply at_op (.indexAddr _ _ _); refine al_ixq hg ?_) | (apply at_call; refine k_call (hc) hE ?_; rintro _ rfl) | refine nx ?_ | (apply qr_move; refine r_move ?_) | (apply qr_assign; refine r_assign ?_) | (apply qr_ix; refine r_ix ?_) | (apply qr_load; refine r_load ?_) | (apply qr_faddr; refine r_faddr ?_))
 refine oret1 (shO e) (by rfl) rv (⟨rfl, rfl⟩) sb okx
theorem show2_any {d : Nat} (hd : d ≤ 12) (ih : ShowC d) (e : Ex) (ht : e.tame) (w : ByteArray) (hw : w.size ≤ 100) (x y : Ex) (ha : e.args = [x, y]) (hx : x.right d = true) (hy : y.right d = true) : ObC 109 [.d (.str w), .box 1005 0] (shB e) [] (fun z o => z = .d (.str (w ++ ⟨#[32, 40, 32]⟩ ++ x.text 0 ++ ⟨#[32, 44, 32]⟩ ++ y.text 0 ++ ⟨#[32, 41]⟩)) ∧ o = shB e) := by
 have h0 : 0 < e.args.length := by simp [ha]
 have h1 : 1 < e.args.length := by simp [ha]
 have tx := tame_get ht h0
 have ty := tame_get ht h1
 have c0 := show1_any ih e ht 0 0 h0 (by simp only [ha]; exact hx) (by omega)
 have c1 := show1_any ih e ht 1 0 h1 (by simp only [ha]; exact hy) (by omega)
 have ex : e.args[0] = x := by simp only [ha]; rfl
 have ey : e.args[1] = y := by simp only [ha]; rfl
 rw [ex] at c0 tx
 rw [ey] at c1 ty
 have zx := text_small hd hx tx 0
 have zy := text_small hd hy ty 0
 have l1 : ByteArray.size ⟨#[32, 40, 32]⟩ = 3 := rfl
 have l2 : ByteArray.size ⟨#[32, 44, 32]⟩ = 3 := rfl
 have l3 : ByteArray.size ⟨#[32, 41]⟩ = 2 := rfl
 have s1 := app_size w ⟨#[32, 40, 32]⟩
 have s2 := app_size (w ++ ⟨#[32, 40, 32]⟩) (x.text 0)
 have s3 := app_size (w ++ ⟨#[32, 40, 32]⟩ ++ x.text 0) ⟨#[32, 44, 32]⟩
 have s4 := app_size (w ++ ⟨#[32, 40, 32]⟩ ++ x.text 0 ++ ⟨#[32, 44, 32]⟩) (y.text 0)
 refine ob_enter Tryz.func109 rfl (by decide) _ Tryz.ntmps109 (le_ok rfl) rfl (fun w Pr β κ hE => ?_)
 dsimp only [slotsV, Nat.zero_add, Nat.reduceAdd]
 repeat' (first | refine nx ?_ | (apply qr_assign; refine r_assign ?_))
 refine aw_mixo ([(1005, .box 125 [.clo (.func 108) [.box 1002 0]])]) [(0, true), (1, true), (2, true), (6, true), (3, false), (4, true), (5, true), (7, false), (8, true), (9, true)] [10] (by kernel_rfl) (by kernel_rfl) (by kernel_rfl) (by decide) (by (repeat (first | exact obs_nil | (apply obs_cons; focus (first | rfl | (simp [find]; done)))))) ?_
 simp only [planned, tailed, List.filterMap_cons, List.filterMap_nil, List.getElem?_cons_zero, List.getElem?_cons_succ, Option.map_some]
 repeat' (first | apply am_nil | refine m_skip ?_ | refine n_skip ?_ | (apply at_mcall; refine m_clocall2 [(1002, 1002)] (c0) hE ?_; rintro _ _ ⟨rfl, rfl⟩; clear c0 <;> (intro _ _ h1 h2; simp only [renEqs, Nat.reduceBEq, renL_app, renL_ds, renL_und] at h1 h2; subst h1 h2; (try dsimp only [flatV, flat, D.plain, D.plainL]))) | (apply at_mcall; refine m_clocall2 [(1002, 1002)] (c1) hE ?_; rintro _ _ ⟨rfl, rfl⟩ <;> (intro _ _ h1 h2; simp only [renEqs, Nat.reduceBEq, renL_app, renL_ds, renL_und] at h1 h2; subst h1 h2; (try dsimp only [flatV, flat, D.plain, D.plainL]))) | (apply qm_move; refine m_move ?_) | (apply qm_add; refine m_add ?_) | (apply qm_load; refine m_load ?_) | (refine am_split rfl rfl (fun hb => ?_) (fun hb => ?_) <;> ((try have hq := dX hb); (try (exfalso; omega)))))
 repeat' (first | refine nx ?_ | (apply qr_move; refine r_move ?_) | (apply qr_assign; refine r_assign ?_) | (apply qr_add; refine r_add ?_) | (apply qr_load; refine r_load ?_))
 refine oret1 (shB e) (by rfl) rv (⟨rfl, rfl⟩) sb okx
theorem show3_any (e : Ex) (s : ByteArray) (a b : Int) : ObC 111 [.d (.agg [.str s, .int a, .int b]), .box 1002 0] (shO e) [] (fun x o => x = .d (.bool (decide (a = e.op))) ∧ o = shO e) := by
 refine ob_enter Tryz.func111 rfl (by decide) _ Tryz.ntmps111 (le_ok rfl) rfl (fun w Pr β κ hE => ?_)
 dsimp only [slotsV, Nat.zero_add, Nat.reduceAdd]
 repeat' (first | refine nx ?_ | (apply qr_assign; refine r_assign ?_) | (apply qr_eql; refine r_eql ?_) | (apply qr_load; refine r_load ?_) | (apply qr_faddr; refine r_faddr ?_) | (apply qr_boxed; refine r_boxed ?_))
 refine oret1 (shO e) (by rfl) rv (⟨rfl, rfl⟩) sb okx
theorem sindex (e : Ex) (hop : (opInfo e.op).isSome = true) : ObC 92 [.d (.list 3 (opsL.map opC)), .clo (.func 111) [.box 1002 0]] (shO e) [] (fun x o => (∃ (i : Nat) (q : ByteArray × Int × Int), x = .d (.int i) ∧ opsL[i]? = some q ∧ q.2.1 = e.op) ∧ o = shO e) := by
 refine ob_enter Tryz.func92 rfl (by decide) _ Tryz.ntmps92 (le_ok rfl) rfl (fun w Pr β κ hE => ?_)
 dsimp only [slotsV, Nat.zero_add, Nat.reduceAdd]
 repeat' (first | refine nx ?_ | (apply aq_block_y; decide) | (apply qr_move; refine r_move ?_) | (apply qr_assign; refine r_assign ?_) | (apply at_cond; first | refine c_t ?_ | refine c_f ?_ | (refine aw_cond rfl (fun hb => ?_) (fun hb => ?_) <;> ((try have hq := dX hb); (try (exfalso; omega))))) | (apply qr_lss; refine r_lss ?_) | (apply qr_add; refine r_add ?_) | (apply qr_len; refine r_len ?_) | (apply qr_ix; refine r_ix ?_) | (apply qr_load; refine r_load ?_))
 refine aw_lp (fun N sl ob => ∃ i : Nat, N = 8 - i ∧ i ≤ 8 ∧ (∀ q ∈ opsL.take i, q.2.1 ≠ e.op) ∧ sl = [(8, .d (.int i)), (7, .d (.int 8)), (1, .clo (.func 111) [.box 1002 0]), (0, .d (.list 3 (opsL.map opC)))] ∧ ob = shO e) (⟨0, rfl, Nat.zero_le _, by simp, rfl, rfl⟩) ?_
 rintro N sl ob ⟨i, rfl, hi, hs, rfl, rfl⟩
 by_cases hlt : i < 8
 ·have hl8 : i < opsL.length := hlt
  obtain ⟨q, hx⟩ : ∃ q, opsL[i]? = some q := ⟨_, List.getElem?_eq_getElem hl8⟩
  have hg : (opsL.map opC)[i]? = some (opC q) := by rw [List.getElem?_map, hx]; rfl
  have hc := show3_any e q.1 q.2.1 q.2.2
  by_cases hqe : q.2.1 = e.op
  ·rw [decide_eq_true hqe] at hc
   repeat' (first | (apply at_op (.indexAddr _ _ _); refine al_ixq hg ?_) | (apply at_call; refine k_clocall1 [(1002, 1002)] (hc) hE ?_; rintro _ _ ⟨rfl, rfl⟩ <;> (intro _ _ h1 h2; simp only [renEqs, Nat.reduceBEq, renL_app, renL_ds, renL_und] at h1 h2; subst h1 h2)) | refine nx ?_ | (apply aq_block_y; decide) | (apply qr_move; refine r_move ?_) | (apply qr_assign; refine r_assign ?_) | (apply at_cond; first | refine c_t ?_ | refine c_f ?_ | (refine aw_cond rfl (fun hb => ?_) (fun hb => ?_) <;> ((try have hq := dX hb); (try (exfalso; omega))))) | (apply qr_lss; refine r_lss ?_) | (apply qr_add; refine r_add ?_) | (apply qr_len; refine r_len ?_) | (apply qr_ix; refine r_ix ?_) | (apply qr_load; refine r_load ?_))
   refine oret1 (shO e) (by rfl) rv (⟨⟨i, q, rfl, hx, hqe⟩, rfl⟩) sb okx
  ·rw [decide_eq_false hqe] at hc
   have hnext : ∀ p ∈ opsL.take (i + 1), p.2.1 ≠ e.op := fun p hp => by
    rw [List.take_add_one, hx] at hp
    rcases List.mem_append.1 hp with hp | hp
    ·exact hs p hp
    ·simp at hp
     subst hp
     exact hqe
   repeat' (first | (apply at_op (.indexAddr _ _ _); refine al_ixq hg ?_) | (apply at_call; refine k_clocall1 [(1002, 1002)] (hc) hE ?_; rintro _ _ ⟨rfl, rfl⟩ <;> (intro _ _ h1 h2; simp only [renEqs, Nat.reduceBEq, renL_app, renL_ds, renL_und] at h1 h2; subst h1 h2)) | refine nx ?_ | (apply aq_block_y; decide) | (apply qr_move; refine r_move ?_) | (apply qr_assign; refine r_assign ?_) | (apply at_cond; first | refine c_t ?_ | refine c_f ?_ | (refine aw_cond rfl (fun hb => ?_) (fun hb => ?_) <;> ((try have hq := dX hb); (try (exfalso; omega))))) | (apply qr_lss; refine r_lss ?_) | (apply qr_add; refine r_add ?_) | (apply qr_len; refine r_len ?_) | (apply qr_ix; refine r_ix ?_) | (apply qr_load; refine r_load ?_))
   refine aq_rd (⟨i + 1, rfl, by omega, hnext, rfl, rfl⟩) (by omega)
 ·have hno := opInfo_none (fun q hq => hs q (by rw [List.take_of_length_le (show opsL.length ≤ i by show 8 ≤ i; omega)]; exact hq))
  rw [hno] at hop
  cases hop
end Go.Proofs.YtedoeogopmenpaaGreatDoor
end
