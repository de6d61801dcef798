/-
  Conditions: none.
-/
import Derived.Test.YtgiacdhffklenaaMak
set_option maxHeartbeats 16000000
set_option maxRecDepth 20000
section
set_option linter.unusedSimpArgs false
set_option linter.unusedVariables false
namespace Go.Proofs.Ytgiacdhffklenaa
open Go.RowKit
abbrev dpB (d : Nat) : Objs := [(1001, .box 3 [.d (.int d)])]
abbrev RightC (d : Nat) : Prop := ∀ e : Ex, e.wide → PureC 40 [.agg (exC e), .int d] (· = .bool (e.right d))
theorem right1_any {d : Nat} (hd : d ≤ 1000000) (ih : RightC d) (e : Ex) (he : e.wide) : ObC 55 [.d (.agg (exC e)), .box 1001 0] (dpB (d + 1)) [] (fun x o => x = .d (.bool (!e.right d)) ∧ o = dpB (d + 1)) := by
 have hc := ih e he
 have hw : ((d + 1 : Nat) : Int) - 1 = d := by omega
 rw [← hw] at hc
 refine ob_enter Try.func55 rfl (by decide) _ Try.ntmps55 (le_ok rfl) rfl (fun w Pr β κ hE => ?_)
 dsimp only [slotsV, Nat.zero_add, Nat.reduceAdd]
 repeat' (first | (apply at_call; refine k_call (hc) hE ?_; rintro _ rfl) | refine nx ?_ | (apply qr_assign; refine r_assign ?_) | (apply qr_sub; refine r_sub ?_) | (apply qr_not; refine r_not ?_) | (apply qr_load; refine r_load ?_) | (apply qr_boxed; refine r_boxed ?_))
 refine oret1 (dpB (d + 1)) (by rfl) rv (⟨rfl, rfl⟩) sb okx
theorem eindex {d : Nat} (hd : d ≤ 1000000) (ih : RightC d) (l : List Ex) (hl : l.length ≤ 100000) (ht : ∀ x ∈ l, Ex.wide x) : ObC 65 [.d (.list 5 (Ex.rows l)), .clo (.func 55) [.box 1001 0]] (dpB (d + 1)) [] (fun x o => (∃ r, x = .d (.int r) ∧ decide (0 ≤ r) = l.any fun x => !x.right d) ∧ o = dpB (d + 1)) := by
 have hlen := rows_len l
 refine ob_enter Try.func65 rfl (by decide) _ Try.ntmps65 (le_ok rfl) rfl (fun w Pr β κ hE => ?_)
 dsimp only [slotsV, Nat.zero_add, Nat.reduceAdd]
 repeat' (first | refine nx ?_ | (apply aq_block_y; decide) | (apply qr_move; refine r_move ?_) | (apply qr_assign; refine r_assign ?_) | (apply at_cond; first | refine c_t ?_ | refine c_f ?_ | (refine aw_cond rfl (fun hb => ?_) (fun hb => ?_) <;> ((try have hq := dX hb); (try (exfalso; omega))))) | (apply qr_lss; refine r_lss ?_) | (apply qr_add; refine r_add ?_) | (apply qr_len; refine r_len ?_) | (apply qr_ix; refine r_ix ?_) | (apply qr_load; refine r_load ?_))
 rw [hlen]
 refine aw_lp (fun N sl ob => ∃ i : Nat, N = l.length - i ∧ i ≤ l.length ∧ ((l.take i).any fun x => !x.right d) = false ∧ sl = [(8, .d (.int i)), (7, .d (.int l.length)), (1, .clo (.func 55) [.box 1001 0]), (0, .d (.list 5 (Ex.rows l)))] ∧ ob = dpB (d + 1)) (⟨0, rfl, Nat.zero_le _, by simp, rfl, rfl⟩) ?_
 rintro N sl ob ⟨i, rfl, hi, hs, rfl, rfl⟩
 by_cases hlt : i < l.length
 ·have hg := rows_get hlt
  have hnext := any_take (fun x : Ex => !x.right d) hlt
  rw [hs, Bool.false_or] at hnext
  have hc := right1_any hd ih l[i] (ht _ (List.getElem_mem hlt))
  cases hT : l[i].right d
  ·rw [hT] at hc
   have hany : (l.any fun x => !x.right d) = true := List.any_eq_true.2 ⟨l[i], List.getElem_mem hlt, by simp [hT]⟩
   generalize l[i] = z at hg hc
   repeat' (first | (apply at_op (.indexAddr _ _ _); refine al_ixq hg ?_) | (apply at_call; refine k_clocall1 [(1001, 1001)] (hc) hE ?_; rintro _ _ ⟨rfl, rfl⟩ <;> (intro _ _ h1 h2; simp only [renEqs, Nat.reduceBEq, renL_app, renL_ds, renL_und] at h1 h2; subst h1 h2)) | refine nx ?_ | (apply aq_block_y; decide) | (apply qr_move; refine r_move ?_) | (apply qr_assign; refine r_assign ?_) | (apply at_cond; first | refine c_t ?_ | refine c_f ?_ | (refine aw_cond rfl (fun hb => ?_) (fun hb => ?_) <;> ((try have hq := dX hb); (try (exfalso; omega))))) | (apply qr_lss; refine r_lss ?_) | (apply qr_add; refine r_add ?_) | (apply qr_len; refine r_len ?_) | (apply qr_ix; refine r_ix ?_) | (apply qr_load; refine r_load ?_))
   refine oret1 (dpB (d + 1)) (by rfl) rv (⟨⟨i, rfl, by rw [hany]; exact decide_eq_true (by omega)⟩, rfl⟩) sb okx
  ·rw [hT] at hc hnext
   generalize l[i] = z at hg hc
   repeat' (first | (apply at_op (.indexAddr _ _ _); refine al_ixq hg ?_) | (apply at_call; refine k_clocall1 [(1001, 1001)] (hc) hE ?_; rintro _ _ ⟨rfl, rfl⟩ <;> (intro _ _ h1 h2; simp only [renEqs, Nat.reduceBEq, renL_app, renL_ds, renL_und] at h1 h2; subst h1 h2)) | refine nx ?_ | (apply aq_block_y; decide) | (apply qr_move; refine r_move ?_) | (apply qr_assign; refine r_assign ?_) | (apply at_cond; first | refine c_t ?_ | refine c_f ?_ | (refine aw_cond rfl (fun hb => ?_) (fun hb => ?_) <;> ((try have hq := dX hb); (try (exfalso; omega))))) | (apply qr_lss; refine r_lss ?_) | (apply qr_add; refine r_add ?_) | (apply qr_len; refine r_len ?_) | (apply qr_ix; refine r_ix ?_) | (apply qr_load; refine r_load ?_))
   refine aq_rd (⟨i + 1, rfl, by omega, hnext, rfl, rfl⟩) (by omega)
 ·rw [List.take_of_length_le (by omega)] at hs
  repeat' (first | refine nx ?_ | (apply aq_block_y; decide) | (apply qr_move; refine r_move ?_) | (apply qr_assign; refine r_assign ?_) | (apply at_cond; first | refine c_t ?_ | refine c_f ?_ | (refine aw_cond rfl (fun hb => ?_) (fun hb => ?_) <;> ((try have hq := dX hb); (try (exfalso; omega))))) | (apply qr_lss; refine r_lss ?_) | (apply qr_add; refine r_add ?_) | (apply qr_len; refine r_len ?_) | (apply qr_ix; refine r_ix ?_) | (apply qr_load; refine r_load ?_))
  refine oret1 (dpB (d + 1)) (by rfl) rv (⟨⟨-1, rfl, by rw [hs]; rfl⟩, rfl⟩) sb okx
theorem econtains {d : Nat} (hd : d ≤ 1000000) (ih : RightC d) (l : List Ex) (hl : l.length ≤ 100000) (ht : ∀ x ∈ l, Ex.wide x) : ObC 49 [.d (.list 5 (Ex.rows l)), .clo (.func 55) [.box 1001 0]] (dpB (d + 1)) [] (fun x o => x = .d (.bool (l.any fun x => !x.right d)) ∧ o = dpB (d + 1)) := by
 have hc := eindex hd ih l hl ht
 refine ob_enter Try.func49 rfl (by decide) _ Try.ntmps49 (le_ok rfl) rfl (fun w Pr β κ hE => ?_)
 dsimp only [slotsV, Nat.zero_add, Nat.reduceAdd]
 repeat' (first | (apply at_call; refine k_ocall [(1001, 1001)] (hc) hE ?_; rintro _ _ ⟨⟨r, rfl, hr⟩, rfl⟩ <;> (intro _ _ h1 h2; simp only [renEqs, Nat.reduceBEq, renL_app, renL_ds, renL_und] at h1 h2; subst h1 h2)) | refine nx ?_ | (apply qr_move; refine r_move ?_) | (apply qr_assign; refine r_assign ?_) | (apply qr_geq; refine r_geq ?_))
 refine oret1 (dpB (d + 1)) (by rfl) rv (⟨by rw [hr], rfl⟩) sb okx
theorem wide_args {e : Ex} (h : e.wide) : ∀ x ∈ e.args, Ex.wide x := by
 intro x hx
 obtain ⟨i, hi, rfl⟩ := List.mem_iff_getElem.1 hx
 exact wide_get h hi
theorem any_not {α : Type} (l : List α) (f : α → Bool) : (!l.any fun x => !f x) = l.all f := by
 induction l with
 | nil => rfl
 | cons x r ih => simp only [List.any_cons, List.all_cons, Bool.not_or, Bool.not_not, ih]
theorem numRight_in (n u : Int) (s : ByteArray) : numRight n u s = (decide (s = ⟨#[]⟩) && (!([u].any fun n => (decide (n < 0) || decide (3 < n)))) && !([n].any fun m => (decide (m < 0) || decide ((if u = 3 then 1 else 1000000000000000) < m)))) := by
 rw [Bool.eq_iff_iff]
 by_cases hu : u = 3 <;> simp only [hu, if_true, if_false, numRight, List.any_cons, List.any_nil, Bool.or_false, Bool.and_eq_true, Bool.not_eq_true', Bool.or_eq_false_iff, decide_eq_true_eq, decide_eq_false_iff_not]
 all_goals
  constructor <;> (rintro ⟨⟨h1, h2⟩, h3⟩; exact ⟨⟨h1, by omega⟩, by omega⟩)
abbrev exO' (e : Ex) : O := .box 25 [.d (.int e.op), .d (.int e.num), .d (.int e.unit), .d (.str e.str), .d (.list 5 (Ex.rows e.args))]
theorem right_any : ∀ d : Nat, d ≤ 1000000 → RightC d
 | 0, _, e, he => by
  rw [right_zero]
  have q0 : decide (((0 : Nat) : Int) = 0) = true := rfl
  refine pure_enter Try.func40 rfl (by decide) _ Try.ntmps40 (le_ok rfl) (fun w Pr hE => ?_)
  dsimp only [slotsOf, Nat.zero_add, Nat.reduceAdd]
  repeat' (first | refine nx ?_ | (apply aq_block_y; decide) | (apply qr_assign; refine r_assign ?_) | (apply at_cond; first | refine c_t ?_ | refine c_f ?_ | (refine aw_cond rfl (fun hb => ?_) (fun hb => ?_) <;> ((try have hq := dX hb); (try (exfalso; omega))))) | (apply qr_boxed; refine r_boxed ?_))
  refine aw_mixo ([(2, exO' e), (3, .box 3 [.d (.int ((0 : Nat) : Int))])]) [(0, true), (1, true), (2, true), (3, true), (4, true), (5, true), (6, true), (7, true), (8, false), (9, true), (10, true)] [] (by kernel_rfl) (by kernel_rfl) (by kernel_rfl) (by decide) (by (repeat (first | exact obs_nil | (apply obs_cons; focus (first | rfl | (simp [find]; done)))))) ?_
  simp only [planned, tailed, List.filterMap_cons, List.filterMap_nil, List.getElem?_cons_zero, List.getElem?_cons_succ, Option.map_some]
  repeat' (first | apply am_nil | refine m_skip ?_ | refine n_skip ?_ | (apply qm_move; refine m_move ?_) | (apply qm_pick; refine m_pick ?_) | (apply qm_eql; refine m_eql ?_) | (apply qm_neq; refine m_neq ?_) | (apply qm_len; refine m_len ?_) | (apply qm_load; refine m_load ?_) | (apply qm_faddr; refine m_faddr ?_) | (refine am_split rfl rfl (fun hb => ?_) (fun hb => ?_) <;> ((try have hq := dX hb); (try (exfalso; omega)))))
  repeat' (first | refine nx ?_ | (apply aq_block_y; decide) | (apply qr_move; refine r_move ?_) | (apply qr_assign; refine r_assign ?_) | (apply at_cond; first | refine c_t ?_ | refine c_f ?_ | (refine aw_cond rfl (fun hb => ?_) (fun hb => ?_) <;> ((try have hq := dX hb); (try (exfalso; omega))))) | (apply at_guard; first | refine g_go ?_ | refine g_nt ?_ | refine g_nf ?_ | refine g_nu ?_ | ((first | refine al_split_t rfl rfl (lt_ok rfl) (fun hb => ?_) (fun hb => ?_) | refine al_split_f rfl rfl (lt_ok rfl) (fun hb => ?_) (fun hb => ?_)) <;> ((try have hq := dX hb); (try (exfalso; omega))))) | (apply qr_pick; refine r_pick ?_) | (apply qr_eql; refine r_eql ?_) | (apply qr_neq; refine r_neq ?_) | (apply qr_len; refine r_len ?_) | (apply qr_load; refine r_load ?_) | (apply qr_faddr; refine r_faddr ?_))
  refine rt1 ?_
  rfl
 | d + 1, hd, e, he => by
  have ih := right_any d (by omega)
  have hz := wide_str he
  have hln := wide_len he
  have hop := operands_any e.op
  have hlen := rows_len e.args
  have q0 : decide (((d + 1 : Nat) : Int) = 0) = false := decide_eq_false (by omega)
  obtain ⟨R, hR⟩ : ∃ R, R = e.right (d + 1) := ⟨_, rfl⟩
  rw [← hR]
  rw [right_eq] at hR
  by_cases hl : (e.args.length : Int) = operandsV e.op
  ·rw [decide_eq_true hl, Bool.true_and] at hR
   have q1 : (!decide (((Ex.rows e.args).length : Int) = operandsV e.op)) = false := by simp [hl, hlen]
   refine pure_enter Try.func40 rfl (by decide) _ Try.ntmps40 (le_ok rfl) (fun w Pr hE => ?_)
   dsimp only [slotsOf, Nat.zero_add, Nat.reduceAdd]
   repeat' (first | refine nx ?_ | (apply aq_block_y; decide) | (apply qr_assign; refine r_assign ?_) | (apply at_cond; first | refine c_t ?_ | refine c_f ?_ | (refine aw_cond rfl (fun hb => ?_) (fun hb => ?_) <;> ((try have hq := dX hb); (try (exfalso; omega))))) | (apply qr_boxed; refine r_boxed ?_))
   refine aw_mixo ([(2, exO' e), (3, .box 3 [.d (.int ((d + 1 : Nat) : Int))])]) [(0, true), (1, true), (2, true), (3, true), (4, true), (5, true), (6, true), (7, true), (8, false), (9, true), (10, true)] [] (by kernel_rfl) (by kernel_rfl) (by kernel_rfl) (by decide) (by (repeat (first | exact obs_nil | (apply obs_cons; focus (first | rfl | (simp [find]; done)))))) ?_
   simp only [planned, tailed, List.filterMap_cons, List.filterMap_nil, List.getElem?_cons_zero, List.getElem?_cons_succ, Option.map_some]
   repeat' (first | apply am_nil | refine m_skip ?_ | refine n_skip ?_ | (apply at_mcall; refine m_call (hop) hE ?_; rintro _ rfl; (try dsimp only [flat, D.plain, D.plainL])) | (apply qm_move; refine m_move ?_) | (apply qm_pick; refine m_pick ?_) | (apply qm_eql; refine m_eql ?_) | (apply qm_neq; refine m_neq ?_) | (apply qm_len; refine m_len ?_) | (apply qm_load; refine m_load ?_) | (apply qm_faddr; refine m_faddr ?_) | (refine am_split rfl rfl (fun hb => ?_) (fun hb => ?_) <;> ((try have hq := dX hb); (try (exfalso; omega)))))
   clear q0 hop
   by_cases h0 : e.op = 0
   ·rw [if_pos h0, numRight_in] at hR
    have q2 : decide (e.op = 0) = true := decide_eq_true h0
    have hi1 := in_any 0 3 [e.unit] (by simp)
    cases hs : decide (e.str = ⟨#[]⟩)
    ·rw [hs, Bool.false_and, Bool.false_and] at hR
     rw [hR]
     cases hu : decide (e.unit = 3)
     all_goals
      repeat' (first | (apply at_call; refine k_call (hi1) hE ?_; rintro _ rfl) | refine nx ?_ | (apply aq_block_y; decide) | (apply qr_move; refine r_move ?_) | (apply qr_assign; refine r_assign ?_) | (apply at_cond; first | refine c_t ?_ | refine c_f ?_ | (refine aw_cond rfl (fun hb => ?_) (fun hb => ?_) <;> ((try have hq := dX hb); (try (exfalso; omega))))) | (apply at_guard; first | refine g_go ?_ | refine g_nt ?_ | refine g_nf ?_ | refine g_nu ?_ | ((first | refine al_split_t rfl rfl (lt_ok rfl) (fun hb => ?_) (fun hb => ?_) | refine al_split_f rfl rfl (lt_ok rfl) (fun hb => ?_) (fun hb => ?_)) <;> ((try have hq := dX hb); (try (exfalso; omega))))) | (apply qr_pick; refine r_pick ?_) | (apply qr_eql; refine r_eql ?_) | (apply qr_neq; refine r_neq ?_) | (apply qr_len; refine r_len ?_) | (apply qr_load; refine r_load ?_) | (apply qr_faddr; refine r_faddr ?_) | (apply qr_lits; refine r_lits ?_))
      refine rt1 ?_
      rfl
    rw [hs, Bool.true_and] at hR
    obtain ⟨b1, hb1⟩ : ∃ b1, b1 = (!([e.unit].any fun n => (decide (n < 0) || decide (3 < n)))) := ⟨_, rfl⟩
    rw [← hb1] at hR hi1
    cases b1
    ·rw [Bool.false_and] at hR
     rw [hR]
     cases hu : decide (e.unit = 3)
     all_goals
      repeat' (first | (apply at_call; refine k_call (hi1) hE ?_; rintro _ rfl) | refine nx ?_ | (apply aq_block_y; decide) | (apply qr_move; refine r_move ?_) | (apply qr_assign; refine r_assign ?_) | (apply at_cond; first | refine c_t ?_ | refine c_f ?_ | (refine aw_cond rfl (fun hb => ?_) (fun hb => ?_) <;> ((try have hq := dX hb); (try (exfalso; omega))))) | (apply at_guard; first | refine g_go ?_ | refine g_nt ?_ | refine g_nf ?_ | refine g_nu ?_ | ((first | refine al_split_t rfl rfl (lt_ok rfl) (fun hb => ?_) (fun hb => ?_) | refine al_split_f rfl rfl (lt_ok rfl) (fun hb => ?_) (fun hb => ?_)) <;> ((try have hq := dX hb); (try (exfalso; omega))))) | (apply qr_pick; refine r_pick ?_) | (apply qr_eql; refine r_eql ?_) | (apply qr_neq; refine r_neq ?_) | (apply qr_len; refine r_len ?_) | (apply qr_load; refine r_load ?_) | (apply qr_faddr; refine r_faddr ?_) | (apply qr_lits; refine r_lits ?_))
      refine rt1 ?_
      rfl
    rw [Bool.true_and] at hR
    by_cases hu : e.unit = 3
    ·have q3 : decide (e.unit = 3) = true := decide_eq_true hu
     rw [if_pos hu] at hR
     have hi2 := in_any 0 1 [e.num] (by simp)
     rw [← hR] at hi2
     repeat' (first | (apply at_call; refine k_call (hi1) hE ?_; rintro _ rfl; clear hi1) | (apply at_call; refine k_call (hi2) hE ?_; rintro _ rfl) | refine nx ?_ | (apply aq_block_y; decide) | (apply qr_move; refine r_move ?_) | (apply qr_assign; refine r_assign ?_) | (apply at_cond; first | refine c_t ?_ | refine c_f ?_ | (refine aw_cond rfl (fun hb => ?_) (fun hb => ?_) <;> ((try have hq := dX hb); (try (exfalso; omega))))) | (apply at_guard; first | refine g_go ?_ | refine g_nt ?_ | refine g_nf ?_ | refine g_nu ?_ | ((first | refine al_split_t rfl rfl (lt_ok rfl) (fun hb => ?_) (fun hb => ?_) | refine al_split_f rfl rfl (lt_ok rfl) (fun hb => ?_) (fun hb => ?_)) <;> ((try have hq := dX hb); (try (exfalso; omega))))) | (apply qr_pick; refine r_pick ?_) | (apply qr_eql; refine r_eql ?_) | (apply qr_neq; refine r_neq ?_) | (apply qr_len; refine r_len ?_) | (apply qr_load; refine r_load ?_) | (apply qr_faddr; refine r_faddr ?_) | (apply qr_lits; refine r_lits ?_))
     refine rt1 ?_
     rfl
    ·have q3 : decide (e.unit = 3) = false := decide_eq_false hu
     rw [if_neg hu] at hR
     have hi2 := in_any 0 1000000000000000 [e.num] (by simp)
     rw [← hR] at hi2
     repeat' (first | (apply at_call; refine k_call (hi1) hE ?_; rintro _ rfl; clear hi1) | (apply at_call; refine k_call (hi2) hE ?_; rintro _ rfl) | refine nx ?_ | (apply aq_block_y; decide) | (apply qr_move; refine r_move ?_) | (apply qr_assign; refine r_assign ?_) | (apply at_cond; first | refine c_t ?_ | refine c_f ?_ | (refine aw_cond rfl (fun hb => ?_) (fun hb => ?_) <;> ((try have hq := dX hb); (try (exfalso; omega))))) | (apply at_guard; first | refine g_go ?_ | refine g_nt ?_ | refine g_nf ?_ | refine g_nu ?_ | ((first | refine al_split_t rfl rfl (lt_ok rfl) (fun hb => ?_) (fun hb => ?_) | refine al_split_f rfl rfl (lt_ok rfl) (fun hb => ?_) (fun hb => ?_)) <;> ((try have hq := dX hb); (try (exfalso; omega))))) | (apply qr_pick; refine r_pick ?_) | (apply qr_eql; refine r_eql ?_) | (apply qr_neq; refine r_neq ?_) | (apply qr_len; refine r_len ?_) | (apply qr_load; refine r_load ?_) | (apply qr_faddr; refine r_faddr ?_) | (apply qr_lits; refine r_lits ?_))
     refine rt1 ?_
     rfl
   ·have q2 : decide (e.op = 0) = false := decide_eq_false h0
    rw [if_neg h0] at hR
    by_cases h1 : e.op = 1 ∨ e.op = 2 ∨ e.op = 3
    ·rw [if_pos h1] at hR
     have hna := name_any e.str (by omega)
     cases hn0 : decide (e.num = 0)
     ·rw [hn0, Bool.false_and, Bool.false_and] at hR
      rw [hR]
      repeat' (first | refine nx ?_ | (apply aq_block_y; decide) | (apply qr_move; refine r_move ?_) | (apply qr_assign; refine r_assign ?_) | (apply at_cond; first | refine c_t ?_ | refine c_f ?_ | (refine aw_cond rfl (fun hb => ?_) (fun hb => ?_) <;> ((try have hq := dX hb); (try (exfalso; omega))))) | (apply at_guard; first | refine g_go ?_ | refine g_nt ?_ | refine g_nf ?_ | refine g_nu ?_ | ((first | refine al_split_t rfl rfl (lt_ok rfl) (fun hb => ?_) (fun hb => ?_) | refine al_split_f rfl rfl (lt_ok rfl) (fun hb => ?_) (fun hb => ?_)) <;> ((try have hq := dX hb); (try (exfalso; omega))))) | (apply qr_pick; refine r_pick ?_) | (apply qr_eql; refine r_eql ?_) | (apply qr_neq; refine r_neq ?_) | (apply qr_len; refine r_len ?_) | (apply qr_load; refine r_load ?_) | (apply qr_faddr; refine r_faddr ?_))
      all_goals first
       | (exfalso; simp only [decide_eq_false_iff_not] at *; omega)
       | skip
      all_goals
       refine rt1 ?_
       rfl
     cases hn1 : decide (e.unit = 0)
     ·rw [hn0, hn1, Bool.true_and, Bool.false_and] at hR
      rw [hR]
      repeat' (first | refine nx ?_ | (apply aq_block_y; decide) | (apply qr_move; refine r_move ?_) | (apply qr_assign; refine r_assign ?_) | (apply at_cond; first | refine c_t ?_ | refine c_f ?_ | (refine aw_cond rfl (fun hb => ?_) (fun hb => ?_) <;> ((try have hq := dX hb); (try (exfalso; omega))))) | (apply at_guard; first | refine g_go ?_ | refine g_nt ?_ | refine g_nf ?_ | refine g_nu ?_ | ((first | refine al_split_t rfl rfl (lt_ok rfl) (fun hb => ?_) (fun hb => ?_) | refine al_split_f rfl rfl (lt_ok rfl) (fun hb => ?_) (fun hb => ?_)) <;> ((try have hq := dX hb); (try (exfalso; omega))))) | (apply qr_pick; refine r_pick ?_) | (apply qr_eql; refine r_eql ?_) | (apply qr_neq; refine r_neq ?_) | (apply qr_len; refine r_len ?_) | (apply qr_load; refine r_load ?_) | (apply qr_faddr; refine r_faddr ?_))
      all_goals first
       | (exfalso; simp only [decide_eq_false_iff_not] at *; omega)
       | skip
      all_goals
       refine rt1 ?_
       rfl
     ·rw [hn0, hn1, Bool.true_and, Bool.true_and] at hR
      rw [hR]
      repeat' (first | (apply at_call; refine k_call (hna) hE ?_; rintro _ rfl) | refine nx ?_ | (apply aq_block_y; decide) | (apply qr_move; refine r_move ?_) | (apply qr_assign; refine r_assign ?_) | (apply at_cond; first | refine c_t ?_ | refine c_f ?_ | (refine aw_cond rfl (fun hb => ?_) (fun hb => ?_) <;> ((try have hq := dX hb); (try (exfalso; omega))))) | (apply at_guard; first | refine g_go ?_ | refine g_nt ?_ | refine g_nf ?_ | refine g_nu ?_ | ((first | refine al_split_t rfl rfl (lt_ok rfl) (fun hb => ?_) (fun hb => ?_) | refine al_split_f rfl rfl (lt_ok rfl) (fun hb => ?_) (fun hb => ?_)) <;> ((try have hq := dX hb); (try (exfalso; omega))))) | (apply qr_pick; refine r_pick ?_) | (apply qr_eql; refine r_eql ?_) | (apply qr_neq; refine r_neq ?_) | (apply qr_len; refine r_len ?_) | (apply qr_load; refine r_load ?_) | (apply qr_faddr; refine r_faddr ?_))
      all_goals first
       | (exfalso; simp only [decide_eq_false_iff_not] at *; omega)
       | skip
      all_goals
       refine rt1 ?_
       rfl
    ·rw [if_neg h1] at hR
     have q3 : decide (e.op = 1) = false := decide_eq_false (by omega)
     have q4 : decide (e.op = 2) = false := decide_eq_false (by omega)
     have q5 : decide (e.op = 3) = false := decide_eq_false (by omega)
     have hcn := econtains (by omega) ih e.args hln (wide_args he)
     have hna := any_not e.args (fun x => x.right d)
     rw [← hna] at hR
     cases hn0 : decide (e.num = 0)
     ·rw [hn0, Bool.false_and, Bool.false_and, Bool.false_and] at hR
      rw [hR]
      repeat' (first | refine nx ?_ | (apply aq_block_y; decide) | (apply qr_move; refine r_move ?_) | (apply qr_assign; refine r_assign ?_) | (apply at_cond; first | refine c_t ?_ | refine c_f ?_ | (refine aw_cond rfl (fun hb => ?_) (fun hb => ?_) <;> ((try have hq := dX hb); (try (exfalso; omega))))) | (apply at_guard; first | refine g_go ?_ | refine g_nt ?_ | refine g_nf ?_ | refine g_nu ?_ | ((first | refine al_split_t rfl rfl (lt_ok rfl) (fun hb => ?_) (fun hb => ?_) | refine al_split_f rfl rfl (lt_ok rfl) (fun hb => ?_) (fun hb => ?_)) <;> ((try have hq := dX hb); (try (exfalso; omega))))) | (apply qr_pick; refine r_pick ?_) | (apply qr_eql; refine r_eql ?_) | (apply qr_neq; refine r_neq ?_) | (apply qr_not; refine r_not ?_) | (apply qr_len; refine r_len ?_) | (apply qr_func; refine r_func ?_) | (apply qr_load; refine r_load ?_) | (apply qr_faddr; refine r_faddr ?_))
      refine rt1 ?_
      rfl
     cases hn1 : decide (e.unit = 0)
     ·rw [hn0, hn1, Bool.true_and, Bool.false_and, Bool.false_and] at hR
      rw [hR]
      repeat' (first | refine nx ?_ | (apply aq_block_y; decide) | (apply qr_move; refine r_move ?_) | (apply qr_assign; refine r_assign ?_) | (apply at_cond; first | refine c_t ?_ | refine c_f ?_ | (refine aw_cond rfl (fun hb => ?_) (fun hb => ?_) <;> ((try have hq := dX hb); (try (exfalso; omega))))) | (apply at_guard; first | refine g_go ?_ | refine g_nt ?_ | refine g_nf ?_ | refine g_nu ?_ | ((first | refine al_split_t rfl rfl (lt_ok rfl) (fun hb => ?_) (fun hb => ?_) | refine al_split_f rfl rfl (lt_ok rfl) (fun hb => ?_) (fun hb => ?_)) <;> ((try have hq := dX hb); (try (exfalso; omega))))) | (apply qr_pick; refine r_pick ?_) | (apply qr_eql; refine r_eql ?_) | (apply qr_neq; refine r_neq ?_) | (apply qr_not; refine r_not ?_) | (apply qr_len; refine r_len ?_) | (apply qr_func; refine r_func ?_) | (apply qr_load; refine r_load ?_) | (apply qr_faddr; refine r_faddr ?_))
      refine rt1 ?_
      rfl
     cases hn2 : decide (e.str = ⟨#[]⟩)
     ·rw [hn0, hn1, hn2, Bool.true_and, Bool.true_and, Bool.false_and] at hR
      rw [hR]
      repeat' (first | refine nx ?_ | (apply aq_block_y; decide) | (apply qr_move; refine r_move ?_) | (apply qr_assign; refine r_assign ?_) | (apply at_cond; first | refine c_t ?_ | refine c_f ?_ | (refine aw_cond rfl (fun hb => ?_) (fun hb => ?_) <;> ((try have hq := dX hb); (try (exfalso; omega))))) | (apply at_guard; first | refine g_go ?_ | refine g_nt ?_ | refine g_nf ?_ | refine g_nu ?_ | ((first | refine al_split_t rfl rfl (lt_ok rfl) (fun hb => ?_) (fun hb => ?_) | refine al_split_f rfl rfl (lt_ok rfl) (fun hb => ?_) (fun hb => ?_)) <;> ((try have hq := dX hb); (try (exfalso; omega))))) | (apply qr_pick; refine r_pick ?_) | (apply qr_eql; refine r_eql ?_) | (apply qr_neq; refine r_neq ?_) | (apply qr_not; refine r_not ?_) | (apply qr_len; refine r_len ?_) | (apply qr_func; refine r_func ?_) | (apply qr_load; refine r_load ?_) | (apply qr_faddr; refine r_faddr ?_))
      refine rt1 ?_
      rfl
     ·rw [hn0, hn1, hn2, Bool.true_and, Bool.true_and, Bool.true_and] at hR
      rw [hR]
      repeat' (first | (apply at_op (.makeFunc _ _ _); refine al_y (y_clo rfl) (lt_ok rfl) ?_) | (apply at_call; refine k_ocall [(1001, 3)] (hcn) hE ?_; rintro _ _ ⟨rfl, rfl⟩ <;> (intro _ _ h1 h2; simp only [renEqs, Nat.reduceBEq, renL_app, renL_ds, renL_und] at h1 h2; subst h1 h2)) | refine nx ?_ | (apply aq_block_y; decide) | (apply qr_move; refine r_move ?_) | (apply qr_assign; refine r_assign ?_) | (apply at_cond; first | refine c_t ?_ | refine c_f ?_ | (refine aw_cond rfl (fun hb => ?_) (fun hb => ?_) <;> ((try have hq := dX hb); (try (exfalso; omega))))) | (apply at_guard; first | refine g_go ?_ | refine g_nt ?_ | refine g_nf ?_ | refine g_nu ?_ | ((first | refine al_split_t rfl rfl (lt_ok rfl) (fun hb => ?_) (fun hb => ?_) | refine al_split_f rfl rfl (lt_ok rfl) (fun hb => ?_) (fun hb => ?_)) <;> ((try have hq := dX hb); (try (exfalso; omega))))) | (apply qr_pick; refine r_pick ?_) | (apply qr_eql; refine r_eql ?_) | (apply qr_neq; refine r_neq ?_) | (apply qr_not; refine r_not ?_) | (apply qr_len; refine r_len ?_) | (apply qr_func; refine r_func ?_) | (apply qr_load; refine r_load ?_) | (apply qr_faddr; refine r_faddr ?_))
      refine rt1 ?_
      rfl
  ·rw [decide_eq_false hl, Bool.false_and] at hR
   have q1 : (!decide (((Ex.rows e.args).length : Int) = operandsV e.op)) = true := by simp [hl, hlen]
   rw [hR]
   refine pure_enter Try.func40 rfl (by decide) _ Try.ntmps40 (le_ok rfl) (fun w Pr hE => ?_)
   dsimp only [slotsOf, Nat.zero_add, Nat.reduceAdd]
   repeat' (first | refine nx ?_ | (apply aq_block_y; decide) | (apply qr_assign; refine r_assign ?_) | (apply at_cond; first | refine c_t ?_ | refine c_f ?_ | (refine aw_cond rfl (fun hb => ?_) (fun hb => ?_) <;> ((try have hq := dX hb); (try (exfalso; omega))))) | (apply qr_boxed; refine r_boxed ?_))
   refine aw_mixo ([(2, exO' e), (3, .box 3 [.d (.int ((d + 1 : Nat) : Int))])]) [(0, true), (1, true), (2, true), (3, true), (4, true), (5, true), (6, true), (7, true), (8, false), (9, true), (10, true)] [] (by kernel_rfl) (by kernel_rfl) (by kernel_rfl) (by decide) (by (repeat (first | exact obs_nil | (apply obs_cons; focus (first | rfl | (simp [find]; done)))))) ?_
   simp only [planned, tailed, List.filterMap_cons, List.filterMap_nil, List.getElem?_cons_zero, List.getElem?_cons_succ, Option.map_some]
   repeat' (first | apply am_nil | refine m_skip ?_ | refine n_skip ?_ | (apply at_mcall; refine m_call (hop) hE ?_; rintro _ rfl; (try dsimp only [flat, D.plain, D.plainL])) | (apply qm_move; refine m_move ?_) | (apply qm_pick; refine m_pick ?_) | (apply qm_eql; refine m_eql ?_) | (apply qm_neq; refine m_neq ?_) | (apply qm_len; refine m_len ?_) | (apply qm_load; refine m_load ?_) | (apply qm_faddr; refine m_faddr ?_) | (refine am_split rfl rfl (fun hb => ?_) (fun hb => ?_) <;> ((try have hq := dX hb); (try (exfalso; omega)))))
   repeat' (first | refine nx ?_ | (apply aq_block_y; decide) | (apply qr_move; refine r_move ?_) | (apply qr_assign; refine r_assign ?_) | (apply at_cond; first | refine c_t ?_ | refine c_f ?_ | (refine aw_cond rfl (fun hb => ?_) (fun hb => ?_) <;> ((try have hq := dX hb); (try (exfalso; omega))))) | (apply at_guard; first | refine g_go ?_ | refine g_nt ?_ | refine g_nf ?_ | refine g_nu ?_ | ((first | refine al_split_t rfl rfl (lt_ok rfl) (fun hb => ?_) (fun hb => ?_) | refine al_split_f rfl rfl (lt_ok rfl) (fun hb => ?_) (fun hb => ?_)) <;> ((try have hq := dX hb); (try (exfalso; omega))))) | (apply qr_pick; refine r_pick ?_) | (apply qr_eql; refine r_eql ?_) | (apply qr_neq; refine r_neq ?_) | (apply qr_len; refine r_len ?_) | (apply qr_load; refine r_load ?_) | (apply qr_faddr; refine r_faddr ?_))
   refine rt1 ?_
   rfl
end Go.Proofs.Ytgiacdhffklenaa
end
section
namespace Go.Proofs.Ytgiacdhffklenaa
open Go.RowKit
end Go.Proofs.Ytgiacdhffklenaa
end
section
namespace Go.Proofs.Ytgiacdhffklenaa
open Go.RowKit
abbrev shO (e : Ex) : Objs := [(1002, exO' e)]
end Go.Proofs.Ytgiacdhffklenaa
end
section
namespace Go.Proofs.Ytgiacdhffklenaa
open Go.RowKit
section
variable {d : Nat}
end
end Go.Proofs.Ytgiacdhffklenaa
end
section
namespace Go.Proofs.Ytgiacdhffklenaa
open Go.RowKit
section
variable {rec : Nat → List Tok → Rd Ex} {m : Nat} {L l : List Tok}
end
end Go.Proofs.Ytgiacdhffklenaa
end
section
namespace Go.Proofs.Ytgiacdhffklenaa
open Go.RowKit
abbrev exB (e : Ex) : O := .box 25 [.d (.int e.op), .d (.int e.num), .d (.int e.unit), .d (.str e.str), .d (.list 5 (Ex.rows e.args))]
section
variable {rec : Nat → List Tok → Rd Ex} {m : Nat} {L l : List Tok}
end
end Go.Proofs.Ytgiacdhffklenaa
end
section
namespace Go.Proofs.Ytgiacdhffklenaa
open Go.RowKit
abbrev zeroB : O := .box 25 [.d (.int 0), .d (.int 0), .d (.int 0), .d (.str ⟨#[]⟩), .d (.val (.slice none 0 0))]
section
variable {rec : Nat → List Tok → Rd Ex} {m : Nat} {L l : List Tok}
def expV (rec : Nat → List Tok → Rd Ex) (form : Nat) (l : List Tok) : Rd Ex := (prfx (primP nameV) ifP notP rec form l).then fun x t => ploop symP rec form (t.length + 1) x.2 x.1 t
end
end Go.Proofs.Ytgiacdhffklenaa
end
section
namespace Go.Proofs.Ytgiacdhffklenaa
open Go.RowKit
def readE (l : List Tok) : Rd Ex := rdE (l.length + 1) 0 l
def behindP (after : ByteArray) (e : Ex) (t : List Tok) : Rd Ex := if isT t after then (if e.levels ≤ 12 then .ok e (t.drop 1) else .bad (nxt t).p 6) else .bad (nxt t).p 12
def wholeP (after : ByteArray) (l : List Tok) : Rd Ex := (readE l).then (behindP after)
def partP (word : ByteArray) (least most : Int) (l : List Tok) : Rd Int :=
 (want l word).then fun _ l => (numP least most l).then fun n l => (want l w_semi).then fun _ l => .ok n l
def freshP (others : List ByteArray) (l : List Tok) : Rd ByteArray :=
 if (nxt l).k = 0 ∧ nameV (nxt l).s = true then (if others.any (fun w => decide (w = (nxt l).s)) then .bad (nxt l).p 5 else .ok (nxt l).s (l.drop 1)) else .bad (nxt l).p 12
section
variable {L l : List Tok}
end
end Go.Proofs.Ytgiacdhffklenaa
end
section
namespace Go.Proofs.Ytgiacdhffklenaa
open Go.RowKit
def letsP : Nat → List (ByteArray × Ex) → List Tok → Rd (List (ByteArray × Ex))
 | 0, ls, l => .ok ls l
 | k + 1, ls, l => if isT l w_let then (if ls.length < 20 then (freshP (ls.map (·.1)) (l.drop 1)).then fun s l => (want l w_is).then fun _ l => (wholeP w_semi l).then fun e l => letsP k (ls ++ [(s, e)]) l else .bad (nxt l).p 6) else .ok ls l
abbrev letC (q : ByteArray × Ex) : List D := [.str q.1, .int q.2.op, .int q.2.num, .int q.2.unit, .str q.2.str, .list 5 (Ex.rows q.2.args)]
abbrev expZ : List V := [.d (.int 0), .d (.int 0), .d (.int 0), .d (.str ⟨#[]⟩), .d (.val (.slice none 0 0))]
abbrev xB (nm : ByteArray) (r k : Nat) : O := .box 27 [.d (.str nm), .row r k, .d (.int 0), .d (.int 0), .d (.int 0), .d (.str ⟨#[]⟩), .d (.val (.slice none 0 0)), .d (.int 0), .d (.int 0), .d (.int 0), .d (.str ⟨#[]⟩), .d (.val (.slice none 0 0)), .d (.int 0), .d (.int 0), .d (.int 0), .d (.str ⟨#[]⟩), .d (.val (.slice none 0 0)), .d (.int 0), .d (.int 0), .d (.int 0), .d (.str ⟨#[]⟩), .d (.val (.slice none 0 0)), .d (.int 0), .d (.int 0), .d (.int 0)]
abbrev letR (k : Nat) (ls : List (ByteArray × Ex)) : O := .row 46 6 k (ls.map letC)
abbrev namR (k : Nat) (ss : List ByteArray) : O := .row 9 1 k (ss.map fun s => [D.str s])
section
variable {L l : List Tok}
end
end Go.Proofs.Ytgiacdhffklenaa
end
section
namespace Go.Proofs.Ytgiacdhffklenaa
open Go.RowKit
structure By where
 name : ByteArray
 lets : List (ByteArray × Ex)
 admit : Ex
 fare : Ex
 late : Ex
 noshow : Ex
 quota : Int
 share : Int
 change : Int
def Ex.zero : Ex := .mk 0 0 0 ⟨#[]⟩ []
def By.zero : By := ⟨⟨#[]⟩, [], Ex.zero, Ex.zero, Ex.zero, Ex.zero, 0, 0, 0⟩
def partsP : List ByteArray → List Ex → List Tok → Rd (List Ex)
 | [], es, l => .ok es l
 | w :: ws, es, l => (want l w).then fun _ l => (wholeP w_semi l).then fun e l => partsP ws (es ++ [e]) l
def mkBy (nm : ByteArray) (ls : List (ByteArray × Ex)) (es : List Ex) (q s c : Int) : By := ⟨nm, ls, es.getD 0 Ex.zero, es.getD 1 Ex.zero, es.getD 2 Ex.zero, es.getD 3 Ex.zero, q, s, c⟩
def lastP (x : By) (l : List Tok) : Rd By := if (nxt l).k = 3 then .ok x l else .bad (nxt l).p 12
def numsP (nm : ByteArray) (ls : List (ByteArray × Ex)) (es : List Ex) (l : List Tok) : Rd By :=
 (partP w_quota 0 1000 l).then fun q l => (partP w_share 0 1000 l).then fun s l => (partP w_change 1 1000 l).then fun c l => lastP (mkBy nm ls es q s c) l
abbrev wsL : List ByteArray := [w_admit, w_fare, w_late, w_noshow]
def bylawsP (l : List Tok) : Rd By :=
 (want l w_bylaws).then fun _ l => (nameP nameV l).then fun nm l => (want l w_semi).then fun _ l => (letsP (l.length + 1) [] l).then fun ls l => (partsP wsL [] l).then fun es l => numsP nm ls es l
abbrev byC (x : By) : List D := [.str x.name, .list 6 (x.lets.map letC), .int x.admit.op, .int x.admit.num, .int x.admit.unit, .str x.admit.str, .list 5 (Ex.rows x.admit.args), .int x.fare.op, .int x.fare.num, .int x.fare.unit, .str x.fare.str, .list 5 (Ex.rows x.fare.args), .int x.late.op, .int x.late.num, .int x.late.unit, .str x.late.str, .list 5 (Ex.rows x.late.args), .int x.noshow.op, .int x.noshow.num, .int x.noshow.unit, .str x.noshow.str, .list 5 (Ex.rows x.noshow.args), .int x.quota, .int x.share, .int x.change]
abbrev exV (e : Ex) : List V := [.d (.int e.op), .d (.int e.num), .d (.int e.unit), .d (.str e.str), .d (.list 5 (Ex.rows e.args))]
def fillV : List Ex → List V
 | [] => expZ ++ (expZ ++ (expZ ++ expZ))
 | [a] => exV a ++ (expZ ++ (expZ ++ expZ))
 | [a, b] => exV a ++ (exV b ++ (expZ ++ expZ))
 | [a, b, c] => exV a ++ (exV b ++ (exV c ++ expZ))
 | a :: b :: c :: d :: _ => exV a ++ (exV b ++ (exV c ++ exV d))
abbrev byB (nm : ByteArray) (r k : Nat) (cells : List V) : O := .box 27 (.d (.str nm) :: .row r k :: (cells ++ [.d (.int 0), .d (.int 0), .d (.int 0)]))
abbrev zeroBy : O := .box 27 (.d (.str ⟨#[]⟩) :: .d (.val (.slice none 0 0)) :: (fillV [] ++ [.d (.int 0), .d (.int 0), .d (.int 0)]))
section
variable {L l : List Tok}
end
end Go.Proofs.Ytgiacdhffklenaa
end
section
set_option linter.unusedSimpArgs false
set_option linter.unusedVariables false
namespace Go.Proofs.Ytgiacdhffklenaa
open Go.RowKit
abbrev strV : ByteArray → V := fun s => .d (.str s)
abbrev intV : Int → V := fun s => .d (.int s)
abbrev expV' : Ex → V := fun e => .d (.agg (exC e))
abbrev unitV : Unit → V := fun _ => .tup []
section
variable {L l : List Tok} {k e p : Int}
end
end Go.Proofs.Ytgiacdhffklenaa
end
section
set_option linter.unusedSimpArgs false
set_option linter.unusedVariables false
namespace Go.Proofs.Ytgiacdhffklenaa
open Go.RowKit
abbrev RRightC (d : Nat) : Prop := ∀ e : Ex, e.tame → PureC 44 [.agg (exC e), .int d] (· = .bool (e.right d))
theorem all_take {α : Type} (f : α → Bool) {l : List α} {i : Nat} (h : i < l.length) : (l.take (i + 1)).all f = ((l.take i).all f && f l[i]) := by
 rw [List.take_succ_eq_append_getElem h, List.all_append]
 simp only [List.all_cons, List.all_nil, Bool.and_true]
end Go.Proofs.Ytgiacdhffklenaa
end
section
set_option linter.unusedSimpArgs false
set_option linter.unusedVariables false
namespace Go.Proofs.Ytgiacdhffklenaa
open Go.RowKit
theorem rightExpW_any (e : Ex) (he : e.wide) : PureC 22 [.agg (exC e)] (· = .bool (e.right 12)) := by
 have hc := right_any 12 (by omega) e he
 refine pure_enter Try.func22 rfl (by decide) _ Try.ntmps22 (le_ok rfl) (fun w Pr hE => ?_)
 dsimp only [slotsOf, Nat.zero_add, Nat.reduceAdd]
 repeat' (first | (apply at_call; refine k_call (hc) hE ?_; rintro _ rfl) | refine nx ?_ | (apply qr_assign; refine r_assign ?_) | (apply qr_load; refine r_load ?_) | (apply qr_boxed; refine r_boxed ?_))
 refine rt1 ?_
 rfl
theorem rightExp_any (e : Ex) (he : e.tame) : PureC 22 [.agg (exC e)] (· = .bool (e.right 12)) := rightExpW_any e (tame_wide he)
end Go.Proofs.Ytgiacdhffklenaa
end
section
namespace Go.Proofs.Ytgiacdhffklenaa
open Go.RowKit
end Go.Proofs.Ytgiacdhffklenaa
end
section
namespace Go.Proofs.Ytgiacdhffklenaa
open Go.RowKit
def fitsD (s : ByteArray) : D := if 4000 < s.size then .tup [.str ⟨#[]⟩, .int 6] else .tup [.str s, .int 0]
def printED (e : Ex) : D := if e.right 12 = true then fitsD (e.text 0) else .tup [.str ⟨#[]⟩, .int 1]
def wordV (op : Int) : ByteArray := if op = 15 then w_if else if op = 12 then w_not else if op = 8 then w_min else if op = 9 then w_max else match opInfo op with
 | some (t, _) => t.s
 | none => ⟨#[]⟩
end Go.Proofs.Ytgiacdhffklenaa
end
section
namespace Go.Proofs.Ytgiacdhffklenaa
open Go.RowKit
section
variable {d : Nat}
end
end Go.Proofs.Ytgiacdhffklenaa
end
section
namespace Go.Proofs.Ytgiacdhffklenaa
open Go.RowKit
mutual
def Ex.same : Ex → Ex → Bool
 | .mk o n u s a, .mk o' n' u' s' a' => decide (o = o') && (decide (n = n') && (decide (u = u') && (decide (s = s') && Ex.sameL a a')))
def Ex.sameL : List Ex → List Ex → Bool
 | [], [] => true
 | x :: r, y :: t => x.same y && Ex.sameL r t
 | [], _ :: _ => false
 | _ :: _, [] => false
end
abbrev SameC (n : Nat) (f : FuncId) : Prop := ∀ a b : Ex, a.levels ≤ n → a.tame → b.tame → PureC f [.agg (exC a), .agg (exC b)] (· = .bool (a.same b))
end Go.Proofs.Ytgiacdhffklenaa
end
section
namespace Go.Proofs.Ytgiacdhffklenaa
open Go.RowKit
end Go.Proofs.Ytgiacdhffklenaa
end
section
namespace Go.Proofs.Ytgiacdhffklenaa
open Go.RowKit
def letSame (p q : ByteArray × Ex) : Bool := decide (p.1 = q.1) && p.2.same q.2
def letsSame : List (ByteArray × Ex) → List (ByteArray × Ex) → Bool
 | [], [] => true
 | x :: r, y :: t => letSame x y && letsSame r t
 | [], _ :: _ => false
 | _ :: _, [] => false
def letTame (q : ByteArray × Ex) : Prop := q.1.size ≤ 100000 ∧ q.2.tame
structure By.tame (x : By) : Prop where
 name : x.name.size ≤ 100000
 len : x.lets.length ≤ 100000
 lets : ∀ q ∈ x.lets, letTame q
 admit : x.admit.tame
 fare : x.fare.tame
 late : x.late.tame
 noshow : x.noshow.tame
def By.same (a b : By) : Bool := decide (a.name = b.name) && (decide (a.quota = b.quota) && (decide (a.share = b.share) && (decide (a.change = b.change) && (letsSame a.lets b.lets && (a.admit.same b.admit && (a.fare.same b.fare && (a.late.same b.late && a.noshow.same b.noshow)))))))
abbrev letsD (l : List (ByteArray × Ex)) : D := .list 6 (l.map letC)
end Go.Proofs.Ytgiacdhffklenaa
end
section
namespace Go.Proofs.Ytgiacdhffklenaa
open Go.RowKit
abbrev byO' (x : By) : O := .box 27 [.d (.str x.name), .d (letsD x.lets), .d (.int x.admit.op), .d (.int x.admit.num), .d (.int x.admit.unit), .d (.str x.admit.str), .d (.list 5 (Ex.rows x.admit.args)), .d (.int x.fare.op), .d (.int x.fare.num), .d (.int x.fare.unit), .d (.str x.fare.str), .d (.list 5 (Ex.rows x.fare.args)), .d (.int x.late.op), .d (.int x.late.num), .d (.int x.late.unit), .d (.str x.late.str), .d (.list 5 (Ex.rows x.late.args)), .d (.int x.noshow.op), .d (.int x.noshow.num), .d (.int x.noshow.unit), .d (.str x.noshow.str), .d (.list 5 (Ex.rows x.noshow.args)), .d (.int x.quota), .d (.int x.share), .d (.int x.change)]
end Go.Proofs.Ytgiacdhffklenaa
end
section
set_option linter.unusedSimpArgs false
set_option linter.unusedVariables false
namespace Go.Proofs.Ytgiacdhffklenaa
open Go.RowKit
def uniqA (l : List ByteArray) (i : Nat) : Bool := nameV (l.getD i ⟨#[]⟩) && !((l.take i).any fun w => decide (w = l.getD i ⟨#[]⟩))
def uniqF (l : List ByteArray) : Bool := (List.range l.length).all (uniqA l)
def uniqV (l : List ByteArray) (most : Int) : Bool := uniqF l && decide ((l.length : Int) ≤ most)
theorem uniq_no {l : List ByteArray} {i : Nat} (h : i < l.length) (h1 : uniqA l i = false) : uniqF l = false := by
 rw [Bool.eq_false_iff, Ne, uniqF, List.all_eq_true]
 intro h2
 have := h2 i (List.mem_range.2 h)
 rw [h1] at this
 cases this
theorem uniq_yes {l : List ByteArray} (h : ∀ i < l.length, uniqA l i = true) : uniqF l = true := by
 rw [uniqF, List.all_eq_true]
 intro i hi
 exact h i (List.mem_range.1 hi)
theorem getD_at {l : List ByteArray} {i : Nat} (h : i < l.length) : l.getD i ⟨#[]⟩ = l[i] := by
 rw [List.getD_eq_getElem?_getD, List.getElem?_eq_getElem h]
 rfl
theorem map_take (l : List ByteArray) (i : Nat) : (l.map fun s => [D.str s]).take i = (l.take i).map fun s => [D.str s] := by rw [List.map_take]
theorem unique_any (l : List ByteArray) (most : Int) (hl : l.length ≤ 100000) (hs : ∀ s ∈ l, s.size ≤ 100000) : PureC 48 [strsD l, .int most] (· = .bool (uniqV l most)) := by
 have hm : (l.map fun s => [D.str s]).length = l.length := List.length_map ..
 unfold uniqV
 refine pure_enter Try.func48 rfl (by decide) _ Try.ntmps48 (le_ok rfl) (fun w Pr hE => ?_)
 dsimp only [slotsOf, Nat.zero_add, Nat.reduceAdd]
 repeat' (first | refine nx ?_ | (apply aq_block_y; decide) | (apply qr_move; refine r_move ?_) | (apply qr_assign; refine r_assign ?_) | (apply at_cond; first | refine c_t ?_ | refine c_f ?_ | (refine aw_cond rfl (fun hb => ?_) (fun hb => ?_) <;> ((try have hq := dX hb); (try (exfalso; omega))))) | (apply qr_len; refine r_len ?_))
 refine aw_lp (fun N sl ob => ∃ i : Nat, N = l.length - i ∧ i ≤ l.length ∧ (∀ j < i, uniqA l j = true) ∧ sl = [(9, .d (.int i)), (8, .d (.int (l.map fun s => [D.str s]).length)), (7, .d (strsD l)), (1, .d (.int most)), (0, .d (strsD l))] ∧ ob = []) (⟨0, rfl, Nat.zero_le _, fun j h => by omega, rfl, rfl⟩) ?_
 rintro N sl ob ⟨i, rfl, hi, ha, rfl, rfl⟩
 by_cases hlt : i < l.length
 ·have hg : (l.map fun s => [D.str s])[i]? = some [D.str l[i]] := by rw [get_map hlt]
  have hna := name_any l[i] (by have := hs _ (List.getElem_mem hlt); omega)
  have hcon := contains_str (l.take i) l[i] (by rw [List.length_take]; omega)
  have hdt : (l.take i).map (fun s => [D.str s]) = List.drop 0 (List.take i (l.map fun s => [D.str s])) := by rw [List.map_take]; rfl
  unfold strsD at hcon
  rw [hdt] at hcon
  have hu : uniqA l i = (nameV l[i] && !((l.take i).any fun w => decide (w = l[i]))) := by rw [uniqA, getD_at hlt]
  have q : decide ((i : Int) < (l.map fun s => [D.str s]).length) = true := decide_eq_true (by omega)
  generalize l[i] = x at hg hna hcon hu
  cases h1 : nameV x
  ·rw [h1] at hna
   rw [h1, Bool.false_and] at hu
   rw [uniq_no hlt hu, Bool.false_and]
   repeat' (first | (apply at_op (.indexAddr _ _ _); refine al_ixq hg ?_) | (apply at_call; refine k_call (hna) hE ?_; rintro _ rfl) | refine nx ?_ | (apply aq_block_y; decide) | (apply qr_move; refine r_move ?_) | (apply qr_assign; refine r_assign ?_) | (apply at_cond; first | refine c_t ?_ | refine c_f ?_ | (refine aw_cond rfl (fun hb => ?_) (fun hb => ?_) <;> ((try have hq := dX hb); (try (exfalso; omega))))) | (apply at_guard; first | refine g_go ?_ | refine g_nt ?_ | refine g_nf ?_ | refine g_nu ?_ | ((first | refine al_split_t rfl rfl (lt_ok rfl) (fun hb => ?_) (fun hb => ?_) | refine al_split_f rfl rfl (lt_ok rfl) (fun hb => ?_) (fun hb => ?_)) <;> ((try have hq := dX hb); (try (exfalso; omega))))) | (apply qr_pick; refine r_pick ?_) | (apply qr_lss; refine r_lss ?_) | (apply qr_not; refine r_not ?_) | (apply qr_slice; refine r_slice ?_) | (apply qr_ix; refine r_ix ?_) | (apply qr_load; refine r_load ?_))
   refine rt1 ?_
   rfl
  ·rw [h1] at hna
   rw [h1, Bool.true_and] at hu
   cases h2 : ((l.take i).any fun w => decide (w = x))
   ·rw [h2] at hcon hu
    have hnext : ∀ j < i + 1, uniqA l j = true := fun j hj => by
     rcases Nat.lt_succ_iff_lt_or_eq.1 hj with h | rfl
     ·exact ha j h
     ·exact hu
    repeat' (first | (apply at_op (.indexAddr _ _ _); refine al_ixq hg ?_) | (apply at_call; refine k_call (hna) hE ?_; rintro _ rfl) | (apply at_call; refine k_call (hcon) hE ?_; rintro _ rfl) | refine nx ?_ | (apply aq_block_y; decide) | (apply qr_move; refine r_move ?_) | (apply qr_assign; refine r_assign ?_) | (apply at_cond; first | refine c_t ?_ | refine c_f ?_ | (refine aw_cond rfl (fun hb => ?_) (fun hb => ?_) <;> ((try have hq := dX hb); (try (exfalso; omega))))) | (apply at_guard; first | refine g_go ?_ | refine g_nt ?_ | refine g_nf ?_ | refine g_nu ?_ | ((first | refine al_split_t rfl rfl (lt_ok rfl) (fun hb => ?_) (fun hb => ?_) | refine al_split_f rfl rfl (lt_ok rfl) (fun hb => ?_) (fun hb => ?_)) <;> ((try have hq := dX hb); (try (exfalso; omega))))) | (apply qr_pick; refine r_pick ?_) | (apply qr_lss; refine r_lss ?_) | (apply qr_add; refine r_add ?_) | (apply qr_not; refine r_not ?_) | (apply qr_slice; refine r_slice ?_) | (apply qr_ix; refine r_ix ?_) | (apply qr_load; refine r_load ?_))
    refine aq_rd (⟨i + 1, rfl, by omega, hnext, rfl, rfl⟩) (by omega)
   ·rw [h2] at hcon hu
    rw [uniq_no hlt hu, Bool.false_and]
    repeat' (first | (apply at_op (.indexAddr _ _ _); refine al_ixq hg ?_) | (apply at_call; refine k_call (hna) hE ?_; rintro _ rfl) | (apply at_call; refine k_call (hcon) hE ?_; rintro _ rfl) | refine nx ?_ | (apply aq_block_y; decide) | (apply qr_move; refine r_move ?_) | (apply qr_assign; refine r_assign ?_) | (apply at_cond; first | refine c_t ?_ | refine c_f ?_ | (refine aw_cond rfl (fun hb => ?_) (fun hb => ?_) <;> ((try have hq := dX hb); (try (exfalso; omega))))) | (apply at_guard; first | refine g_go ?_ | refine g_nt ?_ | refine g_nf ?_ | refine g_nu ?_ | ((first | refine al_split_t rfl rfl (lt_ok rfl) (fun hb => ?_) (fun hb => ?_) | refine al_split_f rfl rfl (lt_ok rfl) (fun hb => ?_) (fun hb => ?_)) <;> ((try have hq := dX hb); (try (exfalso; omega))))) | (apply qr_pick; refine r_pick ?_) | (apply qr_lss; refine r_lss ?_) | (apply qr_not; refine r_not ?_) | (apply qr_slice; refine r_slice ?_) | (apply qr_ix; refine r_ix ?_) | (apply qr_load; refine r_load ?_))
    refine rt1 ?_
    rfl
 ·rw [uniq_yes (fun j hj => ha j (by omega)), Bool.true_and]
  have q : decide ((i : Int) < (l.map fun s => [D.str s]).length) = false := decide_eq_false (by omega)
  repeat' (first | refine nx ?_ | (apply aq_block_y; decide) | (apply qr_move; refine r_move ?_) | (apply qr_assign; refine r_assign ?_) | (apply at_cond; first | refine c_t ?_ | refine c_f ?_ | (refine aw_cond rfl (fun hb => ?_) (fun hb => ?_) <;> ((try have hq := dX hb); (try (exfalso; omega))))) | (apply qr_lss; refine r_lss ?_) | (apply qr_leq; refine r_leq ?_) | (apply qr_len; refine r_len ?_))
  refine rt1 ?_
  rfl
end Go.Proofs.Ytgiacdhffklenaa
end
