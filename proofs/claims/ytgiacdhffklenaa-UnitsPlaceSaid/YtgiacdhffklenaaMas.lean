/-
  Conditions: none.
-/
import Derived.Test.YtgiacdhffklenaaMar
set_option maxHeartbeats 16000000
set_option maxRecDepth 20000
section
set_option linter.unusedSimpArgs false
set_option linter.unusedVariables false
namespace Go.Proofs.Ytgiacdhffklenaa
open Go.RowKit
theorem of_one {ls : List (ByteArray × Ex)} {e : Ex} {u : Int} {p : List Int} (h : ofU ls e = (u, p, 1)) : u = 0 ∧ p = [] := by
 unfold ofU at h
 split at h
 ·cases h
  exact ⟨rfl, rfl⟩
 ·rename_i hcc
  have h1 : e.right 12 = true := by
   simp only [Bool.or_eq_true, Bool.not_eq_true', not_or, Bool.not_eq_false] at hcc
   exact hcc.1
  cases hx : e.unitU (scopedU ls) with
  | ok v => rw [hx] at h; cases h
  | bad q d =>
   have := bad_code h1 hx
   rw [hx] at h
   cases h
   omega
theorem uplace_any (ls : List (ByteArray × Ex)) (e : Ex) (hl : ls.length ≤ 9223372036854775807) (hc : ∀ q ∈ ls, Ex.came q.2) (ce : e.came) : PureC 4 [letsD ls, .agg (exC e)] (· = .bool true) := by
 have hml : (ls.map letC).length = ls.length := List.length_map ..
 have k1 := usmall_any
 have k2 := ufew_any ls e hl hc ce
 refine pure_enter Try.func4 rfl (by decide) _ Try.ntmps4 (le_ok rfl) (fun w Pr hE => ?_)
 dsimp only [slotsOf, Nat.zero_add, Nat.reduceAdd]
 repeat' (first | (apply at_call; refine k_call (k1) hE ?_; rintro _ rfl) | (apply at_call; refine k_call (k2) hE ?_; (rintro _ ⟨b1, rfl, t1⟩; clear k2; cases b1)) | refine nx ?_ | (apply aq_block_y; decide) | (apply qr_move; refine r_move ?_) | (apply qr_assign; refine r_assign ?_) | (apply at_cond; first | refine c_t ?_ | refine c_f ?_ | (refine aw_cond rfl (fun hb => ?_) (fun hb => ?_) <;> ((try have hq := dX hb); (try (exfalso; omega))))) | (apply qr_not; refine r_not ?_) | (apply qr_load; refine r_load ?_) | (apply qr_boxed; refine r_boxed ?_))
 ·skip
  repeat' (first | refine nx ?_ | (apply aq_block_y; decide) | (apply qr_move; refine r_move ?_) | (apply qr_assign; refine r_assign ?_) | (apply at_cond; first | refine c_t ?_ | refine c_f ?_ | (refine aw_cond rfl (fun hb => ?_) (fun hb => ?_) <;> ((try have hq := dX hb); (try (exfalso; omega))))) | (apply qr_not; refine r_not ?_) | (apply qr_load; refine r_load ?_))
  refine rt1 ?_
  rfl
 obtain ⟨hl20, hls, te⟩ := t1 rfl
 clear t1 k1
 have hl100 : ls.length ≤ 100 := by omega
 have g1 := uof_any ls e hl100 hls te
 have hplen := of_len ls e
 generalize hr1 : ofU ls e = r1 at g1 hplen
 obtain ⟨u, p, c⟩ := r1
 unfold ofD at g1
 dsimp only at g1 hplen
 have hlp : (p.map fun n => [D.int n]).length = p.length := List.length_map ..
 by_cases hc1 : c = 1
 ·subst hc1
  obtain ⟨rfl, rfl⟩ := of_one hr1
  repeat' (first | (apply at_call; refine k_call (g1) hE ?_; rintro _ rfl) | refine nx ?_ | (apply aq_block_y; decide) | (apply qr_move; refine r_move ?_) | (apply qr_assign; refine r_assign ?_) | (apply at_cond; first | refine c_t ?_ | refine c_f ?_ | (refine aw_cond rfl (fun hb => ?_) (fun hb => ?_) <;> ((try have hq := dX hb); (try (exfalso; omega))))) | (apply at_guard; first | refine g_go ?_ | refine g_nt ?_ | refine g_nf ?_ | refine g_nu ?_ | ((first | refine al_split_t rfl rfl (lt_ok rfl) (fun hb => ?_) (fun hb => ?_) | refine al_split_f rfl rfl (lt_ok rfl) (fun hb => ?_) (fun hb => ?_)) <;> ((try have hq := dX hb); (try (exfalso; omega))))) | (apply qr_pick; refine r_pick ?_) | (apply qr_eql; refine r_eql ?_) | (apply qr_not; refine r_not ?_) | (apply qr_len; refine r_len ?_) | (apply qr_extract; refine r_extract ?_) | (apply qr_load; refine r_load ?_))
  refine rt1 ?_
  rfl
 have q1 : decide (c = 1) = false := decide_eq_false hc1
 have F := place_facts hr1 hc1
 have a1 := at_any e p te (by omega)
 obtain ⟨part, hat, hbf, hop, h14, hargs⟩ := F.at_
 rw [hat] at a1
 unfold atD at a1
 dsimp only at a1
 have tp := at_tame p e part te hat
 have bf := before_any ls e p hl100 hls te (by omega) hbf
 have g2 := uof_any ls part hl100 hls tp
 rw [hop] at g2
 unfold ofD at g2
 dsimp only at g2
 have hla := rows_len part.args
 have hll := at_len tp
 have hun := F.unit
 clear hop hbf hat
 rcases F.code with rfl | rfl | rfl
 ·obtain rfl := F.zero rfl
  have q2 : decide (u < 0) = false := decide_eq_false (by omega)
  have q3 : decide (4 ≤ u) = false := decide_eq_false (by omega)
  have q4 : (!decide (u = u)) = false := by simp
  clear F hr1 h14
  repeat' (first | (apply at_call; refine k_call (g1) hE ?_; rintro _ rfl) | refine nx ?_ | (apply aq_block_y; decide) | (apply qr_move; refine r_move ?_) | (apply qr_assign; refine r_assign ?_) | (apply at_cond; first | refine c_t ?_ | refine c_f ?_ | (refine aw_cond rfl (fun hb => ?_) (fun hb => ?_) <;> ((try have hq := dX hb); (try (exfalso; omega))))) | (apply qr_eql; refine r_eql ?_) | (apply qr_not; refine r_not ?_) | (apply qr_extract; refine r_extract ?_) | (apply qr_load; refine r_load ?_))
  repeat' (first | (apply at_call; refine k_call (a1) hE ?_; rintro _ rfl) | (apply at_call; refine k_call (bf) hE ?_; rintro _ rfl) | (apply at_call; refine k_call (g2) hE ?_; rintro _ rfl) | refine nx ?_ | (apply aq_block_y; decide) | (apply qr_move; refine r_move ?_) | (apply qr_assign; refine r_assign ?_) | (apply at_cond; first | refine c_t ?_ | refine c_f ?_ | (refine aw_cond rfl (fun hb => ?_) (fun hb => ?_) <;> ((try have hq := dX hb); (try (exfalso; omega))))) | (apply at_guard; first | refine g_go ?_ | refine g_nt ?_ | refine g_nf ?_ | refine g_nu ?_ | ((first | refine al_split_t rfl rfl (lt_ok rfl) (fun hb => ?_) (fun hb => ?_) | refine al_split_f rfl rfl (lt_ok rfl) (fun hb => ?_) (fun hb => ?_)) <;> ((try have hq := dX hb); (try (exfalso; omega))))) | (apply qr_pick; refine r_pick ?_) | (apply qr_lss; refine r_lss ?_) | (apply qr_gtr; refine r_gtr ?_) | (apply qr_geq; refine r_geq ?_) | (apply qr_eql; refine r_eql ?_) | (apply qr_neq; refine r_neq ?_) | (apply qr_not; refine r_not ?_) | (apply qr_len; refine r_len ?_) | (apply qr_extract; refine r_extract ?_) | (apply qr_load; refine r_load ?_) | (apply qr_alloc; refine r_alloc ?_) | (apply qr_store; refine r_store ?_))
  clear a1 bf g2 g1
  clear q1 q2 q3
  repeat' (first | refine nx ?_ | (apply aq_block_y; decide) | (apply qr_move; refine r_move ?_) | (apply qr_assign; refine r_assign ?_) | (apply at_cond; first | refine c_t ?_ | refine c_f ?_ | (refine aw_cond rfl (fun hb => ?_) (fun hb => ?_) <;> ((try have hq := dX hb); (try (exfalso; omega))))) | (apply at_guard; first | refine g_go ?_ | refine g_nt ?_ | refine g_nf ?_ | refine g_nu ?_ | ((first | refine al_split_t rfl rfl (lt_ok rfl) (fun hb => ?_) (fun hb => ?_) | refine al_split_f rfl rfl (lt_ok rfl) (fun hb => ?_) (fun hb => ?_)) <;> ((try have hq := dX hb); (try (exfalso; omega))))) | (apply qr_pick; refine r_pick ?_) | (apply qr_eql; refine r_eql ?_) | (apply qr_neq; refine r_neq ?_) | (apply qr_len; refine r_len ?_) | (apply qr_load; refine r_load ?_) | (apply qr_faddr; refine r_faddr ?_))
  refine aw_lp (fun N sl ob => ∃ i : Nat, N = part.args.length - i ∧ i ≤ part.args.length ∧ sl = [(14, .d (.int i)), (9, .box 9 0), (5, .d (.bool true)), (0, .d (letsD ls))] ∧ ob = [(9, exO' part)]) (⟨0, rfl, Nat.zero_le _, rfl, rfl⟩) ?_
  rintro N sl ob ⟨i, rfl, hi, rfl, rfl⟩
  by_cases hlt : i < part.args.length
  ·have hg := rows_get hlt
   have hz := hargs part.args[i] (List.getElem_mem hlt)
   have g3 := uof_any ls part.args[i] hl100 hls (tame_get tp hlt)
   have qi : decide ((i : Int) < (Ex.rows part.args).length) = true := decide_eq_true (by omega)
   generalize part.args[i] = y at *
   unfold ofD at g3
   generalize ofU ls y = r3 at *
   obtain ⟨u3, p3, c3⟩ := r3
   dsimp only at g3 hz
   subst hz
   repeat' (first | (apply at_op (.indexAddr _ _ _); refine al_ixq hg ?_) | (apply at_call; refine k_call (g3) hE ?_; rintro _ rfl) | refine nx ?_ | (apply aq_block_y; decide) | (apply qr_move; refine r_move ?_) | (apply qr_assign; refine r_assign ?_) | (apply at_cond; first | refine c_t ?_ | refine c_f ?_ | (refine aw_cond rfl (fun hb => ?_) (fun hb => ?_) <;> ((try have hq := dX hb); (try (exfalso; omega))))) | (apply qr_lss; refine r_lss ?_) | (apply qr_neq; refine r_neq ?_) | (apply qr_len; refine r_len ?_) | (apply qr_extract; refine r_extract ?_) | (apply qr_ix; refine r_ix ?_) | (apply qr_load; refine r_load ?_) | (apply qr_faddr; refine r_faddr ?_))
   repeat' (first | refine nx ?_ | (apply aq_block_y; decide) | (apply qr_move; refine r_move ?_) | (apply qr_assign; refine r_assign ?_) | (apply at_cond; first | refine c_t ?_ | refine c_f ?_ | (refine aw_cond rfl (fun hb => ?_) (fun hb => ?_) <;> ((try have hq := dX hb); (try (exfalso; omega))))) | (apply qr_add; refine r_add ?_))
   refine aq_rd (⟨i + 1, rfl, by omega, rfl, rfl⟩) (by omega)
  ·have qi : decide ((i : Int) < (Ex.rows part.args).length) = false := decide_eq_false (by omega)
   repeat' (first | refine nx ?_ | (apply aq_block_y; decide) | (apply qr_move; refine r_move ?_) | (apply qr_assign; refine r_assign ?_) | (apply at_cond; first | refine c_t ?_ | refine c_f ?_ | (refine aw_cond rfl (fun hb => ?_) (fun hb => ?_) <;> ((try have hq := dX hb); (try (exfalso; omega))))) | (apply qr_lss; refine r_lss ?_) | (apply qr_len; refine r_len ?_) | (apply qr_load; refine r_load ?_) | (apply qr_faddr; refine r_faddr ?_))
   refine rt1 ?_
   rfl
 ·obtain rfl := F.none (by decide)
  have q2 : decide ((12 : Int) < p.length) = false := decide_eq_false (by omega)
  clear F hr1 h14
  repeat' (first | (apply at_call; refine k_call (g1) hE ?_; rintro _ rfl) | refine nx ?_ | (apply aq_block_y; decide) | (apply qr_move; refine r_move ?_) | (apply qr_assign; refine r_assign ?_) | (apply at_cond; first | refine c_t ?_ | refine c_f ?_ | (refine aw_cond rfl (fun hb => ?_) (fun hb => ?_) <;> ((try have hq := dX hb); (try (exfalso; omega))))) | (apply qr_eql; refine r_eql ?_) | (apply qr_not; refine r_not ?_) | (apply qr_extract; refine r_extract ?_) | (apply qr_load; refine r_load ?_))
  repeat' (first | (apply at_call; refine k_call (a1) hE ?_; rintro _ rfl) | (apply at_call; refine k_call (bf) hE ?_; rintro _ rfl) | (apply at_call; refine k_call (g2) hE ?_; rintro _ rfl) | refine nx ?_ | (apply aq_block_y; decide) | (apply qr_move; refine r_move ?_) | (apply qr_assign; refine r_assign ?_) | (apply at_cond; first | refine c_t ?_ | refine c_f ?_ | (refine aw_cond rfl (fun hb => ?_) (fun hb => ?_) <;> ((try have hq := dX hb); (try (exfalso; omega))))) | (apply at_guard; first | refine g_go ?_ | refine g_nt ?_ | refine g_nf ?_ | refine g_nu ?_ | ((first | refine al_split_t rfl rfl (lt_ok rfl) (fun hb => ?_) (fun hb => ?_) | refine al_split_f rfl rfl (lt_ok rfl) (fun hb => ?_) (fun hb => ?_)) <;> ((try have hq := dX hb); (try (exfalso; omega))))) | (apply qr_pick; refine r_pick ?_) | (apply qr_lss; refine r_lss ?_) | (apply qr_gtr; refine r_gtr ?_) | (apply qr_geq; refine r_geq ?_) | (apply qr_eql; refine r_eql ?_) | (apply qr_neq; refine r_neq ?_) | (apply qr_not; refine r_not ?_) | (apply qr_len; refine r_len ?_) | (apply qr_extract; refine r_extract ?_) | (apply qr_load; refine r_load ?_) | (apply qr_alloc; refine r_alloc ?_) | (apply qr_store; refine r_store ?_))
  clear a1 bf g2 g1
  clear q1 q2
  repeat' (first | refine nx ?_ | (apply aq_block_y; decide) | (apply qr_move; refine r_move ?_) | (apply qr_assign; refine r_assign ?_) | (apply at_cond; first | refine c_t ?_ | refine c_f ?_ | (refine aw_cond rfl (fun hb => ?_) (fun hb => ?_) <;> ((try have hq := dX hb); (try (exfalso; omega))))) | (apply at_guard; first | refine g_go ?_ | refine g_nt ?_ | refine g_nf ?_ | refine g_nu ?_ | ((first | refine al_split_t rfl rfl (lt_ok rfl) (fun hb => ?_) (fun hb => ?_) | refine al_split_f rfl rfl (lt_ok rfl) (fun hb => ?_) (fun hb => ?_)) <;> ((try have hq := dX hb); (try (exfalso; omega))))) | (apply qr_pick; refine r_pick ?_) | (apply qr_eql; refine r_eql ?_) | (apply qr_neq; refine r_neq ?_) | (apply qr_len; refine r_len ?_) | (apply qr_load; refine r_load ?_) | (apply qr_faddr; refine r_faddr ?_))
  refine aw_lp (fun N sl ob => ∃ i : Nat, N = part.args.length - i ∧ i ≤ part.args.length ∧ sl = [(14, .d (.int i)), (9, .box 9 0), (5, .d (.bool true)), (0, .d (letsD ls))] ∧ ob = [(9, exO' part)]) (⟨0, rfl, Nat.zero_le _, rfl, rfl⟩) ?_
  rintro N sl ob ⟨i, rfl, hi, rfl, rfl⟩
  by_cases hlt : i < part.args.length
  ·have hg := rows_get hlt
   have hz := hargs part.args[i] (List.getElem_mem hlt)
   have g3 := uof_any ls part.args[i] hl100 hls (tame_get tp hlt)
   have qi : decide ((i : Int) < (Ex.rows part.args).length) = true := decide_eq_true (by omega)
   generalize part.args[i] = y at *
   unfold ofD at g3
   generalize ofU ls y = r3 at *
   obtain ⟨u3, p3, c3⟩ := r3
   dsimp only at g3 hz
   subst hz
   repeat' (first | (apply at_op (.indexAddr _ _ _); refine al_ixq hg ?_) | (apply at_call; refine k_call (g3) hE ?_; rintro _ rfl) | refine nx ?_ | (apply aq_block_y; decide) | (apply qr_move; refine r_move ?_) | (apply qr_assign; refine r_assign ?_) | (apply at_cond; first | refine c_t ?_ | refine c_f ?_ | (refine aw_cond rfl (fun hb => ?_) (fun hb => ?_) <;> ((try have hq := dX hb); (try (exfalso; omega))))) | (apply qr_lss; refine r_lss ?_) | (apply qr_neq; refine r_neq ?_) | (apply qr_len; refine r_len ?_) | (apply qr_extract; refine r_extract ?_) | (apply qr_ix; refine r_ix ?_) | (apply qr_load; refine r_load ?_) | (apply qr_faddr; refine r_faddr ?_))
   repeat' (first | refine nx ?_ | (apply aq_block_y; decide) | (apply qr_move; refine r_move ?_) | (apply qr_assign; refine r_assign ?_) | (apply at_cond; first | refine c_t ?_ | refine c_f ?_ | (refine aw_cond rfl (fun hb => ?_) (fun hb => ?_) <;> ((try have hq := dX hb); (try (exfalso; omega))))) | (apply qr_add; refine r_add ?_))
   refine aq_rd (⟨i + 1, rfl, by omega, rfl, rfl⟩) (by omega)
  ·have qi : decide ((i : Int) < (Ex.rows part.args).length) = false := decide_eq_false (by omega)
   repeat' (first | refine nx ?_ | (apply aq_block_y; decide) | (apply qr_move; refine r_move ?_) | (apply qr_assign; refine r_assign ?_) | (apply at_cond; first | refine c_t ?_ | refine c_f ?_ | (refine aw_cond rfl (fun hb => ?_) (fun hb => ?_) <;> ((try have hq := dX hb); (try (exfalso; omega))))) | (apply qr_lss; refine r_lss ?_) | (apply qr_len; refine r_len ?_) | (apply qr_load; refine r_load ?_) | (apply qr_faddr; refine r_faddr ?_))
   refine rt1 ?_
   rfl
 ·obtain rfl := F.none (by decide)
  have q2 : decide ((12 : Int) < p.length) = false := decide_eq_false (by omega)
  have h14' := h14 rfl
  clear F hr1 h14
  repeat' (first | (apply at_call; refine k_call (g1) hE ?_; rintro _ rfl) | refine nx ?_ | (apply aq_block_y; decide) | (apply qr_move; refine r_move ?_) | (apply qr_assign; refine r_assign ?_) | (apply at_cond; first | refine c_t ?_ | refine c_f ?_ | (refine aw_cond rfl (fun hb => ?_) (fun hb => ?_) <;> ((try have hq := dX hb); (try (exfalso; omega))))) | (apply qr_eql; refine r_eql ?_) | (apply qr_not; refine r_not ?_) | (apply qr_extract; refine r_extract ?_) | (apply qr_load; refine r_load ?_))
  repeat' (first | (apply at_call; refine k_call (a1) hE ?_; rintro _ rfl) | (apply at_call; refine k_call (bf) hE ?_; rintro _ rfl) | (apply at_call; refine k_call (g2) hE ?_; rintro _ rfl) | refine nx ?_ | (apply aq_block_y; decide) | (apply qr_move; refine r_move ?_) | (apply qr_assign; refine r_assign ?_) | (apply at_cond; first | refine c_t ?_ | refine c_f ?_ | (refine aw_cond rfl (fun hb => ?_) (fun hb => ?_) <;> ((try have hq := dX hb); (try (exfalso; omega))))) | (apply at_guard; first | refine g_go ?_ | refine g_nt ?_ | refine g_nf ?_ | refine g_nu ?_ | ((first | refine al_split_t rfl rfl (lt_ok rfl) (fun hb => ?_) (fun hb => ?_) | refine al_split_f rfl rfl (lt_ok rfl) (fun hb => ?_) (fun hb => ?_)) <;> ((try have hq := dX hb); (try (exfalso; omega))))) | (apply qr_pick; refine r_pick ?_) | (apply qr_lss; refine r_lss ?_) | (apply qr_gtr; refine r_gtr ?_) | (apply qr_geq; refine r_geq ?_) | (apply qr_eql; refine r_eql ?_) | (apply qr_neq; refine r_neq ?_) | (apply qr_not; refine r_not ?_) | (apply qr_len; refine r_len ?_) | (apply qr_extract; refine r_extract ?_) | (apply qr_load; refine r_load ?_) | (apply qr_alloc; refine r_alloc ?_) | (apply qr_store; refine r_store ?_))
  clear a1 bf g2 g1
  clear q1 q2
  rcases h14' with h | h | h
  ·have q5 : (!decide (part.op = 1)) = false := by rw [decide_eq_true h]; rfl
   clear h
   repeat' (first | refine nx ?_ | (apply aq_block_y; decide) | (apply qr_move; refine r_move ?_) | (apply qr_assign; refine r_assign ?_) | (apply at_cond; first | refine c_t ?_ | refine c_f ?_ | (refine aw_cond rfl (fun hb => ?_) (fun hb => ?_) <;> ((try have hq := dX hb); (try (exfalso; omega))))) | (apply at_guard; first | refine g_go ?_ | refine g_nt ?_ | refine g_nf ?_ | refine g_nu ?_ | ((first | refine al_split_t rfl rfl (lt_ok rfl) (fun hb => ?_) (fun hb => ?_) | refine al_split_f rfl rfl (lt_ok rfl) (fun hb => ?_) (fun hb => ?_)) <;> ((try have hq := dX hb); (try (exfalso; omega))))) | (apply qr_pick; refine r_pick ?_) | (apply qr_eql; refine r_eql ?_) | (apply qr_neq; refine r_neq ?_) | (apply qr_len; refine r_len ?_) | (apply qr_load; refine r_load ?_) | (apply qr_faddr; refine r_faddr ?_))
   refine aw_lp (fun N sl ob => ∃ i : Nat, N = part.args.length - i ∧ i ≤ part.args.length ∧ sl = [(14, .d (.int i)), (9, .box 9 0), (5, .d (.bool true)), (0, .d (letsD ls))] ∧ ob = [(9, exO' part)]) (⟨0, rfl, Nat.zero_le _, rfl, rfl⟩) ?_
   rintro N sl ob ⟨i, rfl, hi, rfl, rfl⟩
   by_cases hlt : i < part.args.length
   ·have hg := rows_get hlt
    have hz := hargs part.args[i] (List.getElem_mem hlt)
    have g3 := uof_any ls part.args[i] hl100 hls (tame_get tp hlt)
    have qi : decide ((i : Int) < (Ex.rows part.args).length) = true := decide_eq_true (by omega)
    generalize part.args[i] = y at *
    unfold ofD at g3
    generalize ofU ls y = r3 at *
    obtain ⟨u3, p3, c3⟩ := r3
    dsimp only at g3 hz
    subst hz
    repeat' (first | (apply at_op (.indexAddr _ _ _); refine al_ixq hg ?_) | (apply at_call; refine k_call (g3) hE ?_; rintro _ rfl) | refine nx ?_ | (apply aq_block_y; decide) | (apply qr_move; refine r_move ?_) | (apply qr_assign; refine r_assign ?_) | (apply at_cond; first | refine c_t ?_ | refine c_f ?_ | (refine aw_cond rfl (fun hb => ?_) (fun hb => ?_) <;> ((try have hq := dX hb); (try (exfalso; omega))))) | (apply qr_lss; refine r_lss ?_) | (apply qr_neq; refine r_neq ?_) | (apply qr_len; refine r_len ?_) | (apply qr_extract; refine r_extract ?_) | (apply qr_ix; refine r_ix ?_) | (apply qr_load; refine r_load ?_) | (apply qr_faddr; refine r_faddr ?_))
    repeat' (first | refine nx ?_ | (apply aq_block_y; decide) | (apply qr_move; refine r_move ?_) | (apply qr_assign; refine r_assign ?_) | (apply at_cond; first | refine c_t ?_ | refine c_f ?_ | (refine aw_cond rfl (fun hb => ?_) (fun hb => ?_) <;> ((try have hq := dX hb); (try (exfalso; omega))))) | (apply qr_add; refine r_add ?_))
    refine aq_rd (⟨i + 1, rfl, by omega, rfl, rfl⟩) (by omega)
   ·have qi : decide ((i : Int) < (Ex.rows part.args).length) = false := decide_eq_false (by omega)
    repeat' (first | refine nx ?_ | (apply aq_block_y; decide) | (apply qr_move; refine r_move ?_) | (apply qr_assign; refine r_assign ?_) | (apply at_cond; first | refine c_t ?_ | refine c_f ?_ | (refine aw_cond rfl (fun hb => ?_) (fun hb => ?_) <;> ((try have hq := dX hb); (try (exfalso; omega))))) | (apply qr_lss; refine r_lss ?_) | (apply qr_len; refine r_len ?_) | (apply qr_load; refine r_load ?_) | (apply qr_faddr; refine r_faddr ?_))
    refine rt1 ?_
    rfl
  ·have q5 : (!decide (part.op = 1)) = true := by rw [decide_eq_false (by omega)]; rfl
   have q6 : (!decide (part.op = 2)) = false := by rw [decide_eq_true h]; rfl
   clear h
   repeat' (first | refine nx ?_ | (apply aq_block_y; decide) | (apply qr_move; refine r_move ?_) | (apply qr_assign; refine r_assign ?_) | (apply at_cond; first | refine c_t ?_ | refine c_f ?_ | (refine aw_cond rfl (fun hb => ?_) (fun hb => ?_) <;> ((try have hq := dX hb); (try (exfalso; omega))))) | (apply at_guard; first | refine g_go ?_ | refine g_nt ?_ | refine g_nf ?_ | refine g_nu ?_ | ((first | refine al_split_t rfl rfl (lt_ok rfl) (fun hb => ?_) (fun hb => ?_) | refine al_split_f rfl rfl (lt_ok rfl) (fun hb => ?_) (fun hb => ?_)) <;> ((try have hq := dX hb); (try (exfalso; omega))))) | (apply qr_pick; refine r_pick ?_) | (apply qr_eql; refine r_eql ?_) | (apply qr_neq; refine r_neq ?_) | (apply qr_len; refine r_len ?_) | (apply qr_load; refine r_load ?_) | (apply qr_faddr; refine r_faddr ?_))
   refine aw_lp (fun N sl ob => ∃ i : Nat, N = part.args.length - i ∧ i ≤ part.args.length ∧ sl = [(14, .d (.int i)), (9, .box 9 0), (5, .d (.bool true)), (0, .d (letsD ls))] ∧ ob = [(9, exO' part)]) (⟨0, rfl, Nat.zero_le _, rfl, rfl⟩) ?_
   rintro N sl ob ⟨i, rfl, hi, rfl, rfl⟩
   by_cases hlt : i < part.args.length
   ·have hg := rows_get hlt
    have hz := hargs part.args[i] (List.getElem_mem hlt)
    have g3 := uof_any ls part.args[i] hl100 hls (tame_get tp hlt)
    have qi : decide ((i : Int) < (Ex.rows part.args).length) = true := decide_eq_true (by omega)
    generalize part.args[i] = y at *
    unfold ofD at g3
    generalize ofU ls y = r3 at *
    obtain ⟨u3, p3, c3⟩ := r3
    dsimp only at g3 hz
    subst hz
    repeat' (first | (apply at_op (.indexAddr _ _ _); refine al_ixq hg ?_) | (apply at_call; refine k_call (g3) hE ?_; rintro _ rfl) | refine nx ?_ | (apply aq_block_y; decide) | (apply qr_move; refine r_move ?_) | (apply qr_assign; refine r_assign ?_) | (apply at_cond; first | refine c_t ?_ | refine c_f ?_ | (refine aw_cond rfl (fun hb => ?_) (fun hb => ?_) <;> ((try have hq := dX hb); (try (exfalso; omega))))) | (apply qr_lss; refine r_lss ?_) | (apply qr_neq; refine r_neq ?_) | (apply qr_len; refine r_len ?_) | (apply qr_extract; refine r_extract ?_) | (apply qr_ix; refine r_ix ?_) | (apply qr_load; refine r_load ?_) | (apply qr_faddr; refine r_faddr ?_))
    repeat' (first | refine nx ?_ | (apply aq_block_y; decide) | (apply qr_move; refine r_move ?_) | (apply qr_assign; refine r_assign ?_) | (apply at_cond; first | refine c_t ?_ | refine c_f ?_ | (refine aw_cond rfl (fun hb => ?_) (fun hb => ?_) <;> ((try have hq := dX hb); (try (exfalso; omega))))) | (apply qr_add; refine r_add ?_))
    refine aq_rd (⟨i + 1, rfl, by omega, rfl, rfl⟩) (by omega)
   ·have qi : decide ((i : Int) < (Ex.rows part.args).length) = false := decide_eq_false (by omega)
    repeat' (first | refine nx ?_ | (apply aq_block_y; decide) | (apply qr_move; refine r_move ?_) | (apply qr_assign; refine r_assign ?_) | (apply at_cond; first | refine c_t ?_ | refine c_f ?_ | (refine aw_cond rfl (fun hb => ?_) (fun hb => ?_) <;> ((try have hq := dX hb); (try (exfalso; omega))))) | (apply qr_lss; refine r_lss ?_) | (apply qr_len; refine r_len ?_) | (apply qr_load; refine r_load ?_) | (apply qr_faddr; refine r_faddr ?_))
    refine rt1 ?_
    rfl
  ·have q5 : (!decide (part.op = 1)) = true := by rw [decide_eq_false (by omega)]; rfl
   have q6 : (!decide (part.op = 2)) = true := by rw [decide_eq_false (by omega)]; rfl
   have q7 : (!decide (part.op = 3)) = false := by rw [decide_eq_true h]; rfl
   clear h
   repeat' (first | refine nx ?_ | (apply aq_block_y; decide) | (apply qr_move; refine r_move ?_) | (apply qr_assign; refine r_assign ?_) | (apply at_cond; first | refine c_t ?_ | refine c_f ?_ | (refine aw_cond rfl (fun hb => ?_) (fun hb => ?_) <;> ((try have hq := dX hb); (try (exfalso; omega))))) | (apply at_guard; first | refine g_go ?_ | refine g_nt ?_ | refine g_nf ?_ | refine g_nu ?_ | ((first | refine al_split_t rfl rfl (lt_ok rfl) (fun hb => ?_) (fun hb => ?_) | refine al_split_f rfl rfl (lt_ok rfl) (fun hb => ?_) (fun hb => ?_)) <;> ((try have hq := dX hb); (try (exfalso; omega))))) | (apply qr_pick; refine r_pick ?_) | (apply qr_eql; refine r_eql ?_) | (apply qr_neq; refine r_neq ?_) | (apply qr_len; refine r_len ?_) | (apply qr_load; refine r_load ?_) | (apply qr_faddr; refine r_faddr ?_))
   refine aw_lp (fun N sl ob => ∃ i : Nat, N = part.args.length - i ∧ i ≤ part.args.length ∧ sl = [(14, .d (.int i)), (9, .box 9 0), (5, .d (.bool true)), (0, .d (letsD ls))] ∧ ob = [(9, exO' part)]) (⟨0, rfl, Nat.zero_le _, rfl, rfl⟩) ?_
   rintro N sl ob ⟨i, rfl, hi, rfl, rfl⟩
   by_cases hlt : i < part.args.length
   ·have hg := rows_get hlt
    have hz := hargs part.args[i] (List.getElem_mem hlt)
    have g3 := uof_any ls part.args[i] hl100 hls (tame_get tp hlt)
    have qi : decide ((i : Int) < (Ex.rows part.args).length) = true := decide_eq_true (by omega)
    generalize part.args[i] = y at *
    unfold ofD at g3
    generalize ofU ls y = r3 at *
    obtain ⟨u3, p3, c3⟩ := r3
    dsimp only at g3 hz
    subst hz
    repeat' (first | (apply at_op (.indexAddr _ _ _); refine al_ixq hg ?_) | (apply at_call; refine k_call (g3) hE ?_; rintro _ rfl) | refine nx ?_ | (apply aq_block_y; decide) | (apply qr_move; refine r_move ?_) | (apply qr_assign; refine r_assign ?_) | (apply at_cond; first | refine c_t ?_ | refine c_f ?_ | (refine aw_cond rfl (fun hb => ?_) (fun hb => ?_) <;> ((try have hq := dX hb); (try (exfalso; omega))))) | (apply qr_lss; refine r_lss ?_) | (apply qr_neq; refine r_neq ?_) | (apply qr_len; refine r_len ?_) | (apply qr_extract; refine r_extract ?_) | (apply qr_ix; refine r_ix ?_) | (apply qr_load; refine r_load ?_) | (apply qr_faddr; refine r_faddr ?_))
    repeat' (first | refine nx ?_ | (apply aq_block_y; decide) | (apply qr_move; refine r_move ?_) | (apply qr_assign; refine r_assign ?_) | (apply at_cond; first | refine c_t ?_ | refine c_f ?_ | (refine aw_cond rfl (fun hb => ?_) (fun hb => ?_) <;> ((try have hq := dX hb); (try (exfalso; omega))))) | (apply qr_add; refine r_add ?_))
    refine aq_rd (⟨i + 1, rfl, by omega, rfl, rfl⟩) (by omega)
   ·have qi : decide ((i : Int) < (Ex.rows part.args).length) = false := decide_eq_false (by omega)
    repeat' (first | refine nx ?_ | (apply aq_block_y; decide) | (apply qr_move; refine r_move ?_) | (apply qr_assign; refine r_assign ?_) | (apply at_cond; first | refine c_t ?_ | refine c_f ?_ | (refine aw_cond rfl (fun hb => ?_) (fun hb => ?_) <;> ((try have hq := dX hb); (try (exfalso; omega))))) | (apply qr_lss; refine r_lss ?_) | (apply qr_len; refine r_len ?_) | (apply qr_load; refine r_load ?_) | (apply qr_faddr; refine r_faddr ?_))
    refine rt1 ?_
    rfl
end Go.Proofs.Ytgiacdhffklenaa
end
section
namespace Go.Proofs.Ytgiacdhffklenaa
open Go.ChangeShapes Go.WideShapes Go.ChangeAt Go.RowKit Go.Deep Go.Joins
section
variable {H : Type} {enc : TypeId × Value → H} {w : World} {base : Nat}
theorem cameL_of {a : List Ex} (h : ∀ x ∈ a, Ex.came x) : Ex.cameL a := by
 induction a with
 | nil => trivial
 | cons x r ih => exact ⟨h x (by simp), ih fun y hy => h y (by simp [hy])⟩
theorem maxLen_le {n : Nat} (h : n ≤ maxLen) : n ≤ 9223372036854775807 := by
 unfold maxLen at h
 omega
theorem showB_exp : ∀ N : Nat, ShowB N enc Try.prog w base 25 5 (fun e : Ex => exC e) Ex.came
 | 0 => fun fuel cs x hN _ => by
  have := data_pos x.1
  omega
 | N + 1 => by
  have ih := showB_exp N
  have hl := showB_list (t := 23) Try.underlying23 (by kernel_rfl) (by decide) ih
  exact (showB_struct Try.underlying25 (by kernel_rfl) (showsB_cons ((show_int Try.underlying3).b N) rfl (by kernel_rfl) (showsB_cons ((show_int Try.underlying3).b N) rfl (by kernel_rfl)
   (showsB_cons ((show_int Try.underlying3).b N) rfl (by kernel_rfl) (showsB_cons ((show_string Try.underlying9).b N) rfl (by kernel_rfl) (showsB_cons hl rfl (by kernel_rfl) showsB_nil)))))).as (fun e : Ex => exC e) _
   (fun x => .mk x.1 x.2.1 x.2.2.1 x.2.2.2.1 x.2.2.2.2.1) (fun a => congrArg (fun r => [D.int a.1, D.int a.2.1, D.int a.2.2.1, D.str a.2.2.2.1, D.list 5 r]) (rows_map a.2.2.2.2.1)) (fun x ⟨_, _, _, h4, h5, _⟩ => ⟨maxLen_le h4, maxLen_le h5.1, cameL_of h5.2⟩)
theorem show_exp : Show enc Try.prog w base 25 5 (fun e : Ex => exC e) Ex.came := ShowB.all showB_exp
theorem show_let : Show enc Try.prog w base 46 6 (fun q : ByteArray × Ex => letC q) (fun q => q.1.size ≤ 9223372036854775807 ∧ q.2.came) :=
 (show_struct Try.underlying46 (by kernel_rfl) (shows_cons (show_string Try.underlying9) rfl (by kernel_rfl) (shows_cons show_exp rfl (by kernel_rfl) shows_nil))).as (fun q : ByteArray × Ex => letC q) _
  (fun x => (x.1, x.2.1)) (fun _ => rfl) (fun x ⟨h1, h2, _⟩ => ⟨maxLen_le h1, h2⟩)
theorem show_lets : Show enc Try.prog w base 22 1 (fun l : List (ByteArray × Ex) => [.list 6 (l.map letC)]) (fun l => l.length ≤ maxLen ∧ ∀ q ∈ l, q.1.size ≤ 9223372036854775807 ∧ q.2.came) :=
 show_list Try.underlying22 (by kernel_rfl) (by decide) show_let
end
end Go.Proofs.Ytgiacdhffklenaa
end
section
namespace Go.Proofs.Ytgiacdhffklenaa
open Go.ChangeShapes Go.WideShapes Go.ChangeAt Go.RowKit Go.Deep Go.Joins
section
variable {H : Type} {enc : TypeId × Value → H} {w : World} {base : Nat}
end
theorem came_small {n : Nat} (h : n ≤ maxLen) : n ≤ 9223372036854775807 := by
 unfold maxLen at h
 omega
theorem law_call0 {f : FuncId} {ds : List D} {w : World} {vs : List Value} (hG : laidG = []) (h : PureC f ds (· = .bool true)) (hl : vs.length = ds.length)
  (hr : ∀ (i : Nat) (v : Value) (d : D), vs[i]? = some v → ds[i]? = some d → RepD w (fun b _ => b < w.heap.size) v d) :
  Calls Try.prog f vs.toArray w fun e w' => e = .returned (.bool true) ∧ Below w.heap.size w w' := by
 refine (h.2 w (fun b _ => b < w.heap.size) vs (fun _ _ h => h) (fun g l hm => by rw [hG] at hm; cases hm) hl hr).mono fun e w' ⟨v, r, he, hp, hrep, hb⟩ => ?_
 subst hp
 cases hrep
 exact ⟨he, hb⟩
end Go.Proofs.Ytgiacdhffklenaa
end
