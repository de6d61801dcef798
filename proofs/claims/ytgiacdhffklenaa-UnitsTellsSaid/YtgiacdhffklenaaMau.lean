/-
  Conditions: none.
-/
import Derived.Test.YtgiacdhffklenaaMat
set_option maxHeartbeats 16000000
set_option maxRecDepth 20000
section
set_option linter.unusedSimpArgs false
set_option linter.unusedVariables false
namespace Go.Proofs.Ytgiacdhffklenaa
open Go.RowKit
theorem rlogic_any (op : Int) (l : List Int) (hl : l.length ≤ 100000) (ho : op = 12 ∨ op = 13 ∨ op = 14) : PureC 45 [.int op, intsD l] (· = .int (joinU op l)) := by
 have hml : (l.map fun n => [D.int n]).length = l.length := List.length_map ..
 rcases ho with rfl | rfl | rfl
 ·skip
  have hj : joinU 12 l = if l.any (fun u => !decide (u = 3)) then -1 else 3 := rfl
  rw [hj]
  refine pure_enter Try.func45 rfl (by decide) _ Try.ntmps45 (le_ok rfl) (fun w Pr hE => ?_)
  dsimp only [slotsOf, Nat.zero_add, Nat.reduceAdd]
  repeat' (first | refine nx ?_ | (apply aq_block_y; decide) | (apply qr_move; refine r_move ?_) | (apply qr_assign; refine r_assign ?_) | (apply at_cond; first | refine c_t ?_ | refine c_f ?_ | (refine aw_cond rfl (fun hb => ?_) (fun hb => ?_) <;> ((try have hq := dX hb); (try (exfalso; omega))))) | (apply qr_eql; refine r_eql ?_))
  refine aw_lp (fun N sl ob => ∃ i : Nat, N = l.length - i ∧ i ≤ l.length ∧ ((l.take i).any fun u => !decide (u = 3)) = false ∧ sl = [(5, .d (.int i)), (1, .d (intsD l))] ∧ ob = []) (⟨0, rfl, Nat.zero_le _, rfl, rfl, rfl⟩) ?_
  rintro N sl ob ⟨i, rfl, hi, hs, rfl, rfl⟩
  by_cases hlt : i < l.length
  ·have hg := dints_get hlt
   have hn := any_take2 (fun u => !decide (u = 3)) hlt
   rw [hs, Bool.false_or] at hn
   by_cases he : l[i] = 3
   ·have q1 : (!decide (l[i] = 3)) = false := by rw [decide_eq_true he]; rfl
    rw [q1] at hn
    generalize l[i] = x at *
    repeat' (first | (apply at_op (.indexAddr _ _ _); refine al_ixq hg ?_) | refine nx ?_ | (apply aq_block_y; decide) | (apply qr_move; refine r_move ?_) | (apply at_cond; first | refine c_t ?_ | refine c_f ?_ | (refine aw_cond rfl (fun hb => ?_) (fun hb => ?_) <;> ((try have hq := dX hb); (try (exfalso; omega))))) | (apply qr_lss; refine r_lss ?_) | (apply qr_neq; refine r_neq ?_) | (apply qr_len; refine r_len ?_) | (apply qr_ix; refine r_ix ?_) | (apply qr_load; refine r_load ?_))
    repeat' (first | refine nx ?_ | (apply aq_block_y; decide) | (apply qr_move; refine r_move ?_) | (apply qr_assign; refine r_assign ?_) | (apply at_cond; first | refine c_t ?_ | refine c_f ?_ | (refine aw_cond rfl (fun hb => ?_) (fun hb => ?_) <;> ((try have hq := dX hb); (try (exfalso; omega))))) | (apply qr_add; refine r_add ?_))
    refine aq_rd (⟨i + 1, rfl, by omega, hn, rfl, rfl⟩) (by omega)
   ·have q1 : (!decide (l[i] = 3)) = true := by rw [decide_eq_false he]; rfl
    have hr : (l.any fun u => !decide (u = 3)) = true := List.any_eq_true.2 ⟨l[i], List.getElem_mem hlt, q1⟩
    rw [if_pos hr]
    generalize l[i] = x at *
    repeat' (first | (apply at_op (.indexAddr _ _ _); refine al_ixq hg ?_) | refine nx ?_ | (apply aq_block_y; decide) | (apply qr_move; refine r_move ?_) | (apply qr_assign; refine r_assign ?_) | (apply at_cond; first | refine c_t ?_ | refine c_f ?_ | (refine aw_cond rfl (fun hb => ?_) (fun hb => ?_) <;> ((try have hq := dX hb); (try (exfalso; omega))))) | (apply qr_lss; refine r_lss ?_) | (apply qr_neq; refine r_neq ?_) | (apply qr_len; refine r_len ?_) | (apply qr_ix; refine r_ix ?_) | (apply qr_load; refine r_load ?_))
    refine rt1 ?_
    rfl
  ·rw [List.take_of_length_le (by omega)] at hs
   rw [if_neg (by rw [hs]; decide)]
   repeat' (first | refine nx ?_ | (apply aq_block_y; decide) | (apply qr_move; refine r_move ?_) | (apply qr_assign; refine r_assign ?_) | (apply at_cond; first | refine c_t ?_ | refine c_f ?_ | (refine aw_cond rfl (fun hb => ?_) (fun hb => ?_) <;> ((try have hq := dX hb); (try (exfalso; omega))))) | (apply qr_lss; refine r_lss ?_) | (apply qr_len; refine r_len ?_))
   refine rt1 ?_
   rfl
 ·skip
  have hj : joinU 13 l = if l.any (fun u => !decide (u = 3)) then -1 else 3 := rfl
  rw [hj]
  refine pure_enter Try.func45 rfl (by decide) _ Try.ntmps45 (le_ok rfl) (fun w Pr hE => ?_)
  dsimp only [slotsOf, Nat.zero_add, Nat.reduceAdd]
  repeat' (first | refine nx ?_ | (apply aq_block_y; decide) | (apply qr_move; refine r_move ?_) | (apply qr_assign; refine r_assign ?_) | (apply at_cond; first | refine c_t ?_ | refine c_f ?_ | (refine aw_cond rfl (fun hb => ?_) (fun hb => ?_) <;> ((try have hq := dX hb); (try (exfalso; omega))))) | (apply qr_eql; refine r_eql ?_))
  refine aw_lp (fun N sl ob => ∃ i : Nat, N = l.length - i ∧ i ≤ l.length ∧ ((l.take i).any fun u => !decide (u = 3)) = false ∧ sl = [(5, .d (.int i)), (1, .d (intsD l))] ∧ ob = []) (⟨0, rfl, Nat.zero_le _, rfl, rfl, rfl⟩) ?_
  rintro N sl ob ⟨i, rfl, hi, hs, rfl, rfl⟩
  by_cases hlt : i < l.length
  ·have hg := dints_get hlt
   have hn := any_take2 (fun u => !decide (u = 3)) hlt
   rw [hs, Bool.false_or] at hn
   by_cases he : l[i] = 3
   ·have q1 : (!decide (l[i] = 3)) = false := by rw [decide_eq_true he]; rfl
    rw [q1] at hn
    generalize l[i] = x at *
    repeat' (first | (apply at_op (.indexAddr _ _ _); refine al_ixq hg ?_) | refine nx ?_ | (apply aq_block_y; decide) | (apply qr_move; refine r_move ?_) | (apply at_cond; first | refine c_t ?_ | refine c_f ?_ | (refine aw_cond rfl (fun hb => ?_) (fun hb => ?_) <;> ((try have hq := dX hb); (try (exfalso; omega))))) | (apply qr_lss; refine r_lss ?_) | (apply qr_neq; refine r_neq ?_) | (apply qr_len; refine r_len ?_) | (apply qr_ix; refine r_ix ?_) | (apply qr_load; refine r_load ?_))
    repeat' (first | refine nx ?_ | (apply aq_block_y; decide) | (apply qr_move; refine r_move ?_) | (apply qr_assign; refine r_assign ?_) | (apply at_cond; first | refine c_t ?_ | refine c_f ?_ | (refine aw_cond rfl (fun hb => ?_) (fun hb => ?_) <;> ((try have hq := dX hb); (try (exfalso; omega))))) | (apply qr_add; refine r_add ?_))
    refine aq_rd (⟨i + 1, rfl, by omega, hn, rfl, rfl⟩) (by omega)
   ·have q1 : (!decide (l[i] = 3)) = true := by rw [decide_eq_false he]; rfl
    have hr : (l.any fun u => !decide (u = 3)) = true := List.any_eq_true.2 ⟨l[i], List.getElem_mem hlt, q1⟩
    rw [if_pos hr]
    generalize l[i] = x at *
    repeat' (first | (apply at_op (.indexAddr _ _ _); refine al_ixq hg ?_) | refine nx ?_ | (apply aq_block_y; decide) | (apply qr_move; refine r_move ?_) | (apply qr_assign; refine r_assign ?_) | (apply at_cond; first | refine c_t ?_ | refine c_f ?_ | (refine aw_cond rfl (fun hb => ?_) (fun hb => ?_) <;> ((try have hq := dX hb); (try (exfalso; omega))))) | (apply qr_lss; refine r_lss ?_) | (apply qr_neq; refine r_neq ?_) | (apply qr_len; refine r_len ?_) | (apply qr_ix; refine r_ix ?_) | (apply qr_load; refine r_load ?_))
    refine rt1 ?_
    rfl
  ·rw [List.take_of_length_le (by omega)] at hs
   rw [if_neg (by rw [hs]; decide)]
   repeat' (first | refine nx ?_ | (apply aq_block_y; decide) | (apply qr_move; refine r_move ?_) | (apply qr_assign; refine r_assign ?_) | (apply at_cond; first | refine c_t ?_ | refine c_f ?_ | (refine aw_cond rfl (fun hb => ?_) (fun hb => ?_) <;> ((try have hq := dX hb); (try (exfalso; omega))))) | (apply qr_lss; refine r_lss ?_) | (apply qr_len; refine r_len ?_))
   refine rt1 ?_
   rfl
 ·skip
  have hj : joinU 14 l = if l.any (fun u => !decide (u = 3)) then -1 else 3 := rfl
  rw [hj]
  refine pure_enter Try.func45 rfl (by decide) _ Try.ntmps45 (le_ok rfl) (fun w Pr hE => ?_)
  dsimp only [slotsOf, Nat.zero_add, Nat.reduceAdd]
  repeat' (first | refine nx ?_ | (apply aq_block_y; decide) | (apply qr_move; refine r_move ?_) | (apply qr_assign; refine r_assign ?_) | (apply at_cond; first | refine c_t ?_ | refine c_f ?_ | (refine aw_cond rfl (fun hb => ?_) (fun hb => ?_) <;> ((try have hq := dX hb); (try (exfalso; omega))))) | (apply qr_eql; refine r_eql ?_))
  refine aw_lp (fun N sl ob => ∃ i : Nat, N = l.length - i ∧ i ≤ l.length ∧ ((l.take i).any fun u => !decide (u = 3)) = false ∧ sl = [(5, .d (.int i)), (1, .d (intsD l))] ∧ ob = []) (⟨0, rfl, Nat.zero_le _, rfl, rfl, rfl⟩) ?_
  rintro N sl ob ⟨i, rfl, hi, hs, rfl, rfl⟩
  by_cases hlt : i < l.length
  ·have hg := dints_get hlt
   have hn := any_take2 (fun u => !decide (u = 3)) hlt
   rw [hs, Bool.false_or] at hn
   by_cases he : l[i] = 3
   ·have q1 : (!decide (l[i] = 3)) = false := by rw [decide_eq_true he]; rfl
    rw [q1] at hn
    generalize l[i] = x at *
    repeat' (first | (apply at_op (.indexAddr _ _ _); refine al_ixq hg ?_) | refine nx ?_ | (apply aq_block_y; decide) | (apply qr_move; refine r_move ?_) | (apply at_cond; first | refine c_t ?_ | refine c_f ?_ | (refine aw_cond rfl (fun hb => ?_) (fun hb => ?_) <;> ((try have hq := dX hb); (try (exfalso; omega))))) | (apply qr_lss; refine r_lss ?_) | (apply qr_neq; refine r_neq ?_) | (apply qr_len; refine r_len ?_) | (apply qr_ix; refine r_ix ?_) | (apply qr_load; refine r_load ?_))
    repeat' (first | refine nx ?_ | (apply aq_block_y; decide) | (apply qr_move; refine r_move ?_) | (apply qr_assign; refine r_assign ?_) | (apply at_cond; first | refine c_t ?_ | refine c_f ?_ | (refine aw_cond rfl (fun hb => ?_) (fun hb => ?_) <;> ((try have hq := dX hb); (try (exfalso; omega))))) | (apply qr_add; refine r_add ?_))
    refine aq_rd (⟨i + 1, rfl, by omega, hn, rfl, rfl⟩) (by omega)
   ·have q1 : (!decide (l[i] = 3)) = true := by rw [decide_eq_false he]; rfl
    have hr : (l.any fun u => !decide (u = 3)) = true := List.any_eq_true.2 ⟨l[i], List.getElem_mem hlt, q1⟩
    rw [if_pos hr]
    generalize l[i] = x at *
    repeat' (first | (apply at_op (.indexAddr _ _ _); refine al_ixq hg ?_) | refine nx ?_ | (apply aq_block_y; decide) | (apply qr_move; refine r_move ?_) | (apply qr_assign; refine r_assign ?_) | (apply at_cond; first | refine c_t ?_ | refine c_f ?_ | (refine aw_cond rfl (fun hb => ?_) (fun hb => ?_) <;> ((try have hq := dX hb); (try (exfalso; omega))))) | (apply qr_lss; refine r_lss ?_) | (apply qr_neq; refine r_neq ?_) | (apply qr_len; refine r_len ?_) | (apply qr_ix; refine r_ix ?_) | (apply qr_load; refine r_load ?_))
    refine rt1 ?_
    rfl
  ·rw [List.take_of_length_le (by omega)] at hs
   rw [if_neg (by rw [hs]; decide)]
   repeat' (first | refine nx ?_ | (apply aq_block_y; decide) | (apply qr_move; refine r_move ?_) | (apply qr_assign; refine r_assign ?_) | (apply at_cond; first | refine c_t ?_ | refine c_f ?_ | (refine aw_cond rfl (fun hb => ?_) (fun hb => ?_) <;> ((try have hq := dX hb); (try (exfalso; omega))))) | (apply qr_lss; refine r_lss ?_) | (apply qr_len; refine r_len ?_))
   refine rt1 ?_
   rfl
theorem rif_any (a b c : Int) : PureC 45 [.int 15, intsD [a, b, c]] (· = .int (joinU 15 [a, b, c])) := by
 have g0 : ([a, b, c].map fun n => [D.int n])[0]? = some [D.int a] := rfl
 have g1 : ([a, b, c].map fun n => [D.int n])[1]? = some [D.int b] := rfl
 have g2 : ([a, b, c].map fun n => [D.int n])[2]? = some [D.int c] := rfl
 have hj : joinU 15 [a, b, c] = if a = 3 ∧ b = c then b else -1 := rfl
 rw [hj]
 by_cases ha : a = 3
 rotate_left 1
 ·have q1 : (!decide (a = 3)) = true := by rw [decide_eq_false ha]; rfl
  rw [if_neg (fun h => ha h.1)]
  refine pure_enter Try.func45 rfl (by decide) _ Try.ntmps45 (le_ok rfl) (fun w Pr hE => ?_)
  dsimp only [slotsOf, Nat.zero_add, Nat.reduceAdd]
  repeat' (first | refine nx ?_ | (apply aq_block_y; decide) | (apply qr_move; refine r_move ?_) | (apply qr_assign; refine r_assign ?_) | (apply at_cond; first | refine c_t ?_ | refine c_f ?_ | (refine aw_cond rfl (fun hb => ?_) (fun hb => ?_) <;> ((try have hq := dX hb); (try (exfalso; omega))))) | (apply qr_eql; refine r_eql ?_))
  refine aw_mixo ([]) [(0, true), (1, true), (2, true), (3, true), (4, true), (5, true), (6, true), (7, true), (8, true), (9, true), (10, true), (11, true), (12, true)] [] (by kernel_rfl) (by kernel_rfl) (by kernel_rfl) (by decide) (by (repeat (first | exact obs_nil | (apply obs_cons; focus (first | rfl | (simp [find]; done)))))) ?_
  simp only [planned, tailed, List.filterMap_cons, List.filterMap_nil, List.getElem?_cons_zero, List.getElem?_cons_succ, Option.map_some]
  repeat' (first | apply am_nil | refine m_skip ?_ | refine n_skip ?_ | (apply at_am (.indexAddr _ _ _); first | refine am_y (by first | exact want_none | exact want_yes rfl rfl (by assumption) | exact want_yes rfl rfl (by with_reducible rfl)) (y_ix (by first | exact ToD.d _ | exact ToD.row _ _ _ _ _ rfl) rfl rfl (by first | with_reducible rfl | exact lit0 | exact lit1 | exact lit2 | exact lit3 | exact lit4 | exact int_s _ | exact int_p _ _ | exact int_nat _ (by omega)) g0) (lt_ok rfl) ?_ | refine am_y (by first | exact want_none | exact want_yes rfl rfl (by assumption) | exact want_yes rfl rfl (by with_reducible rfl)) (y_ix (by first | exact ToD.d _ | exact ToD.row _ _ _ _ _ rfl) rfl rfl (by first | with_reducible rfl | exact lit0 | exact lit1 | exact lit2 | exact lit3 | exact lit4 | exact int_s _ | exact int_p _ _ | exact int_nat _ (by omega)) g1) (lt_ok rfl) ?_ | refine am_y (by first | exact want_none | exact want_yes rfl rfl (by assumption) | exact want_yes rfl rfl (by with_reducible rfl)) (y_ix (by first | exact ToD.d _ | exact ToD.row _ _ _ _ _ rfl) rfl rfl (by first | with_reducible rfl | exact lit0 | exact lit1 | exact lit2 | exact lit3 | exact lit4 | exact int_s _ | exact int_p _ _ | exact int_nat _ (by omega)) g2) (lt_ok rfl) ?_) | (apply qm_move; refine m_move ?_) | (apply qm_pick; refine m_pick ?_) | (apply qm_neq; refine m_neq ?_) | (apply qm_ix; refine m_ix ?_) | (apply qm_load; refine m_load ?_) | (refine am_split rfl rfl (fun hb => ?_) (fun hb => ?_) <;> ((try have hq := dX hb); (try (exfalso; omega)))))
  repeat' (first | refine nx ?_ | (apply aq_block_y; decide) | (apply qr_move; refine r_move ?_) | (apply qr_assign; refine r_assign ?_) | (apply at_cond; first | refine c_t ?_ | refine c_f ?_ | (refine aw_cond rfl (fun hb => ?_) (fun hb => ?_) <;> ((try have hq := dX hb); (try (exfalso; omega))))) | (apply at_guard; first | refine g_go ?_ | refine g_nt ?_ | refine g_nf ?_ | refine g_nu ?_ | ((first | refine al_split_t rfl rfl (lt_ok rfl) (fun hb => ?_) (fun hb => ?_) | refine al_split_f rfl rfl (lt_ok rfl) (fun hb => ?_) (fun hb => ?_)) <;> ((try have hq := dX hb); (try (exfalso; omega))))) | (apply qr_pick; refine r_pick ?_) | (apply qr_neq; refine r_neq ?_) | (apply qr_ix; refine r_ix ?_) | (apply qr_load; refine r_load ?_))
  refine rt1 ?_
  rfl
 have q1 : (!decide (a = 3)) = false := by rw [decide_eq_true ha]; rfl
 by_cases hb : b = c
 ·have q2 : (!decide (b = c)) = false := by rw [decide_eq_true hb]; rfl
  rw [if_pos ⟨ha, hb⟩]
  refine pure_enter Try.func45 rfl (by decide) _ Try.ntmps45 (le_ok rfl) (fun w Pr hE => ?_)
  dsimp only [slotsOf, Nat.zero_add, Nat.reduceAdd]
  repeat' (first | refine nx ?_ | (apply aq_block_y; decide) | (apply qr_move; refine r_move ?_) | (apply qr_assign; refine r_assign ?_) | (apply at_cond; first | refine c_t ?_ | refine c_f ?_ | (refine aw_cond rfl (fun hb => ?_) (fun hb => ?_) <;> ((try have hq := dX hb); (try (exfalso; omega))))) | (apply qr_eql; refine r_eql ?_))
  refine aw_mixo ([]) [(0, true), (1, true), (2, true), (3, true), (4, true), (5, true), (6, true), (7, true), (8, true), (9, true), (10, true), (11, true), (12, true)] [] (by kernel_rfl) (by kernel_rfl) (by kernel_rfl) (by decide) (by (repeat (first | exact obs_nil | (apply obs_cons; focus (first | rfl | (simp [find]; done)))))) ?_
  simp only [planned, tailed, List.filterMap_cons, List.filterMap_nil, List.getElem?_cons_zero, List.getElem?_cons_succ, Option.map_some]
  repeat' (first | apply am_nil | refine m_skip ?_ | refine n_skip ?_ | (apply at_am (.indexAddr _ _ _); first | refine am_y (by first | exact want_none | exact want_yes rfl rfl (by assumption) | exact want_yes rfl rfl (by with_reducible rfl)) (y_ix (by first | exact ToD.d _ | exact ToD.row _ _ _ _ _ rfl) rfl rfl (by first | with_reducible rfl | exact lit0 | exact lit1 | exact lit2 | exact lit3 | exact lit4 | exact int_s _ | exact int_p _ _ | exact int_nat _ (by omega)) g0) (lt_ok rfl) ?_ | refine am_y (by first | exact want_none | exact want_yes rfl rfl (by assumption) | exact want_yes rfl rfl (by with_reducible rfl)) (y_ix (by first | exact ToD.d _ | exact ToD.row _ _ _ _ _ rfl) rfl rfl (by first | with_reducible rfl | exact lit0 | exact lit1 | exact lit2 | exact lit3 | exact lit4 | exact int_s _ | exact int_p _ _ | exact int_nat _ (by omega)) g1) (lt_ok rfl) ?_ | refine am_y (by first | exact want_none | exact want_yes rfl rfl (by assumption) | exact want_yes rfl rfl (by with_reducible rfl)) (y_ix (by first | exact ToD.d _ | exact ToD.row _ _ _ _ _ rfl) rfl rfl (by first | with_reducible rfl | exact lit0 | exact lit1 | exact lit2 | exact lit3 | exact lit4 | exact int_s _ | exact int_p _ _ | exact int_nat _ (by omega)) g2) (lt_ok rfl) ?_) | (apply qm_move; refine m_move ?_) | (apply qm_pick; refine m_pick ?_) | (apply qm_neq; refine m_neq ?_) | (apply qm_ix; refine m_ix ?_) | (apply qm_load; refine m_load ?_) | (refine am_split rfl rfl (fun hb => ?_) (fun hb => ?_) <;> ((try have hq := dX hb); (try (exfalso; omega)))))
  repeat' (first | (apply at_op (.indexAddr _ _ _); refine al_ixq g1 ?_) | refine nx ?_ | (apply aq_block_y; decide) | (apply qr_move; refine r_move ?_) | (apply qr_assign; refine r_assign ?_) | (apply at_cond; first | refine c_t ?_ | refine c_f ?_ | (refine aw_cond rfl (fun hb => ?_) (fun hb => ?_) <;> ((try have hq := dX hb); (try (exfalso; omega))))) | (apply at_guard; first | refine g_go ?_ | refine g_nt ?_ | refine g_nf ?_ | refine g_nu ?_ | ((first | refine al_split_t rfl rfl (lt_ok rfl) (fun hb => ?_) (fun hb => ?_) | refine al_split_f rfl rfl (lt_ok rfl) (fun hb => ?_) (fun hb => ?_)) <;> ((try have hq := dX hb); (try (exfalso; omega))))) | (apply qr_pick; refine r_pick ?_) | (apply qr_neq; refine r_neq ?_) | (apply qr_ix; refine r_ix ?_) | (apply qr_load; refine r_load ?_))
  refine rt1 ?_
  rfl
 ·have q2 : (!decide (b = c)) = true := by rw [decide_eq_false hb]; rfl
  rw [if_neg (fun h => hb h.2)]
  refine pure_enter Try.func45 rfl (by decide) _ Try.ntmps45 (le_ok rfl) (fun w Pr hE => ?_)
  dsimp only [slotsOf, Nat.zero_add, Nat.reduceAdd]
  repeat' (first | refine nx ?_ | (apply aq_block_y; decide) | (apply qr_move; refine r_move ?_) | (apply qr_assign; refine r_assign ?_) | (apply at_cond; first | refine c_t ?_ | refine c_f ?_ | (refine aw_cond rfl (fun hb => ?_) (fun hb => ?_) <;> ((try have hq := dX hb); (try (exfalso; omega))))) | (apply qr_eql; refine r_eql ?_))
  refine aw_mixo ([]) [(0, true), (1, true), (2, true), (3, true), (4, true), (5, true), (6, true), (7, true), (8, true), (9, true), (10, true), (11, true), (12, true)] [] (by kernel_rfl) (by kernel_rfl) (by kernel_rfl) (by decide) (by (repeat (first | exact obs_nil | (apply obs_cons; focus (first | rfl | (simp [find]; done)))))) ?_
  simp only [planned, tailed, List.filterMap_cons, List.filterMap_nil, List.getElem?_cons_zero, List.getElem?_cons_succ, Option.map_some]
  repeat' (first | apply am_nil | refine m_skip ?_ | refine n_skip ?_ | (apply at_am (.indexAddr _ _ _); first | refine am_y (by first | exact want_none | exact want_yes rfl rfl (by assumption) | exact want_yes rfl rfl (by with_reducible rfl)) (y_ix (by first | exact ToD.d _ | exact ToD.row _ _ _ _ _ rfl) rfl rfl (by first | with_reducible rfl | exact lit0 | exact lit1 | exact lit2 | exact lit3 | exact lit4 | exact int_s _ | exact int_p _ _ | exact int_nat _ (by omega)) g0) (lt_ok rfl) ?_ | refine am_y (by first | exact want_none | exact want_yes rfl rfl (by assumption) | exact want_yes rfl rfl (by with_reducible rfl)) (y_ix (by first | exact ToD.d _ | exact ToD.row _ _ _ _ _ rfl) rfl rfl (by first | with_reducible rfl | exact lit0 | exact lit1 | exact lit2 | exact lit3 | exact lit4 | exact int_s _ | exact int_p _ _ | exact int_nat _ (by omega)) g1) (lt_ok rfl) ?_ | refine am_y (by first | exact want_none | exact want_yes rfl rfl (by assumption) | exact want_yes rfl rfl (by with_reducible rfl)) (y_ix (by first | exact ToD.d _ | exact ToD.row _ _ _ _ _ rfl) rfl rfl (by first | with_reducible rfl | exact lit0 | exact lit1 | exact lit2 | exact lit3 | exact lit4 | exact int_s _ | exact int_p _ _ | exact int_nat _ (by omega)) g2) (lt_ok rfl) ?_) | (apply qm_move; refine m_move ?_) | (apply qm_pick; refine m_pick ?_) | (apply qm_neq; refine m_neq ?_) | (apply qm_ix; refine m_ix ?_) | (apply qm_load; refine m_load ?_) | (refine am_split rfl rfl (fun hb => ?_) (fun hb => ?_) <;> ((try have hq := dX hb); (try (exfalso; omega)))))
  repeat' (first | refine nx ?_ | (apply aq_block_y; decide) | (apply qr_move; refine r_move ?_) | (apply qr_assign; refine r_assign ?_) | (apply at_cond; first | refine c_t ?_ | refine c_f ?_ | (refine aw_cond rfl (fun hb => ?_) (fun hb => ?_) <;> ((try have hq := dX hb); (try (exfalso; omega))))) | (apply at_guard; first | refine g_go ?_ | refine g_nt ?_ | refine g_nf ?_ | refine g_nu ?_ | ((first | refine al_split_t rfl rfl (lt_ok rfl) (fun hb => ?_) (fun hb => ?_) | refine al_split_f rfl rfl (lt_ok rfl) (fun hb => ?_) (fun hb => ?_)) <;> ((try have hq := dX hb); (try (exfalso; omega))))) | (apply qr_pick; refine r_pick ?_) | (apply qr_neq; refine r_neq ?_) | (apply qr_ix; refine r_ix ?_) | (apply qr_load; refine r_load ?_))
  refine rt1 ?_
  rfl
theorem rpair_any (op a b : Int) (h1 : 4 ≤ op) (h2 : op ≤ 11) : PureC 45 [.int op, intsD [a, b]] (· = .int (joinU op [a, b])) := by
 have g0 : ([a, b].map fun n => [D.int n])[0]? = some [D.int a] := rfl
 have g1 : ([a, b].map fun n => [D.int n])[1]? = some [D.int b] := rfl
 have ho : op = 4 ∨ op = 5 ∨ op = 6 ∨ op = 7 ∨ op = 8 ∨ op = 9 ∨ op = 10 ∨ op = 11 := by omega
 rcases ho with rfl | rfl | rfl | rfl | rfl | rfl | rfl | rfl
 ·skip
  refine pure_enter Try.func45 rfl (by decide) _ Try.ntmps45 (le_ok rfl) (fun w Pr hE => ?_)
  dsimp only [slotsOf, Nat.zero_add, Nat.reduceAdd]
  repeat' (first | (apply at_op (.indexAddr _ _ _); first | refine al_ixq g0 ?_ | refine al_ixq g1 ?_) | refine nx ?_ | (apply aq_block_y; decide) | (apply qr_move; refine r_move ?_) | (apply qr_assign; refine r_assign ?_) | (apply at_cond; first | refine c_t ?_ | refine c_f ?_ | (refine aw_cond rfl (fun hb => ?_) (fun hb => ?_) <;> ((try have hq := dX hb); (try (exfalso; omega))))) | (apply at_guard; first | refine g_go ?_ | refine g_nt ?_ | refine g_nf ?_ | refine g_nu ?_ | ((first | refine al_split_t rfl rfl (lt_ok rfl) (fun hb => ?_) (fun hb => ?_) | refine al_split_f rfl rfl (lt_ok rfl) (fun hb => ?_) (fun hb => ?_)) <;> ((try have hq := dX hb); (try (exfalso; omega))))) | (apply qr_pick; refine r_pick ?_) | (apply qr_lss; refine r_lss ?_) | (apply qr_eql; refine r_eql ?_) | (apply qr_neq; refine r_neq ?_) | (apply qr_add; refine r_add ?_) | (apply qr_len; refine r_len ?_) | (apply qr_ix; refine r_ix ?_) | (apply qr_load; refine r_load ?_))
  all_goals refine rt1 ?_
  all_goals
   show _ = D.int (pairU 4 a b)
   unfold pairU
   simp only [decide_eq_true_eq, decide_eq_false_iff_not, Bool.not_eq_true', Bool.not_eq_false'] at *
   (repeat' split) <;> first | rfl | (exfalso; omega) | (exfalso; simp at *; done) | (refine congrArg D.int ?_; omega) | (subst_vars; rfl)
 ·skip
  refine pure_enter Try.func45 rfl (by decide) _ Try.ntmps45 (le_ok rfl) (fun w Pr hE => ?_)
  dsimp only [slotsOf, Nat.zero_add, Nat.reduceAdd]
  repeat' (first | (apply at_op (.indexAddr _ _ _); first | refine al_ixq g0 ?_ | refine al_ixq g1 ?_) | refine nx ?_ | (apply aq_block_y; decide) | (apply qr_move; refine r_move ?_) | (apply qr_assign; refine r_assign ?_) | (apply at_cond; first | refine c_t ?_ | refine c_f ?_ | (refine aw_cond rfl (fun hb => ?_) (fun hb => ?_) <;> ((try have hq := dX hb); (try (exfalso; omega))))) | (apply at_guard; first | refine g_go ?_ | refine g_nt ?_ | refine g_nf ?_ | refine g_nu ?_ | ((first | refine al_split_t rfl rfl (lt_ok rfl) (fun hb => ?_) (fun hb => ?_) | refine al_split_f rfl rfl (lt_ok rfl) (fun hb => ?_) (fun hb => ?_)) <;> ((try have hq := dX hb); (try (exfalso; omega))))) | (apply qr_pick; refine r_pick ?_) | (apply qr_lss; refine r_lss ?_) | (apply qr_eql; refine r_eql ?_) | (apply qr_neq; refine r_neq ?_) | (apply qr_add; refine r_add ?_) | (apply qr_len; refine r_len ?_) | (apply qr_ix; refine r_ix ?_) | (apply qr_load; refine r_load ?_))
  all_goals refine rt1 ?_
  all_goals
   show _ = D.int (pairU 5 a b)
   unfold pairU
   simp only [decide_eq_true_eq, decide_eq_false_iff_not, Bool.not_eq_true', Bool.not_eq_false'] at *
   (repeat' split) <;> first | rfl | (exfalso; omega) | (exfalso; simp at *; done) | (refine congrArg D.int ?_; omega) | (subst_vars; rfl)
 ·skip
  refine pure_enter Try.func45 rfl (by decide) _ Try.ntmps45 (le_ok rfl) (fun w Pr hE => ?_)
  dsimp only [slotsOf, Nat.zero_add, Nat.reduceAdd]
  repeat' (first | (apply at_op (.indexAddr _ _ _); first | refine al_ixq g0 ?_ | refine al_ixq g1 ?_) | refine nx ?_ | (apply aq_block_y; decide) | (apply qr_move; refine r_move ?_) | (apply qr_assign; refine r_assign ?_) | (apply at_cond; first | refine c_t ?_ | refine c_f ?_ | (refine aw_cond rfl (fun hb => ?_) (fun hb => ?_) <;> ((try have hq := dX hb); (try (exfalso; omega))))) | (apply at_guard; first | refine g_go ?_ | refine g_nt ?_ | refine g_nf ?_ | refine g_nu ?_ | ((first | refine al_split_t rfl rfl (lt_ok rfl) (fun hb => ?_) (fun hb => ?_) | refine al_split_f rfl rfl (lt_ok rfl) (fun hb => ?_) (fun hb => ?_)) <;> ((try have hq := dX hb); (try (exfalso; omega))))) | (apply qr_pick; refine r_pick ?_) | (apply qr_lss; refine r_lss ?_) | (apply qr_eql; refine r_eql ?_) | (apply qr_neq; refine r_neq ?_) | (apply qr_add; refine r_add ?_) | (apply qr_len; refine r_len ?_) | (apply qr_ix; refine r_ix ?_) | (apply qr_load; refine r_load ?_))
  all_goals refine rt1 ?_
  all_goals
   show _ = D.int (pairU 6 a b)
   unfold pairU
   simp only [decide_eq_true_eq, decide_eq_false_iff_not, Bool.not_eq_true', Bool.not_eq_false'] at *
   (repeat' split) <;> first | rfl | (exfalso; omega) | (exfalso; simp at *; done) | (refine congrArg D.int ?_; omega) | (subst_vars; rfl)
 ·skip
  refine pure_enter Try.func45 rfl (by decide) _ Try.ntmps45 (le_ok rfl) (fun w Pr hE => ?_)
  dsimp only [slotsOf, Nat.zero_add, Nat.reduceAdd]
  repeat' (first | (apply at_op (.indexAddr _ _ _); first | refine al_ixq g0 ?_ | refine al_ixq g1 ?_) | refine nx ?_ | (apply aq_block_y; decide) | (apply qr_move; refine r_move ?_) | (apply qr_assign; refine r_assign ?_) | (apply at_cond; first | refine c_t ?_ | refine c_f ?_ | (refine aw_cond rfl (fun hb => ?_) (fun hb => ?_) <;> ((try have hq := dX hb); (try (exfalso; omega))))) | (apply at_guard; first | refine g_go ?_ | refine g_nt ?_ | refine g_nf ?_ | refine g_nu ?_ | ((first | refine al_split_t rfl rfl (lt_ok rfl) (fun hb => ?_) (fun hb => ?_) | refine al_split_f rfl rfl (lt_ok rfl) (fun hb => ?_) (fun hb => ?_)) <;> ((try have hq := dX hb); (try (exfalso; omega))))) | (apply qr_pick; refine r_pick ?_) | (apply qr_lss; refine r_lss ?_) | (apply qr_eql; refine r_eql ?_) | (apply qr_neq; refine r_neq ?_) | (apply qr_add; refine r_add ?_) | (apply qr_len; refine r_len ?_) | (apply qr_ix; refine r_ix ?_) | (apply qr_load; refine r_load ?_))
  all_goals refine rt1 ?_
  all_goals
   show _ = D.int (pairU 7 a b)
   unfold pairU
   simp only [decide_eq_true_eq, decide_eq_false_iff_not, Bool.not_eq_true', Bool.not_eq_false'] at *
   (repeat' split) <;> first | rfl | (exfalso; omega) | (exfalso; simp at *; done) | (refine congrArg D.int ?_; omega) | (subst_vars; rfl)
 ·skip
  refine pure_enter Try.func45 rfl (by decide) _ Try.ntmps45 (le_ok rfl) (fun w Pr hE => ?_)
  dsimp only [slotsOf, Nat.zero_add, Nat.reduceAdd]
  repeat' (first | (apply at_op (.indexAddr _ _ _); first | refine al_ixq g0 ?_ | refine al_ixq g1 ?_) | refine nx ?_ | (apply aq_block_y; decide) | (apply qr_move; refine r_move ?_) | (apply qr_assign; refine r_assign ?_) | (apply at_cond; first | refine c_t ?_ | refine c_f ?_ | (refine aw_cond rfl (fun hb => ?_) (fun hb => ?_) <;> ((try have hq := dX hb); (try (exfalso; omega))))) | (apply at_guard; first | refine g_go ?_ | refine g_nt ?_ | refine g_nf ?_ | refine g_nu ?_ | ((first | refine al_split_t rfl rfl (lt_ok rfl) (fun hb => ?_) (fun hb => ?_) | refine al_split_f rfl rfl (lt_ok rfl) (fun hb => ?_) (fun hb => ?_)) <;> ((try have hq := dX hb); (try (exfalso; omega))))) | (apply qr_pick; refine r_pick ?_) | (apply qr_lss; refine r_lss ?_) | (apply qr_eql; refine r_eql ?_) | (apply qr_neq; refine r_neq ?_) | (apply qr_add; refine r_add ?_) | (apply qr_len; refine r_len ?_) | (apply qr_ix; refine r_ix ?_) | (apply qr_load; refine r_load ?_))
  all_goals refine rt1 ?_
  all_goals
   show _ = D.int (pairU 8 a b)
   unfold pairU
   simp only [decide_eq_true_eq, decide_eq_false_iff_not, Bool.not_eq_true', Bool.not_eq_false'] at *
   (repeat' split) <;> first | rfl | (exfalso; omega) | (exfalso; simp at *; done) | (refine congrArg D.int ?_; omega) | (subst_vars; rfl)
 ·skip
  refine pure_enter Try.func45 rfl (by decide) _ Try.ntmps45 (le_ok rfl) (fun w Pr hE => ?_)
  dsimp only [slotsOf, Nat.zero_add, Nat.reduceAdd]
  repeat' (first | (apply at_op (.indexAddr _ _ _); first | refine al_ixq g0 ?_ | refine al_ixq g1 ?_) | refine nx ?_ | (apply aq_block_y; decide) | (apply qr_move; refine r_move ?_) | (apply qr_assign; refine r_assign ?_) | (apply at_cond; first | refine c_t ?_ | refine c_f ?_ | (refine aw_cond rfl (fun hb => ?_) (fun hb => ?_) <;> ((try have hq := dX hb); (try (exfalso; omega))))) | (apply at_guard; first | refine g_go ?_ | refine g_nt ?_ | refine g_nf ?_ | refine g_nu ?_ | ((first | refine al_split_t rfl rfl (lt_ok rfl) (fun hb => ?_) (fun hb => ?_) | refine al_split_f rfl rfl (lt_ok rfl) (fun hb => ?_) (fun hb => ?_)) <;> ((try have hq := dX hb); (try (exfalso; omega))))) | (apply qr_pick; refine r_pick ?_) | (apply qr_lss; refine r_lss ?_) | (apply qr_eql; refine r_eql ?_) | (apply qr_neq; refine r_neq ?_) | (apply qr_add; refine r_add ?_) | (apply qr_len; refine r_len ?_) | (apply qr_ix; refine r_ix ?_) | (apply qr_load; refine r_load ?_))
  all_goals refine rt1 ?_
  all_goals
   show _ = D.int (pairU 9 a b)
   unfold pairU
   simp only [decide_eq_true_eq, decide_eq_false_iff_not, Bool.not_eq_true', Bool.not_eq_false'] at *
   (repeat' split) <;> first | rfl | (exfalso; omega) | (exfalso; simp at *; done) | (refine congrArg D.int ?_; omega) | (subst_vars; rfl)
 ·skip
  refine pure_enter Try.func45 rfl (by decide) _ Try.ntmps45 (le_ok rfl) (fun w Pr hE => ?_)
  dsimp only [slotsOf, Nat.zero_add, Nat.reduceAdd]
  repeat' (first | (apply at_op (.indexAddr _ _ _); first | refine al_ixq g0 ?_ | refine al_ixq g1 ?_) | refine nx ?_ | (apply aq_block_y; decide) | (apply qr_move; refine r_move ?_) | (apply qr_assign; refine r_assign ?_) | (apply at_cond; first | refine c_t ?_ | refine c_f ?_ | (refine aw_cond rfl (fun hb => ?_) (fun hb => ?_) <;> ((try have hq := dX hb); (try (exfalso; omega))))) | (apply at_guard; first | refine g_go ?_ | refine g_nt ?_ | refine g_nf ?_ | refine g_nu ?_ | ((first | refine al_split_t rfl rfl (lt_ok rfl) (fun hb => ?_) (fun hb => ?_) | refine al_split_f rfl rfl (lt_ok rfl) (fun hb => ?_) (fun hb => ?_)) <;> ((try have hq := dX hb); (try (exfalso; omega))))) | (apply qr_pick; refine r_pick ?_) | (apply qr_lss; refine r_lss ?_) | (apply qr_eql; refine r_eql ?_) | (apply qr_neq; refine r_neq ?_) | (apply qr_add; refine r_add ?_) | (apply qr_len; refine r_len ?_) | (apply qr_ix; refine r_ix ?_) | (apply qr_load; refine r_load ?_))
  all_goals refine rt1 ?_
  all_goals
   show _ = D.int (pairU 10 a b)
   unfold pairU
   simp only [decide_eq_true_eq, decide_eq_false_iff_not, Bool.not_eq_true', Bool.not_eq_false'] at *
   (repeat' split) <;> first | rfl | (exfalso; omega) | (exfalso; simp at *; done) | (refine congrArg D.int ?_; omega) | (subst_vars; rfl)
 ·skip
  refine pure_enter Try.func45 rfl (by decide) _ Try.ntmps45 (le_ok rfl) (fun w Pr hE => ?_)
  dsimp only [slotsOf, Nat.zero_add, Nat.reduceAdd]
  repeat' (first | (apply at_op (.indexAddr _ _ _); first | refine al_ixq g0 ?_ | refine al_ixq g1 ?_) | refine nx ?_ | (apply aq_block_y; decide) | (apply qr_move; refine r_move ?_) | (apply qr_assign; refine r_assign ?_) | (apply at_cond; first | refine c_t ?_ | refine c_f ?_ | (refine aw_cond rfl (fun hb => ?_) (fun hb => ?_) <;> ((try have hq := dX hb); (try (exfalso; omega))))) | (apply at_guard; first | refine g_go ?_ | refine g_nt ?_ | refine g_nf ?_ | refine g_nu ?_ | ((first | refine al_split_t rfl rfl (lt_ok rfl) (fun hb => ?_) (fun hb => ?_) | refine al_split_f rfl rfl (lt_ok rfl) (fun hb => ?_) (fun hb => ?_)) <;> ((try have hq := dX hb); (try (exfalso; omega))))) | (apply qr_pick; refine r_pick ?_) | (apply qr_lss; refine r_lss ?_) | (apply qr_eql; refine r_eql ?_) | (apply qr_neq; refine r_neq ?_) | (apply qr_add; refine r_add ?_) | (apply qr_len; refine r_len ?_) | (apply qr_ix; refine r_ix ?_) | (apply qr_load; refine r_load ?_))
  all_goals refine rt1 ?_
  all_goals
   show _ = D.int (pairU 11 a b)
   unfold pairU
   simp only [decide_eq_true_eq, decide_eq_false_iff_not, Bool.not_eq_true', Bool.not_eq_false'] at *
   (repeat' split) <;> first | rfl | (exfalso; omega) | (exfalso; simp at *; done) | (refine congrArg D.int ?_; omega) | (subst_vars; rfl)
end Go.Proofs.Ytgiacdhffklenaa
end
section
namespace Go.Proofs.Ytgiacdhffklenaa
open Go.RowKit
def Unit4 (u : Int) : Prop := 0 ≤ u ∧ u ≤ 3
theorem trip_range (s : ByteArray) (h : tripU s ≠ -1) : Unit4 (tripU s) := by
 unfold tripU at h ⊢
 unfold Unit4
 split at h <;> (try split at h) <;> simp_all
theorem member_range (s : ByteArray) (h : memberU s ≠ -1) : Unit4 (memberU s) := by
 unfold memberU at h ⊢
 unfold Unit4
 split at h <;> (try split at h) <;> (try split at h) <;> simp_all
def Scope4 (sc : List (ByteArray × Int)) : Prop := ∀ q ∈ sc, q.2 = -1 ∨ Unit4 q.2
theorem scope_range {sc : List (ByteArray × Int)} (hs : Scope4 sc) (s : ByteArray) (h : scopeU sc s ≠ -1) : Unit4 (scopeU sc s) := by
 unfold scopeU at h ⊢
 cases hf : sc.find? (fun q => decide (q.1 = s)) with
 | none => rw [hf] at h; exact absurd rfl h
 | some q =>
  rw [hf] at h
  exact (hs q (List.mem_of_find?_eq_some hf)).resolve_left h
theorem pair_range {op a b : Int} (ha : Unit4 a) (hb : Unit4 b) (h : pairU op a b ≠ -1) : Unit4 (pairU op a b) := by
 unfold pairU at h ⊢
 unfold Unit4 at *
 repeat' split
 all_goals first | omega | (exfalso; revert h; simp_all)
theorem getD_range {l : List Int} (hl : ∀ u ∈ l, Unit4 u) (i : Nat) : Unit4 (l.getD i 0) := by
 rw [List.getD_eq_getElem?_getD]
 cases h : l[i]? with
 | none => exact ⟨by simp, by simp⟩
 | some u => exact hl u (List.mem_of_getElem? h)
theorem join_range {op : Int} {l : List Int} (hl : ∀ u ∈ l, Unit4 u) (h : joinU op l ≠ -1) : Unit4 (joinU op l) := by
 have h0 := getD_range hl 0
 have h1 := getD_range hl 1
 unfold joinU at h ⊢
 split
 ·rename_i k
  rw [if_pos k] at h
  split
  ·rename_i k2; rw [if_pos k2] at h; exact absurd rfl h
  ·exact ⟨by omega, by omega⟩
 ·rename_i k
  rw [if_neg k] at h
  split
  ·rename_i k2
   rw [if_pos k2] at h
   split
   ·exact h1
   ·rename_i k3; rw [if_neg k3] at h; exact absurd rfl h
  ·rename_i k2
   rw [if_neg k2] at h
   split
   ·rename_i k3
    rw [if_pos k3] at h
    exact pair_range h0 h1 h
   ·rename_i k3; rw [if_neg k3] at h; exact absurd rfl h
theorem mem_getQ {α : Type} {l : List α} {u : α} (h : u ∈ l) : ∃ i, i < l.length ∧ l[i]? = some u := by
 obtain ⟨i, hi, rfl⟩ := List.getElem_of_mem h
 exact ⟨i, hi, List.getElem?_eq_getElem hi⟩
theorem name_range {u v : Int} (hu : u ≠ -1 → Unit4 u) (h : nameU u = .ok v) : Unit4 v := by
 obtain ⟨h1, rfl⟩ := name_ok h
 exact hu h1
theorem unit_range : ∀ (d : Nat) (sc : List (ByteArray × Int)) (e : Ex) (u : Int), Scope4 sc → e.right d = true → e.unitU sc = .ok u → Unit4 u
 | 0, _, _, _, _, h, _ => by rw [right_zero] at h; cases h
 | d + 1, sc, e, u, hs, h, hu => by
  obtain ⟨_, hr⟩ := right_args h
  rw [unit_eq] at hu
  split at hu
  ·rename_i h0
   rw [right_eq, if_pos h0, Bool.and_eq_true] at h
   have hn := h.2
   unfold numRight at hn
   cases hu
   simp only [Bool.and_eq_true, decide_eq_true_eq] at hn
   exact ⟨by omega, by omega⟩
  ·split at hu
   ·exact name_range (trip_range _) hu
   ·split at hu
    ·exact name_range (member_range _) hu
    ·split at hu
     ·exact name_range (scope_range hs _) hu
     ·obtain ⟨l, h1, h2, rfl⟩ := parts_ok hu
      refine join_range (fun v hv => ?_) h2
      obtain ⟨i, hi, hvi⟩ := mem_getQ hv
      obtain ⟨hl, hk⟩ := units_ok sc 0 _ _ h1
      obtain ⟨w, h3, h4⟩ := hk i (by omega)
      rw [hvi] at h4
      cases h4
      exact unit_range d sc _ _ hs (hr _ (List.getElem_mem (by omega))) h3
theorem scoped_range : ∀ (n : Nat) (ls : List (ByteArray × Ex)), ls.length = n → (∀ q ∈ ls, Ex.right q.2 12 = true) → Scope4 (scopedU ls)
 | 0, ls, h, _ => by
  obtain rfl := List.eq_nil_of_length_eq_zero h
  intro q hq
  simp [scopedU] at hq
 | n + 1, ls, h, hr => by
  obtain ⟨a, q, rfl⟩ : ∃ a q, ls = a ++ [q] := ⟨ls.dropLast, ls.getLast (by intro e; simp [e] at h), (List.dropLast_concat_getLast _).symm⟩
  have ih := scoped_range n a (by simpa using h) fun r hr2 => hr r (by simp [hr2])
  rw [scoped_snoc]
  intro r hr2
  rcases List.mem_append.1 hr2 with h1 | h1
  ·exact ih r h1
  ·rw [List.mem_singleton.1 h1]
   cases hx : q.2.unitU (scopedU a) with
   | ok u => exact .inr (unit_range 12 _ _ u ih (hr q (by simp)) hx)
   | bad p c => exact .inl rfl
structure Sound (ls : List (ByteArray × Ex)) : Prop where
 len : ls.length ≤ 20
 all : wrongL ls = false
theorem Sound.ok {ls : List (ByteArray × Ex)} (h : Sound ls) {e : Ex} {u : Int} (he : e.right 12 = true) (hu : e.unitU (scopedU ls) = .ok u) : ofU ls e = (u, [], 0) := by
 unfold ofU
 rw [he, h.all, decide_eq_false (by have := h.len; omega), hu]
 rfl
theorem Sound.bad {ls : List (ByteArray × Ex)} (h : Sound ls) {e : Ex} {p : List Int} {c : Int} (he : e.right 12 = true) (hu : e.unitU (scopedU ls) = .bad p c) : ofU ls e = (0, p, c) := by
 unfold ofU
 rw [he, h.all, decide_eq_false (by have := h.len; omega), hu]
 rfl
structure PlaceF (ls : List (ByteArray × Ex)) (e : Ex) (u : Int) (p : List Int) (c : Int) : Prop where
 code : c = 0 ∨ c = 13 ∨ c = 14
 unit : 0 ≤ u ∧ u ≤ 3
 zero : c = 0 → p = []
 none : c ≠ 0 → u = 0
 at_ : ∃ part, atP e p = some part ∧ Before ls e p ∧ ofU ls part = (u, [], c) ∧ (c = 14 → part.op = 1 ∨ part.op = 2 ∨ part.op = 3) ∧ ∀ x ∈ part.args, (ofU ls x).2.2 = 0
end Go.Proofs.Ytgiacdhffklenaa
end
section
set_option linter.unusedSimpArgs false
set_option linter.unusedVariables false
namespace Go.Proofs.Ytgiacdhffklenaa
open Go.RowKit
theorem scopeU_no {sc : List (ByteArray × Int)} {s : ByteArray} (h : ∀ q ∈ sc, q.1 ≠ s) : scopeU sc s = -1 := by
 unfold scopeU
 rw [List.find?_eq_none.2 fun q hq => by simpa using h q hq]
abbrev letB (q : ByteArray × Ex) : O := .box 46 [.d (.str q.1), .d (.int q.2.op), .d (.int q.2.num), .d (.int q.2.unit), .d (.str q.2.str), .d (.list 5 (Ex.rows q.2.args))]
end Go.Proofs.Ytgiacdhffklenaa
end
