/-
  Conditions: none.
-/
import Derived.Test.YtgiacdhffklenaaMav
set_option maxHeartbeats 16000000
set_option maxRecDepth 20000
section
set_option linter.unusedSimpArgs false
set_option linter.unusedVariables false
namespace Go.Proofs.Ytgiacdhffklenaa
open Go.RowKit
theorem rcheck_any (x : By) (ht : x.tame) (hl : x.lets.length ≤ 100) : PureC 18 [.agg (byC x)] (· = .int (checkU x)) := by
 have hml : (x.lets.map letC).length = x.lets.length := List.length_map ..
 have c1 := rbyRight_any x ht
 unfold checkU
 cases hr : x.right
 ·rw [hr] at c1
  refine pure_enter Try.func18 rfl (by decide) _ Try.ntmps18 (le_ok rfl) (fun w Pr hE => ?_)
  dsimp only [slotsOf, Nat.zero_add, Nat.reduceAdd]
  repeat' (first | (apply at_call; refine k_call (c1) hE ?_; rintro _ rfl) | refine nx ?_ | (apply aq_block_y; decide) | (apply qr_assign; refine r_assign ?_) | (apply at_cond; first | refine c_t ?_ | refine c_f ?_ | (refine aw_cond rfl (fun hb => ?_) (fun hb => ?_) <;> ((try have hq := dX hb); (try (exfalso; omega))))) | (apply qr_not; refine r_not ?_) | (apply qr_load; refine r_load ?_) | (apply qr_boxed; refine r_boxed ?_))
  refine rt1 ?_
  rfl
 rw [hr] at c1
 rw [if_pos rfl]
 have hel := errs_len x
 refine pure_enter Try.func18 rfl (by decide) _ Try.ntmps18 (le_ok rfl) (fun w Pr hE => ?_)
 dsimp only [slotsOf, Nat.zero_add, Nat.reduceAdd]
 repeat' (first | (apply at_call; refine k_call (c1) hE ?_; rintro _ rfl) | refine nx ?_ | (apply aq_block_y; decide) | (apply qr_assign; refine r_assign ?_) | (apply at_cond; first | refine c_t ?_ | refine c_f ?_ | (refine aw_cond rfl (fun hb => ?_) (fun hb => ?_) <;> ((try have hq := dX hb); (try (exfalso; omega))))) | (apply qr_not; refine r_not ?_) | (apply qr_load; refine r_load ?_) | (apply qr_boxed; refine r_boxed ?_))
 refine aw_lp (fun N sl ob => ∃ i : Nat, N = x.lets.length - i ∧ i ≤ x.lets.length ∧ noE (errsE x) i ∧ sl = [(3, .d (.int i)), (1, .box 1 0)] ∧ ob = [(1, byO' x)]) (⟨0, rfl, Nat.zero_le _, noE.zero _, rfl, rfl⟩) ?_
 rintro N sl ob ⟨i, rfl, hi, ha, rfl, rfl⟩
 by_cases hlt : i < x.lets.length
 ·have hg : (x.lets.map letC)[i]? = some (letC x.lets[i]) := by rw [get_map hlt]
  have c2 := rof_any (x.lets.take i) x.lets[i].2 (by rw [List.length_take]; omega) (fun q hq => (ht.lets q (List.mem_of_mem_take hq)).2) (ht.lets _ (List.getElem_mem hlt)).2
  have he : letE x i = (ofU (x.lets.take i) x.lets[i].2).2.2 := by
   unfold letE
   rw [List.getD_eq_getElem?_getD, List.getElem?_eq_getElem hlt]
   rfl
  have hat := errs_let x hlt
  have hdt : (x.lets.take i).map letC = List.drop 0 (List.take i (x.lets.map letC)) := by rw [List.map_take]; rfl
  have hil : (i : Int) ≤ x.lets.length := by omega
  unfold ofD letsD at c2
  rw [hdt] at c2
  rw [he] at hat
  have qi : decide ((i : Int) < (x.lets.length : Int)) = true := decide_eq_true (by omega)
  generalize ofU (x.lets.take i) x.lets[i].2 = r at c2 hat
  obtain ⟨u, p, c⟩ := r
  dsimp only at c2 hat
  generalize x.lets[i] = q at hg c2
  clear he hdt
  repeat' (first | refine nx ?_ | (apply aq_block_y; decide) | (apply qr_move; refine r_move ?_) | (apply at_cond; first | refine c_t ?_ | refine c_f ?_ | (refine aw_cond rfl (fun hb => ?_) (fun hb => ?_) <;> ((try have hq := dX hb); (try (exfalso; omega))))) | (apply qr_lss; refine r_lss ?_) | (apply qr_len; refine r_len ?_) | (apply qr_load; refine r_load ?_) | (apply qr_faddr; refine r_faddr ?_))
  refine aw_tree ((.free 0 (.free 1 (.free 2 (.free 3 (.free 4 (.free 5 (.free 6 (.free 7 (.free 8 (.free 9 (.only 10 (.only 11 (.fork (.alt 12 (.free 15 (.fork (.alt 13 (.free 16 (.only 14 .tail)) (.alt 14 (.only 13 (.free 16 .tail)) .stop)))) (.alt 13 (.fork (.alt 12 (.free 15 (.free 16 (.only 14 .tail))) (.alt 14 (.only 12 (.free 15 (.free 16 .tail))) .stop))) (.alt 14 (.fork (.alt 12 (.free 15 (.only 13 (.free 16 .tail))) (.alt 13 (.only 12 (.free 15 (.free 16 .tail))) .stop))) .stop))))))))))))))))) [17] ([(1, byO' x)]) ([(36, .d (.int c)), (3, .d (.int i)), (1, .box 1 0)]) ([(1, byO' x)]) (by kernel_rfl) (by kernel_rfl) (by kernel_rfl) rfl (by decide) (by (repeat (first | exact obs_nil | (apply obs_cons; focus (first | rfl | (simp [find]; done)))))) (fun hrest => ?_) ?_
  ·simp only [tailed, List.filterMap_cons, List.filterMap_nil, List.getElem?_cons_zero, List.getElem?_cons_succ] at hrest
   repeat' (first | apply am_fork | apply am_alt | exact am_stop | refine am_free rfl ?_ | refine am_only rfl ?_ | refine am_leaf hrest (by (repeat (first | exact sub_nil | (apply sub_cons; focus (first | rfl | exact vint (by first | omega) | (simp [look]; done)))))) (by (repeat (first | exact obs_nil | (apply obs_cons; focus (first | rfl | (simp [find]; done)))))) | refine m_skip ?_ | refine n_skip ?_ | (apply at_mcall; refine m_call (c2) hE ?_; rintro _ rfl; (try dsimp only [flat, D.plain, D.plainL])) | (apply at_am (.indexAddr _ _ _); first | refine am_y (by first | exact want_none | exact want_yes rfl rfl (by assumption) | exact want_yes rfl rfl (by with_reducible rfl)) (y_ix (by first | exact ToD.d _ | exact ToD.row _ _ _ _ _ rfl) rfl rfl (by first | with_reducible rfl | exact lit0 | exact lit1 | exact lit2 | exact lit3 | exact lit4 | exact int_s _ | exact int_p _ _ | exact int_nat _ (by omega)) hg) (lt_ok rfl) ?_ | refine am_y' (by first | exact want_none | exact want_yes rfl rfl (by assumption) | exact want_yes rfl rfl (by with_reducible rfl)) (y_ix (by first | exact ToD.d _ | exact ToD.row _ _ _ _ _ rfl) rfl rfl (by first | with_reducible rfl | exact lit0 | exact lit1 | exact lit2 | exact lit3 | exact lit4 | exact int_s _ | exact int_p _ _ | exact int_nat _ (by omega)) hg) (lt_ok rfl) ?_) | (apply at_am (.move _); refine am_nowd (by first | exact want_none | exact want_yes rfl rfl (by assumption) | exact want_yes rfl rfl (by with_reducible rfl)) (y_move rfl) (lt_ok rfl) ?_; dsimp only [flatV, flat, D.plain, D.plainL]) | (apply at_am (.extract _ _); refine am_nowd (by first | exact want_none | exact want_yes rfl rfl (by assumption) | exact want_yes rfl rfl (by with_reducible rfl)) (y_extract rfl rfl) (lt_ok rfl) ?_; dsimp only [flatV, flat, D.plain, D.plainL]) | (apply qm_move; refine m_move ?_) | (apply qn_move; refine n_move ?_) | (apply qm_assign; refine m_assign ?_) | (apply qn_extract; refine n_extract ?_) | (apply qm_slice; refine m_slice ?_) | (apply qm_ix; refine m_ix ?_) | (apply qm_load; refine m_load ?_) | (apply qm_faddr; refine m_faddr ?_) | (apply at_am (.alloc _); refine am_alloc (by first | exact want_none | exact want_yes rfl rfl (by assumption) | exact want_yes rfl rfl (by with_reducible rfl)) rfl (by first | (simp only [normV, normList, normMap]; rfl) | rfl) rfl (lt_ok rfl) rfl rfl rfl ?_) | (apply at_am (.store _ _ _); first | refine am_store (by first | exact want_none | exact want_yes rfl rfl (by assumption) | exact want_yes rfl rfl (by with_reducible rfl)) rfl rfl rfl (ev_d rfl) nofun (by first | (simp only [normV, normList, normMap]; rfl) | rfl) (by simp [V.one, Value.oneCell']) (.inl ⟨rfl, rfl⟩) rfl (le_ok rfl) (by first | (simp only [normV, normList, normMap]; rfl) | rfl) ?_ | refine am_store (by first | exact want_none | exact want_yes rfl rfl (by assumption) | exact want_yes rfl rfl (by with_reducible rfl)) rfl rfl rfl (ev_d rfl) nofun (by first | (simp only [normV, normList, normMap]; rfl) | rfl) (by simp [V.one, Value.oneCell']) (.inr rfl) rfl (le_ok rfl) (by first | (simp only [normV, normList, normMap]; rfl) | rfl) ?_) | (refine am_split rfl rfl (fun hb => ?_) (fun hb => ?_) <;> ((try have hq := dX hb); (try (exfalso; omega)))))
  simp only [tailed, List.filterMap_cons, List.filterMap_nil, List.getElem?_cons_zero, List.getElem?_cons_succ]
  by_cases hc : c = 0
  ·subst hc
   have hn := ha.succ hat
   repeat' (first | refine nx ?_ | (apply aq_block_y; decide) | (apply qr_move; refine r_move ?_) | (apply qr_assign; refine r_assign ?_) | (apply at_cond; first | refine c_t ?_ | refine c_f ?_ | (refine aw_cond rfl (fun hb => ?_) (fun hb => ?_) <;> ((try have hq := dX hb); (try (exfalso; omega))))) | (apply qr_neq; refine r_neq ?_) | (apply qr_add; refine r_add ?_) | (apply qr_extract; refine r_extract ?_) | (apply qr_slice; refine r_slice ?_) | (apply qr_ix; refine r_ix ?_) | (apply qr_load; refine r_load ?_) | (apply qr_faddr; refine r_faddr ?_))
   refine aq_rd (⟨i + 1, rfl, by omega, hn, rfl, rfl⟩) (by omega)
  ·have hf := first_at hat hc ha
   have q1 : (!decide (c = 0)) = true := by
    rw [decide_eq_false hc]
    rfl
   rw [hf]
   repeat' (first | refine nx ?_ | (apply aq_block_y; decide) | (apply qr_move; refine r_move ?_) | (apply qr_assign; refine r_assign ?_) | (apply at_cond; first | refine c_t ?_ | refine c_f ?_ | (refine aw_cond rfl (fun hb => ?_) (fun hb => ?_) <;> ((try have hq := dX hb); (try (exfalso; omega))))) | (apply qr_neq; refine r_neq ?_) | (apply qr_extract; refine r_extract ?_) | (apply qr_slice; refine r_slice ?_) | (apply qr_ix; refine r_ix ?_) | (apply qr_load; refine r_load ?_) | (apply qr_faddr; refine r_faddr ?_))
   refine rt1 ?_
   rfl
 ·obtain rfl : i = x.lets.length := by omega
  have qi : decide ((x.lets.length : Int) < (x.lets.length : Int)) = false := decide_eq_false (by omega)
  repeat' (first | refine nx ?_ | (apply aq_block_y; decide) | (apply qr_move; refine r_move ?_) | (apply qr_assign; refine r_assign ?_) | (apply at_cond; first | refine c_t ?_ | refine c_f ?_ | (refine aw_cond rfl (fun hb => ?_) (fun hb => ?_) <;> ((try have hq := dX hb); (try (exfalso; omega))))) | (apply qr_lss; refine r_lss ?_) | (apply qr_len; refine r_len ?_) | (apply qr_load; refine r_load ?_) | (apply qr_faddr; refine r_faddr ?_) | (apply qr_lits; refine r_lits ?_))
  clear qi
  refine aw_lp (fun N sl ob => ∃ k : Nat, N = 4 - k ∧ k ≤ 4 ∧ noE (errsE x) (x.lets.length + k) ∧ sl = [(8, .d (.int k)), (7, .d (.list 5 [exC x.admit, exC x.fare, exC x.late, exC x.noshow])), (1, .box 1 0)] ∧ ob = [(1, byO' x)]) (⟨0, rfl, Nat.zero_le _, ha, rfl, rfl⟩) ?_
  clear ha
  rintro N sl ob ⟨k, rfl, hk, ha, rfl, rfl⟩
  by_cases hlt : k < 4
  ·have hg : [exC x.admit, exC x.fare, exC x.late, exC x.noshow][k]? = some (exC (x.parts.getD k nilE)) := by
    match k, hlt with
    | 0, _ => rfl
    | 1, _ => rfl
    | 2, _ => rfl
    | 3, _ => rfl
   have hat := parts_at x hlt
   rw [← errs_part] at hat
   have c3 := rof_any x.lets (x.parts.getD k nilE) hl (fun q hq => (ht.lets q hq).2) (by
    match k, hlt with
    | 0, _ => exact ht.admit
    | 1, _ => exact ht.fare
    | 2, _ => exact ht.late
    | 3, _ => exact ht.noshow)
   unfold partE at hat
   have qk : decide ((k : Int) < 4) = true := decide_eq_true (by omega)
   generalize x.parts.getD k nilE = e at hg c3 hat
   unfold ofD at c3
   generalize ofU x.lets e = r at c3 hat
   obtain ⟨u, p, c⟩ := r
   dsimp only at c3 hat
   repeat' (first | refine nx ?_ | (apply aq_block_y; decide) | (apply qr_move; refine r_move ?_) | (apply at_cond; first | refine c_t ?_ | refine c_f ?_ | (refine aw_cond rfl (fun hb => ?_) (fun hb => ?_) <;> ((try have hq := dX hb); (try (exfalso; omega))))) | (apply qr_lss; refine r_lss ?_) | (apply qr_len; refine r_len ?_))
   refine aw_tree ((.free 0 (.free 1 (.free 2 (.free 3 (.free 4 (.free 5 (.only 6 (.only 7 (.fork (.alt 8 (.free 11 (.fork (.alt 9 (.free 12 (.only 10 .tail)) (.alt 10 (.only 9 (.free 12 .tail)) .stop)))) (.alt 9 (.fork (.alt 8 (.free 11 (.free 12 (.only 10 .tail))) (.alt 10 (.only 8 (.free 11 (.free 12 .tail))) .stop))) (.alt 10 (.fork (.alt 8 (.free 11 (.only 9 (.free 12 .tail))) (.alt 9 (.only 8 (.free 11 (.free 12 .tail))) .stop))) .stop))))))))))))) [13] ([(1, byO' x)]) ([(65, .d (.int c)), (9, .d (.int u)), (8, .d (.int k)), (7, .d (.list 5 [exC x.admit, exC x.fare, exC x.late, exC x.noshow])), (1, .box 1 0)]) ([(1, byO' x)]) (by kernel_rfl) (by kernel_rfl) (by kernel_rfl) rfl (by decide) (by (repeat (first | exact obs_nil | (apply obs_cons; focus (first | rfl | (simp [find]; done)))))) (fun hrest => ?_) ?_
   ·simp only [tailed, List.filterMap_cons, List.filterMap_nil, List.getElem?_cons_zero, List.getElem?_cons_succ] at hrest
    repeat' (first | apply am_fork | apply am_alt | exact am_stop | refine am_free rfl ?_ | refine am_only rfl ?_ | refine am_leaf hrest (by (repeat (first | exact sub_nil | (apply sub_cons; focus (first | rfl | exact vint (by first | omega) | (simp [look]; done)))))) (by (repeat (first | exact obs_nil | (apply obs_cons; focus (first | rfl | (simp [find]; done)))))) | refine m_skip ?_ | refine n_skip ?_ | (apply at_mcall; refine m_call (c3) hE ?_; rintro _ rfl; (try dsimp only [flat, D.plain, D.plainL])) | (apply at_am (.indexAddr _ _ _); first | refine am_y (by first | exact want_none | exact want_yes rfl rfl (by assumption) | exact want_yes rfl rfl (by with_reducible rfl)) (y_ix (by first | exact ToD.d _ | exact ToD.row _ _ _ _ _ rfl) rfl rfl (by first | with_reducible rfl | exact lit0 | exact lit1 | exact lit2 | exact lit3 | exact lit4 | exact int_s _ | exact int_p _ _ | exact int_nat _ (by omega)) hg) (lt_ok rfl) ?_ | refine am_y' (by first | exact want_none | exact want_yes rfl rfl (by assumption) | exact want_yes rfl rfl (by with_reducible rfl)) (y_ix (by first | exact ToD.d _ | exact ToD.row _ _ _ _ _ rfl) rfl rfl (by first | with_reducible rfl | exact lit0 | exact lit1 | exact lit2 | exact lit3 | exact lit4 | exact int_s _ | exact int_p _ _ | exact int_nat _ (by omega)) hg) (lt_ok rfl) ?_) | (apply at_am (.move _); refine am_nowd (by first | exact want_none | exact want_yes rfl rfl (by assumption) | exact want_yes rfl rfl (by with_reducible rfl)) (y_move rfl) (lt_ok rfl) ?_; dsimp only [flatV, flat, D.plain, D.plainL]) | (apply at_am (.extract _ _); refine am_nowd (by first | exact want_none | exact want_yes rfl rfl (by assumption) | exact want_yes rfl rfl (by with_reducible rfl)) (y_extract rfl rfl) (lt_ok rfl) ?_; dsimp only [flatV, flat, D.plain, D.plainL]) | (apply qm_move; refine m_move ?_) | (apply qn_move; refine n_move ?_) | (apply qm_assign; refine m_assign ?_) | (apply qn_extract; refine n_extract ?_) | (apply qm_ix; refine m_ix ?_) | (apply qm_load; refine m_load ?_) | (apply qm_faddr; refine m_faddr ?_) | (apply at_am (.alloc _); refine am_alloc (by first | exact want_none | exact want_yes rfl rfl (by assumption) | exact want_yes rfl rfl (by with_reducible rfl)) rfl (by first | (simp only [normV, normList, normMap]; rfl) | rfl) rfl (lt_ok rfl) rfl rfl rfl ?_) | (apply at_am (.store _ _ _); first | refine am_store (by first | exact want_none | exact want_yes rfl rfl (by assumption) | exact want_yes rfl rfl (by with_reducible rfl)) rfl rfl rfl (ev_d rfl) nofun (by first | (simp only [normV, normList, normMap]; rfl) | rfl) (by simp [V.one, Value.oneCell']) (.inl ⟨rfl, rfl⟩) rfl (le_ok rfl) (by first | (simp only [normV, normList, normMap]; rfl) | rfl) ?_ | refine am_store (by first | exact want_none | exact want_yes rfl rfl (by assumption) | exact want_yes rfl rfl (by with_reducible rfl)) rfl rfl rfl (ev_d rfl) nofun (by first | (simp only [normV, normList, normMap]; rfl) | rfl) (by simp [V.one, Value.oneCell']) (.inr rfl) rfl (le_ok rfl) (by first | (simp only [normV, normList, normMap]; rfl) | rfl) ?_) | (refine am_split rfl rfl (fun hb => ?_) (fun hb => ?_) <;> ((try have hq := dX hb); (try (exfalso; omega)))))
   simp only [tailed, List.filterMap_cons, List.filterMap_nil, List.getElem?_cons_zero, List.getElem?_cons_succ]
   clear c3 hg
   repeat' (first | refine nx ?_ | (apply aq_block_y; decide) | (apply qr_move; refine r_move ?_) | (apply qr_assign; refine r_assign ?_) | (apply at_cond; first | refine c_t ?_ | refine c_f ?_ | (refine aw_cond rfl (fun hb => ?_) (fun hb => ?_) <;> ((try have hq := dX hb); (try (exfalso; omega))))) | (apply qr_extract; refine r_extract ?_) | (apply qr_ix; refine r_ix ?_) | (apply qr_load; refine r_load ?_) | (apply qr_faddr; refine r_faddr ?_))
   by_cases hk0 : k = 0
   ·have q0 : decide ((k : Int) = 0) = true := decide_eq_true (by omega)
    have q2 : decide ((0 : Int) < k) = false := decide_eq_false (by omega)
    rw [show wantU k = 3 by simp [wantU, hk0]] at hat
    clear hk0
    by_cases hc : c = 0
    ·subst hc
     rw [if_pos rfl] at hat
     by_cases hu : u = 3
     ·subst hu
      rw [if_pos rfl] at hat
      have hn := ha.succ hat
      rw [Nat.add_assoc] at hn
      repeat' (first | refine nx ?_ | (apply aq_block_y; decide) | (apply qr_move; refine r_move ?_) | (apply qr_assign; refine r_assign ?_) | (apply at_cond; first | refine c_t ?_ | refine c_f ?_ | (refine aw_cond rfl (fun hb => ?_) (fun hb => ?_) <;> ((try have hq := dX hb); (try (exfalso; omega))))) | (apply at_guard; first | refine g_go ?_ | refine g_nt ?_ | refine g_nf ?_ | refine g_nu ?_ | ((first | refine al_split_t rfl rfl (lt_ok rfl) (fun hb => ?_) (fun hb => ?_) | refine al_split_f rfl rfl (lt_ok rfl) (fun hb => ?_) (fun hb => ?_)) <;> ((try have hq := dX hb); (try (exfalso; omega))))) | (apply qr_pick; refine r_pick ?_) | (apply qr_gtr; refine r_gtr ?_) | (apply qr_eql; refine r_eql ?_) | (apply qr_neq; refine r_neq ?_) | (apply qr_add; refine r_add ?_))
      refine aq_rd (⟨k + 1, rfl, by omega, hn, rfl, rfl⟩) (by omega)
     ·rw [if_neg hu] at hat
      have hf := first_at hat (by decide) ha
      have q1 : (!decide (u = 3)) = true := by
       rw [decide_eq_false hu]
       rfl
      rw [hf]
      repeat' (first | refine nx ?_ | (apply aq_block_y; decide) | (apply qr_move; refine r_move ?_) | (apply qr_assign; refine r_assign ?_) | (apply at_cond; first | refine c_t ?_ | refine c_f ?_ | (refine aw_cond rfl (fun hb => ?_) (fun hb => ?_) <;> ((try have hq := dX hb); (try (exfalso; omega))))) | (apply at_guard; first | refine g_go ?_ | refine g_nt ?_ | refine g_nf ?_ | refine g_nu ?_ | ((first | refine al_split_t rfl rfl (lt_ok rfl) (fun hb => ?_) (fun hb => ?_) | refine al_split_f rfl rfl (lt_ok rfl) (fun hb => ?_) (fun hb => ?_)) <;> ((try have hq := dX hb); (try (exfalso; omega))))) | (apply qr_pick; refine r_pick ?_) | (apply qr_gtr; refine r_gtr ?_) | (apply qr_eql; refine r_eql ?_) | (apply qr_neq; refine r_neq ?_))
      refine rt1 ?_
      rfl
    ·rw [if_neg hc] at hat
     have hf := first_at hat hc ha
     have q1 : (!decide (c = 0)) = true := by
      rw [decide_eq_false hc]
      rfl
     rw [hf]
     repeat' (first | refine nx ?_ | (apply aq_block_y; decide) | (apply qr_move; refine r_move ?_) | (apply qr_assign; refine r_assign ?_) | (apply at_cond; first | refine c_t ?_ | refine c_f ?_ | (refine aw_cond rfl (fun hb => ?_) (fun hb => ?_) <;> ((try have hq := dX hb); (try (exfalso; omega))))) | (apply qr_neq; refine r_neq ?_))
     refine rt1 ?_
     rfl
   ·have q0 : decide ((k : Int) = 0) = false := decide_eq_false (by omega)
    have q2 : decide ((0 : Int) < k) = true := decide_eq_true (by omega)
    rw [show wantU k = 1 by simp [wantU, hk0]] at hat
    clear hk0
    by_cases hc : c = 0
    ·subst hc
     rw [if_pos rfl] at hat
     by_cases hu : u = 1
     ·subst hu
      rw [if_pos rfl] at hat
      have hn := ha.succ hat
      rw [Nat.add_assoc] at hn
      repeat' (first | refine nx ?_ | (apply aq_block_y; decide) | (apply qr_move; refine r_move ?_) | (apply qr_assign; refine r_assign ?_) | (apply at_cond; first | refine c_t ?_ | refine c_f ?_ | (refine aw_cond rfl (fun hb => ?_) (fun hb => ?_) <;> ((try have hq := dX hb); (try (exfalso; omega))))) | (apply at_guard; first | refine g_go ?_ | refine g_nt ?_ | refine g_nf ?_ | refine g_nu ?_ | ((first | refine al_split_t rfl rfl (lt_ok rfl) (fun hb => ?_) (fun hb => ?_) | refine al_split_f rfl rfl (lt_ok rfl) (fun hb => ?_) (fun hb => ?_)) <;> ((try have hq := dX hb); (try (exfalso; omega))))) | (apply qr_pick; refine r_pick ?_) | (apply qr_gtr; refine r_gtr ?_) | (apply qr_eql; refine r_eql ?_) | (apply qr_neq; refine r_neq ?_) | (apply qr_add; refine r_add ?_))
      refine aq_rd (⟨k + 1, rfl, by omega, hn, rfl, rfl⟩) (by omega)
     ·rw [if_neg hu] at hat
      have hf := first_at hat (by decide) ha
      have q1 : (!decide (u = 1)) = true := by
       rw [decide_eq_false hu]
       rfl
      rw [hf]
      repeat' (first | refine nx ?_ | (apply aq_block_y; decide) | (apply qr_move; refine r_move ?_) | (apply qr_assign; refine r_assign ?_) | (apply at_cond; first | refine c_t ?_ | refine c_f ?_ | (refine aw_cond rfl (fun hb => ?_) (fun hb => ?_) <;> ((try have hq := dX hb); (try (exfalso; omega))))) | (apply at_guard; first | refine g_go ?_ | refine g_nt ?_ | refine g_nf ?_ | refine g_nu ?_ | ((first | refine al_split_t rfl rfl (lt_ok rfl) (fun hb => ?_) (fun hb => ?_) | refine al_split_f rfl rfl (lt_ok rfl) (fun hb => ?_) (fun hb => ?_)) <;> ((try have hq := dX hb); (try (exfalso; omega))))) | (apply qr_pick; refine r_pick ?_) | (apply qr_gtr; refine r_gtr ?_) | (apply qr_eql; refine r_eql ?_) | (apply qr_neq; refine r_neq ?_))
      refine rt1 ?_
      rfl
    ·rw [if_neg hc] at hat
     have hf := first_at hat hc ha
     have q1 : (!decide (c = 0)) = true := by
      rw [decide_eq_false hc]
      rfl
     rw [hf]
     repeat' (first | refine nx ?_ | (apply aq_block_y; decide) | (apply qr_move; refine r_move ?_) | (apply qr_assign; refine r_assign ?_) | (apply at_cond; first | refine c_t ?_ | refine c_f ?_ | (refine aw_cond rfl (fun hb => ?_) (fun hb => ?_) <;> ((try have hq := dX hb); (try (exfalso; omega))))) | (apply qr_neq; refine r_neq ?_))
     refine rt1 ?_
     rfl
  ·obtain rfl : k = 4 := by omega
   have h0 : firstE (errsE x) = 0 := first_no (by rw [hel]; exact ha)
   rw [h0]
   repeat' (first | refine nx ?_ | (apply aq_block_y; decide) | (apply qr_move; refine r_move ?_) | (apply qr_assign; refine r_assign ?_) | (apply at_cond; first | refine c_t ?_ | refine c_f ?_ | (refine aw_cond rfl (fun hb => ?_) (fun hb => ?_) <;> ((try have hq := dX hb); (try (exfalso; omega))))) | (apply qr_lss; refine r_lss ?_) | (apply qr_len; refine r_len ?_))
   refine rt1 ?_
   rfl
end Go.Proofs.Ytgiacdhffklenaa
end
section
set_option linter.unusedSimpArgs false
set_option linter.unusedVariables false
namespace Go.Proofs.Ytgiacdhffklenaa
open Go.RowKit
theorem utells_any (ls : List (ByteArray × Ex)) (e : Ex) (x : By) (s : ByteArray) (hl : ls.length ≤ 9223372036854775807) (hc : ∀ q ∈ ls, Ex.came q.2) (ce : e.came) (cx : x.came) : PureC 3 [letsD ls, .agg (exC e), .agg (byC x), .str s] (· = .bool true) := by
 have hml : (ls.map letC).length = ls.length := List.length_map ..
 have k1 := usmall_any
 have k2 := ufew_any ls e hl hc ce
 have k3 := few_any x cx
 by_cases h60 : 60 < s.size
 ·have q0 : decide ((60 : Int) < s.size) = true := decide_eq_true (by omega)
  refine pure_enter Try.func3 rfl (by decide) _ Try.ntmps3 (le_ok rfl) (fun w Pr hE => ?_)
  dsimp only [slotsOf, Nat.zero_add, Nat.reduceAdd]
  repeat' (first | (apply at_call; refine k_call (k1) hE ?_; rintro _ rfl) | (apply at_call; refine k_call (k2) hE ?_; (rintro _ ⟨b1, rfl, t1⟩; clear k2; cases b1)) | (apply at_call; refine k_call (k3) hE ?_; (rintro _ ⟨b2, rfl, t2⟩; clear k3; cases b2)) | refine nx ?_ | (apply qr_move; refine r_move ?_) | (apply qr_assign; refine r_assign ?_) | (apply at_cond; first | refine c_t ?_ | refine c_f ?_ | (refine aw_cond rfl (fun hb => ?_) (fun hb => ?_) <;> ((try have hq := dX hb); (try (exfalso; omega))))) | (apply at_guard; first | refine g_go ?_ | refine g_nt ?_ | refine g_nf ?_ | refine g_nu ?_ | ((first | refine al_split_t rfl rfl (lt_ok rfl) (fun hb => ?_) (fun hb => ?_) | refine al_split_f rfl rfl (lt_ok rfl) (fun hb => ?_) (fun hb => ?_)) <;> ((try have hq := dX hb); (try (exfalso; omega))))) | (apply qr_pick; refine r_pick ?_) | (apply qr_gtr; refine r_gtr ?_) | (apply qr_not; refine r_not ?_) | (apply qr_len; refine r_len ?_) | (apply qr_load; refine r_load ?_) | (apply qr_boxed; refine r_boxed ?_))
  ·skip
   refine rt1 ?_
   rfl
  ·skip
   refine rt1 ?_
   rfl
  ·skip
   refine rt1 ?_
   rfl
 have q0 : decide ((60 : Int) < s.size) = false := decide_eq_false (by omega)
 refine pure_enter Try.func3 rfl (by decide) _ Try.ntmps3 (le_ok rfl) (fun w Pr hE => ?_)
 dsimp only [slotsOf, Nat.zero_add, Nat.reduceAdd]
 repeat' (first | (apply at_call; refine k_call (k1) hE ?_; rintro _ rfl) | (apply at_call; refine k_call (k2) hE ?_; (rintro _ ⟨b1, rfl, t1⟩; clear k2; cases b1)) | (apply at_call; refine k_call (k3) hE ?_; (rintro _ ⟨b2, rfl, t2⟩; clear k3; cases b2)) | refine nx ?_ | (apply qr_move; refine r_move ?_) | (apply qr_assign; refine r_assign ?_) | (apply at_cond; first | refine c_t ?_ | refine c_f ?_ | (refine aw_cond rfl (fun hb => ?_) (fun hb => ?_) <;> ((try have hq := dX hb); (try (exfalso; omega))))) | (apply at_guard; first | refine g_go ?_ | refine g_nt ?_ | refine g_nf ?_ | refine g_nu ?_ | ((first | refine al_split_t rfl rfl (lt_ok rfl) (fun hb => ?_) (fun hb => ?_) | refine al_split_f rfl rfl (lt_ok rfl) (fun hb => ?_) (fun hb => ?_)) <;> ((try have hq := dX hb); (try (exfalso; omega))))) | (apply qr_pick; refine r_pick ?_) | (apply qr_gtr; refine r_gtr ?_) | (apply qr_not; refine r_not ?_) | (apply qr_len; refine r_len ?_) | (apply qr_load; refine r_load ?_) | (apply qr_boxed; refine r_boxed ?_))
 ·skip
  repeat' (first | refine nx ?_ | (apply qr_move; refine r_move ?_) | (apply qr_assign; refine r_assign ?_) | (apply at_cond; first | refine c_t ?_ | refine c_f ?_ | (refine aw_cond rfl (fun hb => ?_) (fun hb => ?_) <;> ((try have hq := dX hb); (try (exfalso; omega))))) | (apply at_guard; first | refine g_go ?_ | refine g_nt ?_ | refine g_nf ?_ | refine g_nu ?_ | ((first | refine al_split_t rfl rfl (lt_ok rfl) (fun hb => ?_) (fun hb => ?_) | refine al_split_f rfl rfl (lt_ok rfl) (fun hb => ?_) (fun hb => ?_)) <;> ((try have hq := dX hb); (try (exfalso; omega))))) | (apply qr_pick; refine r_pick ?_) | (apply qr_gtr; refine r_gtr ?_) | (apply qr_not; refine r_not ?_) | (apply qr_len; refine r_len ?_) | (apply qr_load; refine r_load ?_))
  refine rt1 ?_
  rfl
 ·skip
  repeat' (first | refine nx ?_ | (apply qr_move; refine r_move ?_) | (apply qr_assign; refine r_assign ?_) | (apply at_cond; first | refine c_t ?_ | refine c_f ?_ | (refine aw_cond rfl (fun hb => ?_) (fun hb => ?_) <;> ((try have hq := dX hb); (try (exfalso; omega))))) | (apply at_guard; first | refine g_go ?_ | refine g_nt ?_ | refine g_nf ?_ | refine g_nu ?_ | ((first | refine al_split_t rfl rfl (lt_ok rfl) (fun hb => ?_) (fun hb => ?_) | refine al_split_f rfl rfl (lt_ok rfl) (fun hb => ?_) (fun hb => ?_)) <;> ((try have hq := dX hb); (try (exfalso; omega))))) | (apply qr_pick; refine r_pick ?_) | (apply qr_gtr; refine r_gtr ?_) | (apply qr_not; refine r_not ?_) | (apply qr_len; refine r_len ?_) | (apply qr_load; refine r_load ?_))
  refine rt1 ?_
  rfl
 obtain ⟨hl20, hls, te⟩ := t1 rfl
 obtain ⟨tx, hx22⟩ := t2 rfl
 have g1 := uof_any ls e (by omega) hls te
 have g2 := rof_any ls e (by omega) hls te
 have g3 := utrip_any s
 have g4 := rtrip_any s
 have g5 := umember_any s
 have g6 := rmember_any s
 have g7 := check_any x tx (by omega)
 have g8 := rcheck_any x tx (by omega)
 have hp : (ofU ls e).2.1.length ≤ 100000 := by
  unfold ofU
  split
  ·simp
  ·rename_i hcc
   have h1 : e.right 12 = true := by
    simp only [Bool.or_eq_true, Bool.not_eq_true', not_or, Bool.not_eq_false] at hcc
    exact hcc.1
   cases hx : e.unitU (scopedU ls) with
   | ok u => simp
   | bad p c =>
    have := (placed 12 _ e p c h1 hx).2
    show p.length ≤ 100000
    omega
 generalize ofU ls e = r at g1 g2 hp
 obtain ⟨u, p, c⟩ := r
 have g9 := ints_any p p hp
 have qu : decide (u = u) = true := decide_eq_true rfl
 have qp : decide (p = p) = true := decide_eq_true rfl
 have qc : decide (c = c) = true := decide_eq_true rfl
 rw [qp] at g9
 unfold ofD at g1 g2
 dsimp only at g1 g2
 unfold knownD at g3 g4 g5 g6
 generalize checkU x = ck at g7 g8
 generalize (if tripU s = -1 then 0 else tripU s) = tu at g3 g4
 generalize (!decide (tripU s = -1)) = tb at g3 g4
 generalize (if memberU s = -1 then 0 else memberU s) = mu at g5 g6
 generalize (!decide (memberU s = -1)) = mb at g5 g6
 have qk : decide (ck = ck) = true := decide_eq_true rfl
 have qt : decide (tu = tu) = true := decide_eq_true rfl
 have qm : decide (mu = mu) = true := decide_eq_true rfl
 have qtb : (tb == tb) = true := beq_self_eq_true tb
 have qmb : (mb == mb) = true := beq_self_eq_true mb
 clear t1 t2 k1 hp
 repeat' (first | (apply at_call; refine k_call (g1) hE ?_; rintro _ rfl; clear g1) | (apply at_call; refine k_call (g2) hE ?_; rintro _ rfl) | (apply at_call; refine k_call (g3) hE ?_; rintro _ rfl; clear g3) | (apply at_call; refine k_call (g4) hE ?_; rintro _ rfl) | (apply at_call; refine k_call (g5) hE ?_; rintro _ rfl; clear g5) | (apply at_call; refine k_call (g6) hE ?_; rintro _ rfl) | refine nx ?_ | (apply qr_move; refine r_move ?_) | (apply qr_assign; refine r_assign ?_) | (apply at_cond; first | refine c_t ?_ | refine c_f ?_ | (refine aw_cond rfl (fun hb => ?_) (fun hb => ?_) <;> ((try have hq := dX hb); (try (exfalso; omega))))) | (apply at_guard; first | refine g_go ?_ | refine g_nt ?_ | refine g_nf ?_ | refine g_nu ?_ | ((first | refine al_split_t rfl rfl (lt_ok rfl) (fun hb => ?_) (fun hb => ?_) | refine al_split_f rfl rfl (lt_ok rfl) (fun hb => ?_) (fun hb => ?_)) <;> ((try have hq := dX hb); (try (exfalso; omega))))) | (apply qr_pick; refine r_pick ?_) | (apply qr_gtr; refine r_gtr ?_) | (apply qr_not; refine r_not ?_) | (apply qr_len; refine r_len ?_) | (apply qr_extract; refine r_extract ?_) | (apply qr_load; refine r_load ?_))
 refine aw_mixo ([(6, byO' x)]) [(0, true), (1, true), (2, true), (3, true), (4, true), (5, true), (6, true), (7, true), (8, true), (9, false), (10, true), (11, true), (12, true), (13, true), (14, true), (15, true), (16, true), (17, true), (19, true), (18, false), (20, false), (21, true), (22, true), (23, true), (24, true), (25, true), (26, true), (27, true), (28, true), (29, true), (30, true), (31, true), (32, true), (33, true), (34, true), (35, true), (36, true), (37, true), (38, true), (39, true), (40, true), (41, true), (42, true)] [43] (by kernel_rfl) (by kernel_rfl) (by kernel_rfl) (by decide) (by (repeat (first | exact obs_nil | (apply obs_cons; focus (first | rfl | (simp [find]; done)))))) ?_
 simp only [planned, tailed, List.filterMap_cons, List.filterMap_nil, List.getElem?_cons_zero, List.getElem?_cons_succ, Option.map_some]
 repeat' (first | apply am_nil | refine m_skip ?_ | refine n_skip ?_ | (apply at_mcall; refine m_call (g9) hE ?_; rintro _ rfl; (try dsimp only [flat, D.plain, D.plainL])) | (apply at_mcall; refine m_call (g7) hE ?_; rintro _ rfl; (try dsimp only [flat, D.plain, D.plainL])) | (apply at_mcall; refine m_call (g8) hE ?_; rintro _ rfl; (try dsimp only [flat, D.plain, D.plainL])) | (apply qm_move; refine m_move ?_) | (apply qm_pick; refine m_pick ?_) | (apply qm_eql; refine m_eql ?_) | (apply qm_load; refine m_load ?_) | (refine am_split rfl rfl (fun hb => ?_) (fun hb => ?_) <;> ((try have hq := dX hb); (try (exfalso; omega)))))
 repeat' (first | refine nx ?_ | (apply qr_move; refine r_move ?_) | (apply qr_assign; refine r_assign ?_) | (apply at_cond; first | refine c_t ?_ | refine c_f ?_ | (refine aw_cond rfl (fun hb => ?_) (fun hb => ?_) <;> ((try have hq := dX hb); (try (exfalso; omega))))) | (apply at_guard; first | refine g_go ?_ | refine g_nt ?_ | refine g_nf ?_ | refine g_nu ?_ | ((first | refine al_split_t rfl rfl (lt_ok rfl) (fun hb => ?_) (fun hb => ?_) | refine al_split_f rfl rfl (lt_ok rfl) (fun hb => ?_) (fun hb => ?_)) <;> ((try have hq := dX hb); (try (exfalso; omega))))) | (apply qr_pick; refine r_pick ?_) | (apply qr_eql; refine r_eql ?_) | (apply qr_load; refine r_load ?_))
 refine rt1 ?_
 simp
end Go.Proofs.Ytgiacdhffklenaa
end
section
namespace Go.Proofs.Ytgiacdhffklenaa
open Go.ChangeShapes Go.WideShapes Go.ChangeAt Go.RowKit Go.Deep Go.Joins
section
variable {H : Type} {enc : TypeId × Value → H} {w : World} {base : Nat}
theorem cameL_of {a : List Ex} (h : ∀ x ∈ a, Ex.came x) : Ex.cameL a := by
 induction a with
 | nil => trivial
 | cons x r ih => exact ⟨h x (by simp), ih fun y hy => h y (by simp [hy])⟩
theorem maxLen_le {n : Nat} (h : n ≤ maxLen) : n ≤ 9223372036854775807 := by
 unfold maxLen at h
 omega
theorem showB_exp : ∀ N : Nat, ShowB N enc Try.prog w base 25 5 (fun e : Ex => exC e) Ex.came
 | 0 => fun fuel cs x hN _ => by
  have := data_pos x.1
  omega
 | N + 1 => by
  have ih := showB_exp N
  have hl := showB_list (t := 23) Try.underlying23 (by kernel_rfl) (by decide) ih
  exact (showB_struct Try.underlying25 (by kernel_rfl) (showsB_cons ((show_int Try.underlying3).b N) rfl (by kernel_rfl) (showsB_cons ((show_int Try.underlying3).b N) rfl (by kernel_rfl)
   (showsB_cons ((show_int Try.underlying3).b N) rfl (by kernel_rfl) (showsB_cons ((show_string Try.underlying9).b N) rfl (by kernel_rfl) (showsB_cons hl rfl (by kernel_rfl) showsB_nil)))))).as (fun e : Ex => exC e) _
   (fun x => .mk x.1 x.2.1 x.2.2.1 x.2.2.2.1 x.2.2.2.2.1) (fun a => congrArg (fun r => [D.int a.1, D.int a.2.1, D.int a.2.2.1, D.str a.2.2.2.1, D.list 5 r]) (rows_map a.2.2.2.2.1)) (fun x ⟨_, _, _, h4, h5, _⟩ => ⟨maxLen_le h4, maxLen_le h5.1, cameL_of h5.2⟩)
theorem show_exp : Show enc Try.prog w base 25 5 (fun e : Ex => exC e) Ex.came := ShowB.all showB_exp
theorem show_let : Show enc Try.prog w base 46 6 (fun q : ByteArray × Ex => letC q) (fun q => q.1.size ≤ 9223372036854775807 ∧ q.2.came) :=
 (show_struct Try.underlying46 (by kernel_rfl) (shows_cons (show_string Try.underlying9) rfl (by kernel_rfl) (shows_cons show_exp rfl (by kernel_rfl) shows_nil))).as (fun q : ByteArray × Ex => letC q) _
  (fun x => (x.1, x.2.1)) (fun _ => rfl) (fun x ⟨h1, h2, _⟩ => ⟨maxLen_le h1, h2⟩)
theorem show_lets : Show enc Try.prog w base 22 1 (fun l : List (ByteArray × Ex) => [.list 6 (l.map letC)]) (fun l => l.length ≤ maxLen ∧ ∀ q ∈ l, q.1.size ≤ 9223372036854775807 ∧ q.2.came) :=
 show_list Try.underlying22 (by kernel_rfl) (by decide) show_let
theorem show_by : Show enc Try.prog w base 27 25 (fun x : By => byC x) By.came :=
 (show_struct Try.underlying27 (by kernel_rfl) (shows_cons (show_string Try.underlying9) rfl (by kernel_rfl) (shows_cons show_lets rfl (by kernel_rfl) (shows_cons show_exp rfl (by kernel_rfl) (shows_cons show_exp rfl (by kernel_rfl) (shows_cons show_exp rfl (by kernel_rfl) (shows_cons show_exp rfl (by kernel_rfl)
  (shows_cons (show_int Try.underlying3) rfl (by kernel_rfl) (shows_cons (show_int Try.underlying3) rfl (by kernel_rfl) (shows_cons (show_int Try.underlying3) rfl (by kernel_rfl) shows_nil)))))))))).as (fun x : By => byC x) _
  (fun x => ⟨x.1, x.2.1, x.2.2.1, x.2.2.2.1, x.2.2.2.2.1, x.2.2.2.2.2.1, x.2.2.2.2.2.2.1, x.2.2.2.2.2.2.2.1, x.2.2.2.2.2.2.2.2.1⟩) (fun _ => rfl) (fun x ⟨h1, h2, h3, h4, h5, h6, _⟩ => ⟨maxLen_le h1, maxLen_le h2.1, h2.2, h3, h4, h5, h6⟩)
end
end Go.Proofs.Ytgiacdhffklenaa
end
section
namespace Go.Proofs.Ytgiacdhffklenaa
open Go.ChangeShapes Go.WideShapes Go.ChangeAt Go.RowKit Go.Deep Go.Joins
section
variable {H : Type} {enc : TypeId × Value → H} {w : World} {base : Nat}
end
theorem came_small {n : Nat} (h : n ≤ maxLen) : n ≤ 9223372036854775807 := by
 unfold maxLen at h
 omega
theorem law_call0 {f : FuncId} {ds : List D} {w : World} {vs : List Value} (hG : laidG = []) (h : PureC f ds (· = .bool true)) (hl : vs.length = ds.length)
  (hr : ∀ (i : Nat) (v : Value) (d : D), vs[i]? = some v → ds[i]? = some d → RepD w (fun b _ => b < w.heap.size) v d) :
  Calls Try.prog f vs.toArray w fun e w' => e = .returned (.bool true) ∧ Below w.heap.size w w' := by
 refine (h.2 w (fun b _ => b < w.heap.size) vs (fun _ _ h => h) (fun g l hm => by rw [hG] at hm; cases hm) hl hr).mono fun e w' ⟨v, r, he, hp, hrep, hb⟩ => ?_
 subst hp
 cases hrep
 exact ⟨he, hb⟩
end Go.Proofs.Ytgiacdhffklenaa
end
