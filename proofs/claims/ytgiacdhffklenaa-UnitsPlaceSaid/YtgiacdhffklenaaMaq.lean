/-
  Conditions: none.
-/
import Derived.Test.YtgiacdhffklenaaMap
set_option maxHeartbeats 16000000
set_option maxRecDepth 20000
section
set_option linter.unusedSimpArgs false
set_option linter.unusedVariables false
namespace Go.Proofs.Ytgiacdhffklenaa
open Go.RowKit
def firstE (l : List Int) : Int := (l.find? fun e => !decide (e = 0)).getD 0
def letE (x : By) (i : Nat) : Int := (ofU (x.lets.take i) (x.lets.getD i (⟨#[]⟩, nilE)).2).2.2
def partE (x : By) (e : Ex) (w : Int) : Int := if (ofU x.lets e).2.2 = 0 then (if (ofU x.lets e).1 = w then 0 else 13) else (ofU x.lets e).2.2
def partsE (x : By) : List Int := [partE x x.admit 3, partE x x.fare 1, partE x x.late 1, partE x x.noshow 1]
def errsE (x : By) : List Int := (List.range x.lets.length).map (letE x) ++ partsE x
def checkU (x : By) : Int := if x.right then firstE (errsE x) else 1
def noE (l : List Int) (i : Nat) : Prop := ∀ (j : Nat) (v : Int), j < i → l[j]? = some v → v = 0
theorem noE.zero (l : List Int) : noE l 0 := fun j v h _ => by omega
theorem noE.succ {l : List Int} {i : Nat} (h : noE l i) (h2 : l[i]? = some 0) : noE l (i + 1) := fun j v hj hv => by
 by_cases hji : j = i
 ·subst hji
  rw [h2] at hv
  simpa using hv.symm
 ·exact h j v (by omega) hv
theorem first_at {l : List Int} {i : Nat} {v : Int} (h : l[i]? = some v) (hn : v ≠ 0) (ha : noE l i) : firstE l = v := by
 induction l generalizing i with
 | nil => simp at h
 | cons x r ih =>
  cases i with
  | zero =>
   obtain rfl : x = v := by simpa using h
   simp [firstE, hn]
  | succ i =>
   have h0 : x = 0 := ha 0 x (by omega) rfl
   have := ih (i := i) (by simpa using h) (fun j w hj hw => ha (j + 1) w (by omega) (by simpa using hw))
   simp only [firstE, List.find?_cons, h0] at this ⊢
   simpa using this
theorem first_no {l : List Int} (ha : noE l l.length) : firstE l = 0 := by
 unfold firstE
 have : l.find? (fun e => !decide (e = 0)) = none := by
  rw [List.find?_eq_none]
  intro e he
  obtain ⟨j, hj, rfl⟩ := List.getElem_of_mem he
  have := ha j l[j] hj (List.getElem?_eq_getElem hj)
  simp [this]
 rw [this]
 rfl
theorem errs_len (x : By) : (errsE x).length = x.lets.length + 4 := by simp [errsE, partsE]
theorem errs_let (x : By) {i : Nat} (h : i < x.lets.length) : (errsE x)[i]? = some (letE x i) := by
 unfold errsE
 rw [List.getElem?_append_left (by simpa using h), List.getElem?_map, List.getElem?_range h]
 rfl
theorem errs_part (x : By) (i : Nat) : (errsE x)[x.lets.length + i]? = (partsE x)[i]? := by
 unfold errsE
 rw [List.getElem?_append_right (by simp)]
 simp
def wantU (i : Nat) : Int := if i = 0 then 3 else 1
theorem parts_at (x : By) {i : Nat} (h : i < 4) : (partsE x)[i]? = some (partE x (x.parts.getD i nilE) (wantU i)) := by
 match i, h with
 | 0, _ => rfl
 | 1, _ => rfl
 | 2, _ => rfl
 | 3, _ => rfl
theorem check_any (x : By) (ht : x.tame) (hl : x.lets.length ≤ 100) : PureC 17 [.agg (byC x)] (· = .int (checkU x)) := by
 have hml : (x.lets.map letC).length = x.lets.length := List.length_map ..
 have c1 := byRight_any x ht
 unfold checkU
 cases hr : x.right
 ·rw [hr] at c1
  refine pure_enter Try.func17 rfl (by decide) _ Try.ntmps17 (le_ok rfl) (fun w Pr hE => ?_)
  dsimp only [slotsOf, Nat.zero_add, Nat.reduceAdd]
  repeat' (first | (apply at_call; refine k_call (c1) hE ?_; rintro _ rfl) | refine nx ?_ | (apply aq_block_y; decide) | (apply qr_assign; refine r_assign ?_) | (apply at_cond; first | refine c_t ?_ | refine c_f ?_ | (refine aw_cond rfl (fun hb => ?_) (fun hb => ?_) <;> ((try have hq := dX hb); (try (exfalso; omega))))) | (apply qr_not; refine r_not ?_) | (apply qr_load; refine r_load ?_) | (apply qr_boxed; refine r_boxed ?_))
  refine rt1 ?_
  rfl
 rw [hr] at c1
 rw [if_pos rfl]
 have hel := errs_len x
 refine pure_enter Try.func17 rfl (by decide) _ Try.ntmps17 (le_ok rfl) (fun w Pr hE => ?_)
 dsimp only [slotsOf, Nat.zero_add, Nat.reduceAdd]
 repeat' (first | (apply at_call; refine k_call (c1) hE ?_; rintro _ rfl) | refine nx ?_ | (apply aq_block_y; decide) | (apply qr_move; refine r_move ?_) | (apply qr_assign; refine r_assign ?_) | (apply at_cond; first | refine c_t ?_ | refine c_f ?_ | (refine aw_cond rfl (fun hb => ?_) (fun hb => ?_) <;> ((try have hq := dX hb); (try (exfalso; omega))))) | (apply qr_not; refine r_not ?_) | (apply qr_len; refine r_len ?_) | (apply qr_load; refine r_load ?_) | (apply qr_faddr; refine r_faddr ?_) | (apply qr_boxed; refine r_boxed ?_))
 refine aw_lp (fun N sl ob => ∃ i : Nat, N = x.lets.length - i ∧ i ≤ x.lets.length ∧ noE (errsE x) i ∧ sl = [(20, .d (.int i)), (19, .d (.int x.lets.length)), (18, .d (letsD x.lets)), (1, .box 1 0)] ∧ ob = [(1, byO' x)]) (⟨0, rfl, Nat.zero_le _, noE.zero _, rfl, rfl⟩) ?_
 rintro N sl ob ⟨i, rfl, hi, ha, rfl, rfl⟩
 by_cases hlt : i < x.lets.length
 ·have hg : (x.lets.map letC)[i]? = some (letC x.lets[i]) := by rw [get_map hlt]
  have c2 := uof_any (x.lets.take i) x.lets[i].2 (by rw [List.length_take]; omega) (fun q hq => (ht.lets q (List.mem_of_mem_take hq)).2) (ht.lets _ (List.getElem_mem hlt)).2
  have he : letE x i = (ofU (x.lets.take i) x.lets[i].2).2.2 := by
   unfold letE
   rw [List.getD_eq_getElem?_getD, List.getElem?_eq_getElem hlt]
   rfl
  have hat := errs_let x hlt
  have hdt : (x.lets.take i).map letC = List.drop 0 (List.take i (x.lets.map letC)) := by rw [List.map_take]; rfl
  have hil : (i : Int) ≤ x.lets.length := by omega
  unfold ofD letsD at c2
  rw [hdt] at c2
  rw [he] at hat
  generalize ofU (x.lets.take i) x.lets[i].2 = r at c2 hat
  obtain ⟨u, p, c⟩ := r
  dsimp only at c2 hat
  generalize x.lets[i] = q at hg c2
  clear he hdt
  repeat' (first | (apply at_op (.indexAddr _ _ _); refine al_ixq hg ?_) | refine nx ?_ | (apply aq_block_y; decide) | (apply qr_move; refine r_move ?_) | (apply qr_assign; refine r_assign ?_) | (apply at_cond; first | refine c_t ?_ | refine c_f ?_ | (refine aw_cond rfl (fun hb => ?_) (fun hb => ?_) <;> ((try have hq := dX hb); (try (exfalso; omega))))) | (apply qr_lss; refine r_lss ?_) | (apply qr_ix; refine r_ix ?_) | (apply qr_load; refine r_load ?_) | (apply qr_alloc; refine r_alloc ?_) | (apply qr_store; refine r_store ?_))
  refine aw_tree ((.free 0 (.free 1 (.free 2 (.free 3 (.free 4 (.free 5 (.only 6 (.only 7 (.fork (.alt 8 (.free 11 (.fork (.alt 9 (.free 12 (.only 10 .tail)) (.alt 10 (.only 9 (.free 12 .tail)) .stop)))) (.alt 9 (.fork (.alt 8 (.free 11 (.free 12 (.only 10 .tail))) (.alt 10 (.only 8 (.free 11 (.free 12 .tail))) .stop))) (.alt 10 (.fork (.alt 8 (.free 11 (.only 9 (.free 12 .tail))) (.alt 9 (.only 8 (.free 11 (.free 12 .tail))) .stop))) .stop))))))))))))) [13] ([(4, .box 46 ((letC q).map V.d)), (1, byO' x)]) ([(35, .d (.int c)), (20, .d (.int i)), (19, .d (.int x.lets.length)), (18, .d (letsD x.lets)), (1, .box 1 0)]) ([(1, byO' x)]) (by kernel_rfl) (by kernel_rfl) (by kernel_rfl) rfl (by decide) (by (repeat (first | exact obs_nil | (apply obs_cons; focus (first | rfl | (simp [find]; done)))))) (fun hrest => ?_) ?_
  ·simp only [tailed, List.filterMap_cons, List.filterMap_nil, List.getElem?_cons_zero, List.getElem?_cons_succ] at hrest
   repeat' (first | apply am_fork | apply am_alt | exact am_stop | refine am_free rfl ?_ | refine am_only rfl ?_ | refine am_leaf hrest (by (repeat (first | exact sub_nil | (apply sub_cons; focus (first | rfl | exact vint (by first | omega) | (simp [look]; done)))))) (by (repeat (first | exact obs_nil | (apply obs_cons; focus (first | rfl | (simp [find]; done)))))) | refine m_skip ?_ | refine n_skip ?_ | (apply at_mcall; refine m_call (c2) hE ?_; rintro _ rfl; (try dsimp only [flat, D.plain, D.plainL])) | (apply at_am (.move _); refine am_nowd (by first | exact want_none | exact want_yes rfl rfl (by assumption) | exact want_yes rfl rfl (by with_reducible rfl)) (y_move rfl) (lt_ok rfl) ?_; dsimp only [flatV, flat, D.plain, D.plainL]) | (apply at_am (.extract _ _); refine am_nowd (by first | exact want_none | exact want_yes rfl rfl (by assumption) | exact want_yes rfl rfl (by with_reducible rfl)) (y_extract rfl rfl) (lt_ok rfl) ?_; dsimp only [flatV, flat, D.plain, D.plainL]) | (apply qm_move; refine m_move ?_) | (apply qn_move; refine n_move ?_) | (apply qm_assign; refine m_assign ?_) | (apply qn_extract; refine n_extract ?_) | (apply qm_slice; refine m_slice ?_) | (apply qm_load; refine m_load ?_) | (apply qm_faddr; refine m_faddr ?_) | (apply at_am (.alloc _); refine am_alloc (by first | exact want_none | exact want_yes rfl rfl (by assumption) | exact want_yes rfl rfl (by with_reducible rfl)) rfl (by first | (simp only [normV, normList, normMap]; rfl) | rfl) rfl (lt_ok rfl) rfl rfl rfl ?_) | (apply at_am (.store _ _ _); first | refine am_store (by first | exact want_none | exact want_yes rfl rfl (by assumption) | exact want_yes rfl rfl (by with_reducible rfl)) rfl rfl rfl (ev_d rfl) nofun (by first | (simp only [normV, normList, normMap]; rfl) | rfl) (by simp [V.one, Value.oneCell']) (.inl ⟨rfl, rfl⟩) rfl (le_ok rfl) (by first | (simp only [normV, normList, normMap]; rfl) | rfl) ?_ | refine am_store (by first | exact want_none | exact want_yes rfl rfl (by assumption) | exact want_yes rfl rfl (by with_reducible rfl)) rfl rfl rfl (ev_d rfl) nofun (by first | (simp only [normV, normList, normMap]; rfl) | rfl) (by simp [V.one, Value.oneCell']) (.inr rfl) rfl (le_ok rfl) (by first | (simp only [normV, normList, normMap]; rfl) | rfl) ?_) | (refine am_split rfl rfl (fun hb => ?_) (fun hb => ?_) <;> ((try have hq := dX hb); (try (exfalso; omega)))))
  simp only [tailed, List.filterMap_cons, List.filterMap_nil, List.getElem?_cons_zero, List.getElem?_cons_succ]
  by_cases hc : c = 0
  ·subst hc
   have hn := ha.succ hat
   repeat' (first | refine nx ?_ | (apply aq_block_y; decide) | (apply qr_move; refine r_move ?_) | (apply qr_assign; refine r_assign ?_) | (apply at_cond; first | refine c_t ?_ | refine c_f ?_ | (refine aw_cond rfl (fun hb => ?_) (fun hb => ?_) <;> ((try have hq := dX hb); (try (exfalso; omega))))) | (apply qr_neq; refine r_neq ?_) | (apply qr_add; refine r_add ?_) | (apply qr_extract; refine r_extract ?_) | (apply qr_slice; refine r_slice ?_) | (apply qr_load; refine r_load ?_) | (apply qr_faddr; refine r_faddr ?_))
   refine aq_rd (⟨i + 1, rfl, by omega, hn, rfl, rfl⟩) (by omega)
  ·have hf := first_at hat hc ha
   have q1 : (!decide (c = 0)) = true := by
    rw [decide_eq_false hc]
    rfl
   rw [hf]
   repeat' (first | refine nx ?_ | (apply aq_block_y; decide) | (apply qr_move; refine r_move ?_) | (apply qr_assign; refine r_assign ?_) | (apply at_cond; first | refine c_t ?_ | refine c_f ?_ | (refine aw_cond rfl (fun hb => ?_) (fun hb => ?_) <;> ((try have hq := dX hb); (try (exfalso; omega))))) | (apply qr_neq; refine r_neq ?_) | (apply qr_extract; refine r_extract ?_) | (apply qr_slice; refine r_slice ?_) | (apply qr_load; refine r_load ?_) | (apply qr_faddr; refine r_faddr ?_))
   refine rt1 ?_
   rfl
 ·obtain rfl : i = x.lets.length := by omega
  repeat' (first | refine nx ?_ | (apply aq_block_y; decide) | (apply qr_move; refine r_move ?_) | (apply at_cond; first | refine c_t ?_ | refine c_f ?_ | (refine aw_cond rfl (fun hb => ?_) (fun hb => ?_) <;> ((try have hq := dX hb); (try (exfalso; omega))))) | (apply qr_lss; refine r_lss ?_) | (apply qr_len; refine r_len ?_) | (apply qr_load; refine r_load ?_) | (apply qr_faddr; refine r_faddr ?_) | (apply qr_lits; refine r_lits ?_))
  refine aw_lp (fun N sl ob => ∃ k : Nat, N = 4 - k ∧ k ≤ 4 ∧ noE (errsE x) (x.lets.length + k) ∧ sl = [(50, .d (.int k)), (49, .d (.int 4)), (48, .d (.list 5 [exC x.admit, exC x.fare, exC x.late, exC x.noshow])), (1, .box 1 0)] ∧ ob = [(1, byO' x)]) (⟨0, rfl, Nat.zero_le _, ha, rfl, rfl⟩) ?_
  clear ha
  rintro N sl ob ⟨k, rfl, hk, ha, rfl, rfl⟩
  by_cases hlt : k < 4
  ·have hg : [exC x.admit, exC x.fare, exC x.late, exC x.noshow][k]? = some (exC (x.parts.getD k nilE)) := by
    match k, hlt with
    | 0, _ => rfl
    | 1, _ => rfl
    | 2, _ => rfl
    | 3, _ => rfl
   have hat := parts_at x hlt
   rw [← errs_part] at hat
   have c3 := uof_any x.lets (x.parts.getD k nilE) hl (fun q hq => (ht.lets q hq).2) (by
    match k, hlt with
    | 0, _ => exact ht.admit
    | 1, _ => exact ht.fare
    | 2, _ => exact ht.late
    | 3, _ => exact ht.noshow)
   unfold partE at hat
   generalize x.parts.getD k nilE = e at hg c3 hat
   unfold ofD at c3
   generalize ofU x.lets e = r at c3 hat
   obtain ⟨u, p, c⟩ := r
   dsimp only at c3 hat
   by_cases hk0 : k = 0
   ·have q0 : decide ((k : Int) = 0) = true := decide_eq_true (by omega)
    rw [show wantU k = 3 by simp [wantU, hk0]] at hat
    clear hk0
    by_cases hc : c = 0
    ·subst hc
     rw [if_pos rfl] at hat
     by_cases hu : u = 3
     ·subst hu
      rw [if_pos rfl] at hat
      have hn := ha.succ hat
      rw [Nat.add_assoc] at hn
      repeat' (first | (apply at_op (.indexAddr _ _ _); refine al_ixq hg ?_) | (apply at_call; refine k_call (c3) hE ?_; rintro _ rfl) | refine nx ?_ | (apply aq_block_y; decide) | (apply qr_move; refine r_move ?_) | (apply qr_assign; refine r_assign ?_) | (apply at_cond; first | refine c_t ?_ | refine c_f ?_ | (refine aw_cond rfl (fun hb => ?_) (fun hb => ?_) <;> ((try have hq := dX hb); (try (exfalso; omega))))) | (apply qr_lss; refine r_lss ?_) | (apply qr_eql; refine r_eql ?_) | (apply qr_neq; refine r_neq ?_) | (apply qr_add; refine r_add ?_) | (apply qr_extract; refine r_extract ?_) | (apply qr_ix; refine r_ix ?_) | (apply qr_load; refine r_load ?_) | (apply qr_faddr; refine r_faddr ?_) | (apply qr_alloc; refine r_alloc ?_) | (apply qr_store; refine r_store ?_))
      refine aq_rd (⟨k + 1, rfl, by omega, hn, rfl, rfl⟩) (by omega)
     ·rw [if_neg hu] at hat
      have hf := first_at hat (by decide) ha
      have q1 : (!decide (u = 3)) = true := by
       rw [decide_eq_false hu]
       rfl
      rw [hf]
      repeat' (first | (apply at_op (.indexAddr _ _ _); refine al_ixq hg ?_) | (apply at_call; refine k_call (c3) hE ?_; rintro _ rfl) | refine nx ?_ | (apply aq_block_y; decide) | (apply qr_move; refine r_move ?_) | (apply qr_assign; refine r_assign ?_) | (apply at_cond; first | refine c_t ?_ | refine c_f ?_ | (refine aw_cond rfl (fun hb => ?_) (fun hb => ?_) <;> ((try have hq := dX hb); (try (exfalso; omega))))) | (apply qr_lss; refine r_lss ?_) | (apply qr_eql; refine r_eql ?_) | (apply qr_neq; refine r_neq ?_) | (apply qr_extract; refine r_extract ?_) | (apply qr_ix; refine r_ix ?_) | (apply qr_load; refine r_load ?_) | (apply qr_faddr; refine r_faddr ?_) | (apply qr_alloc; refine r_alloc ?_) | (apply qr_store; refine r_store ?_))
      refine rt1 ?_
      rfl
    ·rw [if_neg hc] at hat
     have hf := first_at hat hc ha
     have q1 : (!decide (c = 0)) = true := by
      rw [decide_eq_false hc]
      rfl
     rw [hf]
     repeat' (first | (apply at_op (.indexAddr _ _ _); refine al_ixq hg ?_) | (apply at_call; refine k_call (c3) hE ?_; rintro _ rfl) | refine nx ?_ | (apply aq_block_y; decide) | (apply qr_move; refine r_move ?_) | (apply qr_assign; refine r_assign ?_) | (apply at_cond; first | refine c_t ?_ | refine c_f ?_ | (refine aw_cond rfl (fun hb => ?_) (fun hb => ?_) <;> ((try have hq := dX hb); (try (exfalso; omega))))) | (apply qr_lss; refine r_lss ?_) | (apply qr_eql; refine r_eql ?_) | (apply qr_neq; refine r_neq ?_) | (apply qr_extract; refine r_extract ?_) | (apply qr_ix; refine r_ix ?_) | (apply qr_load; refine r_load ?_) | (apply qr_faddr; refine r_faddr ?_) | (apply qr_alloc; refine r_alloc ?_) | (apply qr_store; refine r_store ?_))
     refine rt1 ?_
     rfl
   ·have q0 : decide ((k : Int) = 0) = false := decide_eq_false (by omega)
    rw [show wantU k = 1 by simp [wantU, hk0]] at hat
    clear hk0
    by_cases hc : c = 0
    ·subst hc
     rw [if_pos rfl] at hat
     by_cases hu : u = 1
     ·subst hu
      rw [if_pos rfl] at hat
      have hn := ha.succ hat
      rw [Nat.add_assoc] at hn
      repeat' (first | (apply at_op (.indexAddr _ _ _); refine al_ixq hg ?_) | (apply at_call; refine k_call (c3) hE ?_; rintro _ rfl) | refine nx ?_ | (apply aq_block_y; decide) | (apply qr_move; refine r_move ?_) | (apply qr_assign; refine r_assign ?_) | (apply at_cond; first | refine c_t ?_ | refine c_f ?_ | (refine aw_cond rfl (fun hb => ?_) (fun hb => ?_) <;> ((try have hq := dX hb); (try (exfalso; omega))))) | (apply qr_lss; refine r_lss ?_) | (apply qr_eql; refine r_eql ?_) | (apply qr_neq; refine r_neq ?_) | (apply qr_add; refine r_add ?_) | (apply qr_extract; refine r_extract ?_) | (apply qr_ix; refine r_ix ?_) | (apply qr_load; refine r_load ?_) | (apply qr_faddr; refine r_faddr ?_) | (apply qr_alloc; refine r_alloc ?_) | (apply qr_store; refine r_store ?_))
      refine aq_rd (⟨k + 1, rfl, by omega, hn, rfl, rfl⟩) (by omega)
     ·rw [if_neg hu] at hat
      have hf := first_at hat (by decide) ha
      have q1 : (!decide (u = 1)) = true := by
       rw [decide_eq_false hu]
       rfl
      rw [hf]
      repeat' (first | (apply at_op (.indexAddr _ _ _); refine al_ixq hg ?_) | (apply at_call; refine k_call (c3) hE ?_; rintro _ rfl) | refine nx ?_ | (apply aq_block_y; decide) | (apply qr_move; refine r_move ?_) | (apply qr_assign; refine r_assign ?_) | (apply at_cond; first | refine c_t ?_ | refine c_f ?_ | (refine aw_cond rfl (fun hb => ?_) (fun hb => ?_) <;> ((try have hq := dX hb); (try (exfalso; omega))))) | (apply qr_lss; refine r_lss ?_) | (apply qr_eql; refine r_eql ?_) | (apply qr_neq; refine r_neq ?_) | (apply qr_extract; refine r_extract ?_) | (apply qr_ix; refine r_ix ?_) | (apply qr_load; refine r_load ?_) | (apply qr_faddr; refine r_faddr ?_) | (apply qr_alloc; refine r_alloc ?_) | (apply qr_store; refine r_store ?_))
      refine rt1 ?_
      rfl
    ·rw [if_neg hc] at hat
     have hf := first_at hat hc ha
     have q1 : (!decide (c = 0)) = true := by
      rw [decide_eq_false hc]
      rfl
     rw [hf]
     repeat' (first | (apply at_op (.indexAddr _ _ _); refine al_ixq hg ?_) | (apply at_call; refine k_call (c3) hE ?_; rintro _ rfl) | refine nx ?_ | (apply aq_block_y; decide) | (apply qr_move; refine r_move ?_) | (apply qr_assign; refine r_assign ?_) | (apply at_cond; first | refine c_t ?_ | refine c_f ?_ | (refine aw_cond rfl (fun hb => ?_) (fun hb => ?_) <;> ((try have hq := dX hb); (try (exfalso; omega))))) | (apply qr_lss; refine r_lss ?_) | (apply qr_eql; refine r_eql ?_) | (apply qr_neq; refine r_neq ?_) | (apply qr_extract; refine r_extract ?_) | (apply qr_ix; refine r_ix ?_) | (apply qr_load; refine r_load ?_) | (apply qr_faddr; refine r_faddr ?_) | (apply qr_alloc; refine r_alloc ?_) | (apply qr_store; refine r_store ?_))
     refine rt1 ?_
     rfl
  ·obtain rfl : k = 4 := by omega
   have h0 : firstE (errsE x) = 0 := first_no (by rw [hel]; exact ha)
   rw [h0]
   repeat' (first | refine nx ?_ | (apply aq_block_y; decide) | (apply qr_assign; refine r_assign ?_) | (apply at_cond; first | refine c_t ?_ | refine c_f ?_ | (refine aw_cond rfl (fun hb => ?_) (fun hb => ?_) <;> ((try have hq := dX hb); (try (exfalso; omega))))) | (apply qr_lss; refine r_lss ?_))
   refine rt1 ?_
   rfl
end Go.Proofs.Ytgiacdhffklenaa
end
section
set_option linter.unusedSimpArgs false
set_option linter.unusedVariables false
namespace Go.Proofs.Ytgiacdhffklenaa
open Go.RowKit
theorem dints_get {l : List Int} {i : Nat} (h : i < l.length) : (l.map fun n => [D.int n])[i]? = some [D.int l[i]] := by
 rw [List.getElem?_map, List.getElem?_eq_getElem h]
 rfl
theorem take_eq_succ {p q : List Int} {i : Nat} (hp : i < p.length) (hq : i < q.length) (h : p.take i = q.take i) (he : p[i] = q[i]) : p.take (i + 1) = q.take (i + 1) := by
 rw [List.take_succ_eq_append_getElem hp, List.take_succ_eq_append_getElem hq, h, he]
theorem ints_any (p q : List Int) (hp : p.length ≤ 100000) : PureC 16 [intsD p, intsD q] (· = .bool (decide (p = q))) := by
 have hlp : (p.map fun n => [D.int n]).length = p.length := List.length_map ..
 have hlq : (q.map fun n => [D.int n]).length = q.length := List.length_map ..
 by_cases hl : p.length = q.length
 rotate_left 1
 ·have h0 : decide (p = q) = false := decide_eq_false fun e => hl (by rw [e])
  have q0 : (!decide ((p.length : Int) = q.length)) = true := by
   rw [decide_eq_false (by omega)]
   rfl
  rw [h0]
  refine pure_enter Try.func16 rfl (by decide) _ Try.ntmps16 (le_ok rfl) (fun w Pr hE => ?_)
  dsimp only [slotsOf, Nat.zero_add, Nat.reduceAdd]
  repeat' (first | refine nx ?_ | (apply aq_block_y; decide) | (apply qr_move; refine r_move ?_) | (apply qr_assign; refine r_assign ?_) | (apply at_cond; first | refine c_t ?_ | refine c_f ?_ | (refine aw_cond rfl (fun hb => ?_) (fun hb => ?_) <;> ((try have hq := dX hb); (try (exfalso; omega))))) | (apply qr_neq; refine r_neq ?_) | (apply qr_len; refine r_len ?_))
  refine rt1 ?_
  rfl
 have q0 : (!decide ((p.length : Int) = q.length)) = false := by
  rw [decide_eq_true (by omega)]
  rfl
 refine pure_enter Try.func16 rfl (by decide) _ Try.ntmps16 (le_ok rfl) (fun w Pr hE => ?_)
 dsimp only [slotsOf, Nat.zero_add, Nat.reduceAdd]
 repeat' (first | refine nx ?_ | (apply aq_block_y; decide) | (apply qr_move; refine r_move ?_) | (apply qr_assign; refine r_assign ?_) | (apply at_cond; first | refine c_t ?_ | refine c_f ?_ | (refine aw_cond rfl (fun hb => ?_) (fun hb => ?_) <;> ((try have hq := dX hb); (try (exfalso; omega))))) | (apply qr_neq; refine r_neq ?_) | (apply qr_len; refine r_len ?_))
 clear q0
 refine aw_lp (fun N sl ob => ∃ i : Nat, N = p.length - i ∧ i ≤ p.length ∧ p.take i = q.take i ∧ sl = [(5, .d (.int i)), (1, .d (intsD q)), (0, .d (intsD p))] ∧ ob = []) (⟨0, rfl, Nat.zero_le _, rfl, rfl, rfl⟩) ?_
 rintro N sl ob ⟨i, rfl, hi, hs, rfl, rfl⟩
 by_cases hlt : i < p.length
 ·have hlt2 : i < q.length := by omega
  have hg1 := dints_get hlt
  have hg2 := dints_get hlt2
  by_cases he : p[i] = q[i]
  ·have hn := take_eq_succ hlt hlt2 hs he
   have q1 : (!decide (p[i] = q[i])) = false := by
    rw [decide_eq_true he]
    rfl
   generalize p[i] = a at *
   generalize q[i] = b at *
   repeat' (first | refine nx ?_ | (apply aq_block_y; decide) | (apply qr_move; refine r_move ?_) | (apply at_cond; first | refine c_t ?_ | refine c_f ?_ | (refine aw_cond rfl (fun hb => ?_) (fun hb => ?_) <;> ((try have hq := dX hb); (try (exfalso; omega))))) | (apply qr_lss; refine r_lss ?_) | (apply qr_len; refine r_len ?_))
   refine aw_mixo ([]) [(0, true), (1, true), (2, true), (3, true), (4, true), (5, true), (6, true), (7, true), (8, true)] [] (by kernel_rfl) (by kernel_rfl) (by kernel_rfl) (by decide) (by (repeat (first | exact obs_nil | (apply obs_cons; focus (first | rfl | (simp [find]; done)))))) ?_
   simp only [planned, tailed, List.filterMap_cons, List.filterMap_nil, List.getElem?_cons_zero, List.getElem?_cons_succ, Option.map_some]
   repeat' (first | apply am_nil | refine m_skip ?_ | refine n_skip ?_ | (apply at_am (.indexAddr _ _ _); refine am_y (by first | exact want_none | exact want_yes rfl rfl (by assumption) | exact want_yes rfl rfl (by with_reducible rfl)) (y_ix (by first | exact ToD.d _ | exact ToD.row _ _ _ _ _ rfl) rfl rfl (by first | with_reducible rfl | exact lit0 | exact lit1 | exact lit2 | exact lit3 | exact lit4 | exact int_s _ | exact int_p _ _ | exact int_nat _ (by omega)) hg1) (lt_ok rfl) ?_; clear hg1) | (apply at_am (.indexAddr _ _ _); refine am_y (by first | exact want_none | exact want_yes rfl rfl (by assumption) | exact want_yes rfl rfl (by with_reducible rfl)) (y_ix (by first | exact ToD.d _ | exact ToD.row _ _ _ _ _ rfl) rfl rfl (by first | with_reducible rfl | exact lit0 | exact lit1 | exact lit2 | exact lit3 | exact lit4 | exact int_s _ | exact int_p _ _ | exact int_nat _ (by omega)) hg2) (lt_ok rfl) ?_) | (apply qm_move; refine m_move ?_) | (apply qm_neq; refine m_neq ?_) | (apply qm_ix; refine m_ix ?_) | (apply qm_load; refine m_load ?_) | (refine am_split rfl rfl (fun hb => ?_) (fun hb => ?_) <;> ((try have hq := dX hb); (try (exfalso; omega)))))
   repeat' (first | refine nx ?_ | (apply aq_block_y; decide) | (apply qr_move; refine r_move ?_) | (apply qr_assign; refine r_assign ?_) | (apply at_cond; first | refine c_t ?_ | refine c_f ?_ | (refine aw_cond rfl (fun hb => ?_) (fun hb => ?_) <;> ((try have hq := dX hb); (try (exfalso; omega))))) | (apply qr_neq; refine r_neq ?_) | (apply qr_add; refine r_add ?_) | (apply qr_ix; refine r_ix ?_) | (apply qr_load; refine r_load ?_))
   refine aq_rd (⟨i + 1, rfl, by omega, hn, rfl, rfl⟩) (by omega)
  ·have h0 : decide (p = q) = false := decide_eq_false fun e => he (by subst e; rfl)
   have q1 : (!decide (p[i] = q[i])) = true := by
    rw [decide_eq_false he]
    rfl
   rw [h0]
   generalize p[i] = a at *
   generalize q[i] = b at *
   repeat' (first | refine nx ?_ | (apply aq_block_y; decide) | (apply qr_move; refine r_move ?_) | (apply at_cond; first | refine c_t ?_ | refine c_f ?_ | (refine aw_cond rfl (fun hb => ?_) (fun hb => ?_) <;> ((try have hq := dX hb); (try (exfalso; omega))))) | (apply qr_lss; refine r_lss ?_) | (apply qr_len; refine r_len ?_))
   refine aw_mixo ([]) [(0, true), (1, true), (2, true), (3, true), (4, true), (5, true), (6, true), (7, true), (8, true)] [] (by kernel_rfl) (by kernel_rfl) (by kernel_rfl) (by decide) (by (repeat (first | exact obs_nil | (apply obs_cons; focus (first | rfl | (simp [find]; done)))))) ?_
   simp only [planned, tailed, List.filterMap_cons, List.filterMap_nil, List.getElem?_cons_zero, List.getElem?_cons_succ, Option.map_some]
   repeat' (first | apply am_nil | refine m_skip ?_ | refine n_skip ?_ | (apply at_am (.indexAddr _ _ _); refine am_y (by first | exact want_none | exact want_yes rfl rfl (by assumption) | exact want_yes rfl rfl (by with_reducible rfl)) (y_ix (by first | exact ToD.d _ | exact ToD.row _ _ _ _ _ rfl) rfl rfl (by first | with_reducible rfl | exact lit0 | exact lit1 | exact lit2 | exact lit3 | exact lit4 | exact int_s _ | exact int_p _ _ | exact int_nat _ (by omega)) hg1) (lt_ok rfl) ?_; clear hg1) | (apply at_am (.indexAddr _ _ _); refine am_y (by first | exact want_none | exact want_yes rfl rfl (by assumption) | exact want_yes rfl rfl (by with_reducible rfl)) (y_ix (by first | exact ToD.d _ | exact ToD.row _ _ _ _ _ rfl) rfl rfl (by first | with_reducible rfl | exact lit0 | exact lit1 | exact lit2 | exact lit3 | exact lit4 | exact int_s _ | exact int_p _ _ | exact int_nat _ (by omega)) hg2) (lt_ok rfl) ?_) | (apply qm_move; refine m_move ?_) | (apply qm_neq; refine m_neq ?_) | (apply qm_ix; refine m_ix ?_) | (apply qm_load; refine m_load ?_) | (refine am_split rfl rfl (fun hb => ?_) (fun hb => ?_) <;> ((try have hq := dX hb); (try (exfalso; omega)))))
   repeat' (first | refine nx ?_ | (apply aq_block_y; decide) | (apply qr_move; refine r_move ?_) | (apply qr_assign; refine r_assign ?_) | (apply at_cond; first | refine c_t ?_ | refine c_f ?_ | (refine aw_cond rfl (fun hb => ?_) (fun hb => ?_) <;> ((try have hq := dX hb); (try (exfalso; omega))))) | (apply qr_neq; refine r_neq ?_) | (apply qr_ix; refine r_ix ?_) | (apply qr_load; refine r_load ?_))
   refine rt1 ?_
   rfl
 ·have h0 : decide (p = q) = true := decide_eq_true (by rw [List.take_of_length_le (by omega), List.take_of_length_le (by omega)] at hs; exact hs)
  rw [h0]
  repeat' (first | refine nx ?_ | (apply aq_block_y; decide) | (apply qr_move; refine r_move ?_) | (apply qr_assign; refine r_assign ?_) | (apply at_cond; first | refine c_t ?_ | refine c_f ?_ | (refine aw_cond rfl (fun hb => ?_) (fun hb => ?_) <;> ((try have hq := dX hb); (try (exfalso; omega))))) | (apply qr_lss; refine r_lss ?_) | (apply qr_len; refine r_len ?_))
  refine rt1 ?_
  rfl
def zeroA : List D := [.int 0, .int 0, .int 0, .str ⟨#[]⟩, .val (.slice none 0 0)]
def atD : Option Ex → D
 | some x => .tup [.agg (exC x), .bool true]
 | none => .tup [.agg zeroA, .bool false]
theorem at_len {e : Ex} (he : e.tame) : e.args.length ≤ 100000 := by
 have := tame_len he
 omega
theorem at_any (e : Ex) (p : List Int) (he : e.tame) (hp : p.length ≤ 100000) : PureC 19 [.agg (exC e), intsD p] (· = atD (atP e p)) := by
 have hlp : (p.map fun n => [D.int n]).length = p.length := List.length_map ..
 refine pure_enter Try.func19 rfl (by decide) _ Try.ntmps19 (le_ok rfl) (fun w Pr hE => ?_)
 dsimp only [slotsOf, Nat.zero_add, Nat.reduceAdd]
 repeat' (first | refine nx ?_ | (apply aq_block_y; decide) | (apply qr_assign; refine r_assign ?_) | (apply at_cond; first | refine c_t ?_ | refine c_f ?_ | (refine aw_cond rfl (fun hb => ?_) (fun hb => ?_) <;> ((try have hq := dX hb); (try (exfalso; omega))))) | (apply qr_alloc; refine r_alloc ?_) | (apply qr_boxed; refine r_boxed ?_))
 refine aw_lp (fun N sl ob => ∃ (i : Nat) (x : Ex), N = p.length - i ∧ i ≤ p.length ∧ x.tame ∧ atP x (p.drop i) = atP e p ∧ sl = [(6, .d (.int i)), (4, .box 4 0), (2, .box 2 0), (1, .d (intsD p))] ∧ ob = [(4, .box 25 (zeroA.map V.d)), (2, exO' x)]) (⟨0, e, rfl, Nat.zero_le _, he, rfl, rfl, rfl⟩) ?_
 rintro N sl ob ⟨i, x, rfl, hi, hx, hs, rfl, rfl⟩
 by_cases hlt : i < p.length
 ·have hg1 := dints_get hlt
  have hd : p.drop i = p[i] :: p.drop (i + 1) := List.drop_eq_getElem_cons hlt
  rw [hd] at hs
  simp only [atP] at hs
  have hla := rows_len x.args
  have hll := at_len hx
  have hxr : (Ex.rows x.args).length = x.args.length := hla
  by_cases hn : p[i] < 0 ∨ (x.args.length : Int) ≤ p[i]
  ·rw [if_pos hn] at hs
   rw [← hs]
   generalize p[i] = n at hg1 hn
   rcases Int.lt_or_le n 0 with h0 | h0
   ·have q1 : decide (n < 0) = true := decide_eq_true h0
    clear hn h0 hs
    repeat' (first | refine nx ?_ | (apply aq_block_y; decide) | (apply qr_move; refine r_move ?_) | (apply at_cond; first | refine c_t ?_ | refine c_f ?_ | (refine aw_cond rfl (fun hb => ?_) (fun hb => ?_) <;> ((try have hq := dX hb); (try (exfalso; omega))))) | (apply qr_lss; refine r_lss ?_) | (apply qr_len; refine r_len ?_))
    refine aw_mixo ([(2, exO' x)]) [(0, true), (1, true), (2, true), (3, true), (4, true), (5, true), (6, true), (7, true), (8, true), (9, true), (10, true), (11, true), (12, true), (13, true), (14, true)] [] (by kernel_rfl) (by kernel_rfl) (by kernel_rfl) (by decide) (by (repeat (first | exact obs_nil | (apply obs_cons; focus (first | rfl | (simp [find]; done)))))) ?_
    simp only [planned, tailed, List.filterMap_cons, List.filterMap_nil, List.getElem?_cons_zero, List.getElem?_cons_succ, Option.map_some]
    repeat' (first | apply am_nil | refine m_skip ?_ | refine n_skip ?_ | (apply at_am (.indexAddr _ _ _); refine am_y (by first | exact want_none | exact want_yes rfl rfl (by assumption) | exact want_yes rfl rfl (by with_reducible rfl)) (y_ix (by first | exact ToD.d _ | exact ToD.row _ _ _ _ _ rfl) rfl rfl (by first | with_reducible rfl | exact lit0 | exact lit1 | exact lit2 | exact lit3 | exact lit4 | exact int_s _ | exact int_p _ _ | exact int_nat _ (by omega)) hg1) (lt_ok rfl) ?_) | (apply qm_move; refine m_move ?_) | (apply qm_pick; refine m_pick ?_) | (apply qm_lss; refine m_lss ?_) | (apply qm_geq; refine m_geq ?_) | (apply qm_len; refine m_len ?_) | (apply qm_ix; refine m_ix ?_) | (apply qm_load; refine m_load ?_) | (apply qm_faddr; refine m_faddr ?_) | (refine am_split rfl rfl (fun hb => ?_) (fun hb => ?_) <;> ((try have hq := dX hb); (try (exfalso; omega)))))
    repeat' (first | refine nx ?_ | (apply aq_block_y; decide) | (apply qr_move; refine r_move ?_) | (apply qr_assign; refine r_assign ?_) | (apply at_cond; first | refine c_t ?_ | refine c_f ?_ | (refine aw_cond rfl (fun hb => ?_) (fun hb => ?_) <;> ((try have hq := dX hb); (try (exfalso; omega))))) | (apply at_guard; first | refine g_go ?_ | refine g_nt ?_ | refine g_nf ?_ | refine g_nu ?_ | ((first | refine al_split_t rfl rfl (lt_ok rfl) (fun hb => ?_) (fun hb => ?_) | refine al_split_f rfl rfl (lt_ok rfl) (fun hb => ?_) (fun hb => ?_)) <;> ((try have hq := dX hb); (try (exfalso; omega))))) | (apply qr_pick; refine r_pick ?_) | (apply qr_lss; refine r_lss ?_) | (apply qr_geq; refine r_geq ?_) | (apply qr_len; refine r_len ?_) | (apply qr_ix; refine r_ix ?_) | (apply qr_load; refine r_load ?_) | (apply qr_faddr; refine r_faddr ?_) | (apply qr_store; refine r_store ?_) | (apply qr_build; refine r_build ?_))
    refine ret2x (by rfl) (by first | exact ResX.tmp _ _ (by first | exact ToD.d _ | exact ToD.row _ _ _ _ _ rfl) | exact ResX.cellA _ _ _ _ _ _ _ rfl rfl rfl (by first | (simp only [normV, normList, normMap]; rfl) | rfl) rfl | exact ResX.cell1 _ _ _ _ _ _ rfl rfl rfl (by first | exact ToD.d _ | exact ToD.row _ _ _ _ _ rfl)) (by first | exact ResX.tmp _ _ (by first | exact ToD.d _ | exact ToD.row _ _ _ _ _ rfl) | exact ResX.cellA _ _ _ _ _ _ _ rfl rfl rfl (by first | (simp only [normV, normList, normMap]; rfl) | rfl) rfl | exact ResX.cell1 _ _ _ _ _ _ rfl rfl rfl (by first | exact ToD.d _ | exact ToD.row _ _ _ _ _ rfl)) ?_
    rfl
   ·have q1 : decide (n < 0) = false := decide_eq_false (by omega)
    have q2 : decide (((Ex.rows x.args).length : Int) ≤ n) = true := decide_eq_true (by omega)
    clear hn h0 hs
    repeat' (first | refine nx ?_ | (apply aq_block_y; decide) | (apply qr_move; refine r_move ?_) | (apply at_cond; first | refine c_t ?_ | refine c_f ?_ | (refine aw_cond rfl (fun hb => ?_) (fun hb => ?_) <;> ((try have hq := dX hb); (try (exfalso; omega))))) | (apply qr_lss; refine r_lss ?_) | (apply qr_len; refine r_len ?_))
    refine aw_mixo ([(2, exO' x)]) [(0, true), (1, true), (2, true), (3, true), (4, true), (5, true), (6, true), (7, true), (8, true), (9, true), (10, true), (11, true), (12, true), (13, true), (14, true)] [] (by kernel_rfl) (by kernel_rfl) (by kernel_rfl) (by decide) (by (repeat (first | exact obs_nil | (apply obs_cons; focus (first | rfl | (simp [find]; done)))))) ?_
    simp only [planned, tailed, List.filterMap_cons, List.filterMap_nil, List.getElem?_cons_zero, List.getElem?_cons_succ, Option.map_some]
    repeat' (first | apply am_nil | refine m_skip ?_ | refine n_skip ?_ | (apply at_am (.indexAddr _ _ _); refine am_y (by first | exact want_none | exact want_yes rfl rfl (by assumption) | exact want_yes rfl rfl (by with_reducible rfl)) (y_ix (by first | exact ToD.d _ | exact ToD.row _ _ _ _ _ rfl) rfl rfl (by first | with_reducible rfl | exact lit0 | exact lit1 | exact lit2 | exact lit3 | exact lit4 | exact int_s _ | exact int_p _ _ | exact int_nat _ (by omega)) hg1) (lt_ok rfl) ?_) | (apply qm_move; refine m_move ?_) | (apply qm_pick; refine m_pick ?_) | (apply qm_lss; refine m_lss ?_) | (apply qm_geq; refine m_geq ?_) | (apply qm_len; refine m_len ?_) | (apply qm_ix; refine m_ix ?_) | (apply qm_load; refine m_load ?_) | (apply qm_faddr; refine m_faddr ?_) | (refine am_split rfl rfl (fun hb => ?_) (fun hb => ?_) <;> ((try have hq := dX hb); (try (exfalso; omega)))))
    repeat' (first | refine nx ?_ | (apply aq_block_y; decide) | (apply qr_move; refine r_move ?_) | (apply qr_assign; refine r_assign ?_) | (apply at_cond; first | refine c_t ?_ | refine c_f ?_ | (refine aw_cond rfl (fun hb => ?_) (fun hb => ?_) <;> ((try have hq := dX hb); (try (exfalso; omega))))) | (apply at_guard; first | refine g_go ?_ | refine g_nt ?_ | refine g_nf ?_ | refine g_nu ?_ | ((first | refine al_split_t rfl rfl (lt_ok rfl) (fun hb => ?_) (fun hb => ?_) | refine al_split_f rfl rfl (lt_ok rfl) (fun hb => ?_) (fun hb => ?_)) <;> ((try have hq := dX hb); (try (exfalso; omega))))) | (apply qr_pick; refine r_pick ?_) | (apply qr_lss; refine r_lss ?_) | (apply qr_geq; refine r_geq ?_) | (apply qr_len; refine r_len ?_) | (apply qr_ix; refine r_ix ?_) | (apply qr_load; refine r_load ?_) | (apply qr_faddr; refine r_faddr ?_) | (apply qr_store; refine r_store ?_) | (apply qr_build; refine r_build ?_))
    refine ret2x (by rfl) (by first | exact ResX.tmp _ _ (by first | exact ToD.d _ | exact ToD.row _ _ _ _ _ rfl) | exact ResX.cellA _ _ _ _ _ _ _ rfl rfl rfl (by first | (simp only [normV, normList, normMap]; rfl) | rfl) rfl | exact ResX.cell1 _ _ _ _ _ _ rfl rfl rfl (by first | exact ToD.d _ | exact ToD.row _ _ _ _ _ rfl)) (by first | exact ResX.tmp _ _ (by first | exact ToD.d _ | exact ToD.row _ _ _ _ _ rfl) | exact ResX.cellA _ _ _ _ _ _ _ rfl rfl rfl (by first | (simp only [normV, normList, normMap]; rfl) | rfl) rfl | exact ResX.cell1 _ _ _ _ _ _ rfl rfl rfl (by first | exact ToD.d _ | exact ToD.row _ _ _ _ _ rfl)) ?_
    rfl
  ·rw [if_neg hn] at hs
   obtain ⟨k, hk⟩ : ∃ k : Nat, p[i] = (k : Int) := ⟨p[i].toNat, by omega⟩
   rw [hk] at hs hg1
   have hk2 : k < x.args.length := by omega
   rw [Int.toNat_natCast, getD_arg hk2] at hs
   have hg2 := rows_get hk2
   have hy := tame_get hx hk2
   have q1 : decide ((k : Int) < 0) = false := decide_eq_false (by omega)
   have q2 : decide (((Ex.rows x.args).length : Int) ≤ k) = false := decide_eq_false (by omega)
   clear hn hk
   generalize x.args[k] = y at hg2 hy hs
   repeat' (first | refine nx ?_ | (apply aq_block_y; decide) | (apply qr_move; refine r_move ?_) | (apply at_cond; first | refine c_t ?_ | refine c_f ?_ | (refine aw_cond rfl (fun hb => ?_) (fun hb => ?_) <;> ((try have hq := dX hb); (try (exfalso; omega))))) | (apply qr_lss; refine r_lss ?_) | (apply qr_len; refine r_len ?_))
   refine aw_mixo ([(2, exO' x)]) [(0, true), (1, true), (2, true), (3, true), (4, true), (5, true), (6, true), (7, true), (8, true), (9, true), (10, true), (11, true), (12, true), (13, true), (14, true)] [] (by kernel_rfl) (by kernel_rfl) (by kernel_rfl) (by decide) (by (repeat (first | exact obs_nil | (apply obs_cons; focus (first | rfl | (simp [find]; done)))))) ?_
   simp only [planned, tailed, List.filterMap_cons, List.filterMap_nil, List.getElem?_cons_zero, List.getElem?_cons_succ, Option.map_some]
   repeat' (first | apply am_nil | refine m_skip ?_ | refine n_skip ?_ | (apply at_am (.indexAddr _ _ _); refine am_y (by first | exact want_none | exact want_yes rfl rfl (by assumption) | exact want_yes rfl rfl (by with_reducible rfl)) (y_ix (by first | exact ToD.d _ | exact ToD.row _ _ _ _ _ rfl) rfl rfl (by first | with_reducible rfl | exact lit0 | exact lit1 | exact lit2 | exact lit3 | exact lit4 | exact int_s _ | exact int_p _ _ | exact int_nat _ (by omega)) hg1) (lt_ok rfl) ?_) | (apply qm_move; refine m_move ?_) | (apply qm_pick; refine m_pick ?_) | (apply qm_lss; refine m_lss ?_) | (apply qm_geq; refine m_geq ?_) | (apply qm_len; refine m_len ?_) | (apply qm_ix; refine m_ix ?_) | (apply qm_load; refine m_load ?_) | (apply qm_faddr; refine m_faddr ?_) | (refine am_split rfl rfl (fun hb => ?_) (fun hb => ?_) <;> ((try have hq := dX hb); (try (exfalso; omega)))))
   repeat' (first | refine nx ?_ | (apply aq_block_y; decide) | (apply qr_move; refine r_move ?_) | (apply at_cond; first | refine c_t ?_ | refine c_f ?_ | (refine aw_cond rfl (fun hb => ?_) (fun hb => ?_) <;> ((try have hq := dX hb); (try (exfalso; omega))))) | (apply at_guard; first | refine g_go ?_ | refine g_nt ?_ | refine g_nf ?_ | refine g_nu ?_ | ((first | refine al_split_t rfl rfl (lt_ok rfl) (fun hb => ?_) (fun hb => ?_) | refine al_split_f rfl rfl (lt_ok rfl) (fun hb => ?_) (fun hb => ?_)) <;> ((try have hq := dX hb); (try (exfalso; omega))))) | (apply qr_pick; refine r_pick ?_) | (apply qr_lss; refine r_lss ?_) | (apply qr_geq; refine r_geq ?_) | (apply qr_len; refine r_len ?_) | (apply qr_ix; refine r_ix ?_) | (apply qr_load; refine r_load ?_) | (apply qr_faddr; refine r_faddr ?_))
   refine aw_mixo ([(2, exO' x)]) [(0, true), (1, true), (2, true), (3, true), (4, true), (5, true), (6, true), (7, true)] [8] (by kernel_rfl) (by kernel_rfl) (by kernel_rfl) (by decide) (by (repeat (first | exact obs_nil | (apply obs_cons; focus (first | rfl | (simp [find]; done)))))) ?_
   simp only [planned, tailed, List.filterMap_cons, List.filterMap_nil, List.getElem?_cons_zero, List.getElem?_cons_succ, Option.map_some]
   repeat' (first | apply am_nil | refine m_skip ?_ | refine n_skip ?_ | (apply at_am (.indexAddr _ _ _); refine am_y (by first | exact want_none | exact want_yes rfl rfl (by assumption) | exact want_yes rfl rfl (by with_reducible rfl)) (y_ix (by first | exact ToD.d _ | exact ToD.row _ _ _ _ _ rfl) rfl rfl (by first | with_reducible rfl | exact lit0 | exact lit1 | exact lit2 | exact lit3 | exact lit4 | exact int_s _ | exact int_p _ _ | exact int_nat _ (by omega)) hg1) (lt_ok rfl) ?_; clear hg1) | (apply at_am (.indexAddr _ _ _); refine am_y (by first | exact want_none | exact want_yes rfl rfl (by assumption) | exact want_yes rfl rfl (by with_reducible rfl)) (y_ix (by first | exact ToD.d _ | exact ToD.row _ _ _ _ _ rfl) rfl rfl (by first | with_reducible rfl | exact lit0 | exact lit1 | exact lit2 | exact lit3 | exact lit4 | exact int_s _ | exact int_p _ _ | exact int_nat _ (by omega)) hg2) (lt_ok rfl) ?_) | (apply qm_move; refine m_move ?_) | (apply qm_ix; refine m_ix ?_) | (apply qm_load; refine m_load ?_) | (apply qm_faddr; refine m_faddr ?_) | (refine am_split rfl rfl (fun hb => ?_) (fun hb => ?_) <;> ((try have hq := dX hb); (try (exfalso; omega)))))
   repeat' (first | refine nx ?_ | (apply aq_block_y; decide) | (apply qr_move; refine r_move ?_) | (apply qr_assign; refine r_assign ?_) | (apply at_cond; first | refine c_t ?_ | refine c_f ?_ | (refine aw_cond rfl (fun hb => ?_) (fun hb => ?_) <;> ((try have hq := dX hb); (try (exfalso; omega))))) | (apply qr_add; refine r_add ?_) | (apply qr_ix; refine r_ix ?_) | (apply qr_load; refine r_load ?_) | (apply qr_faddr; refine r_faddr ?_) | (apply qr_store; refine r_store ?_))
   refine aq_rd (⟨i + 1, y, rfl, by omega, hy, hs, rfl, rfl⟩) (by omega)
 ·have hdr : p.drop i = [] := List.drop_of_length_le (by omega)
  rw [hdr] at hs
  rw [← hs]
  repeat' (first | refine nx ?_ | (apply aq_block_y; decide) | (apply qr_move; refine r_move ?_) | (apply qr_assign; refine r_assign ?_) | (apply at_cond; first | refine c_t ?_ | refine c_f ?_ | (refine aw_cond rfl (fun hb => ?_) (fun hb => ?_) <;> ((try have hq := dX hb); (try (exfalso; omega))))) | (apply qr_lss; refine r_lss ?_) | (apply qr_len; refine r_len ?_) | (apply qr_load; refine r_load ?_) | (apply qr_store; refine r_store ?_))
  refine ret2x (by rfl) (by first | exact ResX.tmp _ _ (by first | exact ToD.d _ | exact ToD.row _ _ _ _ _ rfl) | exact ResX.cellA _ _ _ _ _ _ _ rfl rfl rfl (by first | (simp only [normV, normList, normMap]; rfl) | rfl) rfl | exact ResX.cell1 _ _ _ _ _ _ rfl rfl rfl (by first | exact ToD.d _ | exact ToD.row _ _ _ _ _ rfl)) (by first | exact ResX.tmp _ _ (by first | exact ToD.d _ | exact ToD.row _ _ _ _ _ rfl) | exact ResX.cellA _ _ _ _ _ _ _ rfl rfl rfl (by first | (simp only [normV, normList, normMap]; rfl) | rfl) rfl | exact ResX.cell1 _ _ _ _ _ _ rfl rfl rfl (by first | exact ToD.d _ | exact ToD.row _ _ _ _ _ rfl)) ?_
  rfl
end Go.Proofs.Ytgiacdhffklenaa
end
section
set_option linter.unusedSimpArgs false
set_option linter.unusedVariables false
namespace Go.Proofs.Ytgiacdhffklenaa
open Go.RowKit
end Go.Proofs.Ytgiacdhffklenaa
end
section
namespace Go.Proofs.Ytgiacdhffklenaa
open Go.RowKit
def parseV (s : ByteArray) : By × Int × Int := match lexV s with
 | (L, p, e) => if e = 0 then (match bylawsP L with
  | .ok x _ => (x, 0, 0)
  | .bad q c => (By.zero, q, c)) else (By.zero, p, e)
def allP (l : List Tok) : Rd Ex := (readE l).then fun e t => if (nxt t).k = 3 then (if e.levels ≤ 12 then .ok e t else .bad (nxt t).p 6) else .bad (nxt t).p 12
def parseEV (s : ByteArray) : Ex × Int × Int := match lexV s with
 | (L, p, e) => if e = 0 then (match allP L with
  | .ok x _ => (x, 0, 0)
  | .bad q c => (Ex.zero, q, c)) else (Ex.zero, p, e)
end Go.Proofs.Ytgiacdhffklenaa
end
section
namespace Go.Proofs.Ytgiacdhffklenaa
open Go.RowKit
def decF : Nat → Nat → List UInt8
 | 0, _ => []
 | k + 1, u => if u < 10 then [UInt8.ofNat (48 + u)] else decF k (u / 10) ++ [UInt8.ofNat (48 + u % 10)]
def itoaF (n : Int) : ByteArray := if 0 ≤ n ∧ n < 10000 then ⟨(decF 4 n.toNat).toArray⟩ else itoaB n
def e_one : Ex := .mk 12 0 0 ⟨#[]⟩ [(.mk 10 0 0 ⟨#[]⟩ [(.mk 2 0 0 ⟨#[114, 105, 100, 101]⟩ [] : Ex), (.mk 6 0 0 ⟨#[]⟩ [(.mk 0 2 0 ⟨#[]⟩ [] : Ex), (.mk 3 0 0 ⟨#[102, 97, 118, 111, 117, 114]⟩ [] : Ex)] : Ex)] : Ex)]
def e_sum : Ex := .mk 4 0 0 ⟨#[]⟩ [(.mk 2 0 0 ⟨#[114, 105, 100, 101]⟩ [] : Ex), (.mk 0 5 2 ⟨#[]⟩ [] : Ex)]
def e_mul : Ex := .mk 6 0 0 ⟨#[]⟩ [.mk 0 3 0 ⟨#[]⟩ [], e_sum]
def t_one : ByteArray := ⟨#[110, 111, 116, 40, 116, 114, 105, 112, 32, 114, 105, 100, 101, 60, 50, 42, 109, 101, 109, 98, 101, 114, 32, 102, 97, 118, 111, 117, 114, 41]⟩
def t_text : ByteArray := { data := (([98, 121, 108, 97, 119, 115, 32, 99, 105, 116, 121, 32, 59, 32, 108, 101, 116, 32, 98, 97, 115, 101, 32, 61, 32, 50, 48, 48, 32, 99, 101, 110, 116, 115, 32, 59, 32, 97, 100, 109, 105, 116, 32, 116, 114, 105, 112].append [32, 114, 105, 100, 101, 114, 115, 32, 60, 32, 53, 32, 97, 110, 100, 32, 109, 101, 109, 98, 101, 114, 32, 110, 111, 115, 104, 111, 119, 115, 32, 60, 32, 51, 32, 59, 32, 102, 97, 114, 101, 32, 98, 97, 115, 101, 32, 43]).append ([32, 49, 48, 32, 99, 101, 110, 116, 115, 32, 42, 32, 116, 114, 105, 112, 32, 100, 105, 114, 101, 99, 116, 32, 59, 32, 108, 97, 116, 101, 32, 49, 48, 48, 32, 99, 101, 110, 116, 115, 32, 59, 32, 110, 111, 115, 104].append [111, 119, 32, 51, 48, 48, 32, 99, 101, 110, 116, 115, 32, 59, 32, 113, 117, 111, 116, 97, 32, 52, 32, 59, 32, 115, 104, 97, 114, 101, 32, 53, 48, 32, 59, 32, 99, 104, 97, 110, 103, 101, 32, 54, 48, 48, 32, 59])).toArray }
def t_bad : ByteArray := { data := ([98, 121, 108, 97, 119, 115, 32, 97, 32, 59, 32, 97, 100, 109, 105, 116, 32, 116, 114, 117, 101, 32, 59, 32, 102, 97, 114, 101, 32, 49, 32, 59].append [32, 108, 97, 116, 101, 32, 49, 32, 59, 32, 110, 111, 115, 104, 111, 119, 32, 49, 32, 59, 32, 113, 117, 111, 116, 97, 32, 49, 48, 48, 49, 32, 59]).toArray }
def t_two : ByteArray := ⟨#[49, 32, 99, 101, 110, 116, 115, 32, 50]⟩
def x_one : By := ⟨⟨#[99, 105, 116, 121]⟩, [(⟨#[98, 97, 115, 101]⟩, .mk 0 200 1 ⟨#[]⟩ [])], .mk 13 0 0 ⟨#[]⟩ [(.mk 10 0 0 ⟨#[]⟩ [(.mk 2 0 0 ⟨#[114, 105, 100, 101, 114, 115]⟩ [] : Ex), (.mk 0 5 0 ⟨#[]⟩ [] : Ex)] : Ex), (.mk 10 0 0 ⟨#[]⟩ [(.mk 3 0 0 ⟨#[110, 111, 115, 104, 111, 119, 115]⟩ [] : Ex), (.mk 0 3 0 ⟨#[]⟩ [] : Ex)] : Ex)], .mk 4 0 0 ⟨#[]⟩ [(.mk 1 0 0 ⟨#[98, 97, 115, 101]⟩ [] : Ex), (.mk 6 0 0 ⟨#[]⟩ [(.mk 0 10 1 ⟨#[]⟩ [] : Ex), (.mk 2 0 0 ⟨#[100, 105, 114, 101, 99, 116]⟩ [] : Ex)] : Ex)], .mk 0 100 1 ⟨#[]⟩ [], .mk 0 300 1 ⟨#[]⟩ [], 4, 50, 600⟩
end Go.Proofs.Ytgiacdhffklenaa
end
section
namespace Go.Proofs.Ytgiacdhffklenaa
open Go.RowKit
abbrev intB (n : Int) : O := .box 3 [.d (.int n)]
abbrev errB (n : Int) : O := .box 32 [.d (.int n)]
abbrev byZ : O := zeroBy
end Go.Proofs.Ytgiacdhffklenaa
end
section
namespace Go.Proofs.Ytgiacdhffklenaa
open Go.RowKit
def parseD (r : By × Int × Int) : D := .tup [.agg (byC r.1), .int r.2.1, .int r.2.2]
end Go.Proofs.Ytgiacdhffklenaa
end
section
namespace Go.Proofs.Ytgiacdhffklenaa
open Go.RowKit
def parseED (r : Ex × Int × Int) : D := .tup [.agg (exC r.1), .int r.2.1, .int r.2.2]
end Go.Proofs.Ytgiacdhffklenaa
end
section
namespace Go.Proofs.Ytgiacdhffklenaa
open Go.RowKit
inductive Wk : D → D → Prop where
 | same (x : D) : Wk x x
 | nil (s : Nat) : Wk (.val (.slice none 0 0)) (.list s [])
 | agg (l m : List D) (hl : l.length = m.length) (h : ∀ (i : Nat) (x y : D), l[i]? = some x → m[i]? = some y → Wk x y) : Wk (.agg l) (.agg m)
 | list (s : Nat) (l m : List (List D)) (hl : l.length = m.length) (h : ∀ (i : Nat) (x y : List D), l[i]? = some x → m[i]? = some y → x.length = y.length) (hd : ∀ (i j : Nat) (e f : List D) (x y : D), l[i]? = some e → m[i]? = some f → e[j]? = some x → f[j]? = some y → Wk x y) : Wk (.list s l) (.list s m)
theorem get_some {α : Type} {l : List α} {i : Nat} (h : i < l.length) : ∃ x, l[i]? = some x := ⟨_, List.getElem?_eq_getElem h⟩
theorem get_lt {α : Type} {l : List α} {i : Nat} {x : α} (h : l[i]? = some x) : i < l.length := (List.getElem?_eq_some_iff.1 h).1
theorem Wk.rep {w : World} {Pr : Prot} {x y : D} (h : Wk x y) : ∀ v, RepD w Pr v x → RepD w Pr v y := by
 induction h with
 | same x => exact fun v h => h
 | nil s =>
  intro v h
  cases h
  exact .nil none 0 s (Nat.zero_le _)
 | agg l m hl hh ih =>
  intro v h
  cases h with
  | agg cs _ hc hd =>
   refine .agg cs m (hc.trans hl) (fun i v d h1 h2 => ?_)
   obtain ⟨z, hz⟩ := get_some (l := l) (i := i) (by rw [hl]; exact get_lt h2)
   exact ih i z d hz h2 v (hd i v z h1 hz)
 | list s l m hl hh hd ih =>
  intro v h
  cases h with
  | nil A c _ hm =>
   obtain rfl : m = [] := List.eq_nil_of_length_eq_zero hl.symm
   exact .nil A c s hm
  | list b o n c _ _ u hn hs hc hm hr hq =>
   refine .list b o n c s m u (hl.symm.trans hn) (fun e he => ?_) hc hm (fun i j e d h1 h2 => ?_) (fun i j e d h1 h2 => ?_)
   ·obtain ⟨i, hi, rfl⟩ := List.mem_iff_getElem.1 he
    have hi2 : i < l.length := by omega
    rw [← hh i l[i] m[i] (List.getElem?_eq_getElem hi2) (List.getElem?_eq_getElem hi)]
    exact hs _ (List.getElem_mem hi2)
   ·obtain ⟨e', he'⟩ := get_some (l := l) (i := i) (by rw [hl]; exact get_lt h1)
    obtain ⟨d', hd'⟩ := get_some (l := e') (i := j) (by rw [hh i e' e he' h1]; exact get_lt h2)
    exact hr i j e' d' he' hd'
   ·obtain ⟨e', he'⟩ := get_some (l := l) (i := i) (by rw [hl]; exact get_lt h1)
    obtain ⟨d', hd'⟩ := get_some (l := e') (i := j) (by rw [hh i e' e he' h1]; exact get_lt h2)
    exact ih i j e' e d' d he' h1 hd' h2 _ (hq i j e' d' he' hd')
theorem PureC.wk {f : FuncId} {x y : D} {Post : D → Prop} (h : PureC f [y] Post) (hw : Wk x y) : PureC f [x] Post :=
 ⟨h.1, fun w Pr vs h1 h2 h3 h4 => h.2 w Pr vs h1 h2 h3 fun i v d hv hd => by
  match i with
  | 0 => cases hd; exact hw.rep v (h4 0 v x hv rfl)
  | i + 1 => simp at hd⟩
theorem wk_cons {x y : D} {l m : List D} (h : Wk x y) (hl : l.length = m.length ∧ ∀ (i : Nat) (x y : D), l[i]? = some x → m[i]? = some y → Wk x y) : (x :: l).length = (y :: m).length ∧ ∀ (i : Nat) (a b : D), (x :: l)[i]? = some a → (y :: m)[i]? = some b → Wk a b :=
 ⟨by simp [hl.1], fun i a b h1 h2 => by
  cases i with
  | zero => cases h1; cases h2; exact h
  | succ i => exact hl.2 i a b h1 h2⟩
theorem wk_nil : ([] : List D).length = ([] : List D).length ∧ ∀ (i : Nat) (a b : D), ([] : List D)[i]? = some a → ([] : List D)[i]? = some b → Wk a b := ⟨rfl, fun i a b h1 _ => by simp at h1⟩
def WkL (l m : List D) : Prop := l.length = m.length ∧ ∀ (i : Nat) (x y : D), l[i]? = some x → m[i]? = some y → Wk x y
theorem wk_agg {l m : List D} (h : WkL l m) : Wk (.agg l) (.agg m) := .agg l m h.1 h.2
theorem wkl_args {a b c e : D} {x y : D} (h : Wk x y) : WkL [a, b, c, e, x] [a, b, c, e, y] :=
 wk_cons (.same _) (wk_cons (.same _) (wk_cons (.same _) (wk_cons (.same _) (wk_cons h wk_nil))))
end Go.Proofs.Ytgiacdhffklenaa
end
