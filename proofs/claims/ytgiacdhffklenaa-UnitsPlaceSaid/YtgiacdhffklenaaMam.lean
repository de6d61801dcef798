/-
  Conditions: none.
-/
import Derived.Lib.UnsafeStr
import Derived.Test.YtgiacdhffklenaaMal
set_option maxHeartbeats 16000000
set_option maxRecDepth 20000
section
set_option linter.unusedSimpArgs false
set_option linter.unusedVariables false
namespace Go.Proofs.Ytgiacdhffklenaa
open Go.RowKit
def inV (a b : Int) (l : List Int) : Bool := !l.any fun n => (decide (n < a) || decide (b < n))
def By.parts (x : By) : List Ex := [x.admit, x.fare, x.late, x.noshow]
def By.right (x : By) : Bool := (x.lets.all fun q => q.2.right 12) && (nameV x.name && (inV 0 1000 [x.quota, x.share] && (inV 1 1000 [x.change] && (uniqV (x.lets.map (·.1)) 20 && !(x.parts.any fun e => !e.right 12)))))
theorem right1b_any (e : Ex) (he : e.tame) : PureC 50 [.agg (exC e)] (· = .bool (!e.right 12)) := by
 have hc := rightExp_any e he
 refine pure_enter Try.func50 rfl (by decide) _ Try.ntmps50 (le_ok rfl) (fun w Pr hE => ?_)
 dsimp only [slotsOf, Nat.zero_add, Nat.reduceAdd]
 repeat' (first | (apply at_call; refine k_call (hc) hE ?_; rintro _ rfl) | refine nx ?_ | (apply qr_assign; refine r_assign ?_) | (apply qr_not; refine r_not ?_) | (apply qr_load; refine r_load ?_) | (apply qr_boxed; refine r_boxed ?_))
 refine rt1 ?_
 rfl
theorem findex (l : List Ex) (hl : l.length ≤ 100000) (ht : ∀ x ∈ l, Ex.tame x) : PureC 65 [.list 5 (Ex.rows l), .val (.func (.func 50) #[] #[])] (fun r => ∃ i : Int, r = .int i ∧ decide (0 ≤ i) = l.any fun x => !x.right 12) := by
 have hlen := rows_len l
 refine pure_enter Try.func65 rfl (by decide) _ Try.ntmps65 (le_ok rfl) (fun w Pr hE => ?_)
 dsimp only [slotsOf, Nat.zero_add, Nat.reduceAdd]
 repeat' (first | refine nx ?_ | (apply aq_block_y; decide) | (apply qr_move; refine r_move ?_) | (apply qr_assign; refine r_assign ?_) | (apply at_cond; first | refine c_t ?_ | refine c_f ?_ | (refine aw_cond rfl (fun hb => ?_) (fun hb => ?_) <;> ((try have hq := dX hb); (try (exfalso; omega))))) | (apply qr_lss; refine r_lss ?_) | (apply qr_add; refine r_add ?_) | (apply qr_len; refine r_len ?_) | (apply qr_ix; refine r_ix ?_) | (apply qr_load; refine r_load ?_))
 rw [hlen]
 refine aw_lp (fun N sl ob => ∃ i : Nat, N = l.length - i ∧ i ≤ l.length ∧ ((l.take i).any fun x => !x.right 12) = false ∧ sl = [(8, .d (.int i)), (7, .d (.int l.length)), (1, .d (.val (.func (.func 50) #[] #[]))), (0, .d (.list 5 (Ex.rows l)))] ∧ ob = []) (⟨0, rfl, Nat.zero_le _, by simp, rfl, rfl⟩) ?_
 rintro N sl ob ⟨i, rfl, hi, hs, rfl, rfl⟩
 by_cases hlt : i < l.length
 ·have hg := rows_get hlt
  have hnext := any_take (fun x : Ex => !x.right 12) hlt
  rw [hs, Bool.false_or] at hnext
  have hc := right1b_any l[i] (ht _ (List.getElem_mem hlt))
  cases hT : l[i].right 12
  ·rw [hT] at hc
   have hany : (l.any fun x => !x.right 12) = true := List.any_eq_true.2 ⟨l[i], List.getElem_mem hlt, by simp [hT]⟩
   generalize l[i] = z at hg hc
   repeat' (first | (apply at_op (.indexAddr _ _ _); refine al_ixq hg ?_) | (apply at_call; refine k_call (hc) hE ?_; rintro _ rfl) | refine nx ?_ | (apply aq_block_y; decide) | (apply qr_move; refine r_move ?_) | (apply qr_assign; refine r_assign ?_) | (apply at_cond; first | refine c_t ?_ | refine c_f ?_ | (refine aw_cond rfl (fun hb => ?_) (fun hb => ?_) <;> ((try have hq := dX hb); (try (exfalso; omega))))) | (apply qr_lss; refine r_lss ?_) | (apply qr_add; refine r_add ?_) | (apply qr_len; refine r_len ?_) | (apply qr_ix; refine r_ix ?_) | (apply qr_load; refine r_load ?_))
   refine rt1 ?_
   exact ⟨i, rfl, by rw [hany]; exact decide_eq_true (by omega)⟩
  ·rw [hT] at hc hnext
   generalize l[i] = z at hg hc
   repeat' (first | (apply at_op (.indexAddr _ _ _); refine al_ixq hg ?_) | (apply at_call; refine k_call (hc) hE ?_; rintro _ rfl) | refine nx ?_ | (apply aq_block_y; decide) | (apply qr_move; refine r_move ?_) | (apply qr_assign; refine r_assign ?_) | (apply at_cond; first | refine c_t ?_ | refine c_f ?_ | (refine aw_cond rfl (fun hb => ?_) (fun hb => ?_) <;> ((try have hq := dX hb); (try (exfalso; omega))))) | (apply qr_lss; refine r_lss ?_) | (apply qr_add; refine r_add ?_) | (apply qr_len; refine r_len ?_) | (apply qr_ix; refine r_ix ?_) | (apply qr_load; refine r_load ?_))
   refine aq_rd (⟨i + 1, rfl, by omega, hnext, rfl, rfl⟩) (by omega)
 ·rw [List.take_of_length_le (by omega)] at hs
  repeat' (first | refine nx ?_ | (apply aq_block_y; decide) | (apply qr_move; refine r_move ?_) | (apply qr_assign; refine r_assign ?_) | (apply at_cond; first | refine c_t ?_ | refine c_f ?_ | (refine aw_cond rfl (fun hb => ?_) (fun hb => ?_) <;> ((try have hq := dX hb); (try (exfalso; omega))))) | (apply qr_lss; refine r_lss ?_) | (apply qr_add; refine r_add ?_) | (apply qr_len; refine r_len ?_) | (apply qr_ix; refine r_ix ?_) | (apply qr_load; refine r_load ?_))
  refine rt1 ?_
  exact ⟨-1, rfl, by rw [hs]; rfl⟩
theorem fcontains (l : List Ex) (hl : l.length ≤ 100000) (ht : ∀ x ∈ l, Ex.tame x) : PureC 49 [.list 5 (Ex.rows l), .val (.func (.func 50) #[] #[])] (· = .bool (l.any fun x => !x.right 12)) := by
 have hc := findex l hl ht
 refine pure_enter Try.func49 rfl (by decide) _ Try.ntmps49 (le_ok rfl) (fun w Pr hE => ?_)
 dsimp only [slotsOf, Nat.zero_add, Nat.reduceAdd]
 repeat' (first | (apply at_call; refine k_call (hc) hE ?_; rintro _ ⟨r, rfl, hr⟩) | refine nx ?_ | (apply qr_move; refine r_move ?_) | (apply qr_assign; refine r_assign ?_) | (apply qr_geq; refine r_geq ?_))
 refine rt1 ?_
 rw [hr]
theorem lets_tame {x : By} (h : x.tame) : ∀ s ∈ x.lets.map (·.1), s.size ≤ 100000 := by
 intro s hs
 obtain ⟨q, hq, rfl⟩ := List.mem_map.1 hs
 exact (h.lets q hq).1
theorem byRight_any (x : By) (hx : x.tame) : PureC 37 [.agg (byC x)] (· = .bool x.right) := by
 have hna := name_any x.name (by have := hx.name; omega)
 have hi1 := in_any 0 1000 [x.quota, x.share] (by simp)
 have hi2 := in_any 1 1000 [x.change] (by simp)
 have hun := unique_any (x.lets.map (·.1)) 20 (by rw [List.length_map]; exact hx.len) (lets_tame hx)
 have hfc : PureC 49 [.list 5 [exC x.admit, exC x.fare, exC x.late, exC x.noshow], .val (.func (.func 50) #[] #[])] (· = .bool (x.parts.any fun e => !e.right 12)) := by
  have h := fcontains x.parts (by show 4 ≤ 100000; omega) (by
   intro e he
   simp only [By.parts, List.mem_cons, List.not_mem_nil, or_false] at he
   rcases he with rfl | rfl | rfl | rfl
   ·exact hx.admit
   ·exact hx.fare
   ·exact hx.late
   ·exact hx.noshow)
  rw [rows_map] at h
  exact h
 have hlen := hx.len
 have hml : (x.lets.map letC).length = x.lets.length := List.length_map ..
 obtain ⟨R, hR⟩ : ∃ R, R = x.right := ⟨_, rfl⟩
 rw [← hR]
 unfold By.right inV at hR
 generalize (!([x.quota, x.share].any fun n => (decide (n < 0) || decide (1000 < n)))) = b1 at hi1 hR
 generalize (!([x.change].any fun n => (decide (n < 1) || decide (1000 < n)))) = b2 at hi2 hR
 generalize uniqV (x.lets.map (·.1)) 20 = b3 at hun hR
 generalize (x.parts.any fun e => !e.right 12) = b4 at hfc hR
 generalize nameV x.name = b0 at hna hR
 refine pure_enter Try.func37 rfl (by decide) _ Try.ntmps37 (le_ok rfl) (fun w Pr hE => ?_)
 dsimp only [slotsOf, Nat.zero_add, Nat.reduceAdd]
 repeat' (first | refine nx ?_ | (apply aq_block_y; decide) | (apply qr_assign; refine r_assign ?_) | (apply at_cond; first | refine c_t ?_ | refine c_f ?_ | (refine aw_cond rfl (fun hb => ?_) (fun hb => ?_) <;> ((try have hq := dX hb); (try (exfalso; omega))))) | (apply qr_boxed; refine r_boxed ?_))
 refine al_adopt 3 3 9 1 rfl rfl (lt_ok rfl) ?_
 repeat' (first | refine nx ?_ | (apply aq_block_y; decide) | (apply qr_move; refine r_move ?_) | (apply at_cond; first | refine c_t ?_ | refine c_f ?_ | (refine aw_cond rfl (fun hb => ?_) (fun hb => ?_) <;> ((try have hq := dX hb); (try (exfalso; omega))))) | (apply qr_len; refine r_len ?_) | (apply qr_load; refine r_load ?_) | (apply qr_faddr; refine r_faddr ?_))
 refine aw_lp (fun N sl ob => ∃ i : Nat, N = x.lets.length - i ∧ i ≤ x.lets.length ∧ ((x.lets.take i).all fun q => q.2.right 12) = true ∧ sl = [(10, .d (.int i)), (9, .d (.int x.lets.length)), (8, .d (letsD x.lets)), (3, .row 3 i), (2, .d (.bool false)), (1, .box 1 0)] ∧ ob = [(3, namR i ((x.lets.take i).map (·.1))), (1, byO' x)]) (⟨0, rfl, Nat.zero_le _, by simp, rfl, rfl⟩) ?_
 rintro N sl ob ⟨i, rfl, hi, ha, rfl, rfl⟩
 by_cases hlt : i < x.lets.length
 ·have hg : (x.lets.map letC)[i]? = some (letC x.lets[i]) := by rw [get_map hlt]
  have hc := rightExp_any x.lets[i].2 (hx.lets _ (List.getElem_mem hlt)).2
  have hnx := all_take (fun q : ByteArray × Ex => q.2.right 12) hlt
  rw [ha, Bool.true_and] at hnx
  have hmi : ((x.lets.take i).map (·.1)).map (fun s => [D.str s]) ++ [[D.str x.lets[i].1]] = ((x.lets.take (i + 1)).map (·.1)).map (fun s => [D.str s]) := by
   rw [List.take_succ_eq_append_getElem hlt, List.map_append, List.map_append]
   rfl
  have hln : (((x.lets.take i).map (·.1)).map (fun s => [D.str s])).length = i := by rw [List.length_map, List.length_map, List.length_take]; omega
  cases hT : x.lets[i].2.right 12
  ·rw [hT] at hc
   have hall : (x.lets.all fun q => q.2.right 12) = false := by
    rw [Bool.eq_false_iff, Ne, List.all_eq_true]
    intro h
    have := h _ (List.getElem_mem hlt)
    rw [hT] at this
    cases this
   rw [hall, Bool.false_and] at hR
   rw [hR]
   clear hmi
   generalize x.lets[i] = z at hg hc
   repeat' (first | (apply at_op (.indexAddr _ _ _); refine al_ixq hg ?_) | (apply at_call; refine k_call (hc) hE ?_; rintro _ rfl) | refine nx ?_ | (apply aq_block_y; decide) | (apply qr_assign; refine r_assign ?_) | (apply at_cond; first | refine c_t ?_ | refine c_f ?_ | (refine aw_cond rfl (fun hb => ?_) (fun hb => ?_) <;> ((try have hq := dX hb); (try (exfalso; omega))))) | (apply qr_lss; refine r_lss ?_) | (apply qr_not; refine r_not ?_) | (apply qr_ix; refine r_ix ?_) | (apply qr_load; refine r_load ?_) | (apply qr_faddr; refine r_faddr ?_) | (apply qr_alloc; refine r_alloc ?_) | (apply qr_store; refine r_store ?_))
   refine rt1 ?_
   rfl
  ·rw [hT] at hc hnx
   generalize x.lets[i] = z at hg hc hmi
   have hl1 : [[D.val (Value.string z.fst)]].length = 1 := rfl
   repeat' (first | (apply at_op (.indexAddr _ _ _); refine al_ixq hg ?_) | (apply at_call; refine k_call (hc) hE ?_; rintro _ rfl) | refine nx ?_ | (apply aq_block_y; decide) | (apply qr_move; refine r_move ?_) | (apply qr_assign; refine r_assign ?_) | (apply at_cond; first | refine c_t ?_ | refine c_f ?_ | (refine aw_cond rfl (fun hb => ?_) (fun hb => ?_) <;> ((try have hq := dX hb); (try (exfalso; omega))))) | (apply qr_lss; refine r_lss ?_) | (apply qr_not; refine r_not ?_) | (apply qr_ix; refine r_ix ?_) | (apply qr_load; refine r_load ?_) | (apply qr_faddr; refine r_faddr ?_) | (apply qr_alloc; refine r_alloc ?_) | (apply qr_store; refine r_store ?_) | (apply qr_lits; refine r_lits ?_) | (apply qr_appd; refine r_appd ?_))
   simp only [namR]
   rw [hmi]
   repeat' (first | refine nx ?_ | (apply aq_block_y; decide) | (apply qr_move; refine r_move ?_) | (apply at_cond; first | refine c_t ?_ | refine c_f ?_ | (refine aw_cond rfl (fun hb => ?_) (fun hb => ?_) <;> ((try have hq := dX hb); (try (exfalso; omega))))) | (apply qr_add; refine r_add ?_))
   refine aq_rd (⟨i + 1, rfl, by omega, hnx, rfl, rfl⟩) (by omega)
 ·obtain rfl : i = x.lets.length := by omega
  rw [List.take_length] at ha
  rw [ha, Bool.true_and] at hR
  rw [List.take_length]
  cases b0
  ·rw [Bool.false_and] at hR
   rw [hR]
   repeat' (first | (apply at_call; refine k_call (hna) hE ?_; rintro _ rfl) | (apply at_call; refine k_call (hi1) hE ?_; rintro _ rfl; clear hi1) | (apply at_call; refine k_call (hi2) hE ?_; rintro _ rfl) | (apply at_call; refine k_call (hun) hE ?_; rintro _ rfl) | (apply at_call; refine k_call (hfc) hE ?_; rintro _ rfl) | refine nx ?_ | (apply aq_block_y; decide) | (apply qr_move; refine r_move ?_) | (apply qr_assign; refine r_assign ?_) | (apply at_cond; first | refine c_t ?_ | refine c_f ?_ | (refine aw_cond rfl (fun hb => ?_) (fun hb => ?_) <;> ((try have hq := dX hb); (try (exfalso; omega))))) | (apply at_guard; first | refine g_go ?_ | refine g_nt ?_ | refine g_nf ?_ | refine g_nu ?_ | ((first | refine al_split_t rfl rfl (lt_ok rfl) (fun hb => ?_) (fun hb => ?_) | refine al_split_f rfl rfl (lt_ok rfl) (fun hb => ?_) (fun hb => ?_)) <;> ((try have hq := dX hb); (try (exfalso; omega))))) | (apply qr_pick; refine r_pick ?_) | (apply qr_lss; refine r_lss ?_) | (apply qr_not; refine r_not ?_) | (apply qr_load; refine r_load ?_) | (apply qr_faddr; refine r_faddr ?_) | (apply qr_lits; refine r_lits ?_))
   refine rt1 ?_
   rfl
  rw [Bool.true_and] at hR
  cases b1
  ·rw [Bool.false_and] at hR
   rw [hR]
   repeat' (first | (apply at_call; refine k_call (hna) hE ?_; rintro _ rfl) | (apply at_call; refine k_call (hi1) hE ?_; rintro _ rfl; clear hi1) | (apply at_call; refine k_call (hi2) hE ?_; rintro _ rfl) | (apply at_call; refine k_call (hun) hE ?_; rintro _ rfl) | (apply at_call; refine k_call (hfc) hE ?_; rintro _ rfl) | refine nx ?_ | (apply aq_block_y; decide) | (apply qr_move; refine r_move ?_) | (apply qr_assign; refine r_assign ?_) | (apply at_cond; first | refine c_t ?_ | refine c_f ?_ | (refine aw_cond rfl (fun hb => ?_) (fun hb => ?_) <;> ((try have hq := dX hb); (try (exfalso; omega))))) | (apply at_guard; first | refine g_go ?_ | refine g_nt ?_ | refine g_nf ?_ | refine g_nu ?_ | ((first | refine al_split_t rfl rfl (lt_ok rfl) (fun hb => ?_) (fun hb => ?_) | refine al_split_f rfl rfl (lt_ok rfl) (fun hb => ?_) (fun hb => ?_)) <;> ((try have hq := dX hb); (try (exfalso; omega))))) | (apply qr_pick; refine r_pick ?_) | (apply qr_lss; refine r_lss ?_) | (apply qr_not; refine r_not ?_) | (apply qr_load; refine r_load ?_) | (apply qr_faddr; refine r_faddr ?_) | (apply qr_lits; refine r_lits ?_))
   refine rt1 ?_
   rfl
  rw [Bool.true_and] at hR
  cases b2
  ·rw [Bool.false_and] at hR
   rw [hR]
   repeat' (first | (apply at_call; refine k_call (hna) hE ?_; rintro _ rfl) | (apply at_call; refine k_call (hi1) hE ?_; rintro _ rfl; clear hi1) | (apply at_call; refine k_call (hi2) hE ?_; rintro _ rfl) | (apply at_call; refine k_call (hun) hE ?_; rintro _ rfl) | (apply at_call; refine k_call (hfc) hE ?_; rintro _ rfl) | refine nx ?_ | (apply aq_block_y; decide) | (apply qr_move; refine r_move ?_) | (apply qr_assign; refine r_assign ?_) | (apply at_cond; first | refine c_t ?_ | refine c_f ?_ | (refine aw_cond rfl (fun hb => ?_) (fun hb => ?_) <;> ((try have hq := dX hb); (try (exfalso; omega))))) | (apply at_guard; first | refine g_go ?_ | refine g_nt ?_ | refine g_nf ?_ | refine g_nu ?_ | ((first | refine al_split_t rfl rfl (lt_ok rfl) (fun hb => ?_) (fun hb => ?_) | refine al_split_f rfl rfl (lt_ok rfl) (fun hb => ?_) (fun hb => ?_)) <;> ((try have hq := dX hb); (try (exfalso; omega))))) | (apply qr_pick; refine r_pick ?_) | (apply qr_lss; refine r_lss ?_) | (apply qr_not; refine r_not ?_) | (apply qr_load; refine r_load ?_) | (apply qr_faddr; refine r_faddr ?_) | (apply qr_lits; refine r_lits ?_))
   refine rt1 ?_
   rfl
  rw [Bool.true_and] at hR
  cases b3
  ·rw [Bool.false_and] at hR
   rw [hR]
   repeat' (first | (apply at_call; refine k_call (hna) hE ?_; rintro _ rfl) | (apply at_call; refine k_call (hi1) hE ?_; rintro _ rfl; clear hi1) | (apply at_call; refine k_call (hi2) hE ?_; rintro _ rfl) | (apply at_call; refine k_call (hun) hE ?_; rintro _ rfl) | (apply at_call; refine k_call (hfc) hE ?_; rintro _ rfl) | refine nx ?_ | (apply aq_block_y; decide) | (apply qr_move; refine r_move ?_) | (apply qr_assign; refine r_assign ?_) | (apply at_cond; first | refine c_t ?_ | refine c_f ?_ | (refine aw_cond rfl (fun hb => ?_) (fun hb => ?_) <;> ((try have hq := dX hb); (try (exfalso; omega))))) | (apply at_guard; first | refine g_go ?_ | refine g_nt ?_ | refine g_nf ?_ | refine g_nu ?_ | ((first | refine al_split_t rfl rfl (lt_ok rfl) (fun hb => ?_) (fun hb => ?_) | refine al_split_f rfl rfl (lt_ok rfl) (fun hb => ?_) (fun hb => ?_)) <;> ((try have hq := dX hb); (try (exfalso; omega))))) | (apply qr_pick; refine r_pick ?_) | (apply qr_lss; refine r_lss ?_) | (apply qr_not; refine r_not ?_) | (apply qr_load; refine r_load ?_) | (apply qr_faddr; refine r_faddr ?_) | (apply qr_lits; refine r_lits ?_))
   refine rt1 ?_
   rfl
  rw [Bool.true_and] at hR
  rw [hR]
  repeat' (first | (apply at_call; refine k_call (hna) hE ?_; rintro _ rfl) | (apply at_call; refine k_call (hi1) hE ?_; rintro _ rfl; clear hi1) | (apply at_call; refine k_call (hi2) hE ?_; rintro _ rfl) | (apply at_call; refine k_call (hun) hE ?_; rintro _ rfl) | (apply at_call; refine k_call (hfc) hE ?_; rintro _ rfl) | refine nx ?_ | (apply aq_block_y; decide) | (apply qr_move; refine r_move ?_) | (apply qr_assign; refine r_assign ?_) | (apply at_cond; first | refine c_t ?_ | refine c_f ?_ | (refine aw_cond rfl (fun hb => ?_) (fun hb => ?_) <;> ((try have hq := dX hb); (try (exfalso; omega))))) | (apply at_guard; first | refine g_go ?_ | refine g_nt ?_ | refine g_nf ?_ | refine g_nu ?_ | ((first | refine al_split_t rfl rfl (lt_ok rfl) (fun hb => ?_) (fun hb => ?_) | refine al_split_f rfl rfl (lt_ok rfl) (fun hb => ?_) (fun hb => ?_)) <;> ((try have hq := dX hb); (try (exfalso; omega))))) | (apply qr_pick; refine r_pick ?_) | (apply qr_lss; refine r_lss ?_) | (apply qr_not; refine r_not ?_) | (apply qr_load; refine r_load ?_) | (apply qr_faddr; refine r_faddr ?_) | (apply qr_lits; refine r_lits ?_))
  refine rt1 ?_
  rfl
end Go.Proofs.Ytgiacdhffklenaa
end
section
set_option linter.unusedSimpArgs false
set_option linter.unusedVariables false
namespace Go.Proofs.Ytgiacdhffklenaa
open Go.RowKit
def withV (n a b : Int) : Bool := decide (a ≤ n) && decide (n ≤ b)
end Go.Proofs.Ytgiacdhffklenaa
end
section
namespace Go.Proofs.Ytgiacdhffklenaa
open Go.RowKit
abbrev bldA : Bool → V
 | true => .box 1000 0
 | false => .d (.val (.pointer none))
end Go.Proofs.Ytgiacdhffklenaa
end
section
namespace Go.Proofs.Ytgiacdhffklenaa
open Go.RowKit
def byteD (l : List UInt8) : List (List D) := l.map fun c => [.val (.int .u8 c.toNat)]
end Go.Proofs.Ytgiacdhffklenaa
end
section
namespace Go.Proofs.Ytgiacdhffklenaa
open Go.RowKit
def lineV (ws : List ByteArray) : ByteArray := jn ws ++ ⟨#[32, 59, 10]⟩
def catL (ls : List (List ByteArray)) : List UInt8 := (ls.map fun w => (lineV w).data.toList).flatten
def Fit (ls : List (List ByteArray)) : Prop := ls.length ≤ 40 ∧ ∀ w ∈ ls, (lineV w).size ≤ 3355444000000
theorem Fit.left {a b : List (List ByteArray)} (h : Fit (a ++ b)) : Fit a := ⟨by have := h.1; rw [List.length_append] at this; omega, fun w hw => h.2 w (by simp [hw])⟩
theorem lineV_len (w : List ByteArray) : (lineV w).data.toList.length = (lineV w).size := by simp
theorem cat_len {ls : List (List ByteArray)} (h : ∀ w ∈ ls, (lineV w).size ≤ 3355444000000) : (catL ls).length ≤ ls.length * 3355444000000 := by
 induction ls with
 | nil => simp [catL]
 | cons w r ih =>
  have h1 := ih fun x hx => h x (by simp [hx])
  have h2 := h w (by simp)
  have e : catL (w :: r) = (lineV w).data.toList ++ catL r := by simp [catL]
  rw [e, List.length_append, lineV_len, List.length_cons, Nat.add_mul]
  omega
theorem Fit.len {ls : List (List ByteArray)} (h : Fit ls) : (catL ls).length ≤ 134217760000000 := by
 have h1 := cat_len h.2
 have h2 := h.1
 have : ls.length * 3355444000000 ≤ 40 * 3355444000000 := Nat.mul_le_mul_right _ h2
 omega
theorem line_size (w : List ByteArray) : (lineV w).size = (jn w).size + 3 := by
 rw [lineV, ByteArray.size_append]
 rfl
theorem Fit.last {ls : List (List ByteArray)} {w : List ByteArray} (h : Fit (ls ++ [w])) : (jn w).size ≤ 3355444000000 := by
 have h1 := h.2 w (by simp)
 have := line_size w
 omega
end Go.Proofs.Ytgiacdhffklenaa
end
section
namespace Go.Proofs.Ytgiacdhffklenaa
open Go.RowKit
abbrev letL (q : ByteArray × Ex) : List ByteArray := [w_let, q.1, w_is, q.2.text 0]
def By.head (x : By) (i : Nat) : List (List ByteArray) := [[w_bylaws, x.name]] ++ (x.lets.take i).map letL
def By.lines (x : By) : List (List ByteArray) := x.head x.lets.length ++ [[w_admit, x.admit.text 0]] ++ [[w_fare, x.fare.text 0]] ++ [[w_late, x.late.text 0]] ++ [[w_noshow, x.noshow.text 0]] ++ [[w_quota, itoaB x.quota]] ++ [[w_share, itoaB x.share]] ++ [[w_change, itoaB x.change]]
def By.text (x : By) : ByteArray := ⟨(catL x.lines).toArray⟩
structure By.Ok (x : By) : Prop where
 lets : ∀ q ∈ x.lets, q.2.right 12 = true
 admit : x.admit.right 12 = true
 fare : x.fare.right 12 = true
 late : x.late.right 12 = true
 noshow : x.noshow.right 12 = true
 quota : 0 ≤ x.quota ∧ x.quota ≤ 1000
 share : 0 ≤ x.share ∧ x.share ≤ 1000
 change : 1 ≤ x.change ∧ x.change ≤ 1000
 name : nameV x.name = true
 uniq : uniqV (x.lets.map (·.1)) 20 = true
theorem By.Ok.len {x : By} (h : x.Ok) : x.lets.length ≤ 20 := by
 have := h.uniq
 unfold uniqV at this
 rw [Bool.and_eq_true, decide_eq_true_eq, List.length_map] at this
 omega
def printD (x : By) : D := if x.right = true then fitsD x.text else .tup [.str ⟨#[]⟩, .int 1]
end Go.Proofs.Ytgiacdhffklenaa
end
section
namespace Go.Proofs.Ytgiacdhffklenaa
open Go.RowKit
def catB (ls : List (List ByteArray)) : ByteArray := ⟨(catL ls).toArray⟩
def By.tail (x : By) : ByteArray := ⟨#[113, 117, 111, 116, 97, 32]⟩ ++ itoaB x.quota ++ ⟨#[32, 59, 10, 115, 104, 97, 114, 101, 32]⟩ ++ itoaB x.share ++ ⟨#[32, 59, 10, 99, 104, 97, 110, 103, 101, 32]⟩ ++ itoaB x.change ++ ⟨#[32, 59, 10]⟩
end Go.Proofs.Ytgiacdhffklenaa
end
section
namespace Go.Proofs.Ytgiacdhffklenaa
open Go.RowKit
end Go.Proofs.Ytgiacdhffklenaa
end
section
set_option linter.unusedSimpArgs false
set_option linter.unusedVariables false
namespace Go.Proofs.Ytgiacdhffklenaa
open Go.RowKit
abbrev NodesC (deep : Nat) : Prop := ∀ (e : Ex) (most : Int), 0 ≤ most → most ≤ 60 → e.str.size ≤ 9223372036854775807 → PureC 39 [.agg (exC e), .int most, .int deep] (fun r => ∃ n : Int, r = .int n ∧ 1 ≤ n ∧ n ≤ most + 1 ∧ (n ≤ most → e.tame))
mutual
def Ex.came : Ex → Prop
 | .mk _ _ _ s a => s.size ≤ 9223372036854775807 ∧ a.length ≤ 9223372036854775807 ∧ Ex.cameL a
def Ex.cameL : List Ex → Prop
 | [] => True
 | x :: r => x.came ∧ Ex.cameL r
end
theorem cameL_get {a : List Ex} (h : Ex.cameL a) {i : Nat} (hi : i < a.length) : a[i].came := by
 induction a generalizing i with
 | nil => simp at hi
 | cons x r ih =>
  cases i with
  | zero => exact h.1
  | succ i => exact ih h.2 (by simpa using hi)
theorem came_get {e : Ex} (h : e.came) {i : Nat} (hi : i < e.args.length) : e.args[i].came := by
 cases e
 exact cameL_get h.2.2 hi
theorem tameL_of {a : List Ex} (h : ∀ (i : Nat) (hi : i < a.length), a[i].tame) : Ex.tameL a := by
 induction a with
 | nil => trivial
 | cons x r ih => exact ⟨h 0 (by simp), ih fun i hi => h (i + 1) (by simpa using hi)⟩
theorem tame_of {e : Ex} (h1 : e.str.size ≤ 100000) (h2 : e.args.length ≤ 100000) (h3 : ∀ (i : Nat) (hi : i < e.args.length), e.args[i].tame) : e.tame := by
 cases e
 exact ⟨h1, h2, tameL_of h3⟩
theorem nodes_any : ∀ (deep : Nat), deep ≤ 1000 → ∀ (e : Ex) (most : Int), 0 ≤ most → most ≤ 60 → e.came → PureC 39 [.agg (exC e), .int most, .int deep] (fun r => ∃ n : Int, r = .int n ∧ 1 ≤ n ∧ n ≤ most + 1 ∧ (n ≤ most → e.tame))
 | 0, _, e, most, h0, h1, hcm => by
  have q0 : decide (((0 : Nat) : Int) < 1) = true := rfl
  refine pure_enter Try.func39 rfl (by decide) _ Try.ntmps39 (le_ok rfl) (fun w Pr hE => ?_)
  dsimp only [slotsOf, Nat.zero_add, Nat.reduceAdd]
  repeat' (first | refine nx ?_ | (apply aq_block_y; decide) | (apply qr_move; refine r_move ?_) | (apply qr_assign; refine r_assign ?_) | (apply at_cond; first | refine c_t ?_ | refine c_f ?_ | (refine aw_cond rfl (fun hb => ?_) (fun hb => ?_) <;> ((try have hq := dX hb); (try (exfalso; omega))))) | (apply at_guard; first | refine g_go ?_ | refine g_nt ?_ | refine g_nf ?_ | refine g_nu ?_ | ((first | refine al_split_t rfl rfl (lt_ok rfl) (fun hb => ?_) (fun hb => ?_) | refine al_split_f rfl rfl (lt_ok rfl) (fun hb => ?_) (fun hb => ?_)) <;> ((try have hq := dX hb); (try (exfalso; omega))))) | (apply qr_pick; refine r_pick ?_) | (apply qr_lss; refine r_lss ?_) | (apply qr_gtr; refine r_gtr ?_) | (apply qr_add; refine r_add ?_) | (apply qr_len; refine r_len ?_) | (apply qr_load; refine r_load ?_) | (apply qr_faddr; refine r_faddr ?_) | (apply qr_boxed; refine r_boxed ?_))
  refine rt1 ?_
  exact ⟨most + 1, rfl, by omega, by omega, fun h => by omega⟩
 | deep + 1, hd, e, most, h0, h1, hcm => by
  have ih := nodes_any deep (by omega)
  have q0 : decide (((deep + 1 : Nat) : Int) < 1) = false := decide_eq_false (by omega)
  have hw : ((deep + 1 : Nat) : Int) - 1 = deep := by omega
  have hlen := rows_len e.args
  by_cases hs : 40 < e.str.size
  ·have q1 : decide ((40 : Int) < e.str.size) = true := decide_eq_true (by omega)
   refine pure_enter Try.func39 rfl (by decide) _ Try.ntmps39 (le_ok rfl) (fun w Pr hE => ?_)
   dsimp only [slotsOf, Nat.zero_add, Nat.reduceAdd]
   repeat' (first | refine nx ?_ | (apply aq_block_y; decide) | (apply qr_move; refine r_move ?_) | (apply qr_assign; refine r_assign ?_) | (apply at_cond; first | refine c_t ?_ | refine c_f ?_ | (refine aw_cond rfl (fun hb => ?_) (fun hb => ?_) <;> ((try have hq := dX hb); (try (exfalso; omega))))) | (apply at_guard; first | refine g_go ?_ | refine g_nt ?_ | refine g_nf ?_ | refine g_nu ?_ | ((first | refine al_split_t rfl rfl (lt_ok rfl) (fun hb => ?_) (fun hb => ?_) | refine al_split_f rfl rfl (lt_ok rfl) (fun hb => ?_) (fun hb => ?_)) <;> ((try have hq := dX hb); (try (exfalso; omega))))) | (apply qr_pick; refine r_pick ?_) | (apply qr_lss; refine r_lss ?_) | (apply qr_gtr; refine r_gtr ?_) | (apply qr_add; refine r_add ?_) | (apply qr_len; refine r_len ?_) | (apply qr_load; refine r_load ?_) | (apply qr_faddr; refine r_faddr ?_) | (apply qr_boxed; refine r_boxed ?_))
   refine rt1 ?_
   exact ⟨most + 1, rfl, by omega, by omega, fun h => by omega⟩
  have q1 : decide ((40 : Int) < e.str.size) = false := decide_eq_false (by omega)
  refine pure_enter Try.func39 rfl (by decide) _ Try.ntmps39 (le_ok rfl) (fun w Pr hE => ?_)
  dsimp only [slotsOf, Nat.zero_add, Nat.reduceAdd]
  repeat' (first | refine nx ?_ | (apply aq_block_y; decide) | (apply qr_move; refine r_move ?_) | (apply qr_assign; refine r_assign ?_) | (apply at_cond; first | refine c_t ?_ | refine c_f ?_ | (refine aw_cond rfl (fun hb => ?_) (fun hb => ?_) <;> ((try have hq := dX hb); (try (exfalso; omega))))) | (apply at_guard; first | refine g_go ?_ | refine g_nt ?_ | refine g_nf ?_ | refine g_nu ?_ | ((first | refine al_split_t rfl rfl (lt_ok rfl) (fun hb => ?_) (fun hb => ?_) | refine al_split_f rfl rfl (lt_ok rfl) (fun hb => ?_) (fun hb => ?_)) <;> ((try have hq := dX hb); (try (exfalso; omega))))) | (apply qr_pick; refine r_pick ?_) | (apply qr_lss; refine r_lss ?_) | (apply qr_gtr; refine r_gtr ?_) | (apply qr_len; refine r_len ?_) | (apply qr_load; refine r_load ?_) | (apply qr_faddr; refine r_faddr ?_) | (apply qr_boxed; refine r_boxed ?_))
  clear q0 q1
  refine aw_lp (fun N sl ob => ∃ (i : Nat) (n : Int), N = 100 - i ∧ i ≤ e.args.length ∧ (i : Int) + 1 ≤ n ∧ n ≤ most + 1 ∧ (n ≤ most → ∀ (j : Nat) (hj : j < e.args.length), j < i → e.args[j].tame) ∧ sl = [(8, .d (.int i)), (7, .d (.int n)), (3, .box 3 0), (2, .d (.int ((deep + 1 : Nat) : Int))), (1, .d (.int most))] ∧ ob = [(3, exO' e)]) (⟨0, 1, rfl, Nat.zero_le _, by omega, by omega, fun _ j _ h => by omega, rfl, rfl⟩) ?_
  rintro N sl ob ⟨i, n, rfl, hi, hn1, hn2, ha, rfl, rfl⟩
  by_cases hlt : i < e.args.length
  ·have q : decide ((i : Int) < (Ex.rows e.args).length) = true := decide_eq_true (by omega)
   by_cases hnm : n ≤ most
   ·have q2 : decide (n ≤ most) = true := decide_eq_true hnm
    have hg := rows_get hlt
    have hc := ih e.args[i] (most - n) (by omega) (by omega) (came_get hcm hlt)
    have hx : ∀ m : Int, (m ≤ most - n → e.args[i].tame) → (n + m ≤ most → ∀ (j : Nat) (hj : j < e.args.length), j < i + 1 → e.args[j].tame) := fun m hm h j hj hji => by
     rcases Nat.lt_succ_iff_lt_or_eq.1 hji with h2 | rfl
     ·exact ha hnm j hj h2
     ·exact hm (by omega)
    rw [← hw] at hc
    generalize e.args[i] = x at hg hc hx
    repeat' (first | (apply at_op (.indexAddr _ _ _); refine al_ixq hg ?_) | (apply at_call; refine k_call (hc) hE ?_; rintro _ ⟨m, rfl, hm1, hm2, hm3⟩) | refine nx ?_ | (apply aq_block_y; decide) | (apply qr_move; refine r_move ?_) | (apply qr_assign; refine r_assign ?_) | (apply at_cond; first | refine c_t ?_ | refine c_f ?_ | (refine aw_cond rfl (fun hb => ?_) (fun hb => ?_) <;> ((try have hq := dX hb); (try (exfalso; omega))))) | (apply at_guard; first | refine g_go ?_ | refine g_nt ?_ | refine g_nf ?_ | refine g_nu ?_ | ((first | refine al_split_t rfl rfl (lt_ok rfl) (fun hb => ?_) (fun hb => ?_) | refine al_split_f rfl rfl (lt_ok rfl) (fun hb => ?_) (fun hb => ?_)) <;> ((try have hq := dX hb); (try (exfalso; omega))))) | (apply qr_pick; refine r_pick ?_) | (apply qr_lss; refine r_lss ?_) | (apply qr_leq; refine r_leq ?_) | (apply qr_add; refine r_add ?_) | (apply qr_sub; refine r_sub ?_) | (apply qr_len; refine r_len ?_) | (apply qr_ix; refine r_ix ?_) | (apply qr_load; refine r_load ?_) | (apply qr_faddr; refine r_faddr ?_))
    repeat' (first | refine nx ?_ | (apply aq_block_y; decide) | (apply qr_move; refine r_move ?_) | (apply qr_assign; refine r_assign ?_) | (apply at_cond; first | refine c_t ?_ | refine c_f ?_ | (refine aw_cond rfl (fun hb => ?_) (fun hb => ?_) <;> ((try have hq := dX hb); (try (exfalso; omega))))) | (apply qr_add; refine r_add ?_))
    refine aq_rd (⟨i + 1, n + m, rfl, by omega, by omega, by omega, hx m hm3, rfl, rfl⟩) (by omega)
   ·have q2 : decide (n ≤ most) = false := decide_eq_false hnm
    repeat' (first | refine nx ?_ | (apply aq_block_y; decide) | (apply qr_move; refine r_move ?_) | (apply qr_assign; refine r_assign ?_) | (apply at_cond; first | refine c_t ?_ | refine c_f ?_ | (refine aw_cond rfl (fun hb => ?_) (fun hb => ?_) <;> ((try have hq := dX hb); (try (exfalso; omega))))) | (apply at_guard; first | refine g_go ?_ | refine g_nt ?_ | refine g_nf ?_ | refine g_nu ?_ | ((first | refine al_split_t rfl rfl (lt_ok rfl) (fun hb => ?_) (fun hb => ?_) | refine al_split_f rfl rfl (lt_ok rfl) (fun hb => ?_) (fun hb => ?_)) <;> ((try have hq := dX hb); (try (exfalso; omega))))) | (apply qr_pick; refine r_pick ?_) | (apply qr_lss; refine r_lss ?_) | (apply qr_leq; refine r_leq ?_) | (apply qr_len; refine r_len ?_) | (apply qr_load; refine r_load ?_) | (apply qr_faddr; refine r_faddr ?_))
    refine rt1 ?_
    exact ⟨n, rfl, by omega, by omega, fun h => absurd h hnm⟩
  ·have q : decide ((i : Int) < (Ex.rows e.args).length) = false := decide_eq_false (by omega)
   repeat' (first | refine nx ?_ | (apply aq_block_y; decide) | (apply qr_move; refine r_move ?_) | (apply qr_assign; refine r_assign ?_) | (apply at_cond; first | refine c_t ?_ | refine c_f ?_ | (refine aw_cond rfl (fun hb => ?_) (fun hb => ?_) <;> ((try have hq := dX hb); (try (exfalso; omega))))) | (apply at_guard; first | refine g_go ?_ | refine g_nt ?_ | refine g_nf ?_ | refine g_nu ?_ | ((first | refine al_split_t rfl rfl (lt_ok rfl) (fun hb => ?_) (fun hb => ?_) | refine al_split_f rfl rfl (lt_ok rfl) (fun hb => ?_) (fun hb => ?_)) <;> ((try have hq := dX hb); (try (exfalso; omega))))) | (apply qr_pick; refine r_pick ?_) | (apply qr_lss; refine r_lss ?_) | (apply qr_leq; refine r_leq ?_) | (apply qr_len; refine r_len ?_) | (apply qr_load; refine r_load ?_) | (apply qr_faddr; refine r_faddr ?_))
   refine rt1 ?_
   exact ⟨n, rfl, by omega, by omega, fun h => tame_of (by omega) (by omega) (fun j hj => ha h j hj (by omega))⟩
theorem fewE_any (e : Ex) (hcm : e.came) : PureC 21 [.agg (exC e)] (fun r => ∃ b : Bool, r = .bool b ∧ (b = true → e.tame)) := by
 have hc := nodes_any 16 (by omega) e 60 (by omega) (by omega) hcm
 refine pure_enter Try.func21 rfl (by decide) _ Try.ntmps21 (le_ok rfl) (fun w Pr hE => ?_)
 dsimp only [slotsOf, Nat.zero_add, Nat.reduceAdd]
 repeat' (first | (apply at_call; refine k_call (hc) hE ?_; rintro _ ⟨m, rfl, hm1, hm2, hm3⟩) | refine nx ?_ | (apply qr_assign; refine r_assign ?_) | (apply qr_leq; refine r_leq ?_) | (apply qr_load; refine r_load ?_) | (apply qr_boxed; refine r_boxed ?_))
 refine rt1 ?_
 exact ⟨_, rfl, fun h => hm3 (of_decide_eq_true h)⟩
end Go.Proofs.Ytgiacdhffklenaa
end
section
set_option linter.unusedSimpArgs false
set_option linter.unusedVariables false
namespace Go.Proofs.Ytgiacdhffklenaa
open Go.RowKit
structure By.came (x : By) : Prop where
 name : x.name.size ≤ 9223372036854775807
 len : x.lets.length ≤ 9223372036854775807
 lets : ∀ q ∈ x.lets, q.1.size ≤ 9223372036854775807 ∧ q.2.came
 admit : x.admit.came
 fare : x.fare.came
 late : x.late.came
 noshow : x.noshow.came
abbrev FewR (x : By) : D → Prop := fun r => ∃ b : Bool, r = .bool b ∧ (b = true → x.tame ∧ x.lets.length ≤ 22)
end Go.Proofs.Ytgiacdhffklenaa
end
section
namespace Go.Proofs.Ytgiacdhffklenaa
open Go.ChangeShapes Go.WideShapes Go.ChangeAt Go.RowKit Go.Deep Go.Joins
section
variable {H : Type} {enc : TypeId × Value → H} {P : Program} {w : World} {base : Nat}
def ShowB (N : Nat) (enc : TypeId × Value → H) (P : Program) (w : World) (base : Nat) (t : TypeId) (c : Nat) {α : Type} (f : α → List D) (Q : α → Prop) : Prop :=
 ∀ (fuel : Nat) (cs : List Value) (x : DataW H × List MemPlace), SizeOf.sizeOf x.1 ≤ N → DataW.trod enc P w base (fun _ => true) true fuel t cs = some x →
  cs.length = c ∧ ∃ a, Q a ∧ (f a).length = c ∧ ∀ (j : Nat) (v : Value) (d : D), cs[j]? = some v → (f a)[j]? = some d → RepD w (fun b _ => b < w.heap.size) v d
theorem Show.b {α : Type} {t : TypeId} {c : Nat} {f : α → List D} {Q : α → Prop} (h : Show enc P w base t c f Q) (N : Nat) : ShowB N enc P w base t c f Q := fun fuel cs x _ hx => h fuel cs x hx
theorem ShowB.all {α : Type} {t : TypeId} {c : Nat} {f : α → List D} {Q : α → Prop} (h : ∀ N, ShowB N enc P w base t c f Q) : Show enc P w base t c f Q := fun fuel cs x hx => h _ fuel cs x (Nat.le_refl _) hx
theorem ShowB.as {N : Nat} {α β : Type} {t : TypeId} {c : Nat} {f : α → List D} {Q : α → Prop} (h : ShowB N enc P w base t c f Q) (g : β → List D) (R : β → Prop) (m : α → β) (hg : ∀ a, g (m a) = f a) (hR : ∀ a, Q a → R (m a)) : ShowB N enc P w base t c g R := by
 intro fuel cs x hN hx
 obtain ⟨h1, a, h2, h3, h4⟩ := h fuel cs x hN hx
 exact ⟨h1, m a, hR a h2, by rw [hg]; exact h3, by rw [hg]; exact h4⟩
theorem slice_size {N : Nat} {l m : List (DataW H)} {x : DataW H} {q : List MemPlace} (h : SizeOf.sizeOf (DataW.slice l m, q).1 ≤ N) (hx : x ∈ l) : SizeOf.sizeOf x ≤ N := by
 have h1 := List.sizeOf_lt_of_mem hx
 have h2 : SizeOf.sizeOf (DataW.slice l m) = 1 + SizeOf.sizeOf l + SizeOf.sizeOf m := by simp
 have h3 : SizeOf.sizeOf (DataW.slice l m) ≤ N := h
 omega
theorem agg_size {N : Nat} {l : List (DataW H)} {x : DataW H} {q : List MemPlace} (h : SizeOf.sizeOf (DataW.agg l, q).1 ≤ N + 1) (hx : x ∈ l) : SizeOf.sizeOf x ≤ N := by
 have h1 := List.sizeOf_lt_of_mem hx
 have h2 : SizeOf.sizeOf (DataW.agg l) = 1 + SizeOf.sizeOf l := by simp
 have h3 : SizeOf.sizeOf (DataW.agg l) ≤ N + 1 := h
 omega
theorem data_pos (x : DataW H) : 1 ≤ SizeOf.sizeOf x := by
 cases x <;> simp <;> omega
theorem showB_one {N : Nat} {α : Type} {t : TypeId} {g : α → D} {Q : α → Prop} (h : ∀ (fuel : Nat) (cs : List Value) (x : DataW H × List MemPlace), SizeOf.sizeOf x.1 ≤ N → DataW.trod enc P w base (fun _ => true) true fuel t cs = some x → ∃ v a, cs = [v] ∧ Q a ∧ RepD w (fun b _ => b < w.heap.size) v (g a)) :
  ShowB N enc P w base t 1 (fun a => [g a]) Q := by
 intro fuel cs x hN hx
 obtain ⟨v, a, rfl, ha, hr⟩ := h fuel cs x hN hx
 refine ⟨rfl, a, ha, rfl, fun j u d h1 h2 => ?_⟩
 cases j with
 | zero => cases h1; cases h2; exact hr
 | succ j => cases h1
theorem showB_list {α : Type} {t e : TypeId} {es : Nat} {f : α → List D} {Q : α → Prop} (ht : P.underlying t = some (.slice e)) (hc : P.cellsOf e = es) (hpos : 0 < es) {N : Nat} (he : ShowB N enc P w base e es f Q) :
  ShowB N enc P w base t 1 (fun l : List α => [.list es (l.map f)]) (fun l => l.length ≤ maxLen ∧ ∀ x ∈ l, Q x) :=
 showB_one (g := fun l : List α => .list es (l.map f)) fun fuel cs x hN hx => by
  rcases open_slice ht hx with ⟨rfl, _⟩ | ⟨a, len, cap, m, k, Dt, Pl, rfl, hb, hl, hm, hmm, hxx, hf⟩
  ·exact ⟨_, [], rfl, ⟨Nat.zero_le _, by simp⟩, .nil _ _ _ (Nat.zero_le _)⟩
  ·refine ⟨.slice (some a) len cap, ?_⟩
   simp only [if_true] at hmm
   subst hmm
   rw [hc] at hf
   rcases Nat.eq_zero_or_pos len with h0 | h0
   ·subst h0
    exact ⟨[], rfl, ⟨Nat.zero_le _, by simp⟩, .nil _ _ _ hm⟩
   have h1 : ∀ i, i < len → ∃ y : α × List Value, Q y.1 ∧ w.cells? base (a.add (i * es)) es = some y.2 ∧ y.2.length = es ∧ (f y.1).length = es ∧ ∀ (j : Nat) (v : Value) (d : D), y.2[j]? = some v → (f y.1)[j]? = some d → RepD w (fun b _ => b < w.heap.size) v d := by
    intro i hi
    obtain ⟨cs, hcell, htr⟩ := hf i (by omega)
    obtain ⟨h2, y, h3, h4, h5⟩ := he _ _ _ (by rw [hxx] at hN; exact slice_size hN (List.mem_map.2 ⟨i, List.mem_range.2 hi, rfl⟩)) htr
    exact ⟨(y, cs), h3, hcell, h2, h4, h5⟩
   haveI : Inhabited (α × List Value) := ⟨Classical.choose (h1 0 h0)⟩
   obtain ⟨g, hg⟩ := choose_lt h1
   obtain ⟨b, o, spot⟩ := a
   have hspot : spot = none := by
    obtain ⟨_, h2, h3, _, _⟩ := hg 0 h0
    have h4 := (World.cells?_some h2).2.2 0 hpos
    rw [List.getElem?_eq_getElem (by omega)] at h4
    simpa [Addr.add] using World.cell?_spot h4
   subst hspot
   have hblk : b < w.heap.size := by
    obtain ⟨_, h2, _⟩ := hg 0 h0
    have := World.cells?_block h2 hpos
    simpa [Addr.add] using this
   refine ⟨(List.range len).map fun i => (g i).1, rfl, ⟨?_, fun x hx => ?_⟩, ?_⟩
   ·simp only [List.length_map, List.length_range]
    omega
   ·obtain ⟨j, hj, rfl⟩ := List.mem_map.1 hx
    exact (hg j (List.mem_range.1 hj)).1
   have hval : ∀ (i j : Nat) (e : List D) (d : D), (((List.range len).map fun i => (g i).1).map f)[i]? = some e → e[j]? = some d → i < len ∧ j < es ∧ e = f (g i).1 ∧ ∃ v, (g i).2[j]? = some v := by
    intro i j e d h2 h3
    rw [List.getElem?_map, List.getElem?_map, Option.map_eq_some_iff] at h2
    obtain ⟨x, h4, rfl⟩ := h2
    rw [Option.map_eq_some_iff] at h4
    obtain ⟨k, h5, rfl⟩ := h4
    have hi : i < len := by have := (List.getElem?_eq_some_iff.1 h5).1; simpa using this
    have hk : k = i := by simpa [hi] using h5.symm
    subst hk
    obtain ⟨_, _, h6, h7, _⟩ := hg k hi
    have hj : j < es := by have := (List.getElem?_eq_some_iff.1 h3).1; omega
    exact ⟨hi, hj, rfl, _, List.getElem?_eq_getElem (by omega)⟩
   refine .list b o len m es _ (fun i j => ((g i).2[j]?).getD undef) (by simp) (fun e he => ?_) hl hm (fun i j e d h2 h3 => ?_) (fun i j e d h2 h3 => ?_)
   ·obtain ⟨x, hx, rfl⟩ := List.mem_map.1 he
    obtain ⟨j, hj, rfl⟩ := List.mem_map.1 hx
    exact (hg j (List.mem_range.1 hj)).2.2.2.1
   ·obtain ⟨hi, hj, rfl, v, hv⟩ := hval i j e d h2 h3
    refine ⟨?_, hblk⟩
    obtain ⟨_, h4, _⟩ := hg i hi
    have h5 := (World.cells?_some h4).2.2 j hj
    rw [hv, add_plain, add_plain] at h5
    rw [hv]
    exact h5
   ·obtain ⟨hi, hj, rfl, v, hv⟩ := hval i j e d h2 h3
    rw [hv]
    exact (hg i hi).2.2.2.2 j v d hv h3
def ShowFsB (N : Nat) (enc : TypeId × Value → H) (P : Program) (w : World) (base : Nat) (o : Nat) (fs : List Field) (c : Nat) {α : Type} (f : α → List D) (Q : α → Prop) : Prop :=
 ∀ (n : Nat) (cs : List Value), (∀ (i : Nat) (fl : Field), fs[i]? = some fl → ∃ y, SizeOf.sizeOf y.1 ≤ N ∧ DataW.trod enc P w base (fun _ => true) true n fl.type ((cs.drop fl.offset).take (P.cellsOf fl.type)) = some y) →
  ∃ a, Q a ∧ (f a).length = c ∧ ∀ (j : Nat) (v : Value) (d : D), cs[o + j]? = some v → (f a)[j]? = some d → RepD w (fun b _ => b < w.heap.size) v d
theorem showsB_nil {N o : Nat} : ShowFsB N enc P w base o [] 0 (fun _ : Unit => []) (fun _ => True) := fun _ _ _ => ⟨(), trivial, rfl, fun j v d _ h => by cases h⟩
theorem showsB_cons {N : Nat} {α β : Type} {fl : Field} {o c c' : Nat} {fs : List Field} {f : α → List D} {Q : α → Prop} {g : β → List D} {R : β → Prop} (h : ShowB N enc P w base fl.type c f Q) (ho : fl.offset = o) (hc : P.cellsOf fl.type = c)
  (hr : ShowFsB N enc P w base (o + c) fs c' g R) : ShowFsB N enc P w base o (fl :: fs) (c + c') (fun x : α × β => f x.1 ++ g x.2) (fun x => Q x.1 ∧ R x.2) := by
 intro n cs hcs
 obtain ⟨y, hN, hy⟩ := hcs 0 fl rfl
 obtain ⟨_, a, h1, h2, h3⟩ := h _ _ _ hN hy
 obtain ⟨b, h4, h5, h6⟩ := hr n cs fun i f hf => hcs (i + 1) f hf
 refine ⟨(a, b), ⟨h1, h4⟩, by simp [h2, h5], fun j v d hv hd => ?_⟩
 have hd : (f a ++ g b)[j]? = some d := hd
 by_cases hj : j < c
 ·rw [List.getElem?_append_left (by omega)] at hd
  refine h3 j v d ?_ hd
  rw [ho, hc, List.getElem?_take, if_pos hj, List.getElem?_drop]
  exact hv
 ·rw [List.getElem?_append_right (by omega), h2] at hd
  refine h6 (j - c) v d ?_ hd
  rw [show o + c + (j - c) = o + j by omega]
  exact hv
theorem showB_struct {N : Nat} {α : Type} {t : TypeId} {fs : Array Field} {c : Nat} {f : α → List D} {Q : α → Prop} (ht : P.underlying t = some (.struct fs)) (hc : P.cellsOf t = c) (h : ShowFsB N enc P w base 0 fs.toList c f Q) : ShowB (N + 1) enc P w base t c f Q := by
 intro fuel cs x hN hx
 obtain ⟨xs, n, _, hxx, hl, hlen, hf⟩ := DataW.trod_struct ht hx
 obtain ⟨a, h1, h2, h3⟩ := h n cs fun i fl hfl => by
  have hfl' : fs[i]? = some fl := by simpa using hfl
  have hi : i < fs.size := (Array.getElem?_eq_some_iff.1 hfl').1
  exact ⟨_, by rw [hxx] at hN; exact agg_size hN (List.mem_map.2 ⟨_, List.getElem_mem (by omega), rfl⟩), (hf i fl hfl').trans (List.getElem?_eq_getElem (by omega))⟩
 exact ⟨hl.trans hc, a, h1, h2, fun j v d hv hd => h3 j v d (by simpa using hv) hd⟩
end
end Go.Proofs.Ytgiacdhffklenaa
end
section
namespace Go.Proofs.Ytgiacdhffklenaa
abbrev u_direct : ByteArray := ⟨#[100, 105, 114, 101, 99, 116]⟩
abbrev u_ride : ByteArray := ⟨#[114, 105, 100, 101]⟩
abbrev u_delay : ByteArray := ⟨#[100, 101, 108, 97, 121]⟩
abbrev u_notice : ByteArray := ⟨#[110, 111, 116, 105, 99, 101]⟩
abbrev u_seats : ByteArray := ⟨#[115, 101, 97, 116, 115]⟩
abbrev u_chairs : ByteArray := ⟨#[99, 104, 97, 105, 114, 115]⟩
abbrev u_bags : ByteArray := ⟨#[98, 97, 103, 115]⟩
abbrev u_riders : ByteArray := ⟨#[114, 105, 100, 101, 114, 115]⟩
abbrev u_favour : ByteArray := ⟨#[102, 97, 118, 111, 117, 114]⟩
abbrev u_balance : ByteArray := ⟨#[98, 97, 108, 97, 110, 99, 101]⟩
abbrev u_trips : ByteArray := ⟨#[116, 114, 105, 112, 115]⟩
abbrev u_noshows : ByteArray := ⟨#[110, 111, 115, 104, 111, 119, 115]⟩
def tripU (s : ByteArray) : Int := if s = u_direct ∨ s = u_ride ∨ s = u_delay ∨ s = u_notice then 2 else if s = u_seats ∨ s = u_chairs ∨ s = u_bags ∨ s = u_riders then 0 else -1
def memberU (s : ByteArray) : Int := if s = u_favour then 2 else if s = u_balance then 1 else if s = u_trips ∨ s = u_noshows then 0 else -1
inductive UR where
 | ok (u : Int)
 | bad (p : List Int) (e : Int)
def scopeU (sc : List (ByteArray × Int)) (s : ByteArray) : Int := match sc.find? (fun q => decide (q.1 = s)) with
 | some q => q.2
 | none => -1
def pairU (op a b : Int) : Int :=
 if op = 4 ∨ op = 5 ∨ op = 8 ∨ op = 9 then (if a = b ∧ a ≠ 3 then a else -1)
 else if op = 6 then (if a = 0 ∧ b ≠ 3 then b else if b = 0 ∧ a ≠ 3 then a else -1)
 else if op = 7 then (if b = 0 ∧ a ≠ 3 then a else if (a = b ∧ a ≠ 3) ∧ a ≠ 0 then 0 else -1)
 else if op = 10 then (if a = b ∧ a ≠ 3 then 3 else -1)
 else if op = 11 then (if a = b then 3 else -1) else -1
def joinU (op : Int) (l : List Int) : Int :=
 if op = 12 ∨ op = 13 ∨ op = 14 then (if l.any (fun u => !decide (u = 3)) then -1 else 3)
 else if op = 15 then (if l.getD 0 0 = 3 ∧ l.getD 1 0 = l.getD 2 0 then l.getD 1 0 else -1)
 else if l.length = 2 then pairU op (l.getD 0 0) (l.getD 1 0) else -1
def nameU (u : Int) : UR := if u = -1 then .bad [] 14 else .ok u
def partsU (op : Int) : List Int ⊕ (List Int × Int) → UR
 | .inl l => if joinU op l = -1 then .bad [] 13 else .ok (joinU op l)
 | .inr q => .bad q.1 q.2
def consU (i : Int) : UR → List Int ⊕ (List Int × Int) → List Int ⊕ (List Int × Int)
 | .bad p e, _ => .inr (i :: p, e)
 | .ok u, .inl l => .inl (u :: l)
 | .ok _, .inr q => .inr q
mutual
def Ex.unitU (sc : List (ByteArray × Int)) : Ex → UR
 | .mk op _ u s a => if op = 0 then .ok u else if op = 2 then nameU (tripU s) else if op = 3 then nameU (memberU s) else if op = 1 then nameU (scopeU sc s) else partsU op (Ex.unitsL sc 0 a)
def Ex.unitsL (sc : List (ByteArray × Int)) : Int → List Ex → List Int ⊕ (List Int × Int)
 | _, [] => .inl []
 | i, x :: r => consU i (x.unitU sc) (Ex.unitsL sc (i + 1) r)
end
theorem unit_eq (sc : List (ByteArray × Int)) (e : Ex) : e.unitU sc = if e.op = 0 then .ok e.unit else if e.op = 2 then nameU (tripU e.str) else if e.op = 3 then nameU (memberU e.str) else if e.op = 1 then nameU (scopeU sc e.str) else partsU e.op (Ex.unitsL sc 0 e.args) := by
 cases e
 rfl
def UR.un : UR → Int
 | .ok u => u
 | .bad _ _ => -1
def scopedU (ls : List (ByteArray × Ex)) : List (ByteArray × Int) := ls.foldl (fun sc q => sc ++ [(q.1, (q.2.unitU sc).un)]) []
theorem scoped_snoc (ls : List (ByteArray × Ex)) (q : ByteArray × Ex) : scopedU (ls ++ [q]) = scopedU ls ++ [(q.1, (q.2.unitU (scopedU ls)).un)] := by
 unfold scopedU
 rw [List.foldl_append]
 rfl
theorem scoped_len (ls : List (ByteArray × Ex)) : (scopedU ls).length = ls.length := by
 have key : ∀ (sc : List (ByteArray × Int)), (ls.foldl (fun sc q => sc ++ [(q.1, (q.2.unitU sc).un)]) sc).length = sc.length + ls.length := by
  induction ls with
  | nil => intro sc; rfl
  | cons q r ih =>
   intro sc
   rw [List.foldl_cons, ih, List.length_append, List.length_cons]
   simp only [List.length_cons, List.length_nil]
   omega
 have := key []
 unfold scopedU
 rw [this]
 simp
def wrongL (ls : List (ByteArray × Ex)) : Bool := ls.any fun q => !q.2.right 12
def ofU (ls : List (ByteArray × Ex)) (e : Ex) : Int × List Int × Int :=
 if !e.right 12 || (decide (20 < (ls.length : Int)) || wrongL ls) then (0, [], 1) else match e.unitU (scopedU ls) with
 | .ok u => (u, [], 0)
 | .bad p c => (0, p, c)
theorem name_ok {u v : Int} (h : nameU u = .ok v) : u ≠ -1 ∧ v = u := by
 unfold nameU at h
 split at h
 ·cases h
 ·cases h
  exact ⟨‹_›, rfl⟩
theorem parts_ok {op v : Int} {x : List Int ⊕ (List Int × Int)} (h : partsU op x = .ok v) : ∃ l, x = .inl l ∧ joinU op l ≠ -1 ∧ v = joinU op l := by
 cases x with
 | inl l =>
  simp only [partsU] at h
  split at h
  ·cases h
  ·cases h
   exact ⟨l, rfl, ‹_›, rfl⟩
 | inr q => cases h
theorem cons_ok {i : Int} {x : UR} {y : List Int ⊕ (List Int × Int)} {l : List Int} (h : consU i x y = .inl l) : ∃ u m, x = .ok u ∧ y = .inl m ∧ l = u :: m := by
 cases x with
 | bad p e => cases h
 | ok u =>
  cases y with
  | inl m => cases h; exact ⟨u, m, rfl, rfl, rfl⟩
  | inr q => cases h
abbrev nilE : Ex := .mk 0 0 0 ⟨#[]⟩ []
def atP : Ex → List Int → Option Ex
 | e, [] => some e
 | e, i :: p => if i < 0 ∨ (e.args.length : Int) ≤ i then none else atP (e.args.getD i.toNat nilE) p
def withP : Ex → List Int → Ex → Ex
 | _, [], x => x
 | e, i :: p, x => if i < 0 ∨ (e.args.length : Int) ≤ i then e else .mk e.op e.num e.unit e.str (e.args.set i.toNat (withP (e.args.getD i.toNat nilE) p x))
theorem getD_arg {a : List Ex} {k : Nat} (h : k < a.length) : a.getD k nilE = a[k] := by
 rw [List.getD_eq_getElem?_getD, List.getElem?_eq_getElem h]
 rfl
theorem units_ok (sc : List (ByteArray × Int)) : ∀ (i : Int) (a : List Ex) (l : List Int), Ex.unitsL sc i a = .inl l → l.length = a.length ∧ ∀ (j : Nat) (h : j < a.length), ∃ u, a[j].unitU sc = .ok u ∧ l[j]? = some u
 | i, [], l, h => by
  cases h
  exact ⟨rfl, fun j h => by simp at h⟩
 | i, x :: r, l, h => by
  simp only [Ex.unitsL] at h
  obtain ⟨u, m, h1, h2, rfl⟩ := cons_ok h
  obtain ⟨k1, k2⟩ := units_ok sc (i + 1) r m h2
  refine ⟨by simp [k1], fun j hj => ?_⟩
  cases j with
  | zero => exact ⟨u, h1, rfl⟩
  | succ j => exact k2 j (by simpa using hj)
theorem units_bad (sc : List (ByteArray × Int)) : ∀ (i : Int) (a : List Ex) (p : List Int) (c : Int), Ex.unitsL sc i a = .inr (p, c) → ∃ (k : Nat) (q : List Int) (h : k < a.length), p = (i + k) :: q ∧ a[k].unitU sc = .bad q c ∧ ∀ (j : Nat) (hj : j < a.length), j < k → ∃ u, a[j].unitU sc = .ok u
 | i, [], p, c, h => by cases h
 | i, x :: r, p, c, h => by
  simp only [Ex.unitsL] at h
  cases hx : x.unitU sc with
  | bad q e =>
   rw [hx] at h
   cases h
   exact ⟨0, q, by simp, by simp, hx, fun j hj h => by omega⟩
  | ok u =>
   rw [hx] at h
   cases hr : Ex.unitsL sc (i + 1) r with
   | inl l => rw [hr] at h; cases h
   | inr q =>
    rw [hr] at h
    cases h
    obtain ⟨k, q, hk, h1, h2, h3⟩ := units_bad sc (i + 1) r p c hr
    refine ⟨k + 1, q, by simpa using hk, by rw [h1]; congr 1; omega, h2, fun j hj hjk => ?_⟩
    cases j with
    | zero => exact ⟨u, hx⟩
    | succ j => exact h3 j (by simpa using hj) (by omega)
def Placed (sc : List (ByteArray × Int)) : Ex → List Int → Int → Prop
 | e, [], c => e.unitU sc = .bad [] c ∧ (∀ x ∈ e.args, ∃ u, x.unitU sc = .ok u) ∧ (c = 14 → e.op = 1 ∨ e.op = 2 ∨ e.op = 3) ∧ (c = 13 ∨ c = 14)
 | e, i :: p, c => ∃ (k : Nat) (h : k < e.args.length), i = k ∧ (∀ (j : Nat) (hj : j < e.args.length), j < k → ∃ u, e.args[j].unitU sc = .ok u) ∧ Placed sc e.args[k] p c
theorem right_args {e : Ex} {d : Nat} (h : e.right (d + 1) = true) : (e.op = 0 ∨ e.op = 1 ∨ e.op = 2 ∨ e.op = 3 → e.args = []) ∧ ∀ x ∈ e.args, x.right d = true := by
 rcases right_shape h with ⟨n, u, rfl, _⟩ | ⟨op, s, ho, rfl, _⟩ | ⟨x, rfl, hx⟩ | ⟨x, y, z, rfl, hx, hy, hz⟩ | ⟨op, x, y, ho, rfl, hx, hy⟩ | ⟨op, x, y, t, g, ho, rfl, hx, hy⟩
 ·exact ⟨fun _ => rfl, fun x hx => by cases hx⟩
 ·exact ⟨fun _ => rfl, fun x hx => by cases hx⟩
 ·refine ⟨fun h => by simp [Ex.op] at h, fun y hy => ?_⟩
  simp only [Ex.args, List.mem_singleton] at hy
  subst hy
  exact hx
 ·refine ⟨fun h => by simp [Ex.op] at h, fun w hw => ?_⟩
  simp only [Ex.args, List.mem_cons, List.not_mem_nil, or_false] at hw
  rcases hw with rfl | rfl | rfl <;> assumption
 ·refine ⟨fun h => ?_, fun w hw => ?_⟩
  ·simp only [two, Ex.op] at h; omega
  ·simp only [two, Ex.args, List.mem_cons, List.not_mem_nil, or_false] at hw
   rcases hw with rfl | rfl <;> assumption
 ·refine ⟨fun h => ?_, fun w hw => ?_⟩
  ·simp only [two, Ex.op] at h
   rcases opInfo_cases ho with ⟨rfl, _⟩ | ⟨rfl, _⟩ | ⟨rfl, _⟩ | ⟨rfl, _⟩ | ⟨rfl, _⟩ | ⟨rfl, _⟩ | ⟨rfl, _⟩ | ⟨rfl, _⟩ <;> simp at h
  ·simp only [two, Ex.args, List.mem_cons, List.not_mem_nil, or_false] at hw
   rcases hw with rfl | rfl <;> assumption
theorem right_more : ∀ (d : Nat) (e : Ex), e.right d = true → e.right (d + 1) = true
 | 0, e, h => by rw [right_zero] at h; cases h
 | d + 1, e, h => by
  have ih := right_more d
  have hs := (right_args h).2
  rw [right_eq] at h ⊢
  rw [Bool.and_eq_true] at h ⊢
  refine ⟨h.1, ?_⟩
  have h2 := h.2
  split
  ·rename_i h0; rw [if_pos h0] at h2; exact h2
  ·rename_i h0; rw [if_neg h0] at h2
   split
   ·rename_i h1; rw [if_pos h1] at h2; exact h2
   ·rename_i h1; rw [if_neg h1] at h2
    rw [Bool.and_eq_true] at h2 ⊢
    exact ⟨h2.1, List.all_eq_true.2 fun x hx => ih x (hs x hx)⟩
theorem right_le {d n : Nat} {e : Ex} (h : e.right d = true) (hn : d ≤ n) : e.right n = true := by
 induction n with
 | zero =>
  obtain rfl : d = 0 := by omega
  exact h
 | succ n ih =>
  by_cases hd : d = n + 1
  ·subst hd; exact h
  ·exact right_more n e (ih (by omega))
theorem uright_arg {e x : Ex} (h : e.right 12 = true) (hx : x ∈ e.args) : x.right 12 = true := right_le ((right_args h).2 x hx) (by omega)
theorem name_bad {u c : Int} {p : List Int} (h : nameU u = .bad p c) : p = [] ∧ c = 14 := by
 unfold nameU at h
 split at h
 ·cases h; exact ⟨rfl, rfl⟩
 ·cases h
theorem placed : ∀ (d : Nat) (sc : List (ByteArray × Int)) (e : Ex) (p : List Int) (c : Int), e.right d = true → e.unitU sc = .bad p c → Placed sc e p c ∧ p.length < d
 | 0, sc, e, p, c, h, _ => by rw [right_zero] at h; cases h
 | d + 1, sc, e, p, c, h, hb => by
  obtain ⟨ha, hs⟩ := right_args h
  have leaf : (e.op = 1 ∨ e.op = 2 ∨ e.op = 3) → p = [] ∧ c = 14 → Placed sc e p c ∧ p.length < d + 1 := by
   rintro ho ⟨rfl, rfl⟩
   refine ⟨⟨hb, fun x hx => ?_, fun _ => ho, .inr rfl⟩, by simp⟩
   rw [ha (by omega)] at hx
   cases hx
  have hb2 := hb
  rw [unit_eq] at hb2
  split at hb2
  ·cases hb2
  ·split at hb2
   ·rename_i h2; exact leaf (.inr (.inl h2)) (name_bad hb2)
   ·split at hb2
    ·rename_i h3; exact leaf (.inr (.inr h3)) (name_bad hb2)
    ·split at hb2
     ·rename_i h1; exact leaf (.inl h1) (name_bad hb2)
     ·cases hu : Ex.unitsL sc 0 e.args with
      | inl l =>
       rw [hu] at hb2
       simp only [partsU] at hb2
       split at hb2
       ·cases hb2
        refine ⟨⟨hb, fun x hx => ?_, fun h => by omega, .inl rfl⟩, by simp⟩
        obtain ⟨j, hj, rfl⟩ := List.getElem_of_mem hx
        obtain ⟨u, h1, _⟩ := (units_ok sc 0 _ _ hu).2 j hj
        exact ⟨u, h1⟩
       ·cases hb2
      | inr q =>
       rw [hu] at hb2
       cases hb2
       obtain ⟨k, q', hk, h1, h2, h3⟩ := units_bad sc 0 _ _ _ hu
       obtain ⟨h4, h5⟩ := placed d sc e.args[k] q' q.2 (hs _ (List.getElem_mem hk)) h2
       rw [h1]
       refine ⟨⟨k, hk, by omega, h3, h4⟩, by simp; omega⟩
theorem placed_at : ∀ (p : List Int) (sc : List (ByteArray × Int)) (e : Ex) (c : Int), Placed sc e p c → ∃ part, atP e p = some part ∧ Placed sc part [] c
 | [], sc, e, c, h => ⟨e, rfl, h⟩
 | i :: p, sc, e, c, ⟨k, hk, hi, _, h⟩ => by
  obtain ⟨part, h1, h2⟩ := placed_at p sc _ c h
  refine ⟨part, ?_, h2⟩
  simp only [atP]
  rw [if_neg (by omega), show i.toNat = k by omega, getD_arg hk]
  exact h1
theorem at_right : ∀ (p : List Int) (e part : Ex), e.right 12 = true → atP e p = some part → part.right 12 = true
 | [], e, part, h, hp => by cases hp; exact h
 | i :: p, e, part, h, hp => by
  simp only [atP] at hp
  split at hp
  ·cases hp
  ·rename_i hi
   have hk : i.toNat < e.args.length := by omega
   rw [getD_arg hk] at hp
   exact at_right p _ part (uright_arg h (List.getElem_mem hk)) hp
end Go.Proofs.Ytgiacdhffklenaa
end
