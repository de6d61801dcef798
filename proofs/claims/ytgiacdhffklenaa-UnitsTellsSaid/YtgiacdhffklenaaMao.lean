/-
  Conditions: none.
-/
import Derived.Lib.UnsafeStr
import Derived.Test.YtgiacdhffklenaaMan
set_option maxHeartbeats 16000000
set_option maxRecDepth 20000
section
set_option linter.unusedSimpArgs false
set_option linter.unusedVariables false
namespace Go.Proofs.Ytgiacdhffklenaa
open Go.RowKit
def inV (a b : Int) (l : List Int) : Bool := !l.any fun n => (decide (n < a) || decide (b < n))
def By.parts (x : By) : List Ex := [x.admit, x.fare, x.late, x.noshow]
def By.right (x : By) : Bool := (x.lets.all fun q => q.2.right 12) && (nameV x.name && (inV 0 1000 [x.quota, x.share] && (inV 1 1000 [x.change] && (uniqV (x.lets.map (·.1)) 20 && !(x.parts.any fun e => !e.right 12)))))
theorem right1b_any (e : Ex) (he : e.tame) : PureC 50 [.agg (exC e)] (· = .bool (!e.right 12)) := by
 have hc := rightExp_any e he
 refine pure_enter Try.func50 rfl (by decide) _ Try.ntmps50 (le_ok rfl) (fun w Pr hE => ?_)
 dsimp only [slotsOf, Nat.zero_add, Nat.reduceAdd]
 repeat' (first | (apply at_call; refine k_call (hc) hE ?_; rintro _ rfl) | refine nx ?_ | (apply qr_assign; refine r_assign ?_) | (apply qr_not; refine r_not ?_) | (apply qr_load; refine r_load ?_) | (apply qr_boxed; refine r_boxed ?_))
 refine rt1 ?_
 rfl
theorem findex (l : List Ex) (hl : l.length ≤ 100000) (ht : ∀ x ∈ l, Ex.tame x) : PureC 65 [.list 5 (Ex.rows l), .val (.func (.func 50) #[] #[])] (fun r => ∃ i : Int, r = .int i ∧ decide (0 ≤ i) = l.any fun x => !x.right 12) := by
 have hlen := rows_len l
 refine pure_enter Try.func65 rfl (by decide) _ Try.ntmps65 (le_ok rfl) (fun w Pr hE => ?_)
 dsimp only [slotsOf, Nat.zero_add, Nat.reduceAdd]
 repeat' (first | refine nx ?_ | (apply aq_block_y; decide) | (apply qr_move; refine r_move ?_) | (apply qr_assign; refine r_assign ?_) | (apply at_cond; first | refine c_t ?_ | refine c_f ?_ | (refine aw_cond rfl (fun hb => ?_) (fun hb => ?_) <;> ((try have hq := dX hb); (try (exfalso; omega))))) | (apply qr_lss; refine r_lss ?_) | (apply qr_add; refine r_add ?_) | (apply qr_len; refine r_len ?_) | (apply qr_ix; refine r_ix ?_) | (apply qr_load; refine r_load ?_))
 rw [hlen]
 refine aw_lp (fun N sl ob => ∃ i : Nat, N = l.length - i ∧ i ≤ l.length ∧ ((l.take i).any fun x => !x.right 12) = false ∧ sl = [(8, .d (.int i)), (7, .d (.int l.length)), (1, .d (.val (.func (.func 50) #[] #[]))), (0, .d (.list 5 (Ex.rows l)))] ∧ ob = []) (⟨0, rfl, Nat.zero_le _, by simp, rfl, rfl⟩) ?_
 rintro N sl ob ⟨i, rfl, hi, hs, rfl, rfl⟩
 by_cases hlt : i < l.length
 ·have hg := rows_get hlt
  have hnext := any_take (fun x : Ex => !x.right 12) hlt
  rw [hs, Bool.false_or] at hnext
  have hc := right1b_any l[i] (ht _ (List.getElem_mem hlt))
  cases hT : l[i].right 12
  ·rw [hT] at hc
   have hany : (l.any fun x => !x.right 12) = true := List.any_eq_true.2 ⟨l[i], List.getElem_mem hlt, by simp [hT]⟩
   generalize l[i] = z at hg hc
   repeat' (first | (apply at_op (.indexAddr _ _ _); refine al_ixq hg ?_) | (apply at_call; refine k_call (hc) hE ?_; rintro _ rfl) | refine nx ?_ | (apply aq_block_y; decide) | (apply qr_move; refine r_move ?_) | (apply qr_assign; refine r_assign ?_) | (apply at_cond; first | refine c_t ?_ | refine c_f ?_ | (refine aw_cond rfl (fun hb => ?_) (fun hb => ?_) <;> ((try have hq := dX hb); (try (exfalso; omega))))) | (apply qr_lss; refine r_lss ?_) | (apply qr_add; refine r_add ?_) | (apply qr_len; refine r_len ?_) | (apply qr_ix; refine r_ix ?_) | (apply qr_load; refine r_load ?_))
   refine rt1 ?_
   exact ⟨i, rfl, by rw [hany]; exact decide_eq_true (by omega)⟩
  ·rw [hT] at hc hnext
   generalize l[i] = z at hg hc
   repeat' (first | (apply at_op (.indexAddr _ _ _); refine al_ixq hg ?_) | (apply at_call; refine k_call (hc) hE ?_; rintro _ rfl) | refine nx ?_ | (apply aq_block_y; decide) | (apply qr_move; refine r_move ?_) | (apply qr_assign; refine r_assign ?_) | (apply at_cond; first | refine c_t ?_ | refine c_f ?_ | (refine aw_cond rfl (fun hb => ?_) (fun hb => ?_) <;> ((try have hq := dX hb); (try (exfalso; omega))))) | (apply qr_lss; refine r_lss ?_) | (apply qr_add; refine r_add ?_) | (apply qr_len; refine r_len ?_) | (apply qr_ix; refine r_ix ?_) | (apply qr_load; refine r_load ?_))
   refine aq_rd (⟨i + 1, rfl, by omega, hnext, rfl, rfl⟩) (by omega)
 ·rw [List.take_of_length_le (by omega)] at hs
  repeat' (first | refine nx ?_ | (apply aq_block_y; decide) | (apply qr_move; refine r_move ?_) | (apply qr_assign; refine r_assign ?_) | (apply at_cond; first | refine c_t ?_ | refine c_f ?_ | (refine aw_cond rfl (fun hb => ?_) (fun hb => ?_) <;> ((try have hq := dX hb); (try (exfalso; omega))))) | (apply qr_lss; refine r_lss ?_) | (apply qr_add; refine r_add ?_) | (apply qr_len; refine r_len ?_) | (apply qr_ix; refine r_ix ?_) | (apply qr_load; refine r_load ?_))
  refine rt1 ?_
  exact ⟨-1, rfl, by rw [hs]; rfl⟩
theorem fcontains (l : List Ex) (hl : l.length ≤ 100000) (ht : ∀ x ∈ l, Ex.tame x) : PureC 49 [.list 5 (Ex.rows l), .val (.func (.func 50) #[] #[])] (· = .bool (l.any fun x => !x.right 12)) := by
 have hc := findex l hl ht
 refine pure_enter Try.func49 rfl (by decide) _ Try.ntmps49 (le_ok rfl) (fun w Pr hE => ?_)
 dsimp only [slotsOf, Nat.zero_add, Nat.reduceAdd]
 repeat' (first | (apply at_call; refine k_call (hc) hE ?_; rintro _ ⟨r, rfl, hr⟩) | refine nx ?_ | (apply qr_move; refine r_move ?_) | (apply qr_assign; refine r_assign ?_) | (apply qr_geq; refine r_geq ?_))
 refine rt1 ?_
 rw [hr]
theorem lets_tame {x : By} (h : x.tame) : ∀ s ∈ x.lets.map (·.1), s.size ≤ 100000 := by
 intro s hs
 obtain ⟨q, hq, rfl⟩ := List.mem_map.1 hs
 exact (h.lets q hq).1
theorem byRight_any (x : By) (hx : x.tame) : PureC 37 [.agg (byC x)] (· = .bool x.right) := by
 have hna := name_any x.name (by have := hx.name; omega)
 have hi1 := in_any 0 1000 [x.quota, x.share] (by simp)
 have hi2 := in_any 1 1000 [x.change] (by simp)
 have hun := unique_any (x.lets.map (·.1)) 20 (by rw [List.length_map]; exact hx.len) (lets_tame hx)
 have hfc : PureC 49 [.list 5 [exC x.admit, exC x.fare, exC x.late, exC x.noshow], .val (.func (.func 50) #[] #[])] (· = .bool (x.parts.any fun e => !e.right 12)) := by
  have h := fcontains x.parts (by show 4 ≤ 100000; omega) (by
   intro e he
   simp only [By.parts, List.mem_cons, List.not_mem_nil, or_false] at he
   rcases he with rfl | rfl | rfl | rfl
   ·exact hx.admit
   ·exact hx.fare
   ·exact hx.late
   ·exact hx.noshow)
  rw [rows_map] at h
  exact h
 have hlen := hx.len
 have hml : (x.lets.map letC).length = x.lets.length := List.length_map ..
 obtain ⟨R, hR⟩ : ∃ R, R = x.right := ⟨_, rfl⟩
 rw [← hR]
 unfold By.right inV at hR
 generalize (!([x.quota, x.share].any fun n => (decide (n < 0) || decide (1000 < n)))) = b1 at hi1 hR
 generalize (!([x.change].any fun n => (decide (n < 1) || decide (1000 < n)))) = b2 at hi2 hR
 generalize uniqV (x.lets.map (·.1)) 20 = b3 at hun hR
 generalize (x.parts.any fun e => !e.right 12) = b4 at hfc hR
 generalize nameV x.name = b0 at hna hR
 refine pure_enter Try.func37 rfl (by decide) _ Try.ntmps37 (le_ok rfl) (fun w Pr hE => ?_)
 dsimp only [slotsOf, Nat.zero_add, Nat.reduceAdd]
 repeat' (first | refine nx ?_ | (apply aq_block_y; decide) | (apply qr_assign; refine r_assign ?_) | (apply at_cond; first | refine c_t ?_ | refine c_f ?_ | (refine aw_cond rfl (fun hb => ?_) (fun hb => ?_) <;> ((try have hq := dX hb); (try (exfalso; omega))))) | (apply qr_boxed; refine r_boxed ?_))
 refine al_adopt 3 3 9 1 rfl rfl (lt_ok rfl) ?_
 repeat' (first | refine nx ?_ | (apply aq_block_y; decide) | (apply qr_move; refine r_move ?_) | (apply at_cond; first | refine c_t ?_ | refine c_f ?_ | (refine aw_cond rfl (fun hb => ?_) (fun hb => ?_) <;> ((try have hq := dX hb); (try (exfalso; omega))))) | (apply qr_len; refine r_len ?_) | (apply qr_load; refine r_load ?_) | (apply qr_faddr; refine r_faddr ?_))
 refine aw_lp (fun N sl ob => ∃ i : Nat, N = x.lets.length - i ∧ i ≤ x.lets.length ∧ ((x.lets.take i).all fun q => q.2.right 12) = true ∧ sl = [(10, .d (.int i)), (9, .d (.int x.lets.length)), (8, .d (letsD x.lets)), (3, .row 3 i), (2, .d (.bool false)), (1, .box 1 0)] ∧ ob = [(3, namR i ((x.lets.take i).map (·.1))), (1, byO' x)]) (⟨0, rfl, Nat.zero_le _, by simp, rfl, rfl⟩) ?_
 rintro N sl ob ⟨i, rfl, hi, ha, rfl, rfl⟩
 by_cases hlt : i < x.lets.length
 ·have hg : (x.lets.map letC)[i]? = some (letC x.lets[i]) := by rw [get_map hlt]
  have hc := rightExp_any x.lets[i].2 (hx.lets _ (List.getElem_mem hlt)).2
  have hnx := all_take (fun q : ByteArray × Ex => q.2.right 12) hlt
  rw [ha, Bool.true_and] at hnx
  have hmi : ((x.lets.take i).map (·.1)).map (fun s => [D.str s]) ++ [[D.str x.lets[i].1]] = ((x.lets.take (i + 1)).map (·.1)).map (fun s => [D.str s]) := by
   rw [List.take_succ_eq_append_getElem hlt, List.map_append, List.map_append]
   rfl
  have hln : (((x.lets.take i).map (·.1)).map (fun s => [D.str s])).length = i := by rw [List.length_map, List.length_map, List.length_take]; omega
  cases hT : x.lets[i].2.right 12
  ·rw [hT] at hc
   have hall : (x.lets.all fun q => q.2.right 12) = false := by
    rw [Bool.eq_false_iff, Ne, List.all_eq_true]
    intro h
    have := h _ (List.getElem_mem hlt)
    rw [hT] at this
    cases this
   rw [hall, Bool.false_and] at hR
   rw [hR]
   clear hmi
   generalize x.lets[i] = z at hg hc
   repeat' (first | (apply at_op (.indexAddr _ _ _); refine al_ixq hg ?_) | (apply at_call; refine k_call (hc) hE ?_; rintro _ rfl) | refine nx ?_ | (apply aq_block_y; decide) | (apply qr_assign; refine r_assign ?_) | (apply at_cond; first | refine c_t ?_ | refine c_f ?_ | (refine aw_cond rfl (fun hb => ?_) (fun hb => ?_) <;> ((try have hq := dX hb); (try (exfalso; omega))))) | (apply qr_lss; refine r_lss ?_) | (apply qr_not; refine r_not ?_) | (apply qr_ix; refine r_ix ?_) | (apply qr_load; refine r_load ?_) | (apply qr_faddr; refine r_faddr ?_) | (apply qr_alloc; refine r_alloc ?_) | (apply qr_store; refine r_store ?_))
   refine rt1 ?_
   rfl
  ·rw [hT] at hc hnx
   generalize x.lets[i] = z at hg hc hmi
   have hl1 : [[D.val (Value.string z.fst)]].length = 1 := rfl
   repeat' (first | (apply at_op (.indexAddr _ _ _); refine al_ixq hg ?_) | (apply at_call; refine k_call (hc) hE ?_; rintro _ rfl) | refine nx ?_ | (apply aq_block_y; decide) | (apply qr_move; refine r_move ?_) | (apply qr_assign; refine r_assign ?_) | (apply at_cond; first | refine c_t ?_ | refine c_f ?_ | (refine aw_cond rfl (fun hb => ?_) (fun hb => ?_) <;> ((try have hq := dX hb); (try (exfalso; omega))))) | (apply qr_lss; refine r_lss ?_) | (apply qr_not; refine r_not ?_) | (apply qr_ix; refine r_ix ?_) | (apply qr_load; refine r_load ?_) | (apply qr_faddr; refine r_faddr ?_) | (apply qr_alloc; refine r_alloc ?_) | (apply qr_store; refine r_store ?_) | (apply qr_lits; refine r_lits ?_) | (apply qr_appd; refine r_appd ?_))
   simp only [namR]
   rw [hmi]
   repeat' (first | refine nx ?_ | (apply aq_block_y; decide) | (apply qr_move; refine r_move ?_) | (apply at_cond; first | refine c_t ?_ | refine c_f ?_ | (refine aw_cond rfl (fun hb => ?_) (fun hb => ?_) <;> ((try have hq := dX hb); (try (exfalso; omega))))) | (apply qr_add; refine r_add ?_))
   refine aq_rd (⟨i + 1, rfl, by omega, hnx, rfl, rfl⟩) (by omega)
 ·obtain rfl : i = x.lets.length := by omega
  rw [List.take_length] at ha
  rw [ha, Bool.true_and] at hR
  rw [List.take_length]
  cases b0
  ·rw [Bool.false_and] at hR
   rw [hR]
   repeat' (first | (apply at_call; refine k_call (hna) hE ?_; rintro _ rfl) | (apply at_call; refine k_call (hi1) hE ?_; rintro _ rfl; clear hi1) | (apply at_call; refine k_call (hi2) hE ?_; rintro _ rfl) | (apply at_call; refine k_call (hun) hE ?_; rintro _ rfl) | (apply at_call; refine k_call (hfc) hE ?_; rintro _ rfl) | refine nx ?_ | (apply aq_block_y; decide) | (apply qr_move; refine r_move ?_) | (apply qr_assign; refine r_assign ?_) | (apply at_cond; first | refine c_t ?_ | refine c_f ?_ | (refine aw_cond rfl (fun hb => ?_) (fun hb => ?_) <;> ((try have hq := dX hb); (try (exfalso; omega))))) | (apply at_guard; first | refine g_go ?_ | refine g_nt ?_ | refine g_nf ?_ | refine g_nu ?_ | ((first | refine al_split_t rfl rfl (lt_ok rfl) (fun hb => ?_) (fun hb => ?_) | refine al_split_f rfl rfl (lt_ok rfl) (fun hb => ?_) (fun hb => ?_)) <;> ((try have hq := dX hb); (try (exfalso; omega))))) | (apply qr_pick; refine r_pick ?_) | (apply qr_lss; refine r_lss ?_) | (apply qr_not; refine r_not ?_) | (apply qr_load; refine r_load ?_) | (apply qr_faddr; refine r_faddr ?_) | (apply qr_lits; refine r_lits ?_))
   refine rt1 ?_
   rfl
  rw [Bool.true_and] at hR
  cases b1
  ·rw [Bool.false_and] at hR
   rw [hR]
   repeat' (first | (apply at_call; refine k_call (hna) hE ?_; rintro _ rfl) | (apply at_call; refine k_call (hi1) hE ?_; rintro _ rfl; clear hi1) | (apply at_call; refine k_call (hi2) hE ?_; rintro _ rfl) | (apply at_call; refine k_call (hun) hE ?_; rintro _ rfl) | (apply at_call; refine k_call (hfc) hE ?_; rintro _ rfl) | refine nx ?_ | (apply aq_block_y; decide) | (apply qr_move; refine r_move ?_) | (apply qr_assign; refine r_assign ?_) | (apply at_cond; first | refine c_t ?_ | refine c_f ?_ | (refine aw_cond rfl (fun hb => ?_) (fun hb => ?_) <;> ((try have hq := dX hb); (try (exfalso; omega))))) | (apply at_guard; first | refine g_go ?_ | refine g_nt ?_ | refine g_nf ?_ | refine g_nu ?_ | ((first | refine al_split_t rfl rfl (lt_ok rfl) (fun hb => ?_) (fun hb => ?_) | refine al_split_f rfl rfl (lt_ok rfl) (fun hb => ?_) (fun hb => ?_)) <;> ((try have hq := dX hb); (try (exfalso; omega))))) | (apply qr_pick; refine r_pick ?_) | (apply qr_lss; refine r_lss ?_) | (apply qr_not; refine r_not ?_) | (apply qr_load; refine r_load ?_) | (apply qr_faddr; refine r_faddr ?_) | (apply qr_lits; refine r_lits ?_))
   refine rt1 ?_
   rfl
  rw [Bool.true_and] at hR
  cases b2
  ·rw [Bool.false_and] at hR
   rw [hR]
   repeat' (first | (apply at_call; refine k_call (hna) hE ?_; rintro _ rfl) | (apply at_call; refine k_call (hi1) hE ?_; rintro _ rfl; clear hi1) | (apply at_call; refine k_call (hi2) hE ?_; rintro _ rfl) | (apply at_call; refine k_call (hun) hE ?_; rintro _ rfl) | (apply at_call; refine k_call (hfc) hE ?_; rintro _ rfl) | refine nx ?_ | (apply aq_block_y; decide) | (apply qr_move; refine r_move ?_) | (apply qr_assign; refine r_assign ?_) | (apply at_cond; first | refine c_t ?_ | refine c_f ?_ | (refine aw_cond rfl (fun hb => ?_) (fun hb => ?_) <;> ((try have hq := dX hb); (try (exfalso; omega))))) | (apply at_guard; first | refine g_go ?_ | refine g_nt ?_ | refine g_nf ?_ | refine g_nu ?_ | ((first | refine al_split_t rfl rfl (lt_ok rfl) (fun hb => ?_) (fun hb => ?_) | refine al_split_f rfl rfl (lt_ok rfl) (fun hb => ?_) (fun hb => ?_)) <;> ((try have hq := dX hb); (try (exfalso; omega))))) | (apply qr_pick; refine r_pick ?_) | (apply qr_lss; refine r_lss ?_) | (apply qr_not; refine r_not ?_) | (apply qr_load; refine r_load ?_) | (apply qr_faddr; refine r_faddr ?_) | (apply qr_lits; refine r_lits ?_))
   refine rt1 ?_
   rfl
  rw [Bool.true_and] at hR
  cases b3
  ·rw [Bool.false_and] at hR
   rw [hR]
   repeat' (first | (apply at_call; refine k_call (hna) hE ?_; rintro _ rfl) | (apply at_call; refine k_call (hi1) hE ?_; rintro _ rfl; clear hi1) | (apply at_call; refine k_call (hi2) hE ?_; rintro _ rfl) | (apply at_call; refine k_call (hun) hE ?_; rintro _ rfl) | (apply at_call; refine k_call (hfc) hE ?_; rintro _ rfl) | refine nx ?_ | (apply aq_block_y; decide) | (apply qr_move; refine r_move ?_) | (apply qr_assign; refine r_assign ?_) | (apply at_cond; first | refine c_t ?_ | refine c_f ?_ | (refine aw_cond rfl (fun hb => ?_) (fun hb => ?_) <;> ((try have hq := dX hb); (try (exfalso; omega))))) | (apply at_guard; first | refine g_go ?_ | refine g_nt ?_ | refine g_nf ?_ | refine g_nu ?_ | ((first | refine al_split_t rfl rfl (lt_ok rfl) (fun hb => ?_) (fun hb => ?_) | refine al_split_f rfl rfl (lt_ok rfl) (fun hb => ?_) (fun hb => ?_)) <;> ((try have hq := dX hb); (try (exfalso; omega))))) | (apply qr_pick; refine r_pick ?_) | (apply qr_lss; refine r_lss ?_) | (apply qr_not; refine r_not ?_) | (apply qr_load; refine r_load ?_) | (apply qr_faddr; refine r_faddr ?_) | (apply qr_lits; refine r_lits ?_))
   refine rt1 ?_
   rfl
  rw [Bool.true_and] at hR
  rw [hR]
  repeat' (first | (apply at_call; refine k_call (hna) hE ?_; rintro _ rfl) | (apply at_call; refine k_call (hi1) hE ?_; rintro _ rfl; clear hi1) | (apply at_call; refine k_call (hi2) hE ?_; rintro _ rfl) | (apply at_call; refine k_call (hun) hE ?_; rintro _ rfl) | (apply at_call; refine k_call (hfc) hE ?_; rintro _ rfl) | refine nx ?_ | (apply aq_block_y; decide) | (apply qr_move; refine r_move ?_) | (apply qr_assign; refine r_assign ?_) | (apply at_cond; first | refine c_t ?_ | refine c_f ?_ | (refine aw_cond rfl (fun hb => ?_) (fun hb => ?_) <;> ((try have hq := dX hb); (try (exfalso; omega))))) | (apply at_guard; first | refine g_go ?_ | refine g_nt ?_ | refine g_nf ?_ | refine g_nu ?_ | ((first | refine al_split_t rfl rfl (lt_ok rfl) (fun hb => ?_) (fun hb => ?_) | refine al_split_f rfl rfl (lt_ok rfl) (fun hb => ?_) (fun hb => ?_)) <;> ((try have hq := dX hb); (try (exfalso; omega))))) | (apply qr_pick; refine r_pick ?_) | (apply qr_lss; refine r_lss ?_) | (apply qr_not; refine r_not ?_) | (apply qr_load; refine r_load ?_) | (apply qr_faddr; refine r_faddr ?_) | (apply qr_lits; refine r_lits ?_))
  refine rt1 ?_
  rfl
end Go.Proofs.Ytgiacdhffklenaa
end
section
set_option linter.unusedSimpArgs false
set_option linter.unusedVariables false
namespace Go.Proofs.Ytgiacdhffklenaa
open Go.RowKit
def withV (n a b : Int) : Bool := decide (a ≤ n) && decide (n ≤ b)
theorem withV_iff (n a b : Int) : withV n a b = true ↔ a ≤ n ∧ n ≤ b := by simp [withV]
theorem inV_iff (a b : Int) (l : List Int) : inV a b l = true ↔ ∀ n ∈ l, a ≤ n ∧ n ≤ b := by
 unfold inV
 rw [Bool.not_eq_true', Bool.eq_false_iff, Ne, List.any_eq_true]
 constructor
 ·intro h n hn
  refine ⟨?_, ?_⟩
  ·by_cases hx : a ≤ n
   ·exact hx
   ·exact absurd ⟨n, hn, by simp; omega⟩ h
  ·by_cases hx : n ≤ b
   ·exact hx
   ·exact absurd ⟨n, hn, by simp; omega⟩ h
 ·rintro h ⟨n, hn, hx⟩
  have := h n hn
  simp at hx
  omega
theorem right_ref (x : By) : x.right = (nameV x.name && (x.admit.right 12 && (x.fare.right 12 && (x.late.right 12 && (x.noshow.right 12 && (withV x.quota 0 1000 && (withV x.share 0 1000 && (withV x.change 1 1000 && ((x.lets.all fun q => q.2.right 12) && uniqV (x.lets.map (·.1)) 20))))))))) := by
 rw [Bool.eq_iff_iff]
 unfold By.right
 rw [any_not]
 simp only [Bool.and_eq_true, inV_iff, withV_iff, By.parts, List.all_cons, List.all_nil, List.mem_cons, List.not_mem_nil, or_false, forall_eq_or_imp, forall_eq, and_true]
 constructor
 ·rintro ⟨h1, h2, ⟨h3, h4⟩, h5, h6, h7, h8, h9, h10⟩
  exact ⟨h2, h7, h8, h9, h10, h3, h4, h5, h1, h6⟩
 ·rintro ⟨h2, h7, h8, h9, h10, h3, h4, h5, h1, h6⟩
  exact ⟨h1, h2, ⟨h3, h4⟩, h5, h6, h7, h8, h9, h10⟩
theorem rbyRight_any (x : By) (hx : x.tame) : PureC 38 [.agg (byC x)] (· = .bool x.right) := by
 have hna := rname_any x.name (by have := hx.name; omega)
 have k1 := rrightExp_any x.admit hx.admit
 have k2 := rrightExp_any x.fare hx.fare
 have k3 := rrightExp_any x.late hx.late
 have k4 := rrightExp_any x.noshow hx.noshow
 have m1 := within_any x.quota 0 1000
 have m2 := within_any x.share 0 1000
 have m3 := within_any x.change 1 1000
 have hun := names_any (x.lets.map (·.1)) 20 (by omega) (by rw [List.length_map]; exact hx.len) (lets_tame hx)
 have hlen := hx.len
 have hml : (x.lets.map letC).length = x.lets.length := List.length_map ..
 obtain ⟨R, hR⟩ : ∃ R, R = x.right := ⟨_, rfl⟩
 rw [← hR]
 rw [right_ref] at hR
 unfold withV at hR
 generalize hun0 : uniqV (x.lets.map (·.1)) 20 = b9 at hR
 rw [show ((20 : Nat) : Int) = 20 from rfl, hun0] at hun
 clear hun0
 generalize nameV x.name = b0 at hna hR
 cases b0
 ·rw [Bool.false_and] at hR
  rw [hR]
  refine pure_enter Try.func38 rfl (by decide) _ Try.ntmps38 (le_ok rfl) (fun w Pr hE => ?_)
  dsimp only [slotsOf, Nat.zero_add, Nat.reduceAdd]
  repeat' (first | (apply at_call; refine k_call (hna) hE ?_; rintro _ rfl) | (apply at_call; refine k_call (k1) hE ?_; rintro _ rfl; clear k1) | (apply at_call; refine k_call (k2) hE ?_; rintro _ rfl; clear k2) | (apply at_call; refine k_call (k3) hE ?_; rintro _ rfl; clear k3) | (apply at_call; refine k_call (k4) hE ?_; rintro _ rfl) | (apply at_call; refine k_call (m1) hE ?_; rintro _ rfl; clear m1) | (apply at_call; refine k_call (m2) hE ?_; rintro _ rfl; clear m2) | (apply at_call; refine k_call (m3) hE ?_; rintro _ rfl) | refine nx ?_ | (apply aq_block_y; decide) | (apply qr_move; refine r_move ?_) | (apply qr_assign; refine r_assign ?_) | (apply at_cond; first | refine c_t ?_ | refine c_f ?_ | (refine aw_cond rfl (fun hb => ?_) (fun hb => ?_) <;> ((try have hq := dX hb); (try (exfalso; omega))))) | (apply at_guard; first | refine g_go ?_ | refine g_nt ?_ | refine g_nf ?_ | refine g_nu ?_ | ((first | refine al_split_t rfl rfl (lt_ok rfl) (fun hb => ?_) (fun hb => ?_) | refine al_split_f rfl rfl (lt_ok rfl) (fun hb => ?_) (fun hb => ?_)) <;> ((try have hq := dX hb); (try (exfalso; omega))))) | (apply qr_pick; refine r_pick ?_) | (apply qr_not; refine r_not ?_) | (apply qr_load; refine r_load ?_) | (apply qr_faddr; refine r_faddr ?_) | (apply qr_boxed; refine r_boxed ?_))
  refine rt1 ?_
  rfl
 rw [Bool.true_and] at hR
 generalize x.admit.right 12 = b1 at k1 hR
 cases b1
 ·rw [Bool.false_and] at hR
  rw [hR]
  refine pure_enter Try.func38 rfl (by decide) _ Try.ntmps38 (le_ok rfl) (fun w Pr hE => ?_)
  dsimp only [slotsOf, Nat.zero_add, Nat.reduceAdd]
  repeat' (first | (apply at_call; refine k_call (hna) hE ?_; rintro _ rfl) | (apply at_call; refine k_call (k1) hE ?_; rintro _ rfl; clear k1) | (apply at_call; refine k_call (k2) hE ?_; rintro _ rfl; clear k2) | (apply at_call; refine k_call (k3) hE ?_; rintro _ rfl; clear k3) | (apply at_call; refine k_call (k4) hE ?_; rintro _ rfl) | (apply at_call; refine k_call (m1) hE ?_; rintro _ rfl; clear m1) | (apply at_call; refine k_call (m2) hE ?_; rintro _ rfl; clear m2) | (apply at_call; refine k_call (m3) hE ?_; rintro _ rfl) | refine nx ?_ | (apply aq_block_y; decide) | (apply qr_move; refine r_move ?_) | (apply qr_assign; refine r_assign ?_) | (apply at_cond; first | refine c_t ?_ | refine c_f ?_ | (refine aw_cond rfl (fun hb => ?_) (fun hb => ?_) <;> ((try have hq := dX hb); (try (exfalso; omega))))) | (apply at_guard; first | refine g_go ?_ | refine g_nt ?_ | refine g_nf ?_ | refine g_nu ?_ | ((first | refine al_split_t rfl rfl (lt_ok rfl) (fun hb => ?_) (fun hb => ?_) | refine al_split_f rfl rfl (lt_ok rfl) (fun hb => ?_) (fun hb => ?_)) <;> ((try have hq := dX hb); (try (exfalso; omega))))) | (apply qr_pick; refine r_pick ?_) | (apply qr_not; refine r_not ?_) | (apply qr_load; refine r_load ?_) | (apply qr_faddr; refine r_faddr ?_) | (apply qr_boxed; refine r_boxed ?_))
  refine rt1 ?_
  rfl
 rw [Bool.true_and] at hR
 generalize x.fare.right 12 = b2 at k2 hR
 cases b2
 ·rw [Bool.false_and] at hR
  rw [hR]
  refine pure_enter Try.func38 rfl (by decide) _ Try.ntmps38 (le_ok rfl) (fun w Pr hE => ?_)
  dsimp only [slotsOf, Nat.zero_add, Nat.reduceAdd]
  repeat' (first | (apply at_call; refine k_call (hna) hE ?_; rintro _ rfl) | (apply at_call; refine k_call (k1) hE ?_; rintro _ rfl; clear k1) | (apply at_call; refine k_call (k2) hE ?_; rintro _ rfl; clear k2) | (apply at_call; refine k_call (k3) hE ?_; rintro _ rfl; clear k3) | (apply at_call; refine k_call (k4) hE ?_; rintro _ rfl) | (apply at_call; refine k_call (m1) hE ?_; rintro _ rfl; clear m1) | (apply at_call; refine k_call (m2) hE ?_; rintro _ rfl; clear m2) | (apply at_call; refine k_call (m3) hE ?_; rintro _ rfl) | refine nx ?_ | (apply aq_block_y; decide) | (apply qr_move; refine r_move ?_) | (apply qr_assign; refine r_assign ?_) | (apply at_cond; first | refine c_t ?_ | refine c_f ?_ | (refine aw_cond rfl (fun hb => ?_) (fun hb => ?_) <;> ((try have hq := dX hb); (try (exfalso; omega))))) | (apply at_guard; first | refine g_go ?_ | refine g_nt ?_ | refine g_nf ?_ | refine g_nu ?_ | ((first | refine al_split_t rfl rfl (lt_ok rfl) (fun hb => ?_) (fun hb => ?_) | refine al_split_f rfl rfl (lt_ok rfl) (fun hb => ?_) (fun hb => ?_)) <;> ((try have hq := dX hb); (try (exfalso; omega))))) | (apply qr_pick; refine r_pick ?_) | (apply qr_not; refine r_not ?_) | (apply qr_load; refine r_load ?_) | (apply qr_faddr; refine r_faddr ?_) | (apply qr_boxed; refine r_boxed ?_))
  refine rt1 ?_
  rfl
 rw [Bool.true_and] at hR
 generalize x.late.right 12 = b3 at k3 hR
 cases b3
 ·rw [Bool.false_and] at hR
  rw [hR]
  refine pure_enter Try.func38 rfl (by decide) _ Try.ntmps38 (le_ok rfl) (fun w Pr hE => ?_)
  dsimp only [slotsOf, Nat.zero_add, Nat.reduceAdd]
  repeat' (first | (apply at_call; refine k_call (hna) hE ?_; rintro _ rfl) | (apply at_call; refine k_call (k1) hE ?_; rintro _ rfl; clear k1) | (apply at_call; refine k_call (k2) hE ?_; rintro _ rfl; clear k2) | (apply at_call; refine k_call (k3) hE ?_; rintro _ rfl; clear k3) | (apply at_call; refine k_call (k4) hE ?_; rintro _ rfl) | (apply at_call; refine k_call (m1) hE ?_; rintro _ rfl; clear m1) | (apply at_call; refine k_call (m2) hE ?_; rintro _ rfl; clear m2) | (apply at_call; refine k_call (m3) hE ?_; rintro _ rfl) | refine nx ?_ | (apply aq_block_y; decide) | (apply qr_move; refine r_move ?_) | (apply qr_assign; refine r_assign ?_) | (apply at_cond; first | refine c_t ?_ | refine c_f ?_ | (refine aw_cond rfl (fun hb => ?_) (fun hb => ?_) <;> ((try have hq := dX hb); (try (exfalso; omega))))) | (apply at_guard; first | refine g_go ?_ | refine g_nt ?_ | refine g_nf ?_ | refine g_nu ?_ | ((first | refine al_split_t rfl rfl (lt_ok rfl) (fun hb => ?_) (fun hb => ?_) | refine al_split_f rfl rfl (lt_ok rfl) (fun hb => ?_) (fun hb => ?_)) <;> ((try have hq := dX hb); (try (exfalso; omega))))) | (apply qr_pick; refine r_pick ?_) | (apply qr_not; refine r_not ?_) | (apply qr_load; refine r_load ?_) | (apply qr_faddr; refine r_faddr ?_) | (apply qr_boxed; refine r_boxed ?_))
  refine rt1 ?_
  rfl
 rw [Bool.true_and] at hR
 generalize x.noshow.right 12 = b4 at k4 hR
 cases b4
 ·rw [Bool.false_and] at hR
  rw [hR]
  refine pure_enter Try.func38 rfl (by decide) _ Try.ntmps38 (le_ok rfl) (fun w Pr hE => ?_)
  dsimp only [slotsOf, Nat.zero_add, Nat.reduceAdd]
  repeat' (first | (apply at_call; refine k_call (hna) hE ?_; rintro _ rfl) | (apply at_call; refine k_call (k1) hE ?_; rintro _ rfl; clear k1) | (apply at_call; refine k_call (k2) hE ?_; rintro _ rfl; clear k2) | (apply at_call; refine k_call (k3) hE ?_; rintro _ rfl; clear k3) | (apply at_call; refine k_call (k4) hE ?_; rintro _ rfl) | (apply at_call; refine k_call (m1) hE ?_; rintro _ rfl; clear m1) | (apply at_call; refine k_call (m2) hE ?_; rintro _ rfl; clear m2) | (apply at_call; refine k_call (m3) hE ?_; rintro _ rfl) | refine nx ?_ | (apply aq_block_y; decide) | (apply qr_move; refine r_move ?_) | (apply qr_assign; refine r_assign ?_) | (apply at_cond; first | refine c_t ?_ | refine c_f ?_ | (refine aw_cond rfl (fun hb => ?_) (fun hb => ?_) <;> ((try have hq := dX hb); (try (exfalso; omega))))) | (apply at_guard; first | refine g_go ?_ | refine g_nt ?_ | refine g_nf ?_ | refine g_nu ?_ | ((first | refine al_split_t rfl rfl (lt_ok rfl) (fun hb => ?_) (fun hb => ?_) | refine al_split_f rfl rfl (lt_ok rfl) (fun hb => ?_) (fun hb => ?_)) <;> ((try have hq := dX hb); (try (exfalso; omega))))) | (apply qr_pick; refine r_pick ?_) | (apply qr_not; refine r_not ?_) | (apply qr_load; refine r_load ?_) | (apply qr_faddr; refine r_faddr ?_) | (apply qr_boxed; refine r_boxed ?_))
  refine rt1 ?_
  rfl
 rw [Bool.true_and] at hR
 generalize (decide (0 ≤ x.quota) && decide (x.quota ≤ 1000)) = b5 at m1 hR
 cases b5
 ·rw [Bool.false_and] at hR
  rw [hR]
  refine pure_enter Try.func38 rfl (by decide) _ Try.ntmps38 (le_ok rfl) (fun w Pr hE => ?_)
  dsimp only [slotsOf, Nat.zero_add, Nat.reduceAdd]
  repeat' (first | (apply at_call; refine k_call (hna) hE ?_; rintro _ rfl) | (apply at_call; refine k_call (k1) hE ?_; rintro _ rfl; clear k1) | (apply at_call; refine k_call (k2) hE ?_; rintro _ rfl; clear k2) | (apply at_call; refine k_call (k3) hE ?_; rintro _ rfl; clear k3) | (apply at_call; refine k_call (k4) hE ?_; rintro _ rfl) | (apply at_call; refine k_call (m1) hE ?_; rintro _ rfl; clear m1) | (apply at_call; refine k_call (m2) hE ?_; rintro _ rfl; clear m2) | (apply at_call; refine k_call (m3) hE ?_; rintro _ rfl) | refine nx ?_ | (apply aq_block_y; decide) | (apply qr_move; refine r_move ?_) | (apply qr_assign; refine r_assign ?_) | (apply at_cond; first | refine c_t ?_ | refine c_f ?_ | (refine aw_cond rfl (fun hb => ?_) (fun hb => ?_) <;> ((try have hq := dX hb); (try (exfalso; omega))))) | (apply at_guard; first | refine g_go ?_ | refine g_nt ?_ | refine g_nf ?_ | refine g_nu ?_ | ((first | refine al_split_t rfl rfl (lt_ok rfl) (fun hb => ?_) (fun hb => ?_) | refine al_split_f rfl rfl (lt_ok rfl) (fun hb => ?_) (fun hb => ?_)) <;> ((try have hq := dX hb); (try (exfalso; omega))))) | (apply qr_pick; refine r_pick ?_) | (apply qr_not; refine r_not ?_) | (apply qr_load; refine r_load ?_) | (apply qr_faddr; refine r_faddr ?_) | (apply qr_boxed; refine r_boxed ?_))
  refine rt1 ?_
  rfl
 rw [Bool.true_and] at hR
 generalize (decide (0 ≤ x.share) && decide (x.share ≤ 1000)) = b6 at m2 hR
 cases b6
 ·rw [Bool.false_and] at hR
  rw [hR]
  refine pure_enter Try.func38 rfl (by decide) _ Try.ntmps38 (le_ok rfl) (fun w Pr hE => ?_)
  dsimp only [slotsOf, Nat.zero_add, Nat.reduceAdd]
  repeat' (first | (apply at_call; refine k_call (hna) hE ?_; rintro _ rfl) | (apply at_call; refine k_call (k1) hE ?_; rintro _ rfl; clear k1) | (apply at_call; refine k_call (k2) hE ?_; rintro _ rfl; clear k2) | (apply at_call; refine k_call (k3) hE ?_; rintro _ rfl; clear k3) | (apply at_call; refine k_call (k4) hE ?_; rintro _ rfl) | (apply at_call; refine k_call (m1) hE ?_; rintro _ rfl; clear m1) | (apply at_call; refine k_call (m2) hE ?_; rintro _ rfl; clear m2) | (apply at_call; refine k_call (m3) hE ?_; rintro _ rfl) | refine nx ?_ | (apply aq_block_y; decide) | (apply qr_move; refine r_move ?_) | (apply qr_assign; refine r_assign ?_) | (apply at_cond; first | refine c_t ?_ | refine c_f ?_ | (refine aw_cond rfl (fun hb => ?_) (fun hb => ?_) <;> ((try have hq := dX hb); (try (exfalso; omega))))) | (apply at_guard; first | refine g_go ?_ | refine g_nt ?_ | refine g_nf ?_ | refine g_nu ?_ | ((first | refine al_split_t rfl rfl (lt_ok rfl) (fun hb => ?_) (fun hb => ?_) | refine al_split_f rfl rfl (lt_ok rfl) (fun hb => ?_) (fun hb => ?_)) <;> ((try have hq := dX hb); (try (exfalso; omega))))) | (apply qr_pick; refine r_pick ?_) | (apply qr_not; refine r_not ?_) | (apply qr_load; refine r_load ?_) | (apply qr_faddr; refine r_faddr ?_) | (apply qr_boxed; refine r_boxed ?_))
  refine rt1 ?_
  rfl
 rw [Bool.true_and] at hR
 generalize (decide (1 ≤ x.change) && decide (x.change ≤ 1000)) = b7 at m3 hR
 cases b7
 ·rw [Bool.false_and] at hR
  rw [hR]
  refine pure_enter Try.func38 rfl (by decide) _ Try.ntmps38 (le_ok rfl) (fun w Pr hE => ?_)
  dsimp only [slotsOf, Nat.zero_add, Nat.reduceAdd]
  repeat' (first | (apply at_call; refine k_call (hna) hE ?_; rintro _ rfl) | (apply at_call; refine k_call (k1) hE ?_; rintro _ rfl; clear k1) | (apply at_call; refine k_call (k2) hE ?_; rintro _ rfl; clear k2) | (apply at_call; refine k_call (k3) hE ?_; rintro _ rfl; clear k3) | (apply at_call; refine k_call (k4) hE ?_; rintro _ rfl) | (apply at_call; refine k_call (m1) hE ?_; rintro _ rfl; clear m1) | (apply at_call; refine k_call (m2) hE ?_; rintro _ rfl; clear m2) | (apply at_call; refine k_call (m3) hE ?_; rintro _ rfl) | refine nx ?_ | (apply aq_block_y; decide) | (apply qr_move; refine r_move ?_) | (apply qr_assign; refine r_assign ?_) | (apply at_cond; first | refine c_t ?_ | refine c_f ?_ | (refine aw_cond rfl (fun hb => ?_) (fun hb => ?_) <;> ((try have hq := dX hb); (try (exfalso; omega))))) | (apply at_guard; first | refine g_go ?_ | refine g_nt ?_ | refine g_nf ?_ | refine g_nu ?_ | ((first | refine al_split_t rfl rfl (lt_ok rfl) (fun hb => ?_) (fun hb => ?_) | refine al_split_f rfl rfl (lt_ok rfl) (fun hb => ?_) (fun hb => ?_)) <;> ((try have hq := dX hb); (try (exfalso; omega))))) | (apply qr_pick; refine r_pick ?_) | (apply qr_not; refine r_not ?_) | (apply qr_load; refine r_load ?_) | (apply qr_faddr; refine r_faddr ?_) | (apply qr_boxed; refine r_boxed ?_))
  refine rt1 ?_
  rfl
 rw [Bool.true_and] at hR
 refine pure_enter Try.func38 rfl (by decide) _ Try.ntmps38 (le_ok rfl) (fun w Pr hE => ?_)
 dsimp only [slotsOf, Nat.zero_add, Nat.reduceAdd]
 repeat' (first | (apply at_call; refine k_call (hna) hE ?_; rintro _ rfl) | (apply at_call; refine k_call (k1) hE ?_; rintro _ rfl; clear k1) | (apply at_call; refine k_call (k2) hE ?_; rintro _ rfl; clear k2) | (apply at_call; refine k_call (k3) hE ?_; rintro _ rfl; clear k3) | (apply at_call; refine k_call (k4) hE ?_; rintro _ rfl) | (apply at_call; refine k_call (m1) hE ?_; rintro _ rfl; clear m1) | (apply at_call; refine k_call (m2) hE ?_; rintro _ rfl; clear m2) | (apply at_call; refine k_call (m3) hE ?_; rintro _ rfl) | refine nx ?_ | (apply aq_block_y; decide) | (apply qr_move; refine r_move ?_) | (apply qr_assign; refine r_assign ?_) | (apply at_cond; first | refine c_t ?_ | refine c_f ?_ | (refine aw_cond rfl (fun hb => ?_) (fun hb => ?_) <;> ((try have hq := dX hb); (try (exfalso; omega))))) | (apply at_guard; first | refine g_go ?_ | refine g_nt ?_ | refine g_nf ?_ | refine g_nu ?_ | ((first | refine al_split_t rfl rfl (lt_ok rfl) (fun hb => ?_) (fun hb => ?_) | refine al_split_f rfl rfl (lt_ok rfl) (fun hb => ?_) (fun hb => ?_)) <;> ((try have hq := dX hb); (try (exfalso; omega))))) | (apply qr_pick; refine r_pick ?_) | (apply qr_not; refine r_not ?_) | (apply qr_load; refine r_load ?_) | (apply qr_faddr; refine r_faddr ?_) | (apply qr_boxed; refine r_boxed ?_))
 refine aw_adopt 3 3 9 1 rfl rfl (lt_ok rfl) ?_
 clear hna m3 k4
 refine aw_lp (fun N sl ob => ∃ i : Nat, N = x.lets.length - i ∧ i ≤ x.lets.length ∧ ((x.lets.take i).all fun q => q.2.right 12) = true ∧ sl = [(4, .d (.int i)), (3, .row 3 i), (2, .d (.bool false)), (1, .box 1 0)] ∧ ob = [(3, namR i ((x.lets.take i).map (·.1))), (1, byO' x)]) (⟨0, rfl, Nat.zero_le _, by simp, rfl, rfl⟩) ?_
 rintro N sl ob ⟨i, rfl, hi, ha, rfl, rfl⟩
 by_cases hlt : i < x.lets.length
 ·have hg : (x.lets.map letC)[i]? = some (letC x.lets[i]) := by rw [get_map hlt]
  have hc := rrightExp_any x.lets[i].2 (hx.lets _ (List.getElem_mem hlt)).2
  have hnx := all_take (fun q : ByteArray × Ex => q.2.right 12) hlt
  rw [ha, Bool.true_and] at hnx
  have hmi : ((x.lets.take i).map (·.1)).map (fun s => [D.str s]) ++ [[D.str x.lets[i].1]] = ((x.lets.take (i + 1)).map (·.1)).map (fun s => [D.str s]) := by
   rw [List.take_succ_eq_append_getElem hlt, List.map_append, List.map_append]
   rfl
  have hln : (((x.lets.take i).map (·.1)).map (fun s => [D.str s])).length = i := by rw [List.length_map, List.length_map, List.length_take]; omega
  have q : decide ((i : Int) < (x.lets.map letC).length) = true := decide_eq_true (by omega)
  cases hT : x.lets[i].2.right 12
  ·rw [hT] at hc
   have hall : (x.lets.all fun q => q.2.right 12) = false := by
    rw [Bool.eq_false_iff, Ne, List.all_eq_true]
    intro h
    have := h _ (List.getElem_mem hlt)
    rw [hT] at this
    cases this
   rw [hall, Bool.false_and] at hR
   rw [hR]
   clear hmi
   generalize x.lets[i] = z at hg hc
   have hl1 : [[D.val (Value.string z.fst)]].length = 1 := rfl
   repeat' (first | (apply at_op (.indexAddr _ _ _); refine al_ixq hg ?_) | (apply at_call; refine k_call (hc) hE ?_; rintro _ rfl) | refine nx ?_ | (apply aq_block_y; decide) | (apply qr_move; refine r_move ?_) | (apply qr_assign; refine r_assign ?_) | (apply at_cond; first | refine c_t ?_ | refine c_f ?_ | (refine aw_cond rfl (fun hb => ?_) (fun hb => ?_) <;> ((try have hq := dX hb); (try (exfalso; omega))))) | (apply qr_lss; refine r_lss ?_) | (apply qr_not; refine r_not ?_) | (apply qr_len; refine r_len ?_) | (apply qr_ix; refine r_ix ?_) | (apply qr_load; refine r_load ?_) | (apply qr_faddr; refine r_faddr ?_) | (apply qr_lits; refine r_lits ?_) | (apply qr_appd; refine r_appd ?_))
   refine rt1 ?_
   rfl
  ·rw [hT] at hc hnx
   generalize x.lets[i] = z at hg hc hmi
   have hl1 : [[D.val (Value.string z.fst)]].length = 1 := rfl
   repeat' (first | (apply at_op (.indexAddr _ _ _); refine al_ixq hg ?_) | (apply at_call; refine k_call (hc) hE ?_; rintro _ rfl) | refine nx ?_ | (apply aq_block_y; decide) | (apply qr_move; refine r_move ?_) | (apply qr_assign; refine r_assign ?_) | (apply at_cond; first | refine c_t ?_ | refine c_f ?_ | (refine aw_cond rfl (fun hb => ?_) (fun hb => ?_) <;> ((try have hq := dX hb); (try (exfalso; omega))))) | (apply qr_lss; refine r_lss ?_) | (apply qr_not; refine r_not ?_) | (apply qr_len; refine r_len ?_) | (apply qr_ix; refine r_ix ?_) | (apply qr_load; refine r_load ?_) | (apply qr_faddr; refine r_faddr ?_) | (apply qr_lits; refine r_lits ?_) | (apply qr_appd; refine r_appd ?_))
   simp only [namR]
   rw [hmi]
   repeat' (first | refine nx ?_ | (apply aq_block_y; decide) | (apply qr_move; refine r_move ?_) | (apply qr_assign; refine r_assign ?_) | (apply at_cond; first | refine c_t ?_ | refine c_f ?_ | (refine aw_cond rfl (fun hb => ?_) (fun hb => ?_) <;> ((try have hq := dX hb); (try (exfalso; omega))))) | (apply qr_add; refine r_add ?_))
   refine aq_rd (⟨i + 1, rfl, by omega, hnx, rfl, rfl⟩) (by omega)
 ·obtain rfl : i = x.lets.length := by omega
  rw [List.take_length] at ha
  rw [ha, Bool.true_and] at hR
  rw [List.take_length]
  rw [hR]
  have q : decide ((x.lets.length : Int) < (x.lets.map letC).length) = false := decide_eq_false (by omega)
  repeat' (first | (apply at_call; refine k_call (hun) hE ?_; rintro _ rfl) | refine nx ?_ | (apply aq_block_y; decide) | (apply qr_move; refine r_move ?_) | (apply qr_assign; refine r_assign ?_) | (apply at_cond; first | refine c_t ?_ | refine c_f ?_ | (refine aw_cond rfl (fun hb => ?_) (fun hb => ?_) <;> ((try have hq := dX hb); (try (exfalso; omega))))) | (apply qr_lss; refine r_lss ?_) | (apply qr_len; refine r_len ?_) | (apply qr_load; refine r_load ?_) | (apply qr_faddr; refine r_faddr ?_))
  refine rt1 ?_
  rfl
end Go.Proofs.Ytgiacdhffklenaa
end
section
namespace Go.Proofs.Ytgiacdhffklenaa
open Go.RowKit
abbrev bldA : Bool → V
 | true => .box 1000 0
 | false => .d (.val (.pointer none))
end Go.Proofs.Ytgiacdhffklenaa
end
section
namespace Go.Proofs.Ytgiacdhffklenaa
open Go.RowKit
def byteD (l : List UInt8) : List (List D) := l.map fun c => [.val (.int .u8 c.toNat)]
end Go.Proofs.Ytgiacdhffklenaa
end
section
namespace Go.Proofs.Ytgiacdhffklenaa
open Go.RowKit
def lineV (ws : List ByteArray) : ByteArray := jn ws ++ ⟨#[32, 59, 10]⟩
def catL (ls : List (List ByteArray)) : List UInt8 := (ls.map fun w => (lineV w).data.toList).flatten
def Fit (ls : List (List ByteArray)) : Prop := ls.length ≤ 40 ∧ ∀ w ∈ ls, (lineV w).size ≤ 3355444000000
theorem Fit.left {a b : List (List ByteArray)} (h : Fit (a ++ b)) : Fit a := ⟨by have := h.1; rw [List.length_append] at this; omega, fun w hw => h.2 w (by simp [hw])⟩
theorem lineV_len (w : List ByteArray) : (lineV w).data.toList.length = (lineV w).size := by simp
theorem cat_len {ls : List (List ByteArray)} (h : ∀ w ∈ ls, (lineV w).size ≤ 3355444000000) : (catL ls).length ≤ ls.length * 3355444000000 := by
 induction ls with
 | nil => simp [catL]
 | cons w r ih =>
  have h1 := ih fun x hx => h x (by simp [hx])
  have h2 := h w (by simp)
  have e : catL (w :: r) = (lineV w).data.toList ++ catL r := by simp [catL]
  rw [e, List.length_append, lineV_len, List.length_cons, Nat.add_mul]
  omega
theorem Fit.len {ls : List (List ByteArray)} (h : Fit ls) : (catL ls).length ≤ 134217760000000 := by
 have h1 := cat_len h.2
 have h2 := h.1
 have : ls.length * 3355444000000 ≤ 40 * 3355444000000 := Nat.mul_le_mul_right _ h2
 omega
theorem line_size (w : List ByteArray) : (lineV w).size = (jn w).size + 3 := by
 rw [lineV, ByteArray.size_append]
 rfl
theorem Fit.last {ls : List (List ByteArray)} {w : List ByteArray} (h : Fit (ls ++ [w])) : (jn w).size ≤ 3355444000000 := by
 have h1 := h.2 w (by simp)
 have := line_size w
 omega
end Go.Proofs.Ytgiacdhffklenaa
end
section
namespace Go.Proofs.Ytgiacdhffklenaa
open Go.RowKit
abbrev letL (q : ByteArray × Ex) : List ByteArray := [w_let, q.1, w_is, q.2.text 0]
def By.head (x : By) (i : Nat) : List (List ByteArray) := [[w_bylaws, x.name]] ++ (x.lets.take i).map letL
def By.lines (x : By) : List (List ByteArray) := x.head x.lets.length ++ [[w_admit, x.admit.text 0]] ++ [[w_fare, x.fare.text 0]] ++ [[w_late, x.late.text 0]] ++ [[w_noshow, x.noshow.text 0]] ++ [[w_quota, itoaB x.quota]] ++ [[w_share, itoaB x.share]] ++ [[w_change, itoaB x.change]]
def By.text (x : By) : ByteArray := ⟨(catL x.lines).toArray⟩
structure By.Ok (x : By) : Prop where
 lets : ∀ q ∈ x.lets, q.2.right 12 = true
 admit : x.admit.right 12 = true
 fare : x.fare.right 12 = true
 late : x.late.right 12 = true
 noshow : x.noshow.right 12 = true
 quota : 0 ≤ x.quota ∧ x.quota ≤ 1000
 share : 0 ≤ x.share ∧ x.share ≤ 1000
 change : 1 ≤ x.change ∧ x.change ≤ 1000
 name : nameV x.name = true
 uniq : uniqV (x.lets.map (·.1)) 20 = true
theorem By.Ok.len {x : By} (h : x.Ok) : x.lets.length ≤ 20 := by
 have := h.uniq
 unfold uniqV at this
 rw [Bool.and_eq_true, decide_eq_true_eq, List.length_map] at this
 omega
def printD (x : By) : D := if x.right = true then fitsD x.text else .tup [.str ⟨#[]⟩, .int 1]
end Go.Proofs.Ytgiacdhffklenaa
end
section
namespace Go.Proofs.Ytgiacdhffklenaa
open Go.RowKit
def catB (ls : List (List ByteArray)) : ByteArray := ⟨(catL ls).toArray⟩
def By.tail (x : By) : ByteArray := ⟨#[113, 117, 111, 116, 97, 32]⟩ ++ itoaB x.quota ++ ⟨#[32, 59, 10, 115, 104, 97, 114, 101, 32]⟩ ++ itoaB x.share ++ ⟨#[32, 59, 10, 99, 104, 97, 110, 103, 101, 32]⟩ ++ itoaB x.change ++ ⟨#[32, 59, 10]⟩
end Go.Proofs.Ytgiacdhffklenaa
end
section
namespace Go.Proofs.Ytgiacdhffklenaa
open Go.RowKit
end Go.Proofs.Ytgiacdhffklenaa
end
section
set_option linter.unusedSimpArgs false
set_option linter.unusedVariables false
namespace Go.Proofs.Ytgiacdhffklenaa
open Go.RowKit
abbrev NodesC (deep : Nat) : Prop := ∀ (e : Ex) (most : Int), 0 ≤ most → most ≤ 60 → e.str.size ≤ 9223372036854775807 → PureC 39 [.agg (exC e), .int most, .int deep] (fun r => ∃ n : Int, r = .int n ∧ 1 ≤ n ∧ n ≤ most + 1 ∧ (n ≤ most → e.tame))
mutual
def Ex.came : Ex → Prop
 | .mk _ _ _ s a => s.size ≤ 9223372036854775807 ∧ a.length ≤ 9223372036854775807 ∧ Ex.cameL a
def Ex.cameL : List Ex → Prop
 | [] => True
 | x :: r => x.came ∧ Ex.cameL r
end
theorem cameL_get {a : List Ex} (h : Ex.cameL a) {i : Nat} (hi : i < a.length) : a[i].came := by
 induction a generalizing i with
 | nil => simp at hi
 | cons x r ih =>
  cases i with
  | zero => exact h.1
  | succ i => exact ih h.2 (by simpa using hi)
theorem came_get {e : Ex} (h : e.came) {i : Nat} (hi : i < e.args.length) : e.args[i].came := by
 cases e
 exact cameL_get h.2.2 hi
theorem tameL_of {a : List Ex} (h : ∀ (i : Nat) (hi : i < a.length), a[i].tame) : Ex.tameL a := by
 induction a with
 | nil => trivial
 | cons x r ih => exact ⟨h 0 (by simp), ih fun i hi => h (i + 1) (by simpa using hi)⟩
theorem tame_of {e : Ex} (h1 : e.str.size ≤ 100000) (h2 : e.args.length ≤ 100000) (h3 : ∀ (i : Nat) (hi : i < e.args.length), e.args[i].tame) : e.tame := by
 cases e
 exact ⟨h1, h2, tameL_of h3⟩
theorem nodes_any : ∀ (deep : Nat), deep ≤ 1000 → ∀ (e : Ex) (most : Int), 0 ≤ most → most ≤ 60 → e.came → PureC 39 [.agg (exC e), .int most, .int deep] (fun r => ∃ n : Int, r = .int n ∧ 1 ≤ n ∧ n ≤ most + 1 ∧ (n ≤ most → e.tame))
 | 0, _, e, most, h0, h1, hcm => by
  have q0 : decide (((0 : Nat) : Int) < 1) = true := rfl
  refine pure_enter Try.func39 rfl (by decide) _ Try.ntmps39 (le_ok rfl) (fun w Pr hE => ?_)
  dsimp only [slotsOf, Nat.zero_add, Nat.reduceAdd]
  repeat' (first | refine nx ?_ | (apply aq_block_y; decide) | (apply qr_move; refine r_move ?_) | (apply qr_assign; refine r_assign ?_) | (apply at_cond; first | refine c_t ?_ | refine c_f ?_ | (refine aw_cond rfl (fun hb => ?_) (fun hb => ?_) <;> ((try have hq := dX hb); (try (exfalso; omega))))) | (apply at_guard; first | refine g_go ?_ | refine g_nt ?_ | refine g_nf ?_ | refine g_nu ?_ | ((first | refine al_split_t rfl rfl (lt_ok rfl) (fun hb => ?_) (fun hb => ?_) | refine al_split_f rfl rfl (lt_ok rfl) (fun hb => ?_) (fun hb => ?_)) <;> ((try have hq := dX hb); (try (exfalso; omega))))) | (apply qr_pick; refine r_pick ?_) | (apply qr_lss; refine r_lss ?_) | (apply qr_gtr; refine r_gtr ?_) | (apply qr_add; refine r_add ?_) | (apply qr_len; refine r_len ?_) | (apply qr_load; refine r_load ?_) | (apply qr_faddr; refine r_faddr ?_) | (apply qr_boxed; refine r_boxed ?_))
  refine rt1 ?_
  exact ⟨most + 1, rfl, by omega, by omega, fun h => by omega⟩
 | deep + 1, hd, e, most, h0, h1, hcm => by
  have ih := nodes_any deep (by omega)
  have q0 : decide (((deep + 1 : Nat) : Int) < 1) = false := decide_eq_false (by omega)
  have hw : ((deep + 1 : Nat) : Int) - 1 = deep := by omega
  have hlen := rows_len e.args
  by_cases hs : 40 < e.str.size
  ·have q1 : decide ((40 : Int) < e.str.size) = true := decide_eq_true (by omega)
   refine pure_enter Try.func39 rfl (by decide) _ Try.ntmps39 (le_ok rfl) (fun w Pr hE => ?_)
   dsimp only [slotsOf, Nat.zero_add, Nat.reduceAdd]
   repeat' (first | refine nx ?_ | (apply aq_block_y; decide) | (apply qr_move; refine r_move ?_) | (apply qr_assign; refine r_assign ?_) | (apply at_cond; first | refine c_t ?_ | refine c_f ?_ | (refine aw_cond rfl (fun hb => ?_) (fun hb => ?_) <;> ((try have hq := dX hb); (try (exfalso; omega))))) | (apply at_guard; first | refine g_go ?_ | refine g_nt ?_ | refine g_nf ?_ | refine g_nu ?_ | ((first | refine al_split_t rfl rfl (lt_ok rfl) (fun hb => ?_) (fun hb => ?_) | refine al_split_f rfl rfl (lt_ok rfl) (fun hb => ?_) (fun hb => ?_)) <;> ((try have hq := dX hb); (try (exfalso; omega))))) | (apply qr_pick; refine r_pick ?_) | (apply qr_lss; refine r_lss ?_) | (apply qr_gtr; refine r_gtr ?_) | (apply qr_add; refine r_add ?_) | (apply qr_len; refine r_len ?_) | (apply qr_load; refine r_load ?_) | (apply qr_faddr; refine r_faddr ?_) | (apply qr_boxed; refine r_boxed ?_))
   refine rt1 ?_
   exact ⟨most + 1, rfl, by omega, by omega, fun h => by omega⟩
  have q1 : decide ((40 : Int) < e.str.size) = false := decide_eq_false (by omega)
  refine pure_enter Try.func39 rfl (by decide) _ Try.ntmps39 (le_ok rfl) (fun w Pr hE => ?_)
  dsimp only [slotsOf, Nat.zero_add, Nat.reduceAdd]
  repeat' (first | refine nx ?_ | (apply aq_block_y; decide) | (apply qr_move; refine r_move ?_) | (apply qr_assign; refine r_assign ?_) | (apply at_cond; first | refine c_t ?_ | refine c_f ?_ | (refine aw_cond rfl (fun hb => ?_) (fun hb => ?_) <;> ((try have hq := dX hb); (try (exfalso; omega))))) | (apply at_guard; first | refine g_go ?_ | refine g_nt ?_ | refine g_nf ?_ | refine g_nu ?_ | ((first | refine al_split_t rfl rfl (lt_ok rfl) (fun hb => ?_) (fun hb => ?_) | refine al_split_f rfl rfl (lt_ok rfl) (fun hb => ?_) (fun hb => ?_)) <;> ((try have hq := dX hb); (try (exfalso; omega))))) | (apply qr_pick; refine r_pick ?_) | (apply qr_lss; refine r_lss ?_) | (apply qr_gtr; refine r_gtr ?_) | (apply qr_len; refine r_len ?_) | (apply qr_load; refine r_load ?_) | (apply qr_faddr; refine r_faddr ?_) | (apply qr_boxed; refine r_boxed ?_))
  clear q0 q1
  refine aw_lp (fun N sl ob => ∃ (i : Nat) (n : Int), N = 100 - i ∧ i ≤ e.args.length ∧ (i : Int) + 1 ≤ n ∧ n ≤ most + 1 ∧ (n ≤ most → ∀ (j : Nat) (hj : j < e.args.length), j < i → e.args[j].tame) ∧ sl = [(8, .d (.int i)), (7, .d (.int n)), (3, .box 3 0), (2, .d (.int ((deep + 1 : Nat) : Int))), (1, .d (.int most))] ∧ ob = [(3, exO' e)]) (⟨0, 1, rfl, Nat.zero_le _, by omega, by omega, fun _ j _ h => by omega, rfl, rfl⟩) ?_
  rintro N sl ob ⟨i, n, rfl, hi, hn1, hn2, ha, rfl, rfl⟩
  by_cases hlt : i < e.args.length
  ·have q : decide ((i : Int) < (Ex.rows e.args).length) = true := decide_eq_true (by omega)
   by_cases hnm : n ≤ most
   ·have q2 : decide (n ≤ most) = true := decide_eq_true hnm
    have hg := rows_get hlt
    have hc := ih e.args[i] (most - n) (by omega) (by omega) (came_get hcm hlt)
    have hx : ∀ m : Int, (m ≤ most - n → e.args[i].tame) → (n + m ≤ most → ∀ (j : Nat) (hj : j < e.args.length), j < i + 1 → e.args[j].tame) := fun m hm h j hj hji => by
     rcases Nat.lt_succ_iff_lt_or_eq.1 hji with h2 | rfl
     ·exact ha hnm j hj h2
     ·exact hm (by omega)
    rw [← hw] at hc
    generalize e.args[i] = x at hg hc hx
    repeat' (first | (apply at_op (.indexAddr _ _ _); refine al_ixq hg ?_) | (apply at_call; refine k_call (hc) hE ?_; rintro _ ⟨m, rfl, hm1, hm2, hm3⟩) | refine nx ?_ | (apply aq_block_y; decide) | (apply qr_move; refine r_move ?_) | (apply qr_assign; refine r_assign ?_) | (apply at_cond; first | refine c_t ?_ | refine c_f ?_ | (refine aw_cond rfl (fun hb => ?_) (fun hb => ?_) <;> ((try have hq := dX hb); (try (exfalso; omega))))) | (apply at_guard; first | refine g_go ?_ | refine g_nt ?_ | refine g_nf ?_ | refine g_nu ?_ | ((first | refine al_split_t rfl rfl (lt_ok rfl) (fun hb => ?_) (fun hb => ?_) | refine al_split_f rfl rfl (lt_ok rfl) (fun hb => ?_) (fun hb => ?_)) <;> ((try have hq := dX hb); (try (exfalso; omega))))) | (apply qr_pick; refine r_pick ?_) | (apply qr_lss; refine r_lss ?_) | (apply qr_leq; refine r_leq ?_) | (apply qr_add; refine r_add ?_) | (apply qr_sub; refine r_sub ?_) | (apply qr_len; refine r_len ?_) | (apply qr_ix; refine r_ix ?_) | (apply qr_load; refine r_load ?_) | (apply qr_faddr; refine r_faddr ?_))
    repeat' (first | refine nx ?_ | (apply aq_block_y; decide) | (apply qr_move; refine r_move ?_) | (apply qr_assign; refine r_assign ?_) | (apply at_cond; first | refine c_t ?_ | refine c_f ?_ | (refine aw_cond rfl (fun hb => ?_) (fun hb => ?_) <;> ((try have hq := dX hb); (try (exfalso; omega))))) | (apply qr_add; refine r_add ?_))
    refine aq_rd (⟨i + 1, n + m, rfl, by omega, by omega, by omega, hx m hm3, rfl, rfl⟩) (by omega)
   ·have q2 : decide (n ≤ most) = false := decide_eq_false hnm
    repeat' (first | refine nx ?_ | (apply aq_block_y; decide) | (apply qr_move; refine r_move ?_) | (apply qr_assign; refine r_assign ?_) | (apply at_cond; first | refine c_t ?_ | refine c_f ?_ | (refine aw_cond rfl (fun hb => ?_) (fun hb => ?_) <;> ((try have hq := dX hb); (try (exfalso; omega))))) | (apply at_guard; first | refine g_go ?_ | refine g_nt ?_ | refine g_nf ?_ | refine g_nu ?_ | ((first | refine al_split_t rfl rfl (lt_ok rfl) (fun hb => ?_) (fun hb => ?_) | refine al_split_f rfl rfl (lt_ok rfl) (fun hb => ?_) (fun hb => ?_)) <;> ((try have hq := dX hb); (try (exfalso; omega))))) | (apply qr_pick; refine r_pick ?_) | (apply qr_lss; refine r_lss ?_) | (apply qr_leq; refine r_leq ?_) | (apply qr_len; refine r_len ?_) | (apply qr_load; refine r_load ?_) | (apply qr_faddr; refine r_faddr ?_))
    refine rt1 ?_
    exact ⟨n, rfl, by omega, by omega, fun h => absurd h hnm⟩
  ·have q : decide ((i : Int) < (Ex.rows e.args).length) = false := decide_eq_false (by omega)
   repeat' (first | refine nx ?_ | (apply aq_block_y; decide) | (apply qr_move; refine r_move ?_) | (apply qr_assign; refine r_assign ?_) | (apply at_cond; first | refine c_t ?_ | refine c_f ?_ | (refine aw_cond rfl (fun hb => ?_) (fun hb => ?_) <;> ((try have hq := dX hb); (try (exfalso; omega))))) | (apply at_guard; first | refine g_go ?_ | refine g_nt ?_ | refine g_nf ?_ | refine g_nu ?_ | ((first | refine al_split_t rfl rfl (lt_ok rfl) (fun hb => ?_) (fun hb => ?_) | refine al_split_f rfl rfl (lt_ok rfl) (fun hb => ?_) (fun hb => ?_)) <;> ((try have hq := dX hb); (try (exfalso; omega))))) | (apply qr_pick; refine r_pick ?_) | (apply qr_lss; refine r_lss ?_) | (apply qr_leq; refine r_leq ?_) | (apply qr_len; refine r_len ?_) | (apply qr_load; refine r_load ?_) | (apply qr_faddr; refine r_faddr ?_))
   refine rt1 ?_
   exact ⟨n, rfl, by omega, by omega, fun h => tame_of (by omega) (by omega) (fun j hj => ha h j hj (by omega))⟩
theorem fewE_any (e : Ex) (hcm : e.came) : PureC 21 [.agg (exC e)] (fun r => ∃ b : Bool, r = .bool b ∧ (b = true → e.tame)) := by
 have hc := nodes_any 16 (by omega) e 60 (by omega) (by omega) hcm
 refine pure_enter Try.func21 rfl (by decide) _ Try.ntmps21 (le_ok rfl) (fun w Pr hE => ?_)
 dsimp only [slotsOf, Nat.zero_add, Nat.reduceAdd]
 repeat' (first | (apply at_call; refine k_call (hc) hE ?_; rintro _ ⟨m, rfl, hm1, hm2, hm3⟩) | refine nx ?_ | (apply qr_assign; refine r_assign ?_) | (apply qr_leq; refine r_leq ?_) | (apply qr_load; refine r_load ?_) | (apply qr_boxed; refine r_boxed ?_))
 refine rt1 ?_
 exact ⟨_, rfl, fun h => hm3 (of_decide_eq_true h)⟩
end Go.Proofs.Ytgiacdhffklenaa
end
