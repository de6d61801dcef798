/-
  Conditions: none.
-/
import Derived.Lib.UnsafeStr
import Derived.Test.YtedoeogopmenpaaGreatDoorMau
set_option maxHeartbeats 16000000
set_option maxRecDepth 20000
section
set_option linter.unusedSimpArgs false
set_option linter.unusedVariables false
namespace Go.Proofs.YtedoeogopmenpaaGreatDoor
open Go.RowKit
def inV (a b : Int) (l : List Int) : Bool := !l.any fun n => (decide (n < a) || decide (b < n))
def By.parts (x : By) : List Ex := [x.admit, x.fare, x.late, x.noshow]
def By.right (x : By) : Bool := (x.lets.all fun q => q.2.right 12) && (nameV x.name && (inV 0 1000 [x.quota, x.share] && (inV 1 1000 [x.change] && (uniqV (x.lets.map (·.1)) 20 && !(x.parts.any fun e => !e.right 12)))))
theorem right1b_any (e : Ex) (he : e.tame) : PureC 65 [.agg (exC e)] (· = .bool (!e.right 12)) := by
 have hc := rightExp_any e he
 refine pure_enter Tryz.func65 rfl (by decide) _ Tryz.ntmps65 (le_ok rfl) (fun w Pr hE => ?_)
 dsimp only [slotsOf, Nat.zero_add, Nat.reduceAdd]
 repeat' (first | (apply at_call; refine k_call (hc) hE ?_; rintro _ rfl) | refine nx ?_ | (apply qr_assign; refine r_assign ?_) | (apply qr_not; refine r_not ?_) | (apply qr_load; refine r_load ?_) | (apply qr_boxed; refine r_boxed ?_))
 refine rt1 ?_
 rfl
theorem findex (l : List Ex) (hl : l.length ≤ 100000) (ht : ∀ x ∈ l, Ex.tame x) : PureC 117 [.list 5 (Ex.rows l), .val (.func (.func 65) #[] #[])] (fun r => ∃ i : Int, r = .int i ∧ decide (0 ≤ i) = l.any fun x => !x.right 12) := by
 have hlen := rows_len l
 refine pure_enter Tryz.func117 rfl (by decide) _ Tryz.ntmps117 (le_ok rfl) (fun w Pr hE => ?_)
 dsimp only [slotsOf, Nat.zero_add, Nat.reduceAdd]
 repeat' (first | refine nx ?_ | (apply aq_block_y; decide) | (apply qr_move; refine r_move ?_) | (apply qr_assign; refine r_assign ?_) | (apply at_cond; first | refine c_t ?_ | refine c_f ?_ | (refine aw_cond rfl (fun hb => ?_) (fun hb => ?_) <;> ((try have hq := dX hb); (try (exfalso; omega))))) | (apply qr_lss; refine r_lss ?_) | (apply qr_add; refine r_add ?_) | (apply qr_len; refine r_len ?_) | (apply qr_ix; refine r_ix ?_) | (apply qr_load; refine r_load ?_))
 rw [hlen]
 refine aw_lp (fun N sl ob => ∃ i : Nat, N = l.length - i ∧ i ≤ l.length ∧ ((l.take i).any fun x => !x.right 12) = false ∧ sl = [(8, .d (.int i)), (7, .d (.int l.length)), (1, .d (.val (.func (.func 65) #[] #[]))), (0, .d (.list 5 (Ex.rows l)))] ∧ ob = []) (⟨0, rfl, Nat.zero_le _, by simp, rfl, rfl⟩) ?_
 rintro N sl ob ⟨i, rfl, hi, hs, rfl, rfl⟩
 by_cases hlt : i < l.length
 ·have hg := rows_get hlt
  have hnext := any_take (fun x : Ex => !x.right 12) hlt
  rw [hs, Bool.false_or] at hnext
  have hc := right1b_any l[i] (ht _ (List.getElem_mem hlt))
  cases hT : l[i].right 12
  ·rw [hT] at hc
   have hany : (l.any fun x => !x.right 12) = true := List.any_eq_true.2 ⟨l[i], List.getElem_mem hlt, by simp [hT]⟩
   generalize l[i] = z at hg hc
   repeat' (first | (apply at_op (.indexAddr _ _ _); refine al_ixq hg ?_) | (apply at_call; refine k_call (hc) hE ?_; rintro _ rfl) | refine nx ?_ | (apply aq_block_y; decide) | (apply qr_move; refine r_move ?_) | (apply qr_assign; refine r_assign ?_) | (apply at_cond; first | refine c_t ?_ | refine c_f ?_ | (refine aw_cond rfl (fun hb => ?_) (fun hb => ?_) <;> ((try have hq := dX hb); (try (exfalso; omega))))) | (apply qr_lss; refine r_lss ?_) | (apply qr_add; refine r_add ?_) | (apply qr_len; refine r_len ?_) | (apply qr_ix; refine r_ix ?_) | (apply qr_load; refine r_load ?_))
   refine rt1 ?_
   exact ⟨i, rfl, by rw [hany]; exact decide_eq_true (by omega)⟩
  ·rw [hT] at hc hnext
   generalize l[i] = z at hg hc
   repeat' (first | (apply at_op (.indexAddr _ _ _); refine al_ixq hg ?_) | (apply at_call; refine k_call (hc) hE ?_; rintro _ rfl) | refine nx ?_ | (apply aq_block_y; decide) | (apply qr_move; refine r_move ?_) | (apply qr_assign; refine r_assign ?_) | (apply at_cond; first | refine c_t ?_ | refine c_f ?_ | (refine aw_cond rfl (fun hb => ?_) (fun hb => ?_) <;> ((try have hq := dX hb); (try (exfalso; omega))))) | (apply qr_lss; refine r_lss ?_) | (apply qr_add; refine r_add ?_) | (apply qr_len; refine r_len ?_) | (apply qr_ix; refine r_ix ?_) | (apply qr_load; refine r_load ?_))
   refine aq_rd (⟨i + 1, rfl, by omega, hnext, rfl, rfl⟩) (by omega)
 ·rw [List.take_of_length_le (by omega)] at hs
  repeat' (first | refine nx ?_ | (apply aq_block_y; decide) | (apply qr_move; refine r_move ?_) | (apply qr_assign; refine r_assign ?_) | (apply at_cond; first | refine c_t ?_ | refine c_f ?_ | (refine aw_cond rfl (fun hb => ?_) (fun hb => ?_) <;> ((try have hq := dX hb); (try (exfalso; omega))))) | (apply qr_lss; refine r_lss ?_) | (apply qr_add; refine r_add ?_) | (apply qr_len; refine r_len ?_) | (apply qr_ix; refine r_ix ?_) | (apply qr_load; refine r_load ?_))
  refine rt1 ?_
  exact ⟨-1, rfl, by rw [hs]; rfl⟩
theorem fcontains (l : List Ex) (hl : l.length ≤ 100000) (ht : ∀ x ∈ l, Ex.tame x) : PureC 64 [.list 5 (Ex.rows l), .val (.func (.func 65) #[] #[])] (· = .bool (l.any fun x => !x.right 12)) := by
 have hc := findex l hl ht
 refine pure_enter Tryz.func64 rfl (by decide) _ Tryz.ntmps64 (le_ok rfl) (fun w Pr hE => ?_)
 dsimp only [slotsOf, Nat.zero_add, Nat.reduceAdd]
 repeat' (first | (apply at_call; refine k_call (hc) hE ?_; rintro _ ⟨r, rfl, hr⟩) | refine nx ?_ | (apply qr_move; refine r_move ?_) | (apply qr_assign; refine r_assign ?_) | (apply qr_geq; refine r_geq ?_))
 refine rt1 ?_
 rw [hr]
theorem lets_tame {x : By} (h : x.tame) : ∀ s ∈ x.lets.map (·.1), s.size ≤ 100000 := by
 intro s hs
 obtain ⟨q, hq, rfl⟩ := List.mem_map.1 hs
 exact (h.lets q hq).1
theorem byRight_any (x : By) (hx : x.tame) : PureC 22 [.agg (byC x)] (· = .bool x.right) := by
 have hna := name_any x.name (by have := hx.name; omega)
 have hi1 := in_any 0 1000 [x.quota, x.share] (by simp)
 have hi2 := in_any 1 1000 [x.change] (by simp)
 have hun := unique_any (x.lets.map (·.1)) 20 (by rw [List.length_map]; exact hx.len) (lets_tame hx)
 have hfc : PureC 64 [.list 5 [exC x.admit, exC x.fare, exC x.late, exC x.noshow], .val (.func (.func 65) #[] #[])] (· = .bool (x.parts.any fun e => !e.right 12)) := by
  have h := fcontains x.parts (by show 4 ≤ 100000; omega) (by
   intro e he
   simp only [By.parts, List.mem_cons, List.not_mem_nil, or_false] at he
   rcases he with rfl | rfl | rfl | rfl
   ·exact hx.admit
   ·exact hx.fare
   ·exact hx.late
   ·exact hx.noshow)
  rw [rows_map] at h
  exact h
 have hlen := hx.len
 have hml : (x.lets.map letC).length = x.lets.length := List.length_map ..
 obtain ⟨R, hR⟩ : ∃ R, R = x.right := ⟨_, rfl⟩
 rw [← hR]
 unfold By.right inV at hR
 generalize (!([x.quota, x.share].any fun n => (decide (n < 0) || decide (1000 < n)))) = b1 at hi1 hR
 generalize (!([x.change].any fun n => (decide (n < 1) || decide (1000 < n)))) = b2 at hi2 hR
 generalize uniqV (x.lets.map (·.1)) 20 = b3 at hun hR
 generalize (x.parts.any fun e => !e.right 12) = b4 at hfc hR
 generalize nameV x.name = b0 at hna hR
 refine pure_enter Tryz.func22 rfl (by decide) _ Tryz.ntmps22 (le_ok rfl) (fun w Pr hE => ?_)
 dsimp only [slotsOf, Nat.zero_add, Nat.reduceAdd]
 repeat' (first | refine nx ?_ | (apply aq_block_y; decide) | (apply qr_assign; refine r_assign ?_) | (apply at_cond; first | refine c_t ?_ | refine c_f ?_ | (refine aw_cond rfl (fun hb => ?_) (fun hb => ?_) <;> ((try have hq := dX hb); (try (exfalso; omega))))) | (apply qr_boxed; refine r_boxed ?_))
 refine al_adopt 3 3 9 1 rfl rfl (lt_ok rfl) ?_
 repeat' (first | refine nx ?_ | (apply aq_block_y; decide) | (apply qr_move; refine r_move ?_) | (apply at_cond; first | refine c_t ?_ | refine c_f ?_ | (refine aw_cond rfl (fun hb => ?_) (fun hb => ?_) <;> ((try have hq := dX hb); (try (exfalso; omega))))) | (apply qr_len; refine r_len ?_) | (apply qr_load; refine r_load ?_) | (apply qr_faddr; refine r_faddr ?_))
 refine aw_lp (fun N sl ob => ∃ i : Nat, N = x.lets.length - i ∧ i ≤ x.lets.length ∧ ((x.lets.take i).all fun q => q.2.right 12) = true ∧ sl = [(10, .d (.int i)), (9, .d (.int x.lets.length)), (8, .d (letsD x.lets)), (3, .row 3 i), (2, .d (.bool false)), (1, .box 1 0)] ∧ ob = [(3, namR i ((x.lets.take i).map (·.1))), (1, byO' x)]) (⟨0, rfl, Nat.zero_le _, by simp, rfl, rfl⟩) ?_
 rintro N sl ob ⟨i, rfl, hi, ha, rfl, rfl⟩
 by_cases hlt : i < x.lets.length
 ·have hg : (x.lets.map letC)[i]? = some (letC x.lets[i]) := by rw [get_map hlt]
  have hc := rightExp_any x.lets[i].2 (hx.lets _ (List.getElem_mem hlt)).2
  have hnx := all_take (fun q : ByteArray × Ex => q.2.right 12) hlt
  rw [ha, Bool.true_and] at hnx
  have hmi : ((x.lets.take i).map (·.1)).map (fun s => [D.str s]) ++ [[D.str x.lets[i].1]] = ((x.lets.take (i + 1)).map (·.1)).map (fun s => [D.str s]) := by
   rw [List.take_succ_eq_append_getElem hlt, List.map_append, List.map_append]
   rfl
  have hln : (((x.lets.take i).map (·.1)).map (fun s => [D.str s])).length = i := by rw [List.length_map, List.length_map, List.length_take]; omega
  cases hT : x.lets[i].2.right 12
  ·rw [hT] at hc
   have hall : (x.lets.all fun q => q.2.right 12) = false := by
    rw [Bool.eq_false_iff, Ne, List.all_eq_true]
    intro h
    have := h _ (List.getElem_mem hlt)
    rw [hT] at this
    cases this
   rw [hall, Bool.false_and] at hR
   rw [hR]
   clear hmi
   generalize x.lets[i] = z at hg hc
   repeat' (first | (apply at_op (.indexAddr _ _ _); refine al_ixq hg ?_) | (apply at_call; refine k_call (hc) hE ?_; rintro _ rfl) | refine nx ?_ | (apply aq_block_y; decide) | (apply qr_assign; refine r_assign ?_) | (apply at_cond; first | refine c_t ?_ | refine c_f ?_ | (refine aw_cond rfl (fun hb => ?_) (fun hb => ?_) <;> ((try have hq := dX hb); (try (exfalso; omega))))) | (apply qr_lss; refine r_lss ?_) | (apply qr_not; refine r_not ?_) | (apply qr_ix; refine r_ix ?_) | (apply qr_load; refine r_load ?_) | (apply qr_faddr; refine r_faddr ?_) | (apply qr_alloc; refine r_alloc ?_) | (apply qr_store; refine r_store ?_))
   refine rt1 ?_
   rfl
  ·rw [hT] at hc hnx
   generalize x.lets[i] = z at hg hc hmi
   have hl1 : [[D.val (Value.string z.fst)]].length = 1 := rfl
   repeat' (first | (apply at_op (.indexAddr _ _ _); refine al_ixq hg ?_) | (apply at_call; refine k_call (hc) hE ?_; rintro _ rfl) | refine nx ?_ | (apply aq_block_y; decide) | (apply qr_move; refine r_move ?_) | (apply qr_assign; refine r_assign ?_) | (apply at_cond; first | refine c_t ?_ | refine c_f ?_ | (refine aw_cond rfl (fun hb => ?_) (fun hb => ?_) <;> ((try have hq := dX hb); (try (exfalso; omega))))) | (apply qr_lss; refine r_lss ?_) | (apply qr_not; refine r_not ?_) | (apply qr_ix; refine r_ix ?_) | (apply qr_load; refine r_load ?_) | (apply qr_faddr; refine r_faddr ?_) | (apply qr_alloc; refine r_alloc ?_) | (apply qr_store; refine r_store ?_) | (apply qr_lits; refine r_lits ?_) | (apply qr_appd; refine r_appd ?_))
   simp only [namR]
   rw [hmi]
   repeat' (first | refine nx ?_ | (apply aq_block_y; decide) | (apply qr_move; refine r_move ?_) | (apply at_cond; first | refine c_t ?_ | refine c_f ?_ | (refine aw_cond rfl (fun hb => ?_) (fun hb => ?_) <;> ((try have hq := dX hb); (try (exfalso; omega))))) | (apply qr_add; refine r_add ?_))
   refine aq_rd (⟨i + 1, rfl, by omega, hnx, rfl, rfl⟩) (by omega)
 ·obtain rfl : i = x.lets.length := by omega
  rw [List.take_length] at ha
  rw [ha, Bool.true_and] at hR
  rw [List.take_length]
  cases b0
  ·rw [Bool.false_and] at hR
   rw [hR]
   repeat' (first | (apply at_call; refine k_call (hna) hE ?_; rintro _ rfl) | (apply at_call; refine k_call (hi1) hE ?_; rintro _ rfl; clear hi1) | (apply at_call; refine k_call (hi2) hE ?_; rintro _ rfl) | (apply at_call; refine k_call (hun) hE ?_; rintro _ rfl) | (apply at_call; refine k_call (hfc) hE ?_; rintro _ rfl) | refine nx ?_ | (apply aq_block_y; decide) | (apply qr_move; refine r_move ?_) | (apply qr_assign; refine r_assign ?_) | (apply at_cond; first | refine c_t ?_ | refine c_f ?_ | (refine aw_cond rfl (fun hb => ?_) (fun hb => ?_) <;> ((try have hq := dX hb); (try (exfalso; omega))))) | (apply at_guard; first | refine g_go ?_ | refine g_nt ?_ | refine g_nf ?_ | refine g_nu ?_ | ((first | refine al_split_t rfl rfl (lt_ok rfl) (fun hb => ?_) (fun hb => ?_) | refine al_split_f rfl rfl (lt_ok rfl) (fun hb => ?_) (fun hb => ?_)) <;> ((try have hq := dX hb); (try (exfalso; omega))))) | (apply qr_pick; refine r_pick ?_) | (apply qr_lss; refine r_lss ?_) | (apply qr_not; refine r_not ?_) | (apply qr_load; refine r_load ?_) | (apply qr_faddr; refine r_faddr ?_) | (apply qr_lits; refine r_lits ?_))
   refine rt1 ?_
   rfl
  rw [Bool.true_and] at hR
  cases b1
  ·rw [Bool.false_and] at hR
   rw [hR]
   repeat' (first | (apply at_call; refine k_call (hna) hE ?_; rintro _ rfl) | (apply at_call; refine k_call (hi1) hE ?_; rintro _ rfl; clear hi1) | (apply at_call; refine k_call (hi2) hE ?_; rintro _ rfl) | (apply at_call; refine k_call (hun) hE ?_; rintro _ rfl) | (apply at_call; refine k_call (hfc) hE ?_; rintro _ rfl) | refine nx ?_ | (apply aq_block_y; decide) | (apply qr_move; refine r_move ?_) | (apply qr_assign; refine r_assign ?_) | (apply at_cond; first | refine c_t ?_ | refine c_f ?_ | (refine aw_cond rfl (fun hb => ?_) (fun hb => ?_) <;> ((try have hq := dX hb); (try (exfalso; omega))))) | (apply at_guard; first | refine g_go ?_ | refine g_nt ?_ | refine g_nf ?_ | refine g_nu ?_ | ((first | refine al_split_t rfl rfl (lt_ok rfl) (fun hb => ?_) (fun hb => ?_) | refine al_split_f rfl rfl (lt_ok rfl) (fun hb => ?_) (fun hb => ?_)) <;> ((try have hq := dX hb); (try (exfalso; omega))))) | (apply qr_pick; refine r_pick ?_) | (apply qr_lss; refine r_lss ?_) | (apply qr_not; refine r_not ?_) | (apply qr_load; refine r_load ?_) | (apply qr_faddr; refine r_faddr ?_) | (apply qr_lits; refine r_lits ?_))
   refine rt1 ?_
   rfl
  rw [Bool.true_and] at hR
  cases b2
  ·rw [Bool.false_and] at hR
   rw [hR]
   repeat' (first | (apply at_call; refine k_call (hna) hE ?_; rintro _ rfl) | (apply at_call; refine k_call (hi1) hE ?_; rintro _ rfl; clear hi1) | (apply at_call; refine k_call (hi2) hE ?_; rintro _ rfl) | (apply at_call; refine k_call (hun) hE ?_; rintro _ rfl) | (apply at_call; refine k_call (hfc) hE ?_; rintro _ rfl) | refine nx ?_ | (apply aq_block_y; decide) | (apply qr_move; refine r_move ?_) | (apply qr_assign; refine r_assign ?_) | (apply at_cond; first | refine c_t ?_ | refine c_f ?_ | (refine aw_cond rfl (fun hb => ?_) (fun hb => ?_) <;> ((try have hq := dX hb); (try (exfalso; omega))))) | (apply at_guard; first | refine g_go ?_ | refine g_nt ?_ | refine g_nf ?_ | refine g_nu ?_ | ((first | refine al_split_t rfl rfl (lt_ok rfl) (fun hb => ?_) (fun hb => ?_) | refine al_split_f rfl rfl (lt_ok rfl) (fun hb => ?_) (fun hb => ?_)) <;> ((try have hq := dX hb); (try (exfalso; omega))))) | (apply qr_pick; refine r_pick ?_) | (apply qr_lss; refine r_lss ?_) | (apply qr_not; refine r_not ?_) | (apply qr_load; refine r_load ?_) | (apply qr_faddr; refine r_faddr ?_) | (apply qr_lits; refine r_lits ?_))
   refine rt1 ?_
   rfl
  rw [Bool.true_and] at hR
  cases b3
  ·rw [Bool.false_and] at hR
   rw [hR]
   repeat' (first | (apply at_call; refine k_call (hna) hE ?_; rintro _ rfl) | (apply at_call; refine k_call (hi1) hE ?_; rintro _ rfl; clear hi1) | (apply at_call; refine k_call (hi2) hE ?_; rintro _ rfl) | (apply at_call; refine k_call (hun) hE ?_; rintro _ rfl) | (apply at_call; refine k_call (hfc) hE ?_; rintro _ rfl) | refine nx ?_ | (apply aq_block_y; decide) | (apply qr_move; refine r_move ?_) | (apply qr_assign; refine r_assign ?_) | (apply at_cond; first | refine c_t ?_ | refine c_f ?_ | (refine aw_cond rfl (fun hb => ?_) (fun hb => ?_) <;> ((try have hq := dX hb); (try (exfalso; omega))))) | (apply at_guard; first | refine g_go ?_ | refine g_nt ?_ | refine g_nf ?_ | refine g_nu ?_ | ((first | refine al_split_t rfl rfl (lt_ok rfl) (fun hb => ?_) (fun hb => ?_) | refine al_split_f rfl rfl (lt_ok rfl) (fun hb => ?_) (fun hb => ?_)) <;> ((try have hq := dX hb); (try (exfalso; omega))))) | (apply qr_pick; refine r_pick ?_) | (apply qr_lss; refine r_lss ?_) | (apply qr_not; refine r_not ?_) | (apply qr_load; refine r_load ?_) | (apply qr_faddr; refine r_faddr ?_) | (apply qr_lits; refine r_lits ?_))
   refine rt1 ?_
   rfl
  rw [Bool.true_and] at hR
  rw [hR]
  repeat' (first | (apply at_call; refine k_call (hna) hE ?_; rintro _ rfl) | (apply at_call; refine k_call (hi1) hE ?_; rintro _ rfl; clear hi1) | (apply at_call; refine k_call (hi2) hE ?_; rintro _ rfl) | (apply at_call; refine k_call (hun) hE ?_; rintro _ rfl) | (apply at_call; refine k_call (hfc) hE ?_; rintro _ rfl) | refine nx ?_ | (apply aq_block_y; decide) | (apply qr_move; refine r_move ?_) | (apply qr_assign; refine r_assign ?_) | (apply at_cond; first | refine c_t ?_ | refine c_f ?_ | (refine aw_cond rfl (fun hb => ?_) (fun hb => ?_) <;> ((try have hq := dX hb); (try (exfalso; omega))))) | (apply at_guard; first | refine g_go ?_ | refine g_nt ?_ | refine g_nf ?_ | refine g_nu ?_ | ((first | refine al_split_t rfl rfl (lt_ok rfl) (fun hb => ?_) (fun hb => ?_) | refine al_split_f rfl rfl (lt_ok rfl) (fun hb => ?_) (fun hb => ?_)) <;> ((try have hq := dX hb); (try (exfalso; omega))))) | (apply qr_pick; refine r_pick ?_) | (apply qr_lss; refine r_lss ?_) | (apply qr_not; refine r_not ?_) | (apply qr_load; refine r_load ?_) | (apply qr_faddr; refine r_faddr ?_) | (apply qr_lits; refine r_lits ?_))
  refine rt1 ?_
  rfl
end Go.Proofs.YtedoeogopmenpaaGreatDoor
end
section
set_option linter.unusedSimpArgs false
set_option linter.unusedVariables false
namespace Go.Proofs.YtedoeogopmenpaaGreatDoor
open Go.RowKit
def withV (n a b : Int) : Bool := decide (a ≤ n) && decide (n ≤ b)
theorem withV_iff (n a b : Int) : withV n a b = true ↔ a ≤ n ∧ n ≤ b := by simp [withV]
theorem inV_iff (a b : Int) (l : List Int) : inV a b l = true ↔ ∀ n ∈ l, a ≤ n ∧ n ≤ b := by
 unfold inV
 rw [Bool.not_eq_true', Bool.eq_false_iff, Ne, List.any_eq_true]
 constructor
 ·intro h n hn
  refine ⟨?_, ?_⟩
  ·by_cases hx : a ≤ n
   ·exact hx
   ·exact absurd ⟨n, hn, by simp; omega⟩ h
  ·by_cases hx : n ≤ b
   ·exact hx
   ·exact absurd ⟨n, hn, by simp; omega⟩ h
 ·rintro h ⟨n, hn, hx⟩
  have := h n hn
  simp at hx
  omega
theorem right_ref (x : By) : x.right = (nameV x.name && (x.admit.right 12 && (x.fare.right 12 && (x.late.right 12 && (x.noshow.right 12 && (withV x.quota 0 1000 && (withV x.share 0 1000 && (withV x.change 1 1000 && ((x.lets.all fun q => q.2.right 12) && uniqV (x.lets.map (·.1)) 20))))))))) := by
 rw [Bool.eq_iff_iff]
 unfold By.right
 rw [any_not]
 simp only [Bool.and_eq_true, inV_iff, withV_iff, By.parts, List.all_cons, List.all_nil, List.mem_cons, List.not_mem_nil, or_false, forall_eq_or_imp, forall_eq, and_true]
 constructor
 ·rintro ⟨h1, h2, ⟨h3, h4⟩, h5, h6, h7, h8, h9, h10⟩
  exact ⟨h2, h7, h8, h9, h10, h3, h4, h5, h1, h6⟩
 ·rintro ⟨h2, h7, h8, h9, h10, h3, h4, h5, h1, h6⟩
  exact ⟨h1, h2, ⟨h3, h4⟩, h5, h6, h7, h8, h9, h10⟩
end Go.Proofs.YtedoeogopmenpaaGreatDoor
end
section
set_option linter.unusedSimpArgs false
set_option linter.unusedVariables false
namespace Go.Proofs.YtedoeogopmenpaaGreatDoor
open Go.RowKit
abbrev bldA : Bool → V
 | true => .box 1000 0
 | false => .d (.val (.pointer none))
abbrev bld (A : V) (k : Nat) (l : List (List D)) : Objs := [(1000, .box 77 [A, .row 1001 k]), (1001, .row 5 1 k l)]
theorem bld_find {A : V} {k : Nat} {l : List (List D)} {i : Nat} {o : O} (h : find (bld A k l) i = some o) : (i = 1000 ∧ o = .box 77 [A, .row 1001 k]) ∨ (i = 1001 ∧ o = .row 5 1 k l) := by
 by_cases h1 : i = 1000
 ·subst h1
  rw [find_eq] at h
  cases h
  exact .inl ⟨rfl, rfl⟩
 ·rw [find_ne h1] at h
  by_cases h2 : i = 1001
  ·subst h2
   rw [find_eq] at h
   cases h
   exact .inr ⟨rfl, rfl⟩
  ·rw [find_ne h2] at h
   cases h
theorem copycheck_any (used : Bool) (k : Nat) (l : List (List D)) : ObC 105 [.box 1000 0] (bld (bldA used) k l) [] (fun x o => x = .tup [] ∧ o = bld (.box 1000 0) k l) := by
 refine ⟨⟨_, Tryz.func105, by decide, rfl⟩, fun w Pr vs β κ hp hE hl hv ho hap => ?_⟩
 match vs, hl with
 | [v], _ =>
  have h1 := hv 0 v _ rfl rfl
  have hO := ho 1000 _ rfl
  have hR := ho 1001 _ rfl
  obtain ⟨b, cs, q1, _, q3, q4, q5, q6⟩ := hO
  cases h1 with
  | box _ _ g hb =>
   rw [q1] at hb
   simp only [Value.pointer.injEq, Option.some.injEq, Addr.mk.injEq, and_true] at hb
   subst hb
   match cs, q4 with
   | [c0, c1], _ =>
    have r0 := q5 0 c0 _ rfl rfl
    have r1 := q5 1 c1 _ rfl rfl
    have hcell : w.cell? ⟨b, 0, none⟩ = some c0 := by
     rw [cell_of_row w b 0 _ _ (0, 0) q3]
     rfl
    have wof : ∀ i o, find (bld (.box 1000 0) k l) i = some o → i ∈ keys (bld (bldA used) k l) ++ [] ∧ o.within (keys (bld (bldA used) k l) ++ []) = true := by
     intro i o hi
     rcases bld_find hi with ⟨rfl, rfl⟩ | ⟨rfl, rfl⟩
     ·exact ⟨by simp [keys], rfl⟩
     ·exact ⟨by simp [keys], rfl⟩
    have own : ∀ i o g, find (bld (.box 1000 0) k l) i = some o → blk (β i) = some g → Lent (bld (bldA used) k l) β g ∨ w.heap.size ≤ g := by
     intro i o g hi hg
     rcases bld_find hi with ⟨rfl, rfl⟩ | ⟨rfl, rfl⟩
     ·exact .inl ⟨1000, _, rfl, hg⟩
     ·exact .inl ⟨1001, _, rfl, hg⟩
    have hapart : ∀ i j oi oj g, find (bld (.box 1000 0) k l) i = some oi → find (bld (.box 1000 0) k l) j = some oj → blk (β i) = some g → blk (β j) = some g → i = j := by
     intro i j oi oj g hi hj h2 h3
     have : ∀ i oi, find (bld (.box 1000 0) k l) i = some oi → ∃ o, find (bld (bldA used) k l) i = some o := by
      intro i oi hi
      rcases bld_find hi with ⟨rfl, rfl⟩ | ⟨rfl, rfl⟩ <;> exact ⟨_, rfl⟩
     obtain ⟨_, hi'⟩ := this i oi hi
     obtain ⟨_, hj'⟩ := this j oj hj
     exact hap i j _ _ g hi' hj' h2 h3
    have hself : RepV w Pr β κ (.pointer (some ⟨b, 0, none⟩)) (.box 1000 0) := .box 1000 0 b q1
    cases used with
    | true =>
     cases r0 with
     | box _ _ g hg =>
      rw [q1] at hg
      simp only [Value.pointer.injEq, Option.some.injEq, Addr.mk.injEq, and_true] at hg
      subst hg
      refine (Any.Builder_copyCheck_used Tryz.lays240 Tryz.X72_240 b w hcell).mono fun e w' ⟨he, hw⟩ => ?_
      subst hw
      exact ⟨_, _, _, Pr, β, κ, he, ⟨rfl, rfl⟩, Under.refl _ _, fun _ _ _ => rfl, fun _ _ h => h, fun _ _ h => .inl h, hp, .tup [] [] rfl (by simp), ho, hap, own, fun _ _ _ => .inl ⟨rfl, rfl⟩, rfl, wof⟩
    | false =>
     have e0 := r0.val_inv
     subst e0
     refine (Any.Builder_copyCheck_fresh Tryz.lays240 Tryz.X72_240 b w hcell (by simp [World.shape?, q3]; rfl) (by simp [World.frozen?, q3])).mono fun e w' ⟨he, hw⟩ => ?_
     subst hw
     have hoth : ∀ k, k ≠ b → (w.setCell ⟨b, 0, none⟩ (.pointer (some ⟨b, 0, none⟩))).heap[k]? = w.heap[k]? := fun k hk => Below.heap_setCell w _ _ k hk
     have hnew : (w.setCell ⟨b, 0, none⟩ (.pointer (some ⟨b, 0, none⟩))).heap[b]? = some (.cells #[.pointer (some ⟨b, 0, none⟩), c1] 77 (0, 0)) := by
      simp only [World.setCell, Array.getElem?_modify, if_true, q3, Option.map_some]
      rfl
     have hst : Stays Pr w (w.setCell ⟨b, 0, none⟩ (.pointer (some ⟨b, 0, none⟩))) := fun b' o hb' => World.cell?_of_block (a := ⟨b', o, none⟩) (hoth b' (by rintro rfl; exact q6 o hb'))
     refine ⟨_, _, _, Pr, β, κ, he, ⟨rfl, rfl⟩, ⟨rfl, rfl, rfl, by simp [World.setCell], fun k _ hn => hoth k (fun e => hn ⟨1000, _, rfl, by rw [q1, e]; rfl⟩)⟩, hst, fun _ _ h => h, fun _ _ h => .inl h, fun b' o h => by simpa [World.setCell] using hp b' o h, .tup [] [] rfl (by simp), fun i o hi => ?_, hapart, own, fun _ _ _ => .inl ⟨rfl, rfl⟩, rfl, wof⟩
     rcases bld_find hi with ⟨rfl, rfl⟩ | ⟨rfl, rfl⟩
     ·refine ⟨b, [.pointer (some ⟨b, 0, none⟩), c1], q1, Nat.zero_le _, hnew, rfl, fun j v x hj hx => ?_, q6⟩
      match j with
      | 0 => cases hj; cases hx; exact .box 1000 0 b q1
      | 1 => cases hj; cases hx; exact r1.keep hst (fun _ _ h => h)
     ·refine hR.keep hst (fun _ _ h => h) (fun _ _ h => .inl h) (fun g hg => hoth g ?_)
      rintro rfl
      have := hap 1000 1001 _ _ g rfl rfl (by rw [q1]; rfl) hg
      cases this
theorem writestring_any (used : Bool) (k : Nat) (l : List (List D)) (s : ByteArray) (hm : l.length + s.size ≤ 140737488355328) : ObC 53 [.box 1000 0, .d (.str s)] (bld (bldA used) k l) [] (fun x o => x = .tup [.d (.int s.size), .d (.val .nilIface)] ∧ o = bld (.box 1000 0) (k + 1) (l ++ bytesD s)) := by
 cases used
 ·skip
  refine ob_enter Tryz.func53 rfl (by decide) _ Tryz.ntmps53 (le_ok rfl) rfl (fun w Pr β κ hE => ?_)
  dsimp only [slotsV, Nat.zero_add, Nat.reduceAdd]
  repeat' (first | (apply at_op (.call { callee := .value _, args := _, argTypes := _ }); refine al_ocall [(1000, 1000), (1001, 1001)] (copycheck_any false k l) rfl hE (lt_ok rfl) (by (repeat (first | refine ArgsV.cons (.same _ _ rfl) ?_ | refine ArgsV.cons (.toD _ _ (by first | exact ToD.d _ | exact ToD.row _ _ _ _ _ rfl | exact ToD.nil _)) ?_)); exact ArgsV.nil) ⟨(obs_cons rfl (obs_cons rfl obs_nil)), rfl, rfl, rfl, rfl⟩ ?_; (all_goals (try first | omega | assumption)); rintro _ _ ⟨rfl, rfl⟩ <;> (intro _ _ h1 h2; simp only [V.ren, V.renL, O.ren, renO, rn, dropK, keys, mem, List.map_cons, List.map_nil, List.any_cons, List.any_nil, List.cons_append, List.nil_append, nbeq_def, Nat.reduceBEq, cond_true, cond_false, Bool.or_false, Bool.false_or, Bool.true_or] at h1 h2; subst h1 h2)) | (apply at_op (.call { callee := .builtin .append, args := _, argTypes := _ }); refine al_step (st_append_s rfl rfl rfl rfl rfl (by kernel_rfl) hm (lt_ok rfl)) rfl ?_) | apply aw_seq | apply aw_region | apply al_nil | apply aq_np | apply aq_then | apply aq_then_x | apply aq_then_r | apply aw_skip | apply aw_exit | apply aw_ret | (apply at_op (.move _); refine al_y (y_moveC (by constructor)) (lt_ok rfl) ?_) | (apply at_op (.assign _); refine al_y (y_assignC (by constructor)) (lt_ok rfl) ?_) | (apply at_op (.call { callee := .builtin .len, args := _, argTypes := _ }); first | refine al_y (y_slen rfl rfl (by kernel_rfl)) (lt_ok rfl) ?_ | refine al_y (y_llen (by first | exact ToD.d _ | exact ToD.row _ _ _ _ _ rfl) rfl ⟨_, _, _, _, rfl⟩ (by first | (simp only [List.length_map, List.length_append, List.length_cons, List.length_nil]; rfl) | rfl)) (lt_ok rfl) ?_ | refine al_y (y_sllen rfl rfl ⟨_, _, _, _, rfl⟩) (lt_ok rfl) ?_) | (apply at_op (.load _ _); first | refine al_y (y_load1 rfl rfl rfl) (lt_ok rfl) ?_ | refine al_y (y_loadA rfl rfl (take_all rfl rfl) rfl) (lt_ok rfl) ?_ | refine al_y (y_loadA rfl rfl rfl rfl) (lt_ok rfl) ?_ | refine al_y (y_bload1 rfl rfl rfl rfl) (lt_ok rfl) ?_ | refine al_y (y_bloadA rfl rfl rfl (by first | (simp only [normV, normList, normMap]; rfl) | rfl) rfl) (lt_ok rfl) ?_ | refine al_y (y_glob hE (by unfold laidG; first | exact List.Mem.head _ | exact .tail _ (.head _) | exact .tail _ (.tail _ (.head _))) rfl rfl) (lt_ok rfl) ?_) | (apply at_op (.fieldAddr _ _ _); first | refine al_y (y_fbox rfl rfl rfl) (lt_ok rfl) ?_ | refine al_y (y_faddr rfl rfl rfl) (lt_ok rfl) ?_) | (apply at_op (.nilCheck _); first | refine al_y (y_nilbox rfl) (lt_ok rfl) ?_ | refine al_y (y_nilep rfl) (lt_ok rfl) ?_) | (apply at_op (.store _ _ _); first | refine al_step (st_store rfl rfl (ev_d rfl) nofun (by first | (simp only [normV, normList, normMap]; rfl) | rfl) (by simp [V.one, Value.oneCell']) (.inl ⟨rfl, rfl⟩) rfl (le_ok rfl) (by first | (simp only [normV, normList, normMap]; rfl) | rfl)) rfl ?_ | refine al_step (st_store rfl rfl (ev_d rfl) nofun (by first | (simp only [normV, normList, normMap]; rfl) | rfl) (by simp [V.one, Value.oneCell']) (.inr rfl) rfl (le_ok rfl) (by first | (simp only [normV, normList, normMap]; rfl) | rfl)) rfl ?_ | refine al_step (st_store rfl rfl (ev_row rfl) nofun (by first | (simp only [normV, normList, normMap]; rfl) | rfl) (by simp [V.one, Value.oneCell']) (.inl ⟨rfl, rfl⟩) rfl (le_ok rfl) (by first | (simp only [normV, normList, normMap]; rfl) | rfl)) rfl ?_ | refine al_step (st_store rfl rfl (ev_box rfl) nofun (by first | (simp only [normV, normList, normMap]; rfl) | rfl) (by simp [V.one, Value.oneCell']) (.inl ⟨rfl, rfl⟩) rfl (le_ok rfl) (by first | (simp only [normV, normList, normMap]; rfl) | rfl)) rfl ?_) | (apply at_op (.call { callee := .builtin .append, args := _, argTypes := _ }); refine al_step (st_append rfl rfl (by first | exact ToD.d _ | exact ToD.row _ _ _ _ _ rfl) rfl rfl (by simp [D.one, Value.oneCell']) (by decide) (by first | (simp only [List.length_map, List.length_append, List.length_cons, List.length_nil]; omega) | omega) (by first | (simp only [List.length_map, List.length_append, List.length_cons, List.length_nil]; omega) | omega) (lt_ok rfl)) rfl ?_))
  refine oret2 (bld (.box 1000 0) (k + 1) (l ++ bytesD s)) (by rfl) (by first | exact ResV.x _ _ (ResX.tmp _ _ (by first | exact ToD.d _ | exact ToD.row _ _ _ _ _ rfl | exact ToD.nil _)) | exact ResV.tmp _ _ rfl | exact ResV.x _ _ (ResX.cellA _ _ _ _ _ _ _ rfl rfl rfl (by first | (simp only [normV, normList, normMap]; rfl) | rfl) rfl)) (by first | exact ResV.x _ _ (ResX.tmp _ _ (by first | exact ToD.d _ | exact ToD.row _ _ _ _ _ rfl | exact ToD.nil _)) | exact ResV.tmp _ _ rfl | exact ResV.x _ _ (ResX.cellA _ _ _ _ _ _ _ rfl rfl rfl (by first | (simp only [normV, normList, normMap]; rfl) | rfl) rfl)) (⟨rfl, rfl⟩) (by (repeat (first | exact obs_nil | (apply obs_cons; focus (first | rfl | (simp [find]; done)))))) (by first | rfl | (simp [okOut, V.within, V.withinL, O.within, keys, mem, look, nbeq_def, withinL_app, withinL_ds, withinL_und]; done))
 ·skip
  refine ob_enter Tryz.func53 rfl (by decide) _ Tryz.ntmps53 (le_ok rfl) rfl (fun w Pr β κ hE => ?_)
  dsimp only [slotsV, Nat.zero_add, Nat.reduceAdd]
  repeat' (first | (apply at_op (.call { callee := .value _, args := _, argTypes := _ }); refine al_ocall [(1000, 1000), (1001, 1001)] (copycheck_any true k l) rfl hE (lt_ok rfl) (by (repeat (first | refine ArgsV.cons (.same _ _ rfl) ?_ | refine ArgsV.cons (.toD _ _ (by first | exact ToD.d _ | exact ToD.row _ _ _ _ _ rfl | exact ToD.nil _)) ?_)); exact ArgsV.nil) ⟨(obs_cons rfl (obs_cons rfl obs_nil)), rfl, rfl, rfl, rfl⟩ ?_; (all_goals (try first | omega | assumption)); rintro _ _ ⟨rfl, rfl⟩ <;> (intro _ _ h1 h2; simp only [V.ren, V.renL, O.ren, renO, rn, dropK, keys, mem, List.map_cons, List.map_nil, List.any_cons, List.any_nil, List.cons_append, List.nil_append, nbeq_def, Nat.reduceBEq, cond_true, cond_false, Bool.or_false, Bool.false_or, Bool.true_or] at h1 h2; subst h1 h2)) | (apply at_op (.call { callee := .builtin .append, args := _, argTypes := _ }); refine al_step (st_append_s rfl rfl rfl rfl rfl (by kernel_rfl) hm (lt_ok rfl)) rfl ?_) | apply aw_seq | apply aw_region | apply al_nil | apply aq_np | apply aq_then | apply aq_then_x | apply aq_then_r | apply aw_skip | apply aw_exit | apply aw_ret | (apply at_op (.move _); refine al_y (y_moveC (by constructor)) (lt_ok rfl) ?_) | (apply at_op (.assign _); refine al_y (y_assignC (by constructor)) (lt_ok rfl) ?_) | (apply at_op (.call { callee := .builtin .len, args := _, argTypes := _ }); first | refine al_y (y_slen rfl rfl (by kernel_rfl)) (lt_ok rfl) ?_ | refine al_y (y_llen (by first | exact ToD.d _ | exact ToD.row _ _ _ _ _ rfl) rfl ⟨_, _, _, _, rfl⟩ (by first | (simp only [List.length_map, List.length_append, List.length_cons, List.length_nil]; rfl) | rfl)) (lt_ok rfl) ?_ | refine al_y (y_sllen rfl rfl ⟨_, _, _, _, rfl⟩) (lt_ok rfl) ?_) | (apply at_op (.load _ _); first | refine al_y (y_load1 rfl rfl rfl) (lt_ok rfl) ?_ | refine al_y (y_loadA rfl rfl (take_all rfl rfl) rfl) (lt_ok rfl) ?_ | refine al_y (y_loadA rfl rfl rfl rfl) (lt_ok rfl) ?_ | refine al_y (y_bload1 rfl rfl rfl rfl) (lt_ok rfl) ?_ | refine al_y (y_bloadA rfl rfl rfl (by first | (simp only [normV, normList, normMap]; rfl) | rfl) rfl) (lt_ok rfl) ?_ | refine al_y (y_glob hE (by unfold laidG; first | exact List.Mem.head _ | exact .tail _ (.head _) | exact .tail _ (.tail _ (.head _))) rfl rfl) (lt_ok rfl) ?_) | (apply at_op (.fieldAddr _ _ _); first | refine al_y (y_fbox rfl rfl rfl) (lt_ok rfl) ?_ | refine al_y (y_faddr rfl rfl rfl) (lt_ok rfl) ?_) | (apply at_op (.nilCheck _); first | refine al_y (y_nilbox rfl) (lt_ok rfl) ?_ | refine al_y (y_nilep rfl) (lt_ok rfl) ?_) | (apply at_op (.store _ _ _); first | refine al_step (st_store rfl rfl (ev_d rfl) nofun (by first | (simp only [normV, normList, normMap]; rfl) | rfl) (by simp [V.one, Value.oneCell']) (.inl ⟨rfl, rfl⟩) rfl (le_ok rfl) (by first | (simp only [normV, normList, normMap]; rfl) | rfl)) rfl ?_ | refine al_step (st_store rfl rfl (ev_d rfl) nofun (by first | (simp only [normV, normList, normMap]; rfl) | rfl) (by simp [V.one, Value.oneCell']) (.inr rfl) rfl (le_ok rfl) (by first | (simp only [normV, normList, normMap]; rfl) | rfl)) rfl ?_ | refine al_step (st_store rfl rfl (ev_row rfl) nofun (by first | (simp only [normV, normList, normMap]; rfl) | rfl) (by simp [V.one, Value.oneCell']) (.inl ⟨rfl, rfl⟩) rfl (le_ok rfl) (by first | (simp only [normV, normList, normMap]; rfl) | rfl)) rfl ?_ | refine al_step (st_store rfl rfl (ev_box rfl) nofun (by first | (simp only [normV, normList, normMap]; rfl) | rfl) (by simp [V.one, Value.oneCell']) (.inl ⟨rfl, rfl⟩) rfl (le_ok rfl) (by first | (simp only [normV, normList, normMap]; rfl) | rfl)) rfl ?_) | (apply at_op (.call { callee := .builtin .append, args := _, argTypes := _ }); refine al_step (st_append rfl rfl (by first | exact ToD.d _ | exact ToD.row _ _ _ _ _ rfl) rfl rfl (by simp [D.one, Value.oneCell']) (by decide) (by first | (simp only [List.length_map, List.length_append, List.length_cons, List.length_nil]; omega) | omega) (by first | (simp only [List.length_map, List.length_append, List.length_cons, List.length_nil]; omega) | omega) (lt_ok rfl)) rfl ?_))
  refine oret2 (bld (.box 1000 0) (k + 1) (l ++ bytesD s)) (by rfl) (by first | exact ResV.x _ _ (ResX.tmp _ _ (by first | exact ToD.d _ | exact ToD.row _ _ _ _ _ rfl | exact ToD.nil _)) | exact ResV.tmp _ _ rfl | exact ResV.x _ _ (ResX.cellA _ _ _ _ _ _ _ rfl rfl rfl (by first | (simp only [normV, normList, normMap]; rfl) | rfl) rfl)) (by first | exact ResV.x _ _ (ResX.tmp _ _ (by first | exact ToD.d _ | exact ToD.row _ _ _ _ _ rfl | exact ToD.nil _)) | exact ResV.tmp _ _ rfl | exact ResV.x _ _ (ResX.cellA _ _ _ _ _ _ _ rfl rfl rfl (by first | (simp only [normV, normList, normMap]; rfl) | rfl) rfl)) (⟨rfl, rfl⟩) (by (repeat (first | exact obs_nil | (apply obs_cons; focus (first | rfl | (simp [find]; done)))))) (by first | rfl | (simp [okOut, V.within, V.withinL, O.within, keys, mem, look, nbeq_def, withinL_app, withinL_ds, withinL_und]; done))
end Go.Proofs.YtedoeogopmenpaaGreatDoor
end
section
namespace Go.Proofs.YtedoeogopmenpaaGreatDoor
open Go.RowKit
set_option maxRecDepth 100000 in
theorem string_run (b g cap : Nat) (p : Value) (cur : Array Value) (l : List UInt8) (w : World) (hl : l ≠ []) (hbk : w.heap[b]? = some (.cells #[p, .slice (some ⟨g, 0, none⟩) l.length cap] 77 (0, 0))) (hg : w.heap[g]? = some (.cells cur 5 (0, 0)))
  (hcap : l.length ≤ cap) (hcm : cap ≤ maxLen) (hcs : cur.size = cap) (hcell : ∀ (j : Nat) (x : UInt8), l[j]? = some x → w.cell? ⟨g, j, none⟩ = some (.int .u8 x.toNat)) :
  Calls Tryz.prog 58 #[.pointer (some ⟨b, 0, none⟩)] w fun e w' => e = .returned (.string ⟨l.toArray⟩) ∧ w' = w.drew.freeze ⟨g, 0, none⟩ l.length := by
 have hl0 : l.length ≠ 0 := by simpa using hl
 have c1 : w.drew.cell? ⟨b, 1, none⟩ = some (.slice (some ⟨g, 0, none⟩) l.length cap) := by
  have : w.drew.heap[b]? = some (.cells #[p, .slice (some ⟨g, 0, none⟩) l.length cap] 77 (0, 0)) := hbk
  rw [Lib.cell_of_heap this]; rfl
 have hSD : (Builtin.unsafeSliceData_ #[75] 128 #[.slice (some ⟨g, 0, none⟩) l.length cap]).run Tryz.prog w.drew = .ok (.pointer (some ⟨g, 0, none⟩)) w.drew := Lib.run_unsafeSliceData_row _ _ _ _ _ _ (by omega)
 have hUS : (Builtin.unsafeString_ #[128, 3] 9 #[.pointer (some ⟨g, 0, none⟩), .int .i64 l.length]).run Tryz.prog w.drew = .ok (.string ⟨l.toArray⟩) (w.drew.freeze ⟨g, 0, none⟩ l.length) := by
  refine Lib.run_unsafeString_row w.drew 128 3 9 5 (by kernel_rfl) (by kernel_rfl) g cur.size (by have hg' : w.drew.heap[g]? = some (.cells cur 5 (0, 0)) := hg; simp [World.shape?, hg']) l hl (by omega) (by unfold maxLen at hcm; omega) ?_
  intro j x hx
  have := hcell j x hx
  rw [Addr.add_lit, Nat.zero_add]
  exact this
 have mixed : Tryz.prog.follows .mixedOrders = true := follows_mixed
 go_enter Tryz.func58, Tryz.ntmps58
 go_wp2
 go_region_o
 all_goals (go_wp2; go_ret; exact ⟨rfl, rfl⟩)
theorem freeze_cell (w : World) (a : Addr) (n : Nat) (q : Addr) : (w.freeze a n).cell? q = w.cell? q := by
 unfold World.freeze
 by_cases hn : n = 0
 ·rw [if_pos hn]
 ·rw [if_neg hn]
  simp only [World.cell?, Array.getElem?_modify]
  by_cases h : a.block = q.block
  ·rw [if_pos h, ← h]
   cases hw : w.heap[a.block]? with
   | none => rfl
   | some o => cases o <;> rfl
  ·rw [if_neg h]
def byteD (l : List UInt8) : List (List D) := l.map fun c => [.val (.int .u8 c.toNat)]
theorem byteD_app (l : List UInt8) (s : ByteArray) : byteD l ++ bytesD s = byteD (l ++ s.data.toList) := by simp [byteD, bytesD]
theorem string_any (k : Nat) (l : List UInt8) (hl : l ≠ []) : ObC 58 [.box 1000 0] (bld (.box 1000 0) k (byteD l)) [] (fun x o => x = .d (.str ⟨l.toArray⟩) ∧ o = []) := by
 refine ⟨⟨_, Tryz.func58, by decide, rfl⟩, fun w Pr vs β κ hp hE hln hv ho hap => ?_⟩
 match vs, hln with
 | [v], _ =>
  have h1 := hv 0 v _ rfl rfl
  obtain ⟨b, cs, q1, _, q3, q4, q5, q6⟩ := ho 1000 _ rfl
  obtain ⟨hκ, xs, hown, hls, hrp, hpr⟩ := ho 1001 _ rfl
  cases h1 with
  | box _ _ g hb =>
   rw [q1] at hb
   simp only [Value.pointer.injEq, Option.some.injEq, Addr.mk.injEq, and_true] at hb
   subst hb
   match cs, q4 with
   | [c0, c1], _ =>
    have r1 := q5 1 c1 _ rfl rfl
    have hc1 : c1 = β 1001 := r1.row_inv hκ.symm
    have hlen : (byteD l).length = l.length := by simp [byteD]
    rw [hlen] at hown
    rcases hown.2 with ⟨_, h0⟩ | ⟨g, cap, cur, hv1, _, hg, hnc, hcm, hcs, htk⟩
    ·exact absurd (List.eq_nil_of_length_eq_zero h0) hl
    ·rw [hv1] at hc1 hown hpr
     subst hc1
     have hcell : ∀ (j : Nat) (x : UInt8), l[j]? = some x → w.cell? ⟨g, j, none⟩ = some (.int .u8 x.toNat) := by
      intro j x hj
      have hjl : j < l.length := (List.getElem?_eq_some_iff.1 hj).1
      obtain ⟨u, hu, hr⟩ := hrp j 0 [.val (.int .u8 x.toNat)] _ (by simp [byteD, hj]) rfl
      cases hr
      rw [hown.cellAt j (by omega)]
      simpa using hu
     refine (string_run b g cap c0 cur l w hl q3 hg hnc hcm (by simpa using hcs) hcell).mono fun e w' ⟨he, hw⟩ => ?_
     subst hw
     have hst : Stays Pr w (w.drew.freeze ⟨g, 0, none⟩ l.length) := fun b' o _ => by rw [freeze_cell]; rfl
     have hsz : (w.drew.freeze ⟨g, 0, none⟩ l.length).heap.size = w.heap.size := by
      unfold World.freeze
      split
      ·rfl
      ·simp only [Array.size_modify]
       rfl
     refine ⟨_, _, [], Pr, β, κ, he, ⟨rfl, rfl⟩, ⟨?_, ?_, ?_, by omega, fun j hj hn => ?_⟩, hst, fun _ _ h => h, fun _ _ h => .inl h, fun b' o h => by rw [hsz]; exact hp b' o h, .d _ _ (.val _), fun i o h => by simp [find] at h, fun i j oi oj g h => by simp [find] at h, fun i o g h => by simp [find] at h, fun _ _ _ => .inl ⟨rfl, rfl⟩, rfl, fun i o h => by simp [find] at h⟩
     ·unfold World.freeze; split <;> rfl
     ·unfold World.freeze; split <;> rfl
     ·unfold World.freeze; split <;> rfl
     ·have hne : j ≠ g := fun e => hn ⟨1001, _, rfl, by rw [hv1, e]; rfl⟩
      unfold World.freeze
      split
      ·rfl
      ·simp only [Array.getElem?_modify]
       rw [if_neg (Ne.symm hne)]
       rfl
theorem writestring_b (used : Bool) (k : Nat) (l : List UInt8) (s : ByteArray) (hm : l.length + s.size ≤ 140737488355328) : ObC 53 [.box 1000 0, .d (.str s)] (bld (bldA used) k (byteD l)) [] (fun x o => x = .tup [.d (.int s.size), .d (.val .nilIface)] ∧ o = bld (.box 1000 0) (k + 1) (byteD (l ++ s.data.toList))) :=
 (writestring_any used k (byteD l) s (by simpa [byteD] using hm)).mono fun x o h => by rw [← byteD_app]; exact h
end Go.Proofs.YtedoeogopmenpaaGreatDoor
end
section
set_option linter.unusedSimpArgs false
set_option linter.unusedVariables false
namespace Go.Proofs.YtedoeogopmenpaaGreatDoor
open Go.RowKit
def lineV (ws : List ByteArray) : ByteArray := jn ws ++ ⟨#[32, 59, 10]⟩
def catL (ls : List (List ByteArray)) : List UInt8 := (ls.map fun w => (lineV w).data.toList).flatten
theorem catL_snoc (ls : List (List ByteArray)) (w : List ByteArray) : catL (ls ++ [w]) = catL ls ++ (lineV w).data.toList := by simp [catL]
def Fit (ls : List (List ByteArray)) : Prop := ls.length ≤ 40 ∧ ∀ w ∈ ls, (lineV w).size ≤ 3355444000000
theorem Fit.left {a b : List (List ByteArray)} (h : Fit (a ++ b)) : Fit a := ⟨by have := h.1; rw [List.length_append] at this; omega, fun w hw => h.2 w (by simp [hw])⟩
theorem lineV_len (w : List ByteArray) : (lineV w).data.toList.length = (lineV w).size := by simp
theorem cat_len {ls : List (List ByteArray)} (h : ∀ w ∈ ls, (lineV w).size ≤ 3355444000000) : (catL ls).length ≤ ls.length * 3355444000000 := by
 induction ls with
 | nil => simp [catL]
 | cons w r ih =>
  have h1 := ih fun x hx => h x (by simp [hx])
  have h2 := h w (by simp)
  have e : catL (w :: r) = (lineV w).data.toList ++ catL r := by simp [catL]
  rw [e, List.length_append, lineV_len, List.length_cons, Nat.add_mul]
  omega
theorem Fit.len {ls : List (List ByteArray)} (h : Fit ls) : (catL ls).length ≤ 134217760000000 := by
 have h1 := cat_len h.2
 have h2 := h.1
 have : ls.length * 3355444000000 ≤ 40 * 3355444000000 := Nat.mul_le_mul_right _ h2
 omega
theorem line_size (w : List ByteArray) : (lineV w).size = (jn w).size + 3 := by
 rw [lineV, ByteArray.size_append]
 rfl
theorem Fit.last {ls : List (List ByteArray)} {w : List ByteArray} (h : Fit (ls ++ [w])) : (jn w).size ≤ 3355444000000 := by
 have h1 := h.2 w (by simp)
 have := line_size w
 omega
theorem line_any (used : Bool) (k : Nat) (P : List (List ByteArray)) (ws : List ByteArray) (hw : ws.length ≤ 100) (hF : Fit (P ++ [ws])) : ObC 52 [.d (strsD ws), .box 1000 0] (bld (bldA used) k (byteD (catL P))) [] (fun x o => x = .tup [] ∧ o = bld (.box 1000 0) (k + 1) (byteD (catL (P ++ [ws])))) := by
 have hj := hF.last
 have hl := hF.len
 rw [catL_snoc] at hl ⊢
 rw [List.length_append, lineV_len] at hl
 have hjn := join_any ws (by omega) (by omega)
 have hwr := writestring_b used k (catL P) (lineV ws) (by omega)
 have l1 : ByteArray.size ⟨#[32, 59, 10]⟩ = 3 := rfl
 unfold lineV at hwr ⊢
 unfold blank1 at hjn
 cases used
 ·skip
  refine ob_enter Tryz.func52 rfl (by decide) _ Tryz.ntmps52 (le_ok rfl) rfl (fun w Pr β κ hE => ?_)
  dsimp only [slotsV, Nat.zero_add, Nat.reduceAdd]
  repeat' (first | (apply at_call; refine k_call (hjn) hE ?_; rintro _ rfl) | (apply at_call; refine k_ocall [(1000, 1000), (1001, 1001)] (hwr) hE ?_; rintro _ _ ⟨rfl, rfl⟩ <;> (intro _ _ h1 h2; simp only [renEqs, Nat.reduceBEq, renL_app, renL_ds, renL_und] at h1 h2; subst h1 h2)) | refine nx ?_ | (apply qr_move; refine r_move ?_) | (apply qr_add; refine r_add ?_))
  try refine aq_end ?_
  refine oret0 (bld (.box 1000 0) (k + 1) (byteD (catL P ++ (jn ws ++ ⟨#[32, 59, 10]⟩).data.toList))) (by rfl) (⟨rfl, rfl⟩) sb okx
 ·skip
  refine ob_enter Tryz.func52 rfl (by decide) _ Tryz.ntmps52 (le_ok rfl) rfl (fun w Pr β κ hE => ?_)
  dsimp only [slotsV, Nat.zero_add, Nat.reduceAdd]
  repeat' (first | (apply at_call; refine k_call (hjn) hE ?_; rintro _ rfl) | (apply at_call; refine k_ocall [(1000, 1000), (1001, 1001)] (hwr) hE ?_; rintro _ _ ⟨rfl, rfl⟩ <;> (intro _ _ h1 h2; simp only [renEqs, Nat.reduceBEq, renL_app, renL_ds, renL_und] at h1 h2; subst h1 h2)) | refine nx ?_ | (apply qr_move; refine r_move ?_) | (apply qr_add; refine r_add ?_))
  try refine aq_end ?_
  refine oret0 (bld (.box 1000 0) (k + 1) (byteD (catL P ++ (jn ws ++ ⟨#[32, 59, 10]⟩).data.toList))) (by rfl) (⟨rfl, rfl⟩) sb okx
end Go.Proofs.YtedoeogopmenpaaGreatDoor
end
