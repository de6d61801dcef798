/-
  Conditions: none.
-/
import Derived.Test.YtedoeogopmenpaaGreatDoorMav
set_option maxHeartbeats 16000000
set_option maxRecDepth 20000
section
set_option linter.unusedSimpArgs false
set_option linter.unusedVariables false
namespace Go.Proofs.YtedoeogopmenpaaGreatDoor
open Go.RowKit
abbrev letL (q : ByteArray × Ex) : List ByteArray := [w_let, q.1, w_is, q.2.text 0]
def By.head (x : By) (i : Nat) : List (List ByteArray) := [[w_bylaws, x.name]] ++ (x.lets.take i).map letL
def By.lines (x : By) : List (List ByteArray) := x.head x.lets.length ++ [[w_admit, x.admit.text 0]] ++ [[w_fare, x.fare.text 0]] ++ [[w_late, x.late.text 0]] ++ [[w_noshow, x.noshow.text 0]] ++ [[w_quota, itoaB x.quota]] ++ [[w_share, itoaB x.share]] ++ [[w_change, itoaB x.change]]
def By.text (x : By) : ByteArray := ⟨(catL x.lines).toArray⟩
structure By.Ok (x : By) : Prop where
 lets : ∀ q ∈ x.lets, q.2.right 12 = true
 admit : x.admit.right 12 = true
 fare : x.fare.right 12 = true
 late : x.late.right 12 = true
 noshow : x.noshow.right 12 = true
 quota : 0 ≤ x.quota ∧ x.quota ≤ 1000
 share : 0 ≤ x.share ∧ x.share ≤ 1000
 change : 1 ≤ x.change ∧ x.change ≤ 1000
 name : nameV x.name = true
 uniq : uniqV (x.lets.map (·.1)) 20 = true
theorem by_ok {x : By} (h : x.right = true) : x.Ok := by
 rw [right_ref] at h
 simp only [Bool.and_eq_true, withV_iff, List.all_eq_true] at h
 obtain ⟨h2, h7, h8, h9, h10, h3, h4, h5, h1, h6⟩ := h
 exact ⟨h1, h7, h8, h9, h10, h3, h4, h5, h2, h6⟩
theorem By.Ok.len {x : By} (h : x.Ok) : x.lets.length ≤ 20 := by
 have := h.uniq
 unfold uniqV at this
 rw [Bool.and_eq_true, decide_eq_true_eq, List.length_map] at this
 omega
theorem line_le2 {a b : ByteArray} (ha : a.size ≤ 10) (hb : b.size ≤ 3355443300000) : (lineV [a, b]).size ≤ 3355444000000 := by
 rw [line_size, jn_two, jn_one]
 simp only [ByteArray.size_append]
 have : blank1.size = 1 := rfl
 omega
theorem let_le {q : ByteArray × Ex} (h1 : q.1.size ≤ 100000) (h2 : (q.2.text 0).size ≤ 3355443200000) : (lineV (letL q)).size ≤ 3355444000000 := by
 rw [line_size, letL, jn_two, jn_two, jn_two, jn_one]
 simp only [ByteArray.size_append]
 have : blank1.size = 1 := rfl
 have : w_let.size = 3 := rfl
 have : w_is.size = 1 := rfl
 omega
theorem lines_fit {x : By} (h : x.Ok) (ht : x.tame) : Fit x.lines := by
 have hl := h.len
 refine ⟨?_, fun w hw => ?_⟩
 ·simp only [By.lines, By.head, List.length_append, List.length_cons, List.length_nil, List.length_map, List.length_take]
  omega
 ·have hn := ht.name
  have z1 := text_small (by omega) h.admit ht.admit 0
  have z2 := text_small (by omega) h.fare ht.fare 0
  have z3 := text_small (by omega) h.late ht.late 0
  have z4 := text_small (by omega) h.noshow ht.noshow 0
  have z5 := itoaB_size h.quota.1 (by have := h.quota.2; omega)
  have z6 := itoaB_size h.share.1 (by have := h.share.2; omega)
  have z7 := itoaB_size (n := x.change) (by have := h.change.1; omega) (by have := h.change.2; omega)
  simp only [By.lines, By.head, List.mem_append, List.mem_singleton, List.take_length] at hw
  rcases hw with ((((((((rfl | hw) | rfl) | rfl) | rfl) | rfl) | rfl) | rfl) | rfl)
  ·exact line_le2 (by decide) (by omega)
  ·obtain ⟨q, hq, rfl⟩ := List.mem_map.1 hw
   exact let_le (ht.lets q hq).1 (text_small (by omega) (h.lets q hq) (ht.lets q hq).2 0)
  ·exact line_le2 (by decide) (by omega)
  ·exact line_le2 (by decide) (by omega)
  ·exact line_le2 (by decide) (by omega)
  ·exact line_le2 (by decide) (by omega)
  ·exact line_le2 (by decide) (by omega)
  ·exact line_le2 (by decide) (by omega)
  ·exact line_le2 (by decide) (by omega)
theorem head_next {x : By} {i : Nat} (h : i < x.lets.length) : x.head i ++ [letL x.lets[i]] = x.head (i + 1) := by
 unfold By.head
 rw [List.take_succ_eq_append_getElem h, List.map_append, List.append_assoc]
 rfl
theorem head_fit {x : By} (h : Fit x.lines) {i : Nat} (hi : i ≤ x.lets.length) : Fit (x.head i) := by
 have h1 : Fit (x.head x.lets.length) := by
  unfold By.lines at h
  exact h.left.left.left.left.left.left.left
 have h2 : x.head x.lets.length = x.head i ++ ((x.lets.drop i).map letL) := by
  unfold By.head
  rw [List.append_assoc, ← List.map_append, List.take_append_drop, List.take_length]
 rw [h2] at h1
 exact h1.left
def printD (x : By) : D := if x.right = true then fitsD x.text else .tup [.str ⟨#[]⟩, .int 1]
theorem catL_ne (ls : List (List ByteArray)) (w : List ByteArray) : catL (ls ++ [w]) ≠ [] := by
 rw [catL_snoc]
 intro h
 have h1 := congrArg List.length h
 rw [List.length_append, lineV_len, line_size] at h1
 simp at h1
theorem print_any (x : By) (ht : x.tame) : PureC 18 [.agg (byC x)] (· = printD x) := by
 have hr := byRight_any x ht
 unfold printD
 cases hx : x.right
 ·rw [if_neg (by simp)]
  rw [hx] at hr
  refine pure_enter Tryz.func18 rfl (by decide) _ Tryz.ntmps18 (le_ok rfl) (fun w Pr hE => ?_)
  dsimp only [slotsOf, Nat.zero_add, Nat.reduceAdd]
  repeat' (first | (apply at_call; refine k_call (hr) hE ?_; rintro _ rfl) | refine nx ?_ | (apply aq_block_y; decide) | (apply qr_assign; refine r_assign ?_) | (apply at_cond; first | refine c_t ?_ | refine c_f ?_ | (refine aw_cond rfl (fun hb => ?_) (fun hb => ?_) <;> ((try have hq := dX hb); (try (exfalso; omega))))) | (apply qr_not; refine r_not ?_) | (apply qr_load; refine r_load ?_) | (apply qr_boxed; refine r_boxed ?_))
  refine ret_two (by rfl) (by first | exact ToD.d _ | exact ToD.row _ _ _ _ _ rfl) (by first | exact ToD.d _ | exact ToD.row _ _ _ _ _ rfl) ?_
  rfl
 rw [if_pos rfl]
 rw [hx] at hr
 have ho := by_ok hx
 have hF := lines_fit ho ht
 have hlen := ho.len
 have hml : (x.lets.map letC).length = x.lets.length := List.length_map ..
 have s1 := show_any 12 (by omega) x.admit 0 ho.admit ht.admit (by omega)
 have s2 := show_any 12 (by omega) x.fare 0 ho.fare ht.fare (by omega)
 have s3 := show_any 12 (by omega) x.late 0 ho.late ht.late (by omega)
 have s4 := show_any 12 (by omega) x.noshow 0 ho.noshow ht.noshow (by omega)
 have i1 := itoa_any x.quota (by have := ho.quota.1; omega) (by have := ho.quota.2; omega)
 have i2 := itoa_any x.share (by have := ho.share.1; omega) (by have := ho.share.2; omega)
 have i3 := itoa_any x.change (by have := ho.change.1; omega) (by have := ho.change.2; omega)
 have hfit := fits_any x.text
 have l0 := line_any false 0 [] [w_bylaws, x.name] (by show 2 ≤ 100; omega) (head_fit hF (i := 0) (Nat.zero_le _))
 refine pure_enter Tryz.func18 rfl (by decide) _ Tryz.ntmps18 (le_ok rfl) (fun w Pr hE => ?_)
 dsimp only [slotsOf, Nat.zero_add, Nat.reduceAdd]
 repeat' (first | (apply at_call; refine k_call (hr) hE ?_; rintro _ rfl) | refine nx ?_ | (apply aq_block_y; decide) | (apply qr_assign; refine r_assign ?_) | (apply at_cond; first | refine c_t ?_ | refine c_f ?_ | (refine aw_cond rfl (fun hb => ?_) (fun hb => ?_) <;> ((try have hq := dX hb); (try (exfalso; omega))))) | (apply qr_not; refine r_not ?_) | (apply qr_load; refine r_load ?_) | (apply qr_alloc; refine r_alloc ?_) | (apply qr_boxed; refine r_boxed ?_))
 refine al_adoptb 4 1 60 5 1 rfl rfl rfl (lt_ok rfl) rfl rfl ?_
 repeat' (first | (apply at_op (.makeFunc _ _ _); refine al_y (y_clo (zs := [.box 4 0]) rfl) (lt_ok rfl) ?_) | (apply at_call; refine k_clocall1 [(1000, 4), (1001, 60)] (l0) hE ?_; rintro _ _ ⟨rfl, rfl⟩ <;> (intro _ _ h1 h2; simp only [renEqs, Nat.reduceBEq, renL_app, renL_ds, renL_und] at h1 h2; subst h1 h2)) | refine nx ?_ | (apply aq_block_y; decide) | (apply qr_move; refine r_move ?_) | (apply qr_assign; refine r_assign ?_) | (apply at_cond; first | refine c_t ?_ | refine c_f ?_ | (refine aw_cond rfl (fun hb => ?_) (fun hb => ?_) <;> ((try have hq := dX hb); (try (exfalso; omega))))) | (apply qr_len; refine r_len ?_) | (apply qr_func; refine r_func ?_) | (apply qr_load; refine r_load ?_) | (apply qr_faddr; refine r_faddr ?_) | (apply qr_lits; refine r_lits ?_))
 clear hr l0
 refine aw_lp (fun N sl ob => ∃ i k : Nat, N = x.lets.length - i ∧ i ≤ x.lets.length ∧ sl = [(20, .d (.int i)), (19, .d (.int x.lets.length)), (18, .d (letsD x.lets)), (5, .clo (.func 52) [.box 4 0]), (4, .box 4 0), (1, .box 1 0)] ∧ ob = [(4, .box 77 [.box 4 0, .row 60 k]), (60, .row 5 1 k (byteD (catL (x.head i)))), (1, byO' x)]) (⟨0, 1, rfl, Nat.zero_le _, rfl, rfl⟩) ?_
 rintro N sl ob ⟨i, k, rfl, hi, rfl, rfl⟩
 by_cases hlt : i < x.lets.length
 ·have hg : (x.lets.map letC)[i]? = some (letC x.lets[i]) := by rw [get_map hlt]
  have hc := show_any 12 (by omega) x.lets[i].2 0 (ho.lets _ (List.getElem_mem hlt)) (ht.lets _ (List.getElem_mem hlt)).2 (by omega)
  have hnx := head_next hlt
  have hln := line_any true k (x.head i) (letL x.lets[i]) (by show 4 ≤ 100; omega) (by rw [hnx]; exact head_fit hF (by omega))
  rw [hnx] at hln
  generalize x.lets[i] = z at hg hc hln
  clear hnx s1 s2 s3 s4 i1 i2 i3 hfit
  repeat' (first | (apply at_op (.indexAddr _ _ _); refine al_ixq hg ?_) | refine nx ?_ | (apply aq_block_y; decide) | (apply at_cond; first | refine c_t ?_ | refine c_f ?_ | (refine aw_cond rfl (fun hb => ?_) (fun hb => ?_) <;> ((try have hq := dX hb); (try (exfalso; omega))))) | (apply qr_lss; refine r_lss ?_) | (apply qr_ix; refine r_ix ?_) | (apply qr_load; refine r_load ?_) | (apply qr_alloc; refine r_alloc ?_) | (apply qr_store; refine r_store ?_))
  refine aw_mixo ([(7, .box 43 ((letC z).map V.d))]) [(0, true), (1, true), (2, true), (3, true), (4, true), (5, false), (6, false), (7, false)] [] (by kernel_rfl) (by kernel_rfl) (by kernel_rfl) (by decide) (by (repeat (first | exact obs_nil | (apply obs_cons; focus (first | rfl | (simp [find]; done)))))) ?_
  simp only [planned, tailed, List.filterMap_cons, List.filterMap_nil, List.getElem?_cons_zero, List.getElem?_cons_succ, Option.map_some]
  repeat' (first | apply am_nil | refine m_skip ?_ | refine n_skip ?_ | (apply at_mcall; refine m_call (hc) hE ?_; rintro _ rfl; (try dsimp only [flat, D.plain, D.plainL])) | (apply at_mcall; refine m_clocall1 [(1000, 4), (1001, 60)] (hln) hE ?_; rintro _ _ ⟨rfl, rfl⟩ <;> (intro _ _ h1 h2; simp only [renEqs, Nat.reduceBEq, renL_app, renL_ds, renL_und] at h1 h2; subst h1 h2; (try dsimp only [flatV, flat, D.plain, D.plainL]))) | (apply qm_move; refine m_move ?_) | (apply qm_load; refine m_load ?_) | (apply qm_faddr; refine m_faddr ?_) | (apply at_am (.buildSlice _ _ _); first | refine am_lit1 (by first | exact want_none | exact want_yes rfl rfl (by assumption) | exact want_yes rfl rfl (by with_reducible rfl)) rfl (by first | exact ToD.d _ | exact ToD.row _ _ _ _ _ rfl) (by first | (simp only [normV, normList, normMap]; rfl) | rfl) rfl (le_ok rfl) (lt_ok rfl) ?_ | refine am_lit (by first | exact want_none | exact want_yes rfl rfl (by assumption) | exact want_yes rfl rfl (by with_reducible rfl)) rfl (by repeat (first | exact PartsD.nil | (apply PartsD.cons; first | exact ToD.d _ | exact ToD.row _ _ _ _ _ rfl))) (by simp [dfill, putD, cellsD, zerosD, Value.cells]; rfl) (by first | (simp only [normV, normList, normMap]; rfl) | rfl) (by decide) (by decide) (lt_ok rfl) ?_) | (refine am_split rfl rfl (fun hb => ?_) (fun hb => ?_) <;> ((try have hq := dX hb); (try (exfalso; omega)))))
  repeat' (first | refine nx ?_ | (apply aq_block_y; decide) | (apply qr_move; refine r_move ?_) | (apply at_cond; first | refine c_t ?_ | refine c_f ?_ | (refine aw_cond rfl (fun hb => ?_) (fun hb => ?_) <;> ((try have hq := dX hb); (try (exfalso; omega))))) | (apply qr_add; refine r_add ?_) | (apply qr_load; refine r_load ?_) | (apply qr_faddr; refine r_faddr ?_) | (apply qr_lits; refine r_lits ?_))
  refine aq_rd (⟨i + 1, k + 1, rfl, by omega, rfl, rfl⟩) (by omega)
 ·obtain rfl : i = x.lets.length := by omega
  have hne : catL x.lines ≠ [] := by
   unfold By.lines
   exact catL_ne _ _
  have hst : ∀ k, ObC 58 [.box 1000 0] (bld (.box 1000 0) k (byteD (catL x.lines))) [] (fun y o => y = .d (.str x.text) ∧ o = []) := fun k => string_any k (catL x.lines) hne
  unfold By.lines at hF hst
  have l1 := line_any true k (x.head x.lets.length) [w_admit, x.admit.text 0] (by show 2 ≤ 100; omega) hF.left.left.left.left.left.left
  have l2 := line_any true (k + 1) _ [w_fare, x.fare.text 0] (by show 2 ≤ 100; omega) hF.left.left.left.left.left
  have l3 := line_any true (k + 1 + 1) _ [w_late, x.late.text 0] (by show 2 ≤ 100; omega) hF.left.left.left.left
  have l4 := line_any true (k + 1 + 1 + 1) _ [w_noshow, x.noshow.text 0] (by show 2 ≤ 100; omega) hF.left.left.left
  have l5 := line_any true (k + 1 + 1 + 1 + 1) _ [w_quota, itoaB x.quota] (by show 2 ≤ 100; omega) hF.left.left
  have l6 := line_any true (k + 1 + 1 + 1 + 1 + 1) _ [w_share, itoaB x.share] (by show 2 ≤ 100; omega) hF.left
  have l7 := line_any true (k + 1 + 1 + 1 + 1 + 1 + 1) _ [w_change, itoaB x.change] (by show 2 ≤ 100; omega) hF
  have hst7 := hst (k + 1 + 1 + 1 + 1 + 1 + 1 + 1)
  obtain ⟨t, n, hfe⟩ := fitsD_form x.text
  rw [hfe] at hfit ⊢
  clear hF hne hst
  repeat' (first | (apply at_call; refine k_call (s1) hE ?_; rintro _ rfl; clear s1) | (apply at_call; refine k_call (s2) hE ?_; rintro _ rfl; clear s2) | (apply at_call; refine k_call (s3) hE ?_; rintro _ rfl; clear s3) | (apply at_call; refine k_call (s4) hE ?_; rintro _ rfl) | (apply at_call; refine k_call (i1) hE ?_; rintro _ rfl; clear i1) | (apply at_call; refine k_call (i2) hE ?_; rintro _ rfl; clear i2) | (apply at_call; refine k_call (i3) hE ?_; rintro _ rfl) | (apply at_call; refine k_call (hfit) hE ?_; rintro _ rfl) | (apply at_call; refine k_clocall1 [(1000, 4), (1001, 60)] (l1) hE ?_; rintro _ _ ⟨rfl, rfl⟩; clear l1 <;> (intro _ _ h1 h2; simp only [renEqs, Nat.reduceBEq, renL_app, renL_ds, renL_und] at h1 h2; subst h1 h2)) | (apply at_call; refine k_clocall1 [(1000, 4), (1001, 60)] (l2) hE ?_; rintro _ _ ⟨rfl, rfl⟩; clear l2 <;> (intro _ _ h1 h2; simp only [renEqs, Nat.reduceBEq, renL_app, renL_ds, renL_und] at h1 h2; subst h1 h2)) | (apply at_call; refine k_clocall1 [(1000, 4), (1001, 60)] (l3) hE ?_; rintro _ _ ⟨rfl, rfl⟩; clear l3 <;> (intro _ _ h1 h2; simp only [renEqs, Nat.reduceBEq, renL_app, renL_ds, renL_und] at h1 h2; subst h1 h2)) | (apply at_call; refine k_clocall1 [(1000, 4), (1001, 60)] (l4) hE ?_; rintro _ _ ⟨rfl, rfl⟩; clear l4 <;> (intro _ _ h1 h2; simp only [renEqs, Nat.reduceBEq, renL_app, renL_ds, renL_und] at h1 h2; subst h1 h2)) | (apply at_call; refine k_clocall1 [(1000, 4), (1001, 60)] (l5) hE ?_; rintro _ _ ⟨rfl, rfl⟩; clear l5 <;> (intro _ _ h1 h2; simp only [renEqs, Nat.reduceBEq, renL_app, renL_ds, renL_und] at h1 h2; subst h1 h2)) | (apply at_call; refine k_clocall1 [(1000, 4), (1001, 60)] (l6) hE ?_; rintro _ _ ⟨rfl, rfl⟩; clear l6 <;> (intro _ _ h1 h2; simp only [renEqs, Nat.reduceBEq, renL_app, renL_ds, renL_und] at h1 h2; subst h1 h2)) | (apply at_call; refine k_clocall1 [(1000, 4), (1001, 60)] (l7) hE ?_; rintro _ _ ⟨rfl, rfl⟩ <;> (intro _ _ h1 h2; simp only [renEqs, Nat.reduceBEq, renL_app, renL_ds, renL_und] at h1 h2; subst h1 h2)) | (apply at_call; refine k_ocall [(1000, 4), (1001, 60)] (hst7) hE ?_; rintro _ _ ⟨rfl, rfl⟩ <;> (intro _ _ h1 h2; simp only [renEqs, Nat.reduceBEq, renL_app, renL_ds, renL_und] at h1 h2; subst h1 h2)) | refine nx ?_ | (apply aq_block_y; decide) | (apply qr_move; refine r_move ?_) | (apply qr_assign; refine r_assign ?_) | (apply at_cond; first | refine c_t ?_ | refine c_f ?_ | (refine aw_cond rfl (fun hb => ?_) (fun hb => ?_) <;> ((try have hq := dX hb); (try (exfalso; omega))))) | (apply qr_lss; refine r_lss ?_) | (apply qr_extract; refine r_extract ?_) | (apply qr_load; refine r_load ?_) | (apply qr_faddr; refine r_faddr ?_) | (apply qr_lits; refine r_lits ?_))
  refine ret_two (by rfl) (by first | exact ToD.d _ | exact ToD.row _ _ _ _ _ rfl) (by first | exact ToD.d _ | exact ToD.row _ _ _ _ _ rfl) ?_
  rfl
end Go.Proofs.YtedoeogopmenpaaGreatDoor
end
section
set_option linter.unusedSimpArgs false
set_option linter.unusedVariables false
namespace Go.Proofs.YtedoeogopmenpaaGreatDoor
open Go.RowKit
def catB (ls : List (List ByteArray)) : ByteArray := ⟨(catL ls).toArray⟩
def By.tail (x : By) : ByteArray := ⟨#[113, 117, 111, 116, 97, 32]⟩ ++ itoaB x.quota ++ ⟨#[32, 59, 10, 115, 104, 97, 114, 101, 32]⟩ ++ itoaB x.share ++ ⟨#[32, 59, 10, 99, 104, 97, 110, 103, 101, 32]⟩ ++ itoaB x.change ++ ⟨#[32, 59, 10]⟩
end Go.Proofs.YtedoeogopmenpaaGreatDoor
end
section
set_option linter.unusedSimpArgs false
set_option linter.unusedVariables false
namespace Go.Proofs.YtedoeogopmenpaaGreatDoor
open Go.RowKit
end Go.Proofs.YtedoeogopmenpaaGreatDoor
end
section
set_option linter.unusedSimpArgs false
set_option linter.unusedVariables false
namespace Go.Proofs.YtedoeogopmenpaaGreatDoor
open Go.RowKit
abbrev NodesC (deep : Nat) : Prop := ∀ (e : Ex) (most : Int), 0 ≤ most → most ≤ 60 → e.str.size ≤ 9223372036854775807 → PureC 74 [.agg (exC e), .int most, .int deep] (fun r => ∃ n : Int, r = .int n ∧ 1 ≤ n ∧ n ≤ most + 1 ∧ (n ≤ most → e.tame))
mutual
def Ex.came : Ex → Prop
 | .mk _ _ _ s a => s.size ≤ 9223372036854775807 ∧ a.length ≤ 9223372036854775807 ∧ Ex.cameL a
def Ex.cameL : List Ex → Prop
 | [] => True
 | x :: r => x.came ∧ Ex.cameL r
end
theorem cameL_get {a : List Ex} (h : Ex.cameL a) {i : Nat} (hi : i < a.length) : a[i].came := by
 induction a generalizing i with
 | nil => simp at hi
 | cons x r ih =>
  cases i with
  | zero => exact h.1
  | succ i => exact ih h.2 (by simpa using hi)
theorem came_get {e : Ex} (h : e.came) {i : Nat} (hi : i < e.args.length) : e.args[i].came := by
 cases e
 exact cameL_get h.2.2 hi
theorem tameL_of {a : List Ex} (h : ∀ (i : Nat) (hi : i < a.length), a[i].tame) : Ex.tameL a := by
 induction a with
 | nil => trivial
 | cons x r ih => exact ⟨h 0 (by simp), ih fun i hi => h (i + 1) (by simpa using hi)⟩
theorem tame_of {e : Ex} (h1 : e.str.size ≤ 100000) (h2 : e.args.length ≤ 100000) (h3 : ∀ (i : Nat) (hi : i < e.args.length), e.args[i].tame) : e.tame := by
 cases e
 exact ⟨h1, h2, tameL_of h3⟩
theorem nodes_any : ∀ (deep : Nat), deep ≤ 1000 → ∀ (e : Ex) (most : Int), 0 ≤ most → most ≤ 60 → e.came → PureC 74 [.agg (exC e), .int most, .int deep] (fun r => ∃ n : Int, r = .int n ∧ 1 ≤ n ∧ n ≤ most + 1 ∧ (n ≤ most → e.tame))
 | 0, _, e, most, h0, h1, hcm => by
  have q0 : decide (((0 : Nat) : Int) < 1) = true := rfl
  refine pure_enter Tryz.func74 rfl (by decide) _ Tryz.ntmps74 (le_ok rfl) (fun w Pr hE => ?_)
  dsimp only [slotsOf, Nat.zero_add, Nat.reduceAdd]
  repeat' (first | refine nx ?_ | (apply aq_block_y; decide) | (apply qr_move; refine r_move ?_) | (apply qr_assign; refine r_assign ?_) | (apply at_cond; first | refine c_t ?_ | refine c_f ?_ | (refine aw_cond rfl (fun hb => ?_) (fun hb => ?_) <;> ((try have hq := dX hb); (try (exfalso; omega))))) | (apply at_guard; first | refine g_go ?_ | refine g_nt ?_ | refine g_nf ?_ | refine g_nu ?_ | ((first | refine al_split_t rfl rfl (lt_ok rfl) (fun hb => ?_) (fun hb => ?_) | refine al_split_f rfl rfl (lt_ok rfl) (fun hb => ?_) (fun hb => ?_)) <;> ((try have hq := dX hb); (try (exfalso; omega))))) | (apply qr_pick; refine r_pick ?_) | (apply qr_lss; refine r_lss ?_) | (apply qr_gtr; refine r_gtr ?_) | (apply qr_add; refine r_add ?_) | (apply qr_len; refine r_len ?_) | (apply qr_load; refine r_load ?_) | (apply qr_faddr; refine r_faddr ?_) | (apply qr_boxed; refine r_boxed ?_))
  refine rt1 ?_
  exact ⟨most + 1, rfl, by omega, by omega, fun h => by omega⟩
 | deep + 1, hd, e, most, h0, h1, hcm => by
  have ih := nodes_any deep (by omega)
  have q0 : decide (((deep + 1 : Nat) : Int) < 1) = false := decide_eq_false (by omega)
  have hw : ((deep + 1 : Nat) : Int) - 1 = deep := by omega
  have hlen := rows_len e.args
  by_cases hs : 40 < e.str.size
  ·have q1 : decide ((40 : Int) < e.str.size) = true := decide_eq_true (by omega)
   refine pure_enter Tryz.func74 rfl (by decide) _ Tryz.ntmps74 (le_ok rfl) (fun w Pr hE => ?_)
   dsimp only [slotsOf, Nat.zero_add, Nat.reduceAdd]
   repeat' (first | refine nx ?_ | (apply aq_block_y; decide) | (apply qr_move; refine r_move ?_) | (apply qr_assign; refine r_assign ?_) | (apply at_cond; first | refine c_t ?_ | refine c_f ?_ | (refine aw_cond rfl (fun hb => ?_) (fun hb => ?_) <;> ((try have hq := dX hb); (try (exfalso; omega))))) | (apply at_guard; first | refine g_go ?_ | refine g_nt ?_ | refine g_nf ?_ | refine g_nu ?_ | ((first | refine al_split_t rfl rfl (lt_ok rfl) (fun hb => ?_) (fun hb => ?_) | refine al_split_f rfl rfl (lt_ok rfl) (fun hb => ?_) (fun hb => ?_)) <;> ((try have hq := dX hb); (try (exfalso; omega))))) | (apply qr_pick; refine r_pick ?_) | (apply qr_lss; refine r_lss ?_) | (apply qr_gtr; refine r_gtr ?_) | (apply qr_add; refine r_add ?_) | (apply qr_len; refine r_len ?_) | (apply qr_load; refine r_load ?_) | (apply qr_faddr; refine r_faddr ?_) | (apply qr_boxed; refine r_boxed ?_))
   refine rt1 ?_
   exact ⟨most + 1, rfl, by omega, by omega, fun h => by omega⟩
  have q1 : decide ((40 : Int) < e.str.size) = false := decide_eq_false (by omega)
  refine pure_enter Tryz.func74 rfl (by decide) _ Tryz.ntmps74 (le_ok rfl) (fun w Pr hE => ?_)
  dsimp only [slotsOf, Nat.zero_add, Nat.reduceAdd]
  repeat' (first | refine nx ?_ | (apply aq_block_y; decide) | (apply qr_move; refine r_move ?_) | (apply qr_assign; refine r_assign ?_) | (apply at_cond; first | refine c_t ?_ | refine c_f ?_ | (refine aw_cond rfl (fun hb => ?_) (fun hb => ?_) <;> ((try have hq := dX hb); (try (exfalso; omega))))) | (apply at_guard; first | refine g_go ?_ | refine g_nt ?_ | refine g_nf ?_ | refine g_nu ?_ | ((first | refine al_split_t rfl rfl (lt_ok rfl) (fun hb => ?_) (fun hb => ?_) | refine al_split_f rfl rfl (lt_ok rfl) (fun hb => ?_) (fun hb => ?_)) <;> ((try have hq := dX hb); (try (exfalso; omega))))) | (apply qr_pick; refine r_pick ?_) | (apply qr_lss; refine r_lss ?_) | (apply qr_gtr; refine r_gtr ?_) | (apply qr_len; refine r_len ?_) | (apply qr_load; refine r_load ?_) | (apply qr_faddr; refine r_faddr ?_) | (apply qr_boxed; refine r_boxed ?_))
  clear q0 q1
  refine aw_lp (fun N sl ob => ∃ (i : Nat) (n : Int), N = 100 - i ∧ i ≤ e.args.length ∧ (i : Int) + 1 ≤ n ∧ n ≤ most + 1 ∧ (n ≤ most → ∀ (j : Nat) (hj : j < e.args.length), j < i → e.args[j].tame) ∧ sl = [(8, .d (.int i)), (7, .d (.int n)), (3, .box 3 0), (2, .d (.int ((deep + 1 : Nat) : Int))), (1, .d (.int most))] ∧ ob = [(3, exO' e)]) (⟨0, 1, rfl, Nat.zero_le _, by omega, by omega, fun _ j _ h => by omega, rfl, rfl⟩) ?_
  rintro N sl ob ⟨i, n, rfl, hi, hn1, hn2, ha, rfl, rfl⟩
  by_cases hlt : i < e.args.length
  ·have q : decide ((i : Int) < (Ex.rows e.args).length) = true := decide_eq_true (by omega)
   by_cases hnm : n ≤ most
   ·have q2 : decide (n ≤ most) = true := decide_eq_true hnm
    have hg := rows_get hlt
    have hc := ih e.args[i] (most - n) (by omega) (by omega) (came_get hcm hlt)
    have hx : ∀ m : Int, (m ≤ most - n → e.args[i].tame) → (n + m ≤ most → ∀ (j : Nat) (hj : j < e.args.length), j < i + 1 → e.args[j].tame) := fun m hm h j hj hji => by
     rcases Nat.lt_succ_iff_lt_or_eq.1 hji with h2 | rfl
     ·exact ha hnm j hj h2
     ·exact hm (by omega)
    rw [← hw] at hc
    generalize e.args[i] = x at hg hc hx
    repeat' (first | (apply at_op (.indexAddr _ _ _); refine al_ixq hg ?_) | (apply at_call; refine k_call (hc) hE ?_; rintro _ ⟨m, rfl, hm1, hm2, hm3⟩) | refine nx ?_ | (apply aq_block_y; decide) | (apply qr_move; refine r_move ?_) | (apply qr_assign; refine r_assign ?_) | (apply at_cond; first | refine c_t ?_ | refine c_f ?_ | (refine aw_cond rfl (fun hb => ?_) (fun hb => ?_) <;> ((try have hq := dX hb); (try (exfalso; omega))))) | (apply at_guard; first | refine g_go ?_ | refine g_nt ?_ | refine g_nf ?_ | refine g_nu ?_ | ((first | refine al_split_t rfl rfl (lt_ok rfl) (fun hb => ?_) (fun hb => ?_) | refine al_split_f rfl rfl (lt_ok rfl) (fun hb => ?_) (fun hb => ?_)) <;> ((try have hq := dX hb); (try (exfalso; omega))))) | (apply qr_pick; refine r_pick ?_) | (apply qr_lss; refine r_lss ?_) | (apply qr_leq; refine r_leq ?_) | (apply qr_add; refine r_add ?_) | (apply qr_sub; refine r_sub ?_) | (apply qr_len; refine r_len ?_) | (apply qr_ix; refine r_ix ?_) | (apply qr_load; refine r_load ?_) | (apply qr_faddr; refine r_faddr ?_))
    repeat' (first | refine nx ?_ | (apply aq_block_y; decide) | (apply qr_move; refine r_move ?_) | (apply qr_assign; refine r_assign ?_) | (apply at_cond; first | refine c_t ?_ | refine c_f ?_ | (refine aw_cond rfl (fun hb => ?_) (fun hb => ?_) <;> ((try have hq := dX hb); (try (exfalso; omega))))) | (apply qr_add; refine r_add ?_))
    refine aq_rd (⟨i + 1, n + m, rfl, by omega, by omega, by omega, hx m hm3, rfl, rfl⟩) (by omega)
   ·have q2 : decide (n ≤ most) = false := decide_eq_false hnm
    repeat' (first | refine nx ?_ | (apply aq_block_y; decide) | (apply qr_move; refine r_move ?_) | (apply qr_assign; refine r_assign ?_) | (apply at_cond; first | refine c_t ?_ | refine c_f ?_ | (refine aw_cond rfl (fun hb => ?_) (fun hb => ?_) <;> ((try have hq := dX hb); (try (exfalso; omega))))) | (apply at_guard; first | refine g_go ?_ | refine g_nt ?_ | refine g_nf ?_ | refine g_nu ?_ | ((first | refine al_split_t rfl rfl (lt_ok rfl) (fun hb => ?_) (fun hb => ?_) | refine al_split_f rfl rfl (lt_ok rfl) (fun hb => ?_) (fun hb => ?_)) <;> ((try have hq := dX hb); (try (exfalso; omega))))) | (apply qr_pick; refine r_pick ?_) | (apply qr_lss; refine r_lss ?_) | (apply qr_leq; refine r_leq ?_) | (apply qr_len; refine r_len ?_) | (apply qr_load; refine r_load ?_) | (apply qr_faddr; refine r_faddr ?_))
    refine rt1 ?_
    exact ⟨n, rfl, by omega, by omega, fun h => absurd h hnm⟩
  ·have q : decide ((i : Int) < (Ex.rows e.args).length) = false := decide_eq_false (by omega)
   repeat' (first | refine nx ?_ | (apply aq_block_y; decide) | (apply qr_move; refine r_move ?_) | (apply qr_assign; refine r_assign ?_) | (apply at_cond; first | refine c_t ?_ | refine c_f ?_ | (refine aw_cond rfl (fun hb => ?_) (fun hb => ?_) <;> ((try have hq := dX hb); (try (exfalso; omega))))) | (apply at_guard; first | refine g_go ?_ | refine g_nt ?_ | refine g_nf ?_ | refine g_nu ?_ | ((first | refine al_split_t rfl rfl (lt_ok rfl) (fun hb => ?_) (fun hb => ?_) | refine al_split_f rfl rfl (lt_ok rfl) (fun hb => ?_) (fun hb => ?_)) <;> ((try have hq := dX hb); (try (exfalso; omega))))) | (apply qr_pick; refine r_pick ?_) | (apply qr_lss; refine r_lss ?_) | (apply qr_leq; refine r_leq ?_) | (apply qr_len; refine r_len ?_) | (apply qr_load; refine r_load ?_) | (apply qr_faddr; refine r_faddr ?_))
   refine rt1 ?_
   exact ⟨n, rfl, by omega, by omega, fun h => tame_of (by omega) (by omega) (fun j hj => ha h j hj (by omega))⟩
theorem fewE_any (e : Ex) (hcm : e.came) : PureC 30 [.agg (exC e)] (fun r => ∃ b : Bool, r = .bool b ∧ (b = true → e.tame)) := by
 have hc := nodes_any 16 (by omega) e 60 (by omega) (by omega) hcm
 refine pure_enter Tryz.func30 rfl (by decide) _ Tryz.ntmps30 (le_ok rfl) (fun w Pr hE => ?_)
 dsimp only [slotsOf, Nat.zero_add, Nat.reduceAdd]
 repeat' (first | (apply at_call; refine k_call (hc) hE ?_; rintro _ ⟨m, rfl, hm1, hm2, hm3⟩) | refine nx ?_ | (apply qr_assign; refine r_assign ?_) | (apply qr_leq; refine r_leq ?_) | (apply qr_load; refine r_load ?_) | (apply qr_boxed; refine r_boxed ?_))
 refine rt1 ?_
 exact ⟨_, rfl, fun h => hm3 (of_decide_eq_true h)⟩
end Go.Proofs.YtedoeogopmenpaaGreatDoor
end
section
set_option linter.unusedSimpArgs false
set_option linter.unusedVariables false
namespace Go.Proofs.YtedoeogopmenpaaGreatDoor
open Go.RowKit
structure By.came (x : By) : Prop where
 name : x.name.size ≤ 9223372036854775807
 len : x.lets.length ≤ 9223372036854775807
 lets : ∀ q ∈ x.lets, q.1.size ≤ 9223372036854775807 ∧ q.2.came
 admit : x.admit.came
 fare : x.fare.came
 late : x.late.came
 noshow : x.noshow.came
abbrev FewR (x : By) : D → Prop := fun r => ∃ b : Bool, r = .bool b ∧ (b = true → x.tame ∧ x.lets.length ≤ 22)
end Go.Proofs.YtedoeogopmenpaaGreatDoor
end
section
namespace Go.Proofs.YtedoeogopmenpaaGreatDoor
open Go.ChangeShapes Go.WideShapes Go.ChangeAt Go.RowKit Go.Deep Go.Joins
section
variable {H : Type} {enc : TypeId × Value → H} {P : Program} {w : World} {base : Nat}
def ShowB (N : Nat) (enc : TypeId × Value → H) (P : Program) (w : World) (base : Nat) (t : TypeId) (c : Nat) {α : Type} (f : α → List D) (Q : α → Prop) : Prop :=
 ∀ (fuel : Nat) (cs : List Value) (x : DataW H × List MemPlace), SizeOf.sizeOf x.1 ≤ N → DataW.trod enc P w base (fun _ => true) true fuel t cs = some x →
  cs.length = c ∧ ∃ a, Q a ∧ (f a).length = c ∧ ∀ (j : Nat) (v : Value) (d : D), cs[j]? = some v → (f a)[j]? = some d → RepD w (fun b _ => b < w.heap.size) v d
theorem Show.b {α : Type} {t : TypeId} {c : Nat} {f : α → List D} {Q : α → Prop} (h : Show enc P w base t c f Q) (N : Nat) : ShowB N enc P w base t c f Q := fun fuel cs x _ hx => h fuel cs x hx
theorem ShowB.all {α : Type} {t : TypeId} {c : Nat} {f : α → List D} {Q : α → Prop} (h : ∀ N, ShowB N enc P w base t c f Q) : Show enc P w base t c f Q := fun fuel cs x hx => h _ fuel cs x (Nat.le_refl _) hx
theorem ShowB.as {N : Nat} {α β : Type} {t : TypeId} {c : Nat} {f : α → List D} {Q : α → Prop} (h : ShowB N enc P w base t c f Q) (g : β → List D) (R : β → Prop) (m : α → β) (hg : ∀ a, g (m a) = f a) (hR : ∀ a, Q a → R (m a)) : ShowB N enc P w base t c g R := by
 intro fuel cs x hN hx
 obtain ⟨h1, a, h2, h3, h4⟩ := h fuel cs x hN hx
 exact ⟨h1, m a, hR a h2, by rw [hg]; exact h3, by rw [hg]; exact h4⟩
theorem slice_size {N : Nat} {l m : List (DataW H)} {x : DataW H} {q : List MemPlace} (h : SizeOf.sizeOf (DataW.slice l m, q).1 ≤ N) (hx : x ∈ l) : SizeOf.sizeOf x ≤ N := by
 have h1 := List.sizeOf_lt_of_mem hx
 have h2 : SizeOf.sizeOf (DataW.slice l m) = 1 + SizeOf.sizeOf l + SizeOf.sizeOf m := by simp
 have h3 : SizeOf.sizeOf (DataW.slice l m) ≤ N := h
 omega
theorem agg_size {N : Nat} {l : List (DataW H)} {x : DataW H} {q : List MemPlace} (h : SizeOf.sizeOf (DataW.agg l, q).1 ≤ N + 1) (hx : x ∈ l) : SizeOf.sizeOf x ≤ N := by
 have h1 := List.sizeOf_lt_of_mem hx
 have h2 : SizeOf.sizeOf (DataW.agg l) = 1 + SizeOf.sizeOf l := by simp
 have h3 : SizeOf.sizeOf (DataW.agg l) ≤ N + 1 := h
 omega
theorem data_pos (x : DataW H) : 1 ≤ SizeOf.sizeOf x := by
 cases x <;> simp <;> omega
theorem showB_one {N : Nat} {α : Type} {t : TypeId} {g : α → D} {Q : α → Prop} (h : ∀ (fuel : Nat) (cs : List Value) (x : DataW H × List MemPlace), SizeOf.sizeOf x.1 ≤ N → DataW.trod enc P w base (fun _ => true) true fuel t cs = some x → ∃ v a, cs = [v] ∧ Q a ∧ RepD w (fun b _ => b < w.heap.size) v (g a)) :
  ShowB N enc P w base t 1 (fun a => [g a]) Q := by
 intro fuel cs x hN hx
 obtain ⟨v, a, rfl, ha, hr⟩ := h fuel cs x hN hx
 refine ⟨rfl, a, ha, rfl, fun j u d h1 h2 => ?_⟩
 cases j with
 | zero => cases h1; cases h2; exact hr
 | succ j => cases h1
theorem showB_list {α : Type} {t e : TypeId} {es : Nat} {f : α → List D} {Q : α → Prop} (ht : P.underlying t = some (.slice e)) (hc : P.cellsOf e = es) (hpos : 0 < es) {N : Nat} (he : ShowB N enc P w base e es f Q) :
  ShowB N enc P w base t 1 (fun l : List α => [.list es (l.map f)]) (fun l => l.length ≤ maxLen ∧ ∀ x ∈ l, Q x) :=
 showB_one (g := fun l : List α => .list es (l.map f)) fun fuel cs x hN hx => by
  rcases open_slice ht hx with ⟨rfl, _⟩ | ⟨a, len, cap, m, k, Dt, Pl, rfl, hb, hl, hm, hmm, hxx, hf⟩
  ·exact ⟨_, [], rfl, ⟨Nat.zero_le _, by simp⟩, .nil _ _ _ (Nat.zero_le _)⟩
  ·refine ⟨.slice (some a) len cap, ?_⟩
   simp only [if_true] at hmm
   subst hmm
   rw [hc] at hf
   rcases Nat.eq_zero_or_pos len with h0 | h0
   ·subst h0
    exact ⟨[], rfl, ⟨Nat.zero_le _, by simp⟩, .nil _ _ _ hm⟩
   have h1 : ∀ i, i < len → ∃ y : α × List Value, Q y.1 ∧ w.cells? base (a.add (i * es)) es = some y.2 ∧ y.2.length = es ∧ (f y.1).length = es ∧ ∀ (j : Nat) (v : Value) (d : D), y.2[j]? = some v → (f y.1)[j]? = some d → RepD w (fun b _ => b < w.heap.size) v d := by
    intro i hi
    obtain ⟨cs, hcell, htr⟩ := hf i (by omega)
    obtain ⟨h2, y, h3, h4, h5⟩ := he _ _ _ (by rw [hxx] at hN; exact slice_size hN (List.mem_map.2 ⟨i, List.mem_range.2 hi, rfl⟩)) htr
    exact ⟨(y, cs), h3, hcell, h2, h4, h5⟩
   haveI : Inhabited (α × List Value) := ⟨Classical.choose (h1 0 h0)⟩
   obtain ⟨g, hg⟩ := choose_lt h1
   obtain ⟨b, o, spot⟩ := a
   have hspot : spot = none := by
    obtain ⟨_, h2, h3, _, _⟩ := hg 0 h0
    have h4 := (World.cells?_some h2).2.2 0 hpos
    rw [List.getElem?_eq_getElem (by omega)] at h4
    simpa [Addr.add] using World.cell?_spot h4
   subst hspot
   have hblk : b < w.heap.size := by
    obtain ⟨_, h2, _⟩ := hg 0 h0
    have := World.cells?_block h2 hpos
    simpa [Addr.add] using this
   refine ⟨(List.range len).map fun i => (g i).1, rfl, ⟨?_, fun x hx => ?_⟩, ?_⟩
   ·simp only [List.length_map, List.length_range]
    omega
   ·obtain ⟨j, hj, rfl⟩ := List.mem_map.1 hx
    exact (hg j (List.mem_range.1 hj)).1
   have hval : ∀ (i j : Nat) (e : List D) (d : D), (((List.range len).map fun i => (g i).1).map f)[i]? = some e → e[j]? = some d → i < len ∧ j < es ∧ e = f (g i).1 ∧ ∃ v, (g i).2[j]? = some v := by
    intro i j e d h2 h3
    rw [List.getElem?_map, List.getElem?_map, Option.map_eq_some_iff] at h2
    obtain ⟨x, h4, rfl⟩ := h2
    rw [Option.map_eq_some_iff] at h4
    obtain ⟨k, h5, rfl⟩ := h4
    have hi : i < len := by have := (List.getElem?_eq_some_iff.1 h5).1; simpa using this
    have hk : k = i := by simpa [hi] using h5.symm
    subst hk
    obtain ⟨_, _, h6, h7, _⟩ := hg k hi
    have hj : j < es := by have := (List.getElem?_eq_some_iff.1 h3).1; omega
    exact ⟨hi, hj, rfl, _, List.getElem?_eq_getElem (by omega)⟩
   refine .list b o len m es _ (fun i j => ((g i).2[j]?).getD undef) (by simp) (fun e he => ?_) hl hm (fun i j e d h2 h3 => ?_) (fun i j e d h2 h3 => ?_)
   ·obtain ⟨x, hx, rfl⟩ := List.mem_map.1 he
    obtain ⟨j, hj, rfl⟩ := List.mem_map.1 hx
    exact (hg j (List.mem_range.1 hj)).2.2.2.1
   ·obtain ⟨hi, hj, rfl, v, hv⟩ := hval i j e d h2 h3
    refine ⟨?_, hblk⟩
    obtain ⟨_, h4, _⟩ := hg i hi
    have h5 := (World.cells?_some h4).2.2 j hj
    rw [hv, add_plain, add_plain] at h5
    rw [hv]
    exact h5
   ·obtain ⟨hi, hj, rfl, v, hv⟩ := hval i j e d h2 h3
    rw [hv]
    exact (hg i hi).2.2.2.2 j v d hv h3
def ShowFsB (N : Nat) (enc : TypeId × Value → H) (P : Program) (w : World) (base : Nat) (o : Nat) (fs : List Field) (c : Nat) {α : Type} (f : α → List D) (Q : α → Prop) : Prop :=
 ∀ (n : Nat) (cs : List Value), (∀ (i : Nat) (fl : Field), fs[i]? = some fl → ∃ y, SizeOf.sizeOf y.1 ≤ N ∧ DataW.trod enc P w base (fun _ => true) true n fl.type ((cs.drop fl.offset).take (P.cellsOf fl.type)) = some y) →
  ∃ a, Q a ∧ (f a).length = c ∧ ∀ (j : Nat) (v : Value) (d : D), cs[o + j]? = some v → (f a)[j]? = some d → RepD w (fun b _ => b < w.heap.size) v d
theorem showsB_nil {N o : Nat} : ShowFsB N enc P w base o [] 0 (fun _ : Unit => []) (fun _ => True) := fun _ _ _ => ⟨(), trivial, rfl, fun j v d _ h => by cases h⟩
theorem showsB_cons {N : Nat} {α β : Type} {fl : Field} {o c c' : Nat} {fs : List Field} {f : α → List D} {Q : α → Prop} {g : β → List D} {R : β → Prop} (h : ShowB N enc P w base fl.type c f Q) (ho : fl.offset = o) (hc : P.cellsOf fl.type = c)
  (hr : ShowFsB N enc P w base (o + c) fs c' g R) : ShowFsB N enc P w base o (fl :: fs) (c + c') (fun x : α × β => f x.1 ++ g x.2) (fun x => Q x.1 ∧ R x.2) := by
 intro n cs hcs
 obtain ⟨y, hN, hy⟩ := hcs 0 fl rfl
 obtain ⟨_, a, h1, h2, h3⟩ := h _ _ _ hN hy
 obtain ⟨b, h4, h5, h6⟩ := hr n cs fun i f hf => hcs (i + 1) f hf
 refine ⟨(a, b), ⟨h1, h4⟩, by simp [h2, h5], fun j v d hv hd => ?_⟩
 have hd : (f a ++ g b)[j]? = some d := hd
 by_cases hj : j < c
 ·rw [List.getElem?_append_left (by omega)] at hd
  refine h3 j v d ?_ hd
  rw [ho, hc, List.getElem?_take, if_pos hj, List.getElem?_drop]
  exact hv
 ·rw [List.getElem?_append_right (by omega), h2] at hd
  refine h6 (j - c) v d ?_ hd
  rw [show o + c + (j - c) = o + j by omega]
  exact hv
theorem showB_struct {N : Nat} {α : Type} {t : TypeId} {fs : Array Field} {c : Nat} {f : α → List D} {Q : α → Prop} (ht : P.underlying t = some (.struct fs)) (hc : P.cellsOf t = c) (h : ShowFsB N enc P w base 0 fs.toList c f Q) : ShowB (N + 1) enc P w base t c f Q := by
 intro fuel cs x hN hx
 obtain ⟨xs, n, _, hxx, hl, hlen, hf⟩ := DataW.trod_struct ht hx
 obtain ⟨a, h1, h2, h3⟩ := h n cs fun i fl hfl => by
  have hfl' : fs[i]? = some fl := by simpa using hfl
  have hi : i < fs.size := (Array.getElem?_eq_some_iff.1 hfl').1
  exact ⟨_, by rw [hxx] at hN; exact agg_size hN (List.mem_map.2 ⟨_, List.getElem_mem (by omega), rfl⟩), (hf i fl hfl').trans (List.getElem?_eq_getElem (by omega))⟩
 exact ⟨hl.trans hc, a, h1, h2, fun j v d hv hd => h3 j v d (by simpa using hv) hd⟩
end
end Go.Proofs.YtedoeogopmenpaaGreatDoor
end
section
namespace Go.Proofs.YtedoeogopmenpaaGreatDoor
open Go.RowKit
theorem num_range {s : ByteArray} (h : numOk s = true) : 0 ≤ numTo s s.size ∧ numTo s s.size ≤ 1000000000000000 := by
 simp only [numOk, Bool.and_eq_true, Bool.or_eq_true, decide_eq_true_eq] at h
 obtain ⟨⟨⟨h1, h2⟩, h3⟩, h4⟩ := h
 have := num_bd (s := s) (k := s.size) fun j hj => pre_lt (by omega)
 exact ⟨this.1, h4⟩
theorem tk_nums {t : Tok} (h : Tk t) (hk : t.k = 1) : 0 ≤ t.n ∧ t.n ≤ 1000000000000000 := by
 obtain ⟨h1, h2, h3⟩ := h
 obtain ⟨_, _, _, _, h4⟩ := tokenV_form h2 h1
 rcases h4 with ⟨k, _⟩ | ⟨_, _, _, _, k, hn⟩ | ⟨k, _⟩
 ·simp only at k; omega
 ·simp only at k hn
  rw [hn]
  exact num_range k
 ·simp only at k; omega
theorem lex_ready {s : ByteArray} {L : List Tok} {p : Int} (h : lexV s = (L, p, 0)) : s.size ≤ 4000 ∧ LexOk s 0 L ∧ p = 0 ∧ Ends L ∧ L.length ≤ 4001 ∧ Texts L ∧ NumsIn L := by
 by_cases hs : s.size ≤ 4000
 ·rcases lexV_case hs with ⟨m, h1, h2⟩ | ⟨a, e, h1, h2, h3⟩
  ·rw [h] at h2
   obtain ⟨rfl, rfl, _⟩ : L = m ∧ p = 0 ∧ (0 : Int) = 0 := by simpa using h2
   have hlen := lexV_len s
   rw [h] at hlen
   obtain ⟨q, rfl, h4, _⟩ := h1.all
   refine ⟨hs, h1, rfl, ⟨q, _, rfl, rfl, fun x hx => (h4 x hx).2.2⟩, by simp only at hlen; omega, fun t ht => ?_, fun t ht hk => ?_⟩
   ·have := lexOk_small h1 hs t ht
    omega
   ·rcases List.mem_append.1 ht with ht | ht
    ·exact tk_nums (h4 t ht) hk
    ·simp only [List.mem_singleton] at ht
     subst ht
     cases hk
  ·rw [h] at h3
   simp only [Prod.mk.injEq] at h3
   exact absurd h3.2.2.symm h2
 ·unfold lexV at h
  rw [if_pos (by omega)] at h
  cases h
theorem Ends.rdy {L : List Tok} (h : Ends L) (hl : L.length ≤ 4001) : Rdy L L := ⟨.refl _, h, by omega⟩
def parseV (s : ByteArray) : By × Int × Int := match lexV s with
 | (L, p, e) => if e = 0 then (match bylawsP L with
  | .ok x _ => (x, 0, 0)
  | .bad q c => (By.zero, q, c)) else (By.zero, p, e)
def allP (l : List Tok) : Rd Ex := (readE l).then fun e t => if (nxt t).k = 3 then (if e.levels ≤ 12 then .ok e t else .bad (nxt t).p 6) else .bad (nxt t).p 12
def parseEV (s : ByteArray) : Ex × Int × Int := match lexV s with
 | (L, p, e) => if e = 0 then (match allP L with
  | .ok x _ => (x, 0, 0)
  | .bad q c => (Ex.zero, q, c)) else (Ex.zero, p, e)
end Go.Proofs.YtedoeogopmenpaaGreatDoor
end
section
namespace Go.Proofs.YtedoeogopmenpaaGreatDoor
open Go.RowKit
def decF : Nat → Nat → List UInt8
 | 0, _ => []
 | k + 1, u => if u < 10 then [UInt8.ofNat (48 + u)] else decF k (u / 10) ++ [UInt8.ofNat (48 + u % 10)]
theorem decF_eq : ∀ (k u : Nat), u < 10 ^ k → 0 < k → Lib.decDigits u = decF k u
 | 0, _, _, h => by omega
 | k + 1, u, h, _ => by
  unfold decF
  by_cases hu : u < 10
  ·rw [if_pos hu, dec_one hu]
  ·rw [if_neg hu, dec_more hu]
   have h1 : u / 10 < 10 ^ k := by rw [Nat.pow_succ] at h; omega
   have hk : 0 < k := by
    rcases Nat.eq_zero_or_pos k with rfl | h
    ·simp at h1; omega
    ·exact h
   rw [decF_eq k (u / 10) h1 hk]
def itoaF (n : Int) : ByteArray := if 0 ≤ n ∧ n < 10000 then ⟨(decF 4 n.toNat).toArray⟩ else itoaB n
theorem itoaB_eq : itoaB = itoaF := by
 funext n
 unfold itoaF
 split
 ·rename_i h
  rw [itoaB_pos h.1, decF_eq 4 n.toNat (by omega) (by omega)]
 ·rfl
def e_one : Ex := .mk 12 0 0 ⟨#[]⟩ [(.mk 10 0 0 ⟨#[]⟩ [(.mk 2 0 0 ⟨#[114, 105, 100, 101]⟩ [] : Ex), (.mk 6 0 0 ⟨#[]⟩ [(.mk 0 2 0 ⟨#[]⟩ [] : Ex), (.mk 3 0 0 ⟨#[102, 97, 118, 111, 117, 114]⟩ [] : Ex)] : Ex)] : Ex)]
def e_sum : Ex := .mk 4 0 0 ⟨#[]⟩ [(.mk 2 0 0 ⟨#[114, 105, 100, 101]⟩ [] : Ex), (.mk 0 5 2 ⟨#[]⟩ [] : Ex)]
def e_mul : Ex := .mk 6 0 0 ⟨#[]⟩ [.mk 0 3 0 ⟨#[]⟩ [], e_sum]
def t_one : ByteArray := ⟨#[110, 111, 116, 40, 116, 114, 105, 112, 32, 114, 105, 100, 101, 60, 50, 42, 109, 101, 109, 98, 101, 114, 32, 102, 97, 118, 111, 117, 114, 41]⟩
def t_text : ByteArray := { data := (([98, 121, 108, 97, 119, 115, 32, 99, 105, 116, 121, 32, 59, 32, 108, 101, 116, 32, 98, 97, 115, 101, 32, 61, 32, 50, 48, 48, 32, 99, 101, 110, 116, 115, 32, 59, 32, 97, 100, 109, 105, 116, 32, 116, 114, 105, 112].append [32, 114, 105, 100, 101, 114, 115, 32, 60, 32, 53, 32, 97, 110, 100, 32, 109, 101, 109, 98, 101, 114, 32, 110, 111, 115, 104, 111, 119, 115, 32, 60, 32, 51, 32, 59, 32, 102, 97, 114, 101, 32, 98, 97, 115, 101, 32, 43]).append ([32, 49, 48, 32, 99, 101, 110, 116, 115, 32, 42, 32, 116, 114, 105, 112, 32, 100, 105, 114, 101, 99, 116, 32, 59, 32, 108, 97, 116, 101, 32, 49, 48, 48, 32, 99, 101, 110, 116, 115, 32, 59, 32, 110, 111, 115, 104].append [111, 119, 32, 51, 48, 48, 32, 99, 101, 110, 116, 115, 32, 59, 32, 113, 117, 111, 116, 97, 32, 52, 32, 59, 32, 115, 104, 97, 114, 101, 32, 53, 48, 32, 59, 32, 99, 104, 97, 110, 103, 101, 32, 54, 48, 48, 32, 59])).toArray }
def t_bad : ByteArray := { data := ([98, 121, 108, 97, 119, 115, 32, 97, 32, 59, 32, 97, 100, 109, 105, 116, 32, 116, 114, 117, 101, 32, 59, 32, 102, 97, 114, 101, 32, 49, 32, 59].append [32, 108, 97, 116, 101, 32, 49, 32, 59, 32, 110, 111, 115, 104, 111, 119, 32, 49, 32, 59, 32, 113, 117, 111, 116, 97, 32, 49, 48, 48, 49, 32, 59]).toArray }
def t_two : ByteArray := ⟨#[49, 32, 99, 101, 110, 116, 115, 32, 50]⟩
def x_one : By := ⟨⟨#[99, 105, 116, 121]⟩, [(⟨#[98, 97, 115, 101]⟩, .mk 0 200 1 ⟨#[]⟩ [])], .mk 13 0 0 ⟨#[]⟩ [(.mk 10 0 0 ⟨#[]⟩ [(.mk 2 0 0 ⟨#[114, 105, 100, 101, 114, 115]⟩ [] : Ex), (.mk 0 5 0 ⟨#[]⟩ [] : Ex)] : Ex), (.mk 10 0 0 ⟨#[]⟩ [(.mk 3 0 0 ⟨#[110, 111, 115, 104, 111, 119, 115]⟩ [] : Ex), (.mk 0 3 0 ⟨#[]⟩ [] : Ex)] : Ex)], .mk 4 0 0 ⟨#[]⟩ [(.mk 1 0 0 ⟨#[98, 97, 115, 101]⟩ [] : Ex), (.mk 6 0 0 ⟨#[]⟩ [(.mk 0 10 1 ⟨#[]⟩ [] : Ex), (.mk 2 0 0 ⟨#[100, 105, 114, 101, 99, 116]⟩ [] : Ex)] : Ex)], .mk 0 100 1 ⟨#[]⟩ [], .mk 0 300 1 ⟨#[]⟩ [], 4, 50, 600⟩
set_option maxRecDepth 100000 in
theorem parse_one : parseEV t_one = (e_one, 0, 0) := by kernel_rfl
set_option maxRecDepth 100000 in
theorem parse_text : parseV t_text = (x_one, 0, 0) := by kernel_rfl
set_option maxRecDepth 100000 in
theorem parse_bad : parseV t_bad = (By.zero, 59, 3) := by kernel_rfl
set_option maxRecDepth 100000 in
theorem parse_two : parseEV t_two = (Ex.zero, 8, 12) := by kernel_rfl
set_option maxRecDepth 100000 in
theorem print_one : e_one.text 0 = ⟨#[110, 111, 116, 32, 116, 114, 105, 112, 32, 114, 105, 100, 101, 32, 60, 32, 50, 32, 42, 32, 109, 101, 109, 98, 101, 114, 32, 102, 97, 118, 111, 117, 114]⟩ := by
 unfold Ex.text
 rw [itoaB_eq]
 kernel_rfl
set_option maxRecDepth 100000 in
theorem print_mul : e_mul.text 0 = ⟨#[51, 32, 42, 32, 40, 32, 116, 114, 105, 112, 32, 114, 105, 100, 101, 32, 43, 32, 53, 32, 109, 105, 110, 117, 116, 101, 115, 32, 41]⟩ := by
 unfold Ex.text
 rw [itoaB_eq]
 kernel_rfl
set_option maxRecDepth 100000 in
theorem print_text : x_one.text.size = t_text.size + 1 := by
 unfold By.text By.lines By.head letL Ex.text
 rw [itoaB_eq]
 kernel_rfl
theorem right_one : e_one.right 12 = true := by kernel_rfl
theorem right_sum : e_sum.right 12 = true := by kernel_rfl
theorem right_mul : e_mul.right 12 = true := by kernel_rfl
theorem right_x : x_one.right = true := by kernel_rfl
theorem right_z : By.zero.right = false := by kernel_rfl
theorem right_n : (Ex.mk 1 0 0 ⟨#[]⟩ []).right 12 = false := by kernel_rfl
theorem name_y : nameV ⟨#[112, 101, 114, 105, 111, 100]⟩ = true := by kernel_rfl
theorem name_n : nameV ⟨#[99, 101, 110, 116, 115]⟩ = false := by kernel_rfl
end Go.Proofs.YtedoeogopmenpaaGreatDoor
end
