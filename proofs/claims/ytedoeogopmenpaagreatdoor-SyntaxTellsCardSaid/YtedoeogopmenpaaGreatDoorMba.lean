/-
  Conditions: none.
-/
import Derived.Test.YtedoeogopmenpaaGreatDoorMay
set_option maxHeartbeats 16000000
set_option maxRecDepth 20000
section
set_option linter.unusedSimpArgs false
set_option linter.unusedVariables false
namespace Go.Proofs.YtedoeogopmenpaaGreatDoor
open Go.RowKit
abbrev letL (q : ByteArray × Ex) : List ByteArray := [w_let, q.1, w_is, q.2.text 0]
def By.head (x : By) (i : Nat) : List (List ByteArray) := [[w_bylaws, x.name]] ++ (x.lets.take i).map letL
def By.lines (x : By) : List (List ByteArray) := x.head x.lets.length ++ [[w_admit, x.admit.text 0]] ++ [[w_fare, x.fare.text 0]] ++ [[w_late, x.late.text 0]] ++ [[w_noshow, x.noshow.text 0]] ++ [[w_quota, itoaB x.quota]] ++ [[w_share, itoaB x.share]] ++ [[w_change, itoaB x.change]]
def By.text (x : By) : ByteArray := ⟨(catL x.lines).toArray⟩
structure By.Ok (x : By) : Prop where
 lets : ∀ q ∈ x.lets, q.2.right 12 = true
 admit : x.admit.right 12 = true
 fare : x.fare.right 12 = true
 late : x.late.right 12 = true
 noshow : x.noshow.right 12 = true
 quota : 0 ≤ x.quota ∧ x.quota ≤ 1000
 share : 0 ≤ x.share ∧ x.share ≤ 1000
 change : 1 ≤ x.change ∧ x.change ≤ 1000
 name : nameV x.name = true
 uniq : uniqV (x.lets.map (·.1)) 20 = true
theorem by_ok {x : By} (h : x.right = true) : x.Ok := by
 rw [right_ref] at h
 simp only [Bool.and_eq_true, withV_iff, List.all_eq_true] at h
 obtain ⟨h2, h7, h8, h9, h10, h3, h4, h5, h1, h6⟩ := h
 exact ⟨h1, h7, h8, h9, h10, h3, h4, h5, h2, h6⟩
theorem By.Ok.len {x : By} (h : x.Ok) : x.lets.length ≤ 20 := by
 have := h.uniq
 unfold uniqV at this
 rw [Bool.and_eq_true, decide_eq_true_eq, List.length_map] at this
 omega
theorem line_le2 {a b : ByteArray} (ha : a.size ≤ 10) (hb : b.size ≤ 3355443300000) : (lineV [a, b]).size ≤ 3355444000000 := by
 rw [line_size, jn_two, jn_one]
 simp only [ByteArray.size_append]
 have : blank1.size = 1 := rfl
 omega
theorem let_le {q : ByteArray × Ex} (h1 : q.1.size ≤ 100000) (h2 : (q.2.text 0).size ≤ 3355443200000) : (lineV (letL q)).size ≤ 3355444000000 := by
 rw [line_size, letL, jn_two, jn_two, jn_two, jn_one]
 simp only [ByteArray.size_append]
 have : blank1.size = 1 := rfl
 have : w_let.size = 3 := rfl
 have : w_is.size = 1 := rfl
 omega
theorem lines_fit {x : By} (h : x.Ok) (ht : x.tame) : Fit x.lines := by
 have hl := h.len
 refine ⟨?_, fun w hw => ?_⟩
 ·simp only [By.lines, By.head, List.length_append, List.length_cons, List.length_nil, List.length_map, List.length_take]
  omega
 ·have hn := ht.name
  have z1 := text_small (by omega) h.admit ht.admit 0
  have z2 := text_small (by omega) h.fare ht.fare 0
  have z3 := text_small (by omega) h.late ht.late 0
  have z4 := text_small (by omega) h.noshow ht.noshow 0
  have z5 := itoaB_size h.quota.1 (by have := h.quota.2; omega)
  have z6 := itoaB_size h.share.1 (by have := h.share.2; omega)
  have z7 := itoaB_size (n := x.change) (by have := h.change.1; omega) (by have := h.change.2; omega)
  simp only [By.lines, By.head, List.mem_append, List.mem_singleton, List.take_length] at hw
  rcases hw with ((((((((rfl | hw) | rfl) | rfl) | rfl) | rfl) | rfl) | rfl) | rfl)
  ·exact line_le2 (by decide) (by omega)
  ·obtain ⟨q, hq, rfl⟩ := List.mem_map.1 hw
   exact let_le (ht.lets q hq).1 (text_small (by omega) (h.lets q hq) (ht.lets q hq).2 0)
  ·exact line_le2 (by decide) (by omega)
  ·exact line_le2 (by decide) (by omega)
  ·exact line_le2 (by decide) (by omega)
  ·exact line_le2 (by decide) (by omega)
  ·exact line_le2 (by decide) (by omega)
  ·exact line_le2 (by decide) (by omega)
  ·exact line_le2 (by decide) (by omega)
theorem head_next {x : By} {i : Nat} (h : i < x.lets.length) : x.head i ++ [letL x.lets[i]] = x.head (i + 1) := by
 unfold By.head
 rw [List.take_succ_eq_append_getElem h, List.map_append, List.append_assoc]
 rfl
theorem head_fit {x : By} (h : Fit x.lines) {i : Nat} (hi : i ≤ x.lets.length) : Fit (x.head i) := by
 have h1 : Fit (x.head x.lets.length) := by
  unfold By.lines at h
  exact h.left.left.left.left.left.left.left
 have h2 : x.head x.lets.length = x.head i ++ ((x.lets.drop i).map letL) := by
  unfold By.head
  rw [List.append_assoc, ← List.map_append, List.take_append_drop, List.take_length]
 rw [h2] at h1
 exact h1.left
def printD (x : By) : D := if x.right = true then fitsD x.text else .tup [.str ⟨#[]⟩, .int 1]
theorem catL_ne (ls : List (List ByteArray)) (w : List ByteArray) : catL (ls ++ [w]) ≠ [] := by
 rw [catL_snoc]
 intro h
 have h1 := congrArg List.length h
 rw [List.length_append, lineV_len, line_size] at h1
 simp at h1
theorem print_any (x : By) (ht : x.tame) : PureC 18 [.agg (byC x)] (· = printD x) := by
 have hr := byRight_any x ht
 unfold printD
 cases hx : x.right
 ·rw [if_neg (by simp)]
  rw [hx] at hr
  refine pure_enter Tryz.func18 rfl (by decide) _ Tryz.ntmps18 (le_ok rfl) (fun w Pr hE => ?_)
  dsimp only [slotsOf, Nat.zero_add, Nat.reduceAdd]
  repeat' (first | (apply at_call; refine k_call (hr) hE ?_; rintro _ rfl) | refine nx ?_ | (apply aq_block_y; decide) | (apply qr_assign; refine r_assign ?_) | (apply at_cond; first | refine c_t ?_ | refine c_f ?_ | (refine aw_cond rfl (fun hb => ?_) (fun hb => ?_) <;> ((try have hq := dX hb); (try (exfalso; omega))))) | (apply qr_not; refine r_not ?_) | (apply qr_load; refine r_load ?_) | (apply qr_boxed; refine r_boxed ?_))
  refine ret_two (by rfl) (by first | exact ToD.d _ | exact ToD.row _ _ _ _ _ rfl) (by first | exact ToD.d _ | exact ToD.row _ _ _ _ _ rfl) ?_
  rfl
 rw [if_pos rfl]
 rw [hx] at hr
 have ho := by_ok hx
 have hF := lines_fit ho ht
 have hlen := ho.len
 have hml : (x.lets.map letC).length = x.lets.length := List.length_map ..
 have s1 := show_any 12 (by omega) x.admit 0 ho.admit ht.admit (by omega)
 have s2 := show_any 12 (by omega) x.fare 0 ho.fare ht.fare (by omega)
 have s3 := show_any 12 (by omega) x.late 0 ho.late ht.late (by omega)
 have s4 := show_any 12 (by omega) x.noshow 0 ho.noshow ht.noshow (by omega)
 have i1 := itoa_any x.quota (by have := ho.quota.1; omega) (by have := ho.quota.2; omega)
 have i2 := itoa_any x.share (by have := ho.share.1; omega) (by have := ho.share.2; omega)
 have i3 := itoa_any x.change (by have := ho.change.1; omega) (by have := ho.change.2; omega)
 have hfit := fits_any x.text
 have l0 := line_any false 0 [] [w_bylaws, x.name] (by show 2 ≤ 100; omega) (head_fit hF (i := 0) (Nat.zero_le _))
 refine pure_enter Tryz.func18 rfl (by decide) _ Tryz.ntmps18 (le_ok rfl) (fun w Pr hE => ?_)
 dsimp only [slotsOf, Nat.zero_add, Nat.reduceAdd]
 repeat' (first | (apply at_call; refine k_call (hr) hE ?_; rintro _ rfl) | refine nx ?_ | (apply aq_block_y; decide) | (apply qr_assign; refine r_assign ?_) | (apply at_cond; first | refine c_t ?_ | refine c_f ?_ | (refine aw_cond rfl (fun hb => ?_) (fun hb => ?_) <;> ((try have hq := dX hb); (try (exfalso; omega))))) | (apply qr_not; refine r_not ?_) | (apply qr_load; refine r_load ?_) | (apply qr_alloc; refine r_alloc ?_) | (apply qr_boxed; refine r_boxed ?_))
 refine al_adoptb 4 1 60 5 1 rfl rfl rfl (lt_ok rfl) rfl rfl ?_
 repeat' (first | (apply at_op (.makeFunc _ _ _); refine al_y (y_clo (zs := [.box 4 0]) rfl) (lt_ok rfl) ?_) | (apply at_call; refine k_clocall1 [(1000, 4), (1001, 60)] (l0) hE ?_; rintro _ _ ⟨rfl, rfl⟩ <;> (intro _ _ h1 h2; simp only [renEqs, Nat.reduceBEq, renL_app, renL_ds, renL_und] at h1 h2; subst h1 h2)) | refine nx ?_ | (apply aq_block_y; decide) | (apply qr_move; refine r_move ?_) | (apply qr_assign; refine r_assign ?_) | (apply at_cond; first | refine c_t ?_ | refine c_f ?_ | (refine aw_cond rfl (fun hb => ?_) (fun hb => ?_) <;> ((try have hq := dX hb); (try (exfalso; omega))))) | (apply qr_len; refine r_len ?_) | (apply qr_func; refine r_func ?_) | (apply qr_load; refine r_load ?_) | (apply qr_faddr; refine r_faddr ?_) | (apply qr_lits; refine r_lits ?_))
 clear hr l0
 refine aw_lp (fun N sl ob => ∃ i k : Nat, N = x.lets.length - i ∧ i ≤ x.lets.length ∧ sl = [(20, .d (.int i)), (19, .d (.int x.lets.length)), (18, .d (letsD x.lets)), (5, .clo (.func 52) [.box 4 0]), (4, .box 4 0), (1, .box 1 0)] ∧ ob = [(4, .box 77 [.box 4 0, .row 60 k]), (60, .row 5 1 k (byteD (catL (x.head i)))), (1, byO' x)]) (⟨0, 1, rfl, Nat.zero_le _, rfl, rfl⟩) ?_
 rintro N sl ob ⟨i, k, rfl, hi, rfl, rfl⟩
 by_cases hlt : i < x.lets.length
 ·have hg : (x.lets.map letC)[i]? = some (letC x.lets[i]) := by rw [get_map hlt]
  have hc := show_any 12 (by omega) x.lets[i].2 0 (ho.lets _ (List.getElem_mem hlt)) (ht.lets _ (List.getElem_mem hlt)).2 (by omega)
  have hnx := head_next hlt
  have hln := line_any true k (x.head i) (letL x.lets[i]) (by show 4 ≤ 100; omega) (by rw [hnx]; exact head_fit hF (by omega))
  rw [hnx] at hln
  generalize x.lets[i] = z at hg hc hln
  clear hnx s1 s2 s3 s4 i1 i2 i3 hfit
  repeat' (first | (apply at_op (.indexAddr _ _ _); refine al_ixq hg ?_) | refine nx ?_ | (apply aq_block_y; decide) | (apply at_cond; first | refine c_t ?_ | refine c_f ?_ | (refine aw_cond rfl (fun hb => ?_) (fun hb => ?_) <;> ((try have hq := dX hb); (try (exfalso; omega))))) | (apply qr_lss; refine r_lss ?_) | (apply qr_ix; refine r_ix ?_) | (apply qr_load; refine r_load ?_) | (apply qr_alloc; refine r_alloc ?_) | (apply qr_store; refine r_store ?_))
  refine aw_mixo ([(7, .box 43 ((letC z).map V.d))]) [(0, true), (1, true), (2, true), (3, true), (4, true), (5, false), (6, false), (7, false)] [] (by kernel_rfl) (by kernel_rfl) (by kernel_rfl) (by decide) (by (repeat (first | exact obs_nil | (apply obs_cons; focus (first | rfl | (simp [find]; done)))))) ?_
  simp only [planned, tailed, List.filterMap_cons, List.filterMap_nil, List.getElem?_cons_zero, List.getElem?_cons_succ, Option.map_some]
  repeat' (first | apply am_nil | refine m_skip ?_ | refine n_skip ?_ | (apply at_mcall; refine m_call (hc) hE ?_; rintro _ rfl; (try dsimp only [flat, D.plain, D.plainL])) | (apply at_mcall; refine m_clocall1 [(1000, 4), (1001, 60)] (hln) hE ?_; rintro _ _ ⟨rfl, rfl⟩ <;> (intro _ _ h1 h2; simp only [renEqs, Nat.reduceBEq, renL_app, renL_ds, renL_und] at h1 h2; subst h1 h2; (try dsimp only [flatV, flat, D.plain, D.plainL]))) | (apply qm_move; refine m_move ?_) | (apply qm_load; refine m_load ?_) | (apply qm_faddr; refine m_faddr ?_) | (apply at_am (.buildSlice _ _ _); first | refine am_lit1 (by first | exact want_none | exact want_yes rfl rfl (by assumption) | exact want_yes rfl rfl (by with_reducible rfl)) rfl (by first | exact ToD.d _ | exact ToD.row _ _ _ _ _ rfl) (by first | (simp only [normV, normList, normMap]; rfl) | rfl) rfl (le_ok rfl) (lt_ok rfl) ?_ | refine am_lit (by first | exact want_none | exact want_yes rfl rfl (by assumption) | exact want_yes rfl rfl (by with_reducible rfl)) rfl (by repeat (first | exact PartsD.nil | (apply PartsD.cons; first | exact ToD.d _ | exact ToD.row _ _ _ _ _ rfl))) (by simp [dfill, putD, cellsD, zerosD, Value.cells]; rfl) (by first | (simp only [normV, normList, normMap]; rfl) | rfl) (by decide) (by decide) (lt_ok rfl) ?_) | (refine am_split rfl rfl (fun hb => ?_) (fun hb => ?_) <;> ((try have hq := dX hb); (try (exfalso; omega)))))
  repeat' (first | refine nx ?_ | (apply aq_block_y; decide) | (apply qr_move; refine r_move ?_) | (apply at_cond; first | refine c_t ?_ | refine c_f ?_ | (refine aw_cond rfl (fun hb => ?_) (fun hb => ?_) <;> ((try have hq := dX hb); (try (exfalso; omega))))) | (apply qr_add; refine r_add ?_) | (apply qr_load; refine r_load ?_) | (apply qr_faddr; refine r_faddr ?_) | (apply qr_lits; refine r_lits ?_))
  refine aq_rd (⟨i + 1, k + 1, rfl, by omega, rfl, rfl⟩) (by omega)
 ·obtain rfl : i = x.lets.length := by omega
  have hne : catL x.lines ≠ [] := by
   unfold By.lines
   exact catL_ne _ _
  have hst : ∀ k, ObC 58 [.box 1000 0] (bld (.box 1000 0) k (byteD (catL x.lines))) [] (fun y o => y = .d (.str x.text) ∧ o = []) := fun k => string_any k (catL x.lines) hne
  unfold By.lines at hF hst
  have l1 := line_any true k (x.head x.lets.length) [w_admit, x.admit.text 0] (by show 2 ≤ 100; omega) hF.left.left.left.left.left.left
  have l2 := line_any true (k + 1) _ [w_fare, x.fare.text 0] (by show 2 ≤ 100; omega) hF.left.left.left.left.left
  have l3 := line_any true (k + 1 + 1) _ [w_late, x.late.text 0] (by show 2 ≤ 100; omega) hF.left.left.left.left
  have l4 := line_any true (k + 1 + 1 + 1) _ [w_noshow, x.noshow.text 0] (by show 2 ≤ 100; omega) hF.left.left.left
  have l5 := line_any true (k + 1 + 1 + 1 + 1) _ [w_quota, itoaB x.quota] (by show 2 ≤ 100; omega) hF.left.left
  have l6 := line_any true (k + 1 + 1 + 1 + 1 + 1) _ [w_share, itoaB x.share] (by show 2 ≤ 100; omega) hF.left
  have l7 := line_any true (k + 1 + 1 + 1 + 1 + 1 + 1) _ [w_change, itoaB x.change] (by show 2 ≤ 100; omega) hF
  have hst7 := hst (k + 1 + 1 + 1 + 1 + 1 + 1 + 1)
  obtain ⟨t, n, hfe⟩ := fitsD_form x.text
  rw [hfe] at hfit ⊢
  clear hF hne hst
  repeat' (first | (apply at_call; refine k_call (s1) hE ?_; rintro _ rfl; clear s1) | (apply at_call; refine k_call (s2) hE ?_; rintro _ rfl; clear s2) | (apply at_call; refine k_call (s3) hE ?_; rintro _ rfl; clear s3) | (apply at_call; refine k_call (s4) hE ?_; rintro _ rfl) | (apply at_call; refine k_call (i1) hE ?_; rintro _ rfl; clear i1) | (apply at_call; refine k_call (i2) hE ?_; rintro _ rfl; clear i2) | (apply at_call; refine k_call (i3) hE ?_; rintro _ rfl) | (apply at_call; refine k_call (hfit) hE ?_; rintro _ rfl) | (apply at_call; refine k_clocall1 [(1000, 4), (1001, 60)] (l1) hE ?_; rintro _ _ ⟨rfl, rfl⟩; clear l1 <;> (intro _ _ h1 h2; simp only [renEqs, Nat.reduceBEq, renL_app, renL_ds, renL_und] at h1 h2; subst h1 h2)) | (apply at_call; refine k_clocall1 [(1000, 4), (1001, 60)] (l2) hE ?_; rintro _ _ ⟨rfl, rfl⟩; clear l2 <;> (intro _ _ h1 h2; simp only [renEqs, Nat.reduceBEq, renL_app, renL_ds, renL_und] at h1 h2; subst h1 h2)) | (apply at_call; refine k_clocall1 [(1000, 4), (1001, 60)] (l3) hE ?_; rintro _ _ ⟨rfl, rfl⟩; clear l3 <;> (intro _ _ h1 h2; simp only [renEqs, Nat.reduceBEq, renL_app, renL_ds, renL_und] at h1 h2; subst h1 h2)) | (apply at_call; refine k_clocall1 [(1000, 4), (1001, 60)] (l4) hE ?_; rintro _ _ ⟨rfl, rfl⟩; clear l4 <;> (intro _ _ h1 h2; simp only [renEqs, Nat.reduceBEq, renL_app, renL_ds, renL_und] at h1 h2; subst h1 h2)) | (apply at_call; refine k_clocall1 [(1000, 4), (1001, 60)] (l5) hE ?_; rintro _ _ ⟨rfl, rfl⟩; clear l5 <;> (intro _ _ h1 h2; simp only [renEqs, Nat.reduceBEq, renL_app, renL_ds, renL_und] at h1 h2; subst h1 h2)) | (apply at_call; refine k_clocall1 [(1000, 4), (1001, 60)] (l6) hE ?_; rintro _ _ ⟨rfl, rfl⟩; clear l6 <;> (intro _ _ h1 h2; simp only [renEqs, Nat.reduceBEq, renL_app, renL_ds, renL_und] at h1 h2; subst h1 h2)) | (apply at_call; refine k_clocall1 [(1000, 4), (1001, 60)] (l7) hE ?_; rintro _ _ ⟨rfl, rfl⟩ <;> (intro _ _ h1 h2; simp only [renEqs, Nat.reduceBEq, renL_app, renL_ds, renL_und] at h1 h2; subst h1 h2)) | (apply at_call; refine k_ocall [(1000, 4), (1001, 60)] (hst7) hE ?_; rintro _ _ ⟨rfl, rfl⟩ <;> (intro _ _ h1 h2; simp only [renEqs, Nat.reduceBEq, renL_app, renL_ds, renL_und] at h1 h2; subst h1 h2)) | refine nx ?_ | (apply aq_block_y; decide) | (apply qr_move; refine r_move ?_) | (apply qr_assign; refine r_assign ?_) | (apply at_cond; first | refine c_t ?_ | refine c_f ?_ | (refine aw_cond rfl (fun hb => ?_) (fun hb => ?_) <;> ((try have hq := dX hb); (try (exfalso; omega))))) | (apply qr_lss; refine r_lss ?_) | (apply qr_extract; refine r_extract ?_) | (apply qr_load; refine r_load ?_) | (apply qr_faddr; refine r_faddr ?_) | (apply qr_lits; refine r_lits ?_))
  refine ret_two (by rfl) (by first | exact ToD.d _ | exact ToD.row _ _ _ _ _ rfl) (by first | exact ToD.d _ | exact ToD.row _ _ _ _ _ rfl) ?_
  rfl
end Go.Proofs.YtedoeogopmenpaaGreatDoor
end
section
namespace Go.Proofs.YtedoeogopmenpaaGreatDoor
open Go.RowKit
def decF : Nat → Nat → List UInt8
 | 0, _ => []
 | k + 1, u => if u < 10 then [UInt8.ofNat (48 + u)] else decF k (u / 10) ++ [UInt8.ofNat (48 + u % 10)]
theorem decF_eq : ∀ (k u : Nat), u < 10 ^ k → 0 < k → Lib.decDigits u = decF k u
 | 0, _, _, h => by omega
 | k + 1, u, h, _ => by
  unfold decF
  by_cases hu : u < 10
  ·rw [if_pos hu, dec_one hu]
  ·rw [if_neg hu, dec_more hu]
   have h1 : u / 10 < 10 ^ k := by rw [Nat.pow_succ] at h; omega
   have hk : 0 < k := by
    rcases Nat.eq_zero_or_pos k with rfl | h
    ·simp at h1; omega
    ·exact h
   rw [decF_eq k (u / 10) h1 hk]
def itoaF (n : Int) : ByteArray := if 0 ≤ n ∧ n < 10000 then ⟨(decF 4 n.toNat).toArray⟩ else itoaB n
theorem itoaB_eq : itoaB = itoaF := by
 funext n
 unfold itoaF
 split
 ·rename_i h
  rw [itoaB_pos h.1, decF_eq 4 n.toNat (by omega) (by omega)]
 ·rfl
def e_one : Ex := .mk 12 0 0 ⟨#[]⟩ [(.mk 10 0 0 ⟨#[]⟩ [(.mk 2 0 0 ⟨#[114, 105, 100, 101]⟩ [] : Ex), (.mk 6 0 0 ⟨#[]⟩ [(.mk 0 2 0 ⟨#[]⟩ [] : Ex), (.mk 3 0 0 ⟨#[102, 97, 118, 111, 117, 114]⟩ [] : Ex)] : Ex)] : Ex)]
def e_sum : Ex := .mk 4 0 0 ⟨#[]⟩ [(.mk 2 0 0 ⟨#[114, 105, 100, 101]⟩ [] : Ex), (.mk 0 5 2 ⟨#[]⟩ [] : Ex)]
def e_mul : Ex := .mk 6 0 0 ⟨#[]⟩ [.mk 0 3 0 ⟨#[]⟩ [], e_sum]
def t_one : ByteArray := ⟨#[110, 111, 116, 40, 116, 114, 105, 112, 32, 114, 105, 100, 101, 60, 50, 42, 109, 101, 109, 98, 101, 114, 32, 102, 97, 118, 111, 117, 114, 41]⟩
def t_text : ByteArray := { data := (([98, 121, 108, 97, 119, 115, 32, 99, 105, 116, 121, 32, 59, 32, 108, 101, 116, 32, 98, 97, 115, 101, 32, 61, 32, 50, 48, 48, 32, 99, 101, 110, 116, 115, 32, 59, 32, 97, 100, 109, 105, 116, 32, 116, 114, 105, 112].append [32, 114, 105, 100, 101, 114, 115, 32, 60, 32, 53, 32, 97, 110, 100, 32, 109, 101, 109, 98, 101, 114, 32, 110, 111, 115, 104, 111, 119, 115, 32, 60, 32, 51, 32, 59, 32, 102, 97, 114, 101, 32, 98, 97, 115, 101, 32, 43]).append ([32, 49, 48, 32, 99, 101, 110, 116, 115, 32, 42, 32, 116, 114, 105, 112, 32, 100, 105, 114, 101, 99, 116, 32, 59, 32, 108, 97, 116, 101, 32, 49, 48, 48, 32, 99, 101, 110, 116, 115, 32, 59, 32, 110, 111, 115, 104].append [111, 119, 32, 51, 48, 48, 32, 99, 101, 110, 116, 115, 32, 59, 32, 113, 117, 111, 116, 97, 32, 52, 32, 59, 32, 115, 104, 97, 114, 101, 32, 53, 48, 32, 59, 32, 99, 104, 97, 110, 103, 101, 32, 54, 48, 48, 32, 59])).toArray }
def t_bad : ByteArray := { data := ([98, 121, 108, 97, 119, 115, 32, 97, 32, 59, 32, 97, 100, 109, 105, 116, 32, 116, 114, 117, 101, 32, 59, 32, 102, 97, 114, 101, 32, 49, 32, 59].append [32, 108, 97, 116, 101, 32, 49, 32, 59, 32, 110, 111, 115, 104, 111, 119, 32, 49, 32, 59, 32, 113, 117, 111, 116, 97, 32, 49, 48, 48, 49, 32, 59]).toArray }
def t_two : ByteArray := ⟨#[49, 32, 99, 101, 110, 116, 115, 32, 50]⟩
def x_one : By := ⟨⟨#[99, 105, 116, 121]⟩, [(⟨#[98, 97, 115, 101]⟩, .mk 0 200 1 ⟨#[]⟩ [])], .mk 13 0 0 ⟨#[]⟩ [(.mk 10 0 0 ⟨#[]⟩ [(.mk 2 0 0 ⟨#[114, 105, 100, 101, 114, 115]⟩ [] : Ex), (.mk 0 5 0 ⟨#[]⟩ [] : Ex)] : Ex), (.mk 10 0 0 ⟨#[]⟩ [(.mk 3 0 0 ⟨#[110, 111, 115, 104, 111, 119, 115]⟩ [] : Ex), (.mk 0 3 0 ⟨#[]⟩ [] : Ex)] : Ex)], .mk 4 0 0 ⟨#[]⟩ [(.mk 1 0 0 ⟨#[98, 97, 115, 101]⟩ [] : Ex), (.mk 6 0 0 ⟨#[]⟩ [(.mk 0 10 1 ⟨#[]⟩ [] : Ex), (.mk 2 0 0 ⟨#[100, 105, 114, 101, 99, 116]⟩ [] : Ex)] : Ex)], .mk 0 100 1 ⟨#[]⟩ [], .mk 0 300 1 ⟨#[]⟩ [], 4, 50, 600⟩
set_option maxRecDepth 100000 in
theorem parse_one : parseEV t_one = (e_one, 0, 0) := by kernel_rfl
set_option maxRecDepth 100000 in
theorem parse_text : parseV t_text = (x_one, 0, 0) := by kernel_rfl
set_option maxRecDepth 100000 in
theorem parse_bad : parseV t_bad = (By.zero, 59, 3) := by kernel_rfl
set_option maxRecDepth 100000 in
theorem parse_two : parseEV t_two = (Ex.zero, 8, 12) := by kernel_rfl
set_option maxRecDepth 100000 in
theorem print_one : e_one.text 0 = ⟨#[110, 111, 116, 32, 116, 114, 105, 112, 32, 114, 105, 100, 101, 32, 60, 32, 50, 32, 42, 32, 109, 101, 109, 98, 101, 114, 32, 102, 97, 118, 111, 117, 114]⟩ := by
 unfold Ex.text
 rw [itoaB_eq]
 kernel_rfl
set_option maxRecDepth 100000 in
theorem print_mul : e_mul.text 0 = ⟨#[51, 32, 42, 32, 40, 32, 116, 114, 105, 112, 32, 114, 105, 100, 101, 32, 43, 32, 53, 32, 109, 105, 110, 117, 116, 101, 115, 32, 41]⟩ := by
 unfold Ex.text
 rw [itoaB_eq]
 kernel_rfl
set_option maxRecDepth 100000 in
theorem print_text : x_one.text.size = t_text.size + 1 := by
 unfold By.text By.lines By.head letL Ex.text
 rw [itoaB_eq]
 kernel_rfl
theorem right_one : e_one.right 12 = true := by kernel_rfl
theorem right_sum : e_sum.right 12 = true := by kernel_rfl
theorem right_mul : e_mul.right 12 = true := by kernel_rfl
theorem right_x : x_one.right = true := by kernel_rfl
theorem right_z : By.zero.right = false := by kernel_rfl
theorem right_n : (Ex.mk 1 0 0 ⟨#[]⟩ []).right 12 = false := by kernel_rfl
theorem name_y : nameV ⟨#[112, 101, 114, 105, 111, 100]⟩ = true := by kernel_rfl
theorem name_n : nameV ⟨#[99, 101, 110, 116, 115]⟩ = false := by kernel_rfl
end Go.Proofs.YtedoeogopmenpaaGreatDoor
end
section
set_option linter.unusedSimpArgs false
set_option linter.unusedVariables false
namespace Go.Proofs.YtedoeogopmenpaaGreatDoor
open Go.RowKit
abbrev intB (n : Int) : O := .box 3 [.d (.int n)]
abbrev errB (n : Int) : O := .box 29 [.d (.int n)]
theorem anyT : ∃ ms, Tryz.prog.underlying 20 = some (.interface ms) := ⟨_, Tryz.underlying20⟩
theorem caught_yes (p c a b : Int) : ObC 37 [.d (.val (stopV p c)), .box 1003 0, .box 1004 0] [(1003, intB a), (1004, errB b)] [] (fun x o => x = .d (.bool true) ∧ o = [(1003, intB p), (1004, errB c)]) := by
 refine ob_enter Tryz.func37 rfl (by decide) _ Tryz.ntmps37 (le_ok rfl) rfl (fun w Pr β κ hE => ?_)
 dsimp only [slotsV, Nat.zero_add, Nat.reduceAdd]
 repeat' (first | (apply at_op (.typeAssert _ _ _ _); refine al_y (y_assert rfl Tryz.underlying103 rfl) (lt_ok rfl) ?_) | (apply at_op (.binOp .neq _ _ _ _); refine al_y (y_ifneq rfl anyT) (lt_ok rfl) ?_) | refine nx ?_ | (apply qr_move; refine r_move ?_) | (apply qr_assign; refine r_assign ?_) | (apply at_cond; first | refine c_t ?_ | refine c_f ?_ | (refine aw_cond rfl (fun hb => ?_) (fun hb => ?_) <;> ((try have hq := dX hb); (try (exfalso; omega))))) | (apply at_guard; first | refine g_go ?_ | refine g_nt ?_ | refine g_nf ?_ | refine g_nu ?_ | ((first | refine al_split_t rfl rfl (lt_ok rfl) (fun hb => ?_) (fun hb => ?_) | refine al_split_f rfl rfl (lt_ok rfl) (fun hb => ?_) (fun hb => ?_)) <;> ((try have hq := dX hb); (try (exfalso; omega))))) | (apply qr_pick; refine r_pick ?_) | (apply qr_neq; refine r_neq ?_) | (apply qr_not; refine r_not ?_) | (apply qr_extract; refine r_extract ?_) | (apply qr_alloc; refine r_alloc ?_) | (apply qr_store; refine r_store ?_))
 refine aw_mixo ([(7, .box 103 [.d (.int p), .d (.int c)])]) [(0, true), (1, true), (2, true), (3, true), (4, true), (5, true), (6, true), (7, false)] [8, 9] (by kernel_rfl) (by kernel_rfl) (by kernel_rfl) (by decide) (by (repeat (first | exact obs_nil | (apply obs_cons; focus (first | rfl | (simp [find]; done)))))) ?_
 simp only [planned, tailed, List.filterMap_cons, List.filterMap_nil, List.getElem?_cons_zero, List.getElem?_cons_succ, Option.map_some]
 repeat' (first | apply am_nil | refine m_skip ?_ | refine n_skip ?_ | (apply at_am (.store _ _ _); refine am_store (by first | exact want_none | exact want_yes rfl rfl (by assumption) | exact want_yes rfl rfl (by with_reducible rfl)) rfl rfl rfl (ev_d rfl) nofun (by first | (simp only [normV, normList, normMap]; rfl) | rfl) (by simp [V.one, Value.oneCell']) (.inl ⟨rfl, rfl⟩) rfl (le_ok rfl) (by first | (simp only [normV, normList, normMap]; rfl) | rfl) ?_) | (apply qm_move; refine m_move ?_) | (apply qm_load; refine m_load ?_) | (apply qm_faddr; refine m_faddr ?_) | (apply qm_nilck; refine m_nilck ?_) | (refine am_split rfl rfl (fun hb => ?_) (fun hb => ?_) <;> ((try have hq := dX hb); (try (exfalso; omega)))))
 repeat' (first | refine nx ?_ | (apply qr_move; refine r_move ?_) | (apply qr_assign; refine r_assign ?_) | (apply at_cond; first | refine c_t ?_ | refine c_f ?_ | (refine aw_cond rfl (fun hb => ?_) (fun hb => ?_) <;> ((try have hq := dX hb); (try (exfalso; omega))))) | (apply at_guard; first | refine g_go ?_ | refine g_nt ?_ | refine g_nf ?_ | refine g_nu ?_ | ((first | refine al_split_t rfl rfl (lt_ok rfl) (fun hb => ?_) (fun hb => ?_) | refine al_split_f rfl rfl (lt_ok rfl) (fun hb => ?_) (fun hb => ?_)) <;> ((try have hq := dX hb); (try (exfalso; omega))))) | (apply qr_pick; refine r_pick ?_) | (apply qr_neq; refine r_neq ?_) | (apply qr_not; refine r_not ?_) | (apply qr_extract; refine r_extract ?_) | (apply qr_load; refine r_load ?_) | (apply qr_faddr; refine r_faddr ?_) | (apply qr_nilck; refine r_nilck ?_) | (apply qr_alloc; refine r_alloc ?_) | (apply qr_store; refine r_store ?_))
 refine oret1 ([(1003, intB p), (1004, errB c)]) (by rfl) rv (⟨rfl, rfl⟩) sb okx
theorem stop_zero : ∀ w, (zeroValue 103).run Tryz.prog w = .ok (.agg #[.int .i64 0, .int .i64 0]) w := fun w => Tryz.zeroValue103 w
theorem caught_no (a b : Int) : ObC 37 [.d (.val .nilIface), .box 1003 0, .box 1004 0] [(1003, intB a), (1004, errB b)] [] (fun x o => x = .d (.bool false) ∧ o = [(1003, intB a), (1004, errB b)]) := by
 refine ob_enter Tryz.func37 rfl (by decide) _ Tryz.ntmps37 (le_ok rfl) rfl (fun w Pr β κ hE => ?_)
 dsimp only [slotsV, Nat.zero_add, Nat.reduceAdd]
 repeat' (first | (apply at_op (.typeAssert _ _ _ _); refine al_y (y_assertnil rfl Tryz.underlying103 rfl stop_zero) (lt_ok rfl) ?_) | (apply at_op (.binOp .neq _ _ _ _); refine al_y (y_ifnil rfl anyT) (lt_ok rfl) ?_) | refine nx ?_ | (apply qr_move; refine r_move ?_) | (apply qr_assign; refine r_assign ?_) | (apply at_cond; first | refine c_t ?_ | refine c_f ?_ | (refine aw_cond rfl (fun hb => ?_) (fun hb => ?_) <;> ((try have hq := dX hb); (try (exfalso; omega))))) | (apply at_guard; first | refine g_go ?_ | refine g_nt ?_ | refine g_nf ?_ | refine g_nu ?_ | ((first | refine al_split_t rfl rfl (lt_ok rfl) (fun hb => ?_) (fun hb => ?_) | refine al_split_f rfl rfl (lt_ok rfl) (fun hb => ?_) (fun hb => ?_)) <;> ((try have hq := dX hb); (try (exfalso; omega))))) | (apply qr_pick; refine r_pick ?_) | (apply qr_neq; refine r_neq ?_) | (apply qr_not; refine r_not ?_) | (apply qr_extract; refine r_extract ?_) | (apply qr_alloc; refine r_alloc ?_) | (apply qr_store; refine r_store ?_))
 refine oret1 ([(1003, intB a), (1004, errB b)]) (by rfl) rv (⟨rfl, rfl⟩) sb okx
theorem open_any (s : ByteArray) (hs : s.size ≤ 1000000) : ObC 35 [.d (.str s)] [] [16] (fun x o => x = .tup [.box 16 0, .d (.int (lexV s).2.1), .d (.int (lexV s).2.2)] ∧ o = [(16, psB (lexV s).1 0)]) := by
 have hlex := lex_any s hs
 generalize lexV s = r at hlex ⊢
 obtain ⟨L, p, e⟩ := r
 unfold lexD at hlex
 dsimp only at hlex ⊢
 refine ob_enter Tryz.func35 rfl (by decide) _ Tryz.ntmps35 (le_ok rfl) rfl (fun w Pr β κ hE => ?_)
 dsimp only [slotsV, Nat.zero_add, Nat.reduceAdd]
 repeat' (first | (apply at_call; refine k_call (hlex) hE ?_; rintro _ rfl) | refine nx ?_ | (apply qr_move; refine r_move ?_) | (apply qr_assign; refine r_assign ?_) | (apply qr_extract; refine r_extract ?_) | (apply qr_boxed; refine r_boxed ?_) | (apply qr_build; refine r_build ?_))
 refine oret3 ([(16, psB L 0)]) (by rfl) rv rv rv (⟨rfl, rfl⟩) sb okx
theorem exec_recover {a : Act} {t : Nat} {T : TypeId} {p : String} {af : Array Edge} {w : World} : (execOp a.eval ⟨some t, .call { callee := .builtin .recover, args := #[], argTypes := #[] }, T, p, af, none⟩).run Tryz.prog w = .ok .recover w := by
 simp [execOp, resolve, invoke, builtin]
theorem ops_recover {t : Nat} {T : TypeId} {p : String} {af : Array Edge} {o1 : Oper} (hg : o1.guard = none) {Q : Exit → Act → List Frame → World → Prop} {a : Act} {c₀ : Frame} {cs cs' : List Frame} {w : World} {v : Value} (hr : (recoverD (c₀ :: cs) = some (v, cs')) ∨ (recoverD (c₀ :: cs) = none ∧ v = .nilIface ∧ cs' = c₀ :: cs))
  (h : o1.wp Tryz.prog (a.put (some t) v) w (fun a' w' => Q .normal a' cs' w') (fun e a' w' => Q e a' cs' w')) : wpOpsS Tryz.prog #[⟨some t, .call { callee := .builtin .recover, args := #[], argTypes := #[] }, T, p, af, none⟩, o1] Q (List.range 2) a (c₀ :: cs) w := by
 have hw1 : ∀ ys, Region.wanted o1 ys = true := fun ys => by simp [Region.wanted, hg]
 have h2 : wpOpsS Tryz.prog #[⟨some t, .call { callee := .builtin .recover, args := #[], argTypes := #[] }, T, p, af, none⟩, o1] Q [1] (a.put (some t) v) cs' w := by
  unfold wpOpsS
  simp only [show (#[⟨some t, .call { callee := .builtin .recover, args := #[], argTypes := #[] }, T, p, af, none⟩, o1] : Array Oper)[1]? = some o1 from rfl, hw1, if_true]
  unfold Oper.wp at h
  generalize (execOp (a.put (some t) v).eval o1).run Tryz.prog w = r at h
  split
  ·exact (h : False).elim
  ·exact h
 show wpOpsS _ _ _ [0, 1] _ _ _
 unfold wpOpsS
 simp only [show (#[⟨some t, .call { callee := .builtin .recover, args := #[], argTypes := #[] }, T, p, af, none⟩, o1] : Array Oper)[0]? = some ⟨some t, .call { callee := .builtin .recover, args := #[], argTypes := #[] }, T, p, af, none⟩ from rfl, exec_recover]
 rw [if_pos (by rfl)]
 rcases hr with hr | ⟨hr, rfl, rfl⟩
 ·rw [hr]
  exact h2
 ·rw [hr]
  exact h2
def modeP (p c : Int) (b : Bool) : FrameMode := .panicking [{ v := stopV p c, recovered := b }]
theorem settle_caught (p c : Int) : settle (modeP p c true) = .returning := rfl
abbrev byZ : O := zeroBy
theorem put_all {xs zs : List V} {n : List V} (h : n = zs) (hl : xs.length = zs.length) : put xs 0 n = zs := by
 subst h
 simp only [put, List.take_zero, List.nil_append, Nat.zero_add]
 rw [List.drop_of_length_le (by omega), List.append_nil]
theorem parse1_yes (p c a b : Int) (xs : List V) (hxs : xs.length = ((.d (.str ⟨#[]⟩) :: .d (.val (.slice none 0 0)) :: (fillV [] ++ [.d (.int 0), .d (.int 0), .d (.int 0)]))).length) : ObD 36 [.box 1003 0, .box 1004 0, .box 1002 0] [(1003, intB a), (1004, errB b), (1002, .box 28 xs)] (modeP p c false) (modeP p c true) (fun o => o = [(1003, intB p), (1004, errB c), (1002, .box 28 ((.d (.str ⟨#[]⟩) :: .d (.val (.slice none 0 0)) :: (fillV [] ++ [.d (.int 0), .d (.int 0), .d (.int 0)]))))]) := by
 refine ⟨⟨_, Tryz.func36, by decide, rfl⟩, fun w Pr vs β κ h1 h2 h3 h4 h5 h6 => ?_⟩
 refine callsD_of_wpS Tryz.func36 rfl fun c₀ cs hu => ?_
 have hG := Good.start (N := 6) (args := [.box 1003 0, .box 1004 0, .box 1002 0]) (by decide) rfl h1 h3 h4 h5 h6
 have hE : Fine ⟨w, Pr, 6, [(1003, intB a), (1004, errB b), (1002, .box 28 xs)], β, κ, []⟩ := ⟨h2, h1⟩
 rw [Tryz.ntmps36]
 have hrec : recoverD (c₀ :: cs) = some (stopV p c, { c₀ with mode := modeP p c true } :: cs) := by
  simp only [recoverD, hu]
  rfl
 refine wpS_seq (wpS_region (ops_recover rfl (.inl hrec) ?_))
 have hG2 := hG.put (d := 3) (lt_ok rfl) (v := stopV p c) (x := .d (.val (stopV p c))) (.d _ _ (.val _))
 refine st_ocall [(1003, 1003), (1004, 1004)] (caught_yes p c a b) rfl hE (lt_ok rfl) (.cons (.same _ _ rfl) (.cons (.same _ _ rfl) (.cons (.same _ _ rfl) .nil))) ⟨obs_cons rfl (obs_cons rfl obs_nil), rfl, rfl, rfl, rfl⟩ _ _ ⟨_, _, _, hG2⟩ _ _ (fun a' w' hI => ?_)
 refine wpS_of_wp (AW.run ?_ _ _ hI)
 refine aw_cond_t rfl rfl ?_
 repeat' (first | (apply at_op (.store _ _ _); refine al_step (st_store rfl rfl (ev_d rfl) nofun rfl (by simp [V.one, Value.oneCell', fillV, cellsV, cellsD]) (.inr rfl) rfl (by rw [hxs]; exact le_ok rfl) (put_all rfl hxs)) rfl ?_) | refine nx ?_ | (apply at_cond; first | refine c_t ?_ | refine c_f ?_ | (refine aw_cond rfl (fun hb => ?_) (fun hb => ?_) <;> ((try have hq := dX hb); (try (exfalso; omega))))) | (apply qr_store; refine r_store ?_) | (apply qr_build; refine r_build ?_))
 refine aq_ends (.inr rfl) [(1003, intB p), (1004, errB c), (1002, .box 28 ((.d (.str ⟨#[]⟩) :: .d (.val (.slice none 0 0)) :: (fillV [] ++ [.d (.int 0), .d (.int 0), .d (.int 0)]))))] rfl rfl (by (repeat (first | exact obs_nil | (apply obs_cons; focus (first | rfl | (simp [find]; done)))))) (by rfl)
theorem parse1_no (a b : Int) (X : O) (hX : X.within [1003, 1004, 1002] = true) : ObD 36 [.box 1003 0, .box 1004 0, .box 1002 0] [(1003, intB a), (1004, errB b), (1002, X)] .returning .returning (fun o => o = [(1003, intB a), (1004, errB b), (1002, X)]) := by
 refine ⟨⟨_, Tryz.func36, by decide, rfl⟩, fun w Pr vs β κ h1 h2 h3 h4 h5 h6 => ?_⟩
 refine callsD_of_wpS Tryz.func36 rfl fun c₀ cs hu => ?_
 have hG := Good.start (N := 6) (args := [.box 1003 0, .box 1004 0, .box 1002 0]) (by decide) rfl h1 h3 h4 h5 h6
 have hE : Fine ⟨w, Pr, 6, [(1003, intB a), (1004, errB b), (1002, X)], β, κ, []⟩ := ⟨h2, h1⟩
 rw [Tryz.ntmps36]
 have hc0 : c₀ = { c₀ with mode := .returning } := by cases c₀; simp_all
 have hrec : recoverD (c₀ :: cs) = none := by
  simp only [recoverD, hu]
 refine wpS_seq (wpS_region (ops_recover rfl (.inr ⟨hrec, rfl, rfl⟩) ?_))
 have hG2 := hG.put (d := 3) (lt_ok rfl) (v := .nilIface) (x := .d (.val .nilIface)) (.d _ _ (.val _))
 refine st_ocall [(1003, 1003), (1004, 1004)] (caught_no a b) rfl hE (lt_ok rfl) (.cons (.same _ _ rfl) (.cons (.same _ _ rfl) (.cons (.same _ _ rfl) .nil))) ⟨obs_cons rfl (obs_cons rfl obs_nil), rfl, rfl, rfl, rfl⟩ _ _ ⟨_, _, _, hG2⟩ _ _ (fun a' w' hI => ?_)
 refine wpS_of_wp (AW.run ?_ _ _ hI)
 rw [show (c₀ :: cs : List Frame) = { c₀ with mode := .returning } :: cs by rw [← hc0]]
 refine aw_cond_f rfl rfl (aw_skip ?_)
 refine aq_ends (.inr rfl) [(1003, intB a), (1004, errB b), (1002, X)] rfl rfl (by (repeat (first | exact obs_nil | (apply obs_cons; focus (first | rfl | (simp [find]; done)))))) (by simp [okOut, V.within, V.withinL, keys, mem, nbeq_def, O.within]; exact hX)
theorem parseE1_yes (p c a b : Int) (xs : List V) (hxs : xs.length = (expZ).length) : ObD 41 [.box 1003 0, .box 1004 0, .box 1002 0] [(1003, intB a), (1004, errB b), (1002, .box 26 xs)] (modeP p c false) (modeP p c true) (fun o => o = [(1003, intB p), (1004, errB c), (1002, .box 26 (expZ))]) := by
 refine ⟨⟨_, Tryz.func41, by decide, rfl⟩, fun w Pr vs β κ h1 h2 h3 h4 h5 h6 => ?_⟩
 refine callsD_of_wpS Tryz.func41 rfl fun c₀ cs hu => ?_
 have hG := Good.start (N := 6) (args := [.box 1003 0, .box 1004 0, .box 1002 0]) (by decide) rfl h1 h3 h4 h5 h6
 have hE : Fine ⟨w, Pr, 6, [(1003, intB a), (1004, errB b), (1002, .box 26 xs)], β, κ, []⟩ := ⟨h2, h1⟩
 rw [Tryz.ntmps41]
 have hrec : recoverD (c₀ :: cs) = some (stopV p c, { c₀ with mode := modeP p c true } :: cs) := by
  simp only [recoverD, hu]
  rfl
 refine wpS_seq (wpS_region (ops_recover rfl (.inl hrec) ?_))
 have hG2 := hG.put (d := 3) (lt_ok rfl) (v := stopV p c) (x := .d (.val (stopV p c))) (.d _ _ (.val _))
 refine st_ocall [(1003, 1003), (1004, 1004)] (caught_yes p c a b) rfl hE (lt_ok rfl) (.cons (.same _ _ rfl) (.cons (.same _ _ rfl) (.cons (.same _ _ rfl) .nil))) ⟨obs_cons rfl (obs_cons rfl obs_nil), rfl, rfl, rfl, rfl⟩ _ _ ⟨_, _, _, hG2⟩ _ _ (fun a' w' hI => ?_)
 refine wpS_of_wp (AW.run ?_ _ _ hI)
 refine aw_cond_t rfl rfl ?_
 repeat' (first | (apply at_op (.store _ _ _); refine al_step (st_store rfl rfl (ev_d rfl) nofun rfl (by simp [V.one, Value.oneCell', fillV, cellsV, cellsD]) (.inr rfl) rfl (by rw [hxs]; exact le_ok rfl) (put_all rfl hxs)) rfl ?_) | refine nx ?_ | (apply at_cond; first | refine c_t ?_ | refine c_f ?_ | (refine aw_cond rfl (fun hb => ?_) (fun hb => ?_) <;> ((try have hq := dX hb); (try (exfalso; omega))))) | (apply qr_store; refine r_store ?_) | (apply qr_build; refine r_build ?_))
 refine aq_ends (.inr rfl) [(1003, intB p), (1004, errB c), (1002, .box 26 (expZ))] rfl rfl (by (repeat (first | exact obs_nil | (apply obs_cons; focus (first | rfl | (simp [find]; done)))))) (by rfl)
theorem parseE1_no (a b : Int) (X : O) (hX : X.within [1003, 1004, 1002] = true) : ObD 41 [.box 1003 0, .box 1004 0, .box 1002 0] [(1003, intB a), (1004, errB b), (1002, X)] .returning .returning (fun o => o = [(1003, intB a), (1004, errB b), (1002, X)]) := by
 refine ⟨⟨_, Tryz.func41, by decide, rfl⟩, fun w Pr vs β κ h1 h2 h3 h4 h5 h6 => ?_⟩
 refine callsD_of_wpS Tryz.func41 rfl fun c₀ cs hu => ?_
 have hG := Good.start (N := 6) (args := [.box 1003 0, .box 1004 0, .box 1002 0]) (by decide) rfl h1 h3 h4 h5 h6
 have hE : Fine ⟨w, Pr, 6, [(1003, intB a), (1004, errB b), (1002, X)], β, κ, []⟩ := ⟨h2, h1⟩
 rw [Tryz.ntmps41]
 have hc0 : c₀ = { c₀ with mode := .returning } := by cases c₀; simp_all
 have hrec : recoverD (c₀ :: cs) = none := by
  simp only [recoverD, hu]
 refine wpS_seq (wpS_region (ops_recover rfl (.inr ⟨hrec, rfl, rfl⟩) ?_))
 have hG2 := hG.put (d := 3) (lt_ok rfl) (v := .nilIface) (x := .d (.val .nilIface)) (.d _ _ (.val _))
 refine st_ocall [(1003, 1003), (1004, 1004)] (caught_no a b) rfl hE (lt_ok rfl) (.cons (.same _ _ rfl) (.cons (.same _ _ rfl) (.cons (.same _ _ rfl) .nil))) ⟨obs_cons rfl (obs_cons rfl obs_nil), rfl, rfl, rfl, rfl⟩ _ _ ⟨_, _, _, hG2⟩ _ _ (fun a' w' hI => ?_)
 refine wpS_of_wp (AW.run ?_ _ _ hI)
 rw [show (c₀ :: cs : List Frame) = { c₀ with mode := .returning } :: cs by rw [← hc0]]
 refine aw_cond_f rfl rfl (aw_skip ?_)
 refine aq_ends (.inr rfl) [(1003, intB a), (1004, errB b), (1002, X)] rfl rfl (by (repeat (first | exact obs_nil | (apply obs_cons; focus (first | rfl | (simp [find]; done)))))) (by simp [okOut, V.within, V.withinL, keys, mem, nbeq_def, O.within]; exact hX)
end Go.Proofs.YtedoeogopmenpaaGreatDoor
end
section
set_option linter.unusedSimpArgs false
set_option linter.unusedVariables false
namespace Go.Proofs.YtedoeogopmenpaaGreatDoor
open Go.RowKit
theorem aq_then_p {E : Entry} {sl : Slots} {ob : Objs} {Q : Exit → Act → World → Prop} {K : Act → World → Prop} {c : List PanicEntry} (h : AQ E (.panic c) Q sl ob) : AQ E (.panic c) (Exit.then K Q) sl ob := ⟨h.run⟩
theorem aq_block_p {E : Entry} {sl : Slots} {ob : Objs} {Q : Exit → Act → World → Prop} {id : Nat} {c : List PanicEntry} (h : AQ E (.panic c) Q sl ob) : AQ E (.panic c) (Exit.inBlock id Q) sl ob := ⟨h.run⟩
def parseD (r : By × Int × Int) : D := .tup [.agg (byC r.1), .int r.2.1, .int r.2.2]
theorem parse_any (s : ByteArray) (hs : s.size ≤ 1000000) : PureC 9 [.str s] (· = parseD (parseV s)) := by
 have hopen := open_any s hs
 rcases hL : lexV s with ⟨L, p, e⟩
 have hV : parseV s = if e = 0 then (match bylawsP L with
  | .ok x _ => (x, 0, 0)
  | .bad q c => (By.zero, q, c)) else (By.zero, p, e) := by
  unfold parseV
  rw [hL]
  rfl
 rw [hL] at hopen
 dsimp only at hopen
 by_cases he : e = 0
 ·subst he
  rw [if_pos rfl] at hV
  obtain ⟨h1, h2, h3, h4, h5, h6, h7⟩ := lex_ready hL
  have r0 := h4.rdy h5
  have at0 : ((atN L L : Nat) : Int) = 0 := by simp [atN]
  have hby := pbylaws r0 h6
  unfold psr at hby
  rw [at0] at hby
  have q0 : (!decide ((0 : Int) = 0)) = false := rfl
  refine pure_enterD Tryz.func9 rfl (by decide) _ Tryz.ntmps9 (le_ok rfl) (fun w Pr hE => ?_)
  dsimp only [slotsOf, Nat.zero_add, Nat.reduceAdd]
  repeat' (first | (apply at_call; refine k_ocall [(16, 18)] (hopen) hE ?_; rintro _ _ ⟨rfl, rfl⟩ <;> (intro _ _ h1 h2; simp only [renEqs, Nat.reduceBEq, renL_app, renL_ds, renL_und] at h1 h2; subst h1 h2)) | (apply at_op (.makeFunc _ _ _); refine al_y (y_clo rfl) (lt_ok rfl) ?_) | refine nx ?_ | apply aq_pq | (apply qr_move; refine r_move ?_) | (apply qr_assign; refine r_assign ?_) | (apply at_cond; first | refine c_t ?_ | refine c_f ?_ | (refine aw_cond rfl (fun hb => ?_) (fun hb => ?_) <;> ((try have hq := dX hb); (try (exfalso; omega))))) | (apply qr_neq; refine r_neq ?_) | (apply qr_extract; refine r_extract ?_) | (apply qr_func; refine r_func ?_) | (apply qr_load; refine r_load ?_) | (apply qr_alloc; refine r_alloc ?_) | (apply qr_store; refine r_store ?_))
  refine al_less (sl' := [(17, .clo (.func 36) [.box 3 0, .box 4 0, .box 2 0]), (5, .box 18 0), (4, .box 4 0), (3, .box 3 0), (2, .box 2 0)]) (ob' := [(18, psB L 0), (2, zeroBy), (3, intB p), (4, errB 0)]) (by (repeat (first | exact sub_nil | (apply sub_cons; focus (first | rfl | exact vint (by first | omega) | (simp [look]; done)))))) (by (repeat (first | exact obs_nil | (apply obs_cons; focus (first | rfl | (simp [find]; done)))))) ?_
  refine al_ren 2 1002 rfl rfl ?_
  refine al_less (sl' := [(17, .clo (.func 36) [.box 3 0, .box 4 0, .box 1002 0]), (5, .box 18 0), (4, .box 4 0), (3, .box 3 0), (2, .box 1002 0)]) (ob' := [(18, psB L 0), (1002, zeroBy), (3, intB p), (4, errB 0)]) (by (repeat (first | exact sub_nil | (apply sub_cons; focus (first | rfl | exact vint (by first | omega) | (simp [look]; done)))))) (by (repeat (first | exact obs_nil | (apply obs_cons; focus (first | rfl | (simp [find]; done)))))) ?_
  refine al_ren 3 1003 rfl rfl ?_
  refine al_less (sl' := [(17, .clo (.func 36) [.box 1003 0, .box 4 0, .box 1002 0]), (5, .box 18 0), (4, .box 4 0), (3, .box 1003 0), (2, .box 1002 0)]) (ob' := [(18, psB L 0), (1002, zeroBy), (1003, intB p), (4, errB 0)]) (by (repeat (first | exact sub_nil | (apply sub_cons; focus (first | rfl | exact vint (by first | omega) | (simp [look]; done)))))) (by (repeat (first | exact obs_nil | (apply obs_cons; focus (first | rfl | (simp [find]; done)))))) ?_
  refine al_ren 4 1004 rfl rfl ?_
  refine al_less (sl' := [(17, .clo (.func 36) [.box 1003 0, .box 1004 0, .box 1002 0]), (5, .box 18 0), (4, .box 1004 0), (3, .box 1003 0), (2, .box 1002 0)]) (ob' := [(18, psB L 0), (1002, zeroBy), (1003, intB p), (1004, errB 0)]) (by (repeat (first | exact sub_nil | (apply sub_cons; focus (first | rfl | exact vint (by first | omega) | (simp [look]; done)))))) (by (repeat (first | exact obs_nil | (apply obs_cons; focus (first | rfl | (simp [find]; done)))))) ?_
  refine al_ren 18 1000 rfl rfl ?_
  refine al_less (sl' := [(17, .clo (.func 36) [.box 1003 0, .box 1004 0, .box 1002 0]), (5, .box 1000 0), (4, .box 1004 0), (3, .box 1003 0), (2, .box 1002 0)]) (ob' := [(1000, psB L 0), (1002, zeroBy), (1003, intB p), (1004, errB 0)]) (by (repeat (first | exact sub_nil | (apply sub_cons; focus (first | rfl | exact vint (by first | omega) | (simp [look]; done)))))) (by (repeat (first | exact obs_nil | (apply obs_cons; focus (first | rfl | (simp [find]; done)))))) ?_
  refine al_defer rfl hE rfl rfl rfl (fun E' cs en eo hN hE' hdf hcl hcs => ?_)
  obtain ⟨w', Pr', n', ob0', β', κ', df'⟩ := E'
  dsimp only at en eo hdf hcs
  subst en eo hdf
  have hE := hE'
  rcases hx : bylawsP L with ⟨x, t⟩ | ⟨q, c⟩
  ·rw [hx] at hV hby
   have hok := out_ok hby rfl
   repeat' (first | (apply at_call; refine k_ocall [(1000, 1000)] (hok) hE ?_; rintro _ _ ⟨rfl, rfl⟩ <;> (intro _ _ h1 h2; simp only [renEqs, Nat.reduceBEq, renL_app, renL_ds, renL_und] at h1 h2; subst h1 h2)) | refine nx ?_ | apply aq_pq | (apply qr_move; refine r_move ?_) | (apply at_cond; first | refine c_t ?_ | refine c_f ?_ | (refine aw_cond rfl (fun hb => ?_) (fun hb => ?_) <;> ((try have hq := dX hb); (try (exfalso; omega))))) | (apply qr_store; refine r_store ?_))
   refine aq_less (sl' := [(4, .box 1004 0), (3, .box 1003 0), (2, .box 1002 0)]) (ob' := [(1003, intB 0), (1004, errB 0), (1002, .box 28 ((byC x).map V.d))]) (by (repeat (first | exact sub_nil | (apply sub_cons; focus (first | rfl | exact vint (by first | omega) | (simp [look]; done)))))) (by (repeat (first | exact obs_nil | (apply obs_cons; focus (first | rfl | (simp [find]; done)))))) ?_
   refine aq_leave (.inl ⟨rfl, rfl⟩) rfl hN hE' rfl hcl hcs rfl (parse1_no 0 0 _ rfl) rfl rfl (fun E'' ob'' k1 k2 hN'' ho => ?_) (fun _ _ => trivial)
   subst ho
   rw [hV]
   exact retN3 hN'' rfl (by first | exact ResX.tmp _ _ (by first | exact ToD.d _ | exact ToD.row _ _ _ _ _ rfl) | exact ResX.cellA _ _ _ _ _ _ _ rfl rfl rfl (by first | (simp only [normV, normList, normMap]; rfl) | rfl) rfl | exact ResX.cell1 _ _ _ _ _ _ rfl rfl rfl (by first | exact ToD.d _ | exact ToD.row _ _ _ _ _ rfl)) (by first | exact ResX.tmp _ _ (by first | exact ToD.d _ | exact ToD.row _ _ _ _ _ rfl) | exact ResX.cellA _ _ _ _ _ _ _ rfl rfl rfl (by first | (simp only [normV, normList, normMap]; rfl) | rfl) rfl | exact ResX.cell1 _ _ _ _ _ _ rfl rfl rfl (by first | exact ToD.d _ | exact ToD.row _ _ _ _ _ rfl)) (by first | exact ResX.tmp _ _ (by first | exact ToD.d _ | exact ToD.row _ _ _ _ _ rfl) | exact ResX.cellA _ _ _ _ _ _ _ rfl rfl rfl (by first | (simp only [normV, normList, normMap]; rfl) | rfl) rfl | exact ResX.cell1 _ _ _ _ _ _ rfl rfl rfl (by first | exact ToD.d _ | exact ToD.row _ _ _ _ _ rfl)) rfl k1
  ·rw [hx] at hV hby
   have hbad := out_bad hby rfl
   repeat' (first | refine nx ?_ | apply aq_pq | (apply qr_move; refine r_move ?_) | (apply at_cond; first | refine c_t ?_ | refine c_f ?_ | (refine aw_cond rfl (fun hb => ?_) (fun hb => ?_) <;> ((try have hq := dX hb); (try (exfalso; omega))))) | (apply qr_store; refine r_store ?_))
   refine al_pcall [(1000, 1000)] hbad rfl hE (lt_ok rfl) (by (repeat (first | refine ArgsV.cons (.same _ _ rfl) ?_ | refine ArgsV.cons (.toD _ _ (by first | exact ToD.d _ | exact ToD.row _ _ _ _ _ rfl | exact ToD.nil _)) ?_)); exact ArgsV.nil) ⟨obs_cons rfl obs_nil, rfl, rfl, rfl, rfl⟩ (fun v hv => ?_) (fun _ _ h => h.elim)
   subst hv
   repeat (first | refine aq_then_p ?_ | refine aq_block_p ?_)
   refine aq_less (sl' := [(4, .box 1004 0), (3, .box 1003 0), (2, .box 1002 0)]) (ob' := [(1003, intB p), (1004, errB 0), (1002, zeroBy)]) (by (repeat (first | exact sub_nil | (apply sub_cons; focus (first | rfl | exact vint (by first | omega) | (simp [look]; done)))))) (by (repeat (first | exact obs_nil | (apply obs_cons; focus (first | rfl | (simp [find]; done)))))) ?_
   refine aq_leave (.inr ⟨_, rfl, rfl⟩) (settle_caught q c) hN hE' rfl hcl hcs rfl (parse1_yes q c p 0 _ rfl) rfl rfl (fun E'' ob'' k1 k2 hN'' ho => ?_) (fun _ _ => trivial)
   subst ho
   rw [hV]
   refine aq_nilcell 1002 1 6 rfl rfl rfl ?_
   refine aq_nilcell 1002 6 5 rfl rfl rfl ?_
   refine aq_nilcell 1002 11 5 rfl rfl rfl ?_
   refine aq_nilcell 1002 16 5 rfl rfl rfl ?_
   refine aq_nilcell 1002 21 5 rfl rfl rfl ?_
   exact retN3 hN'' rfl (by first | exact ResX.tmp _ _ (by first | exact ToD.d _ | exact ToD.row _ _ _ _ _ rfl) | exact ResX.cellA _ _ _ _ _ _ _ rfl rfl rfl (by first | (simp only [normV, normList, normMap]; rfl) | rfl) rfl | exact ResX.cell1 _ _ _ _ _ _ rfl rfl rfl (by first | exact ToD.d _ | exact ToD.row _ _ _ _ _ rfl)) (by first | exact ResX.tmp _ _ (by first | exact ToD.d _ | exact ToD.row _ _ _ _ _ rfl) | exact ResX.cellA _ _ _ _ _ _ _ rfl rfl rfl (by first | (simp only [normV, normList, normMap]; rfl) | rfl) rfl | exact ResX.cell1 _ _ _ _ _ _ rfl rfl rfl (by first | exact ToD.d _ | exact ToD.row _ _ _ _ _ rfl)) (by first | exact ResX.tmp _ _ (by first | exact ToD.d _ | exact ToD.row _ _ _ _ _ rfl) | exact ResX.cellA _ _ _ _ _ _ _ rfl rfl rfl (by first | (simp only [normV, normList, normMap]; rfl) | rfl) rfl | exact ResX.cell1 _ _ _ _ _ _ rfl rfl rfl (by first | exact ToD.d _ | exact ToD.row _ _ _ _ _ rfl)) rfl k1
 ·rw [if_neg he] at hV
  have q0 : (!decide (e = 0)) = true := by simp [he]
  refine pure_enterD Tryz.func9 rfl (by decide) _ Tryz.ntmps9 (le_ok rfl) (fun w Pr hE => ?_)
  dsimp only [slotsOf, Nat.zero_add, Nat.reduceAdd]
  repeat' (first | (apply at_call; refine k_ocall [(16, 18)] (hopen) hE ?_; rintro _ _ ⟨rfl, rfl⟩ <;> (intro _ _ h1 h2; simp only [renEqs, Nat.reduceBEq, renL_app, renL_ds, renL_und] at h1 h2; subst h1 h2)) | refine nx ?_ | apply aq_pq | (apply qr_move; refine r_move ?_) | (apply qr_assign; refine r_assign ?_) | (apply at_cond; first | refine c_t ?_ | refine c_f ?_ | (refine aw_cond rfl (fun hb => ?_) (fun hb => ?_) <;> ((try have hq := dX hb); (try (exfalso; omega))))) | (apply qr_neq; refine r_neq ?_) | (apply qr_extract; refine r_extract ?_) | (apply qr_load; refine r_load ?_) | (apply qr_alloc; refine r_alloc ?_) | (apply qr_store; refine r_store ?_))
  refine aw_mixo ([(3, intB p), (4, errB e)]) [(0, true), (1, true), (2, true), (3, false)] [4, 5] (by kernel_rfl) (by kernel_rfl) (by kernel_rfl) (by decide) (by (repeat (first | exact obs_nil | (apply obs_cons; focus (first | rfl | (simp [find]; done)))))) ?_
  simp only [planned, tailed, List.filterMap_cons, List.filterMap_nil, List.getElem?_cons_zero, List.getElem?_cons_succ, Option.map_some]
  repeat' (first | apply am_nil | refine m_skip ?_ | refine n_skip ?_ | (apply at_am (.store _ _ _); refine am_store (by first | exact want_none | exact want_yes rfl rfl (by assumption) | exact want_yes rfl rfl (by with_reducible rfl)) rfl rfl rfl (ev_d rfl) nofun (by first | (simp only [normV, normList, normMap]; rfl) | rfl) (by simp [V.one, Value.oneCell']) (.inr rfl) rfl (le_ok rfl) (by first | (simp only [normV, normList, normMap]; rfl) | rfl) ?_) | (apply qm_load; refine m_load ?_) | (apply qm_build; refine m_build ?_) | (refine am_split rfl rfl (fun hb => ?_) (fun hb => ?_) <;> ((try have hq := dX hb); (try (exfalso; omega)))))
  repeat' (first | refine nx ?_ | apply aq_pq | (apply at_cond; first | refine c_t ?_ | refine c_f ?_ | (refine aw_cond rfl (fun hb => ?_) (fun hb => ?_) <;> ((try have hq := dX hb); (try (exfalso; omega))))) | (apply qr_load; refine r_load ?_) | (apply qr_store; refine r_store ?_) | (apply qr_build; refine r_build ?_))
  refine aq_nilcell 2 1 6 rfl rfl rfl ?_
  refine aq_nilcell 2 6 5 rfl rfl rfl ?_
  refine aq_nilcell 2 11 5 rfl rfl rfl ?_
  refine aq_nilcell 2 16 5 rfl rfl rfl ?_
  refine aq_nilcell 2 21 5 rfl rfl rfl ?_
  refine aq_d0 (.inl rfl) ?_
  rw [hV]
  refine ret3x (by rfl) (by first | exact ResX.tmp _ _ (by first | exact ToD.d _ | exact ToD.row _ _ _ _ _ rfl) | exact ResX.cellA _ _ _ _ _ _ _ rfl rfl rfl (by first | (simp only [normV, normList, normMap]; rfl) | rfl) rfl | exact ResX.cell1 _ _ _ _ _ _ rfl rfl rfl (by first | exact ToD.d _ | exact ToD.row _ _ _ _ _ rfl)) (by first | exact ResX.tmp _ _ (by first | exact ToD.d _ | exact ToD.row _ _ _ _ _ rfl) | exact ResX.cellA _ _ _ _ _ _ _ rfl rfl rfl (by first | (simp only [normV, normList, normMap]; rfl) | rfl) rfl | exact ResX.cell1 _ _ _ _ _ _ rfl rfl rfl (by first | exact ToD.d _ | exact ToD.row _ _ _ _ _ rfl)) (by first | exact ResX.tmp _ _ (by first | exact ToD.d _ | exact ToD.row _ _ _ _ _ rfl) | exact ResX.cellA _ _ _ _ _ _ _ rfl rfl rfl (by first | (simp only [normV, normList, normMap]; rfl) | rfl) rfl | exact ResX.cell1 _ _ _ _ _ _ rfl rfl rfl (by first | exact ToD.d _ | exact ToD.row _ _ _ _ _ rfl)) ?_
  rfl
end Go.Proofs.YtedoeogopmenpaaGreatDoor
end
