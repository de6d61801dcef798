/-
  Conditions: none.
-/
import Derived.Laws.IdiomStrings
import Derived.Lib.BufferRead
import Derived.Lib.AppendIntMem
import Derived.Test.YtedoeogopmenpaaGreatDoorMam
set_option maxHeartbeats 16000000
set_option maxRecDepth 20000
section
set_option linter.unusedSimpArgs false
set_option linter.unusedVariables false
namespace Go.Proofs.YtedoeogopmenpaaGreatDoor
open Go.RowKit
theorem any_take {α : Type} (f : α → Bool) {l : List α} {i : Nat} (h : i < l.length) : (l.take (i + 1)).any f = ((l.take i).any f || f l[i]) := by
 rw [List.take_succ_eq_append_getElem h, List.any_append]
 simp only [List.any_cons, List.any_nil, Bool.or_false]
theorem index_str (l : List ByteArray) (s : ByteArray) (hl : l.length ≤ 9223372036854775807) : PureC 102 [strsD l, .str s] (fun r => ∃ i : Int, r = .int i ∧ decide (0 ≤ i) = l.any (fun w => decide (w = s))) := by
 refine pure_enter Tryz.func102 rfl (by decide) _ Tryz.ntmps102 (le_ok rfl) (fun w Pr hE => ?_)
 dsimp only [slotsOf, Nat.zero_add, Nat.reduceAdd]
 repeat' (first | refine nx ?_ | (apply aq_block_y; decide) | (apply qr_move; refine r_move ?_) | (apply qr_assign; refine r_assign ?_) | (apply at_cond; first | refine c_t ?_ | refine c_f ?_ | (refine aw_cond rfl (fun hb => ?_) (fun hb => ?_) <;> ((try have hq := dX hb); (try (exfalso; omega))))) | (apply qr_lss; refine r_lss ?_) | (apply qr_eql; refine r_eql ?_) | (apply qr_add; refine r_add ?_) | (apply qr_len; refine r_len ?_) | (apply qr_ix; refine r_ix ?_) | (apply qr_load; refine r_load ?_))
 refine aw_lp (fun N sl ob => ∃ i : Nat, N = l.length - i ∧ i ≤ l.length ∧ (l.take i).any (fun w => decide (w = s)) = false ∧ sl = [(8, .d (.int i)), (7, .d (.int l.length)), (0, .d (strsD l)), (1, .d (.str s))] ∧ ob = []) (⟨0, rfl, Nat.zero_le _, by simp, rfl, rfl⟩) ?_
 rintro N sl ob ⟨i, rfl, hi, hs, rfl, rfl⟩
 by_cases hlt : i < l.length
 ·have hg : (l.map fun s => [D.str s])[i]? = some [D.str l[i]] := by rw [get_map hlt]
  by_cases he : s = l[i]
  ·have q : decide (s = l[i]) = true := decide_eq_true he
   have hany : l.any (fun w => decide (w = s)) = true := by
    rw [List.any_eq_true]
    exact ⟨l[i], List.getElem_mem hlt, by simp [he]⟩
   generalize hx : l[i] = x at q hg
   repeat' (first | (apply at_op (.indexAddr _ _ _); refine al_ixq hg ?_) | refine nx ?_ | (apply aq_block_y; decide) | (apply qr_move; refine r_move ?_) | (apply qr_assign; refine r_assign ?_) | (apply at_cond; first | refine c_t ?_ | refine c_f ?_ | (refine aw_cond rfl (fun hb => ?_) (fun hb => ?_) <;> ((try have hq := dX hb); (try (exfalso; omega))))) | (apply qr_lss; refine r_lss ?_) | (apply qr_eql; refine r_eql ?_) | (apply qr_add; refine r_add ?_) | (apply qr_len; refine r_len ?_) | (apply qr_ix; refine r_ix ?_) | (apply qr_load; refine r_load ?_))
   refine rt1 ?_
   exact ⟨i, rfl, by rw [hany]; exact decide_eq_true (by omega)⟩
  ·have q : decide (s = l[i]) = false := decide_eq_false he
   have hnext : (l.take (i + 1)).any (fun w => decide (w = s)) = false := by
    rw [any_take _ hlt, hs, Bool.false_or]
    exact decide_eq_false (fun h => he h.symm)
   generalize hx : l[i] = x at q hg
   repeat' (first | (apply at_op (.indexAddr _ _ _); refine al_ixq hg ?_) | refine nx ?_ | (apply aq_block_y; decide) | (apply qr_move; refine r_move ?_) | (apply qr_assign; refine r_assign ?_) | (apply at_cond; first | refine c_t ?_ | refine c_f ?_ | (refine aw_cond rfl (fun hb => ?_) (fun hb => ?_) <;> ((try have hq := dX hb); (try (exfalso; omega))))) | (apply qr_lss; refine r_lss ?_) | (apply qr_eql; refine r_eql ?_) | (apply qr_add; refine r_add ?_) | (apply qr_len; refine r_len ?_) | (apply qr_ix; refine r_ix ?_) | (apply qr_load; refine r_load ?_))
   refine aq_rd (⟨i + 1, rfl, by omega, hnext, rfl, rfl⟩) (by omega)
 ·rw [List.take_of_length_le (by omega)] at hs
  repeat' (first | refine nx ?_ | (apply aq_block_y; decide) | (apply qr_move; refine r_move ?_) | (apply qr_assign; refine r_assign ?_) | (apply at_cond; first | refine c_t ?_ | refine c_f ?_ | (refine aw_cond rfl (fun hb => ?_) (fun hb => ?_) <;> ((try have hq := dX hb); (try (exfalso; omega))))) | (apply qr_lss; refine r_lss ?_) | (apply qr_eql; refine r_eql ?_) | (apply qr_add; refine r_add ?_) | (apply qr_len; refine r_len ?_) | (apply qr_ix; refine r_ix ?_) | (apply qr_load; refine r_load ?_))
  refine rt1 ?_
  exact ⟨-1, rfl, by rw [hs]; rfl⟩
theorem contains_str (l : List ByteArray) (s : ByteArray) (hl : l.length ≤ 9223372036854775807) : PureC 48 [strsD l, .str s] (· = .bool (l.any fun w => decide (w = s))) := by
 refine pure_enter Tryz.func48 rfl (by decide) _ Tryz.ntmps48 (le_ok rfl) (fun w Pr hE => ?_)
 dsimp only [slotsOf, Nat.zero_add, Nat.reduceAdd]
 repeat' (first | (apply at_call; refine k_call (index_str l s hl) hE ?_; rintro _ ⟨i, rfl, hi⟩) | refine nx ?_ | (apply qr_move; refine r_move ?_) | (apply qr_assign; refine r_assign ?_) | (apply qr_geq; refine r_geq ?_))
 refine rt1 ?_
 rw [hi]
theorem reserved_any : PureC 49 [] (· = strsD reservedL) := by
 refine pure_enter Tryz.func49 rfl (by decide) _ Tryz.ntmps49 (le_ok rfl) (fun w Pr hE => ?_)
 dsimp only [slotsOf, Nat.zero_add, Nat.reduceAdd]
 repeat' (first | refine nx ?_ | (apply qr_assign; refine r_assign ?_) | (apply qr_lits; refine r_lits ?_))
 refine rt1 ?_
 rfl
theorem name_any (s : ByteArray) (hs : s.size ≤ 9223372036854775807) : PureC 15 [.str s] (· = .bool (nameV s)) := by
 cases hw : wordB s
 ·have hN : nameV s = false := by simp [nameV, hw]
  rw [hN]
  refine pure_enter Tryz.func15 rfl (by decide) _ Tryz.ntmps15 (le_ok rfl) (fun w Pr hE => ?_)
  dsimp only [slotsOf, Nat.zero_add, Nat.reduceAdd]
  repeat' (first | (apply at_call; refine k_call (word_any s hs) hE ?_; rintro _ rfl) | refine nx ?_ | (apply qr_move; refine r_move ?_) | (apply qr_assign; refine r_assign ?_) | (apply at_guard; first | refine g_go ?_ | refine g_nt ?_ | refine g_nf ?_ | refine g_nu ?_ | ((first | refine al_split_t rfl rfl (lt_ok rfl) (fun hb => ?_) (fun hb => ?_) | refine al_split_f rfl rfl (lt_ok rfl) (fun hb => ?_) (fun hb => ?_)) <;> ((try have hq := dX hb); (try (exfalso; omega))))) | (apply qr_pick; refine r_pick ?_) | (apply qr_not; refine r_not ?_))
  refine rt1 ?_
  rfl
 ·have hN : nameV s = !(reservedL.any fun w => decide (w = s)) := by simp [nameV, hw]
  rw [hN]
  refine pure_enter Tryz.func15 rfl (by decide) _ Tryz.ntmps15 (le_ok rfl) (fun w Pr hE => ?_)
  dsimp only [slotsOf, Nat.zero_add, Nat.reduceAdd]
  repeat' (first | (apply at_call; refine k_call (word_any s hs) hE ?_; rintro _ rfl) | (apply at_call; refine k_call (reserved_any) hE ?_; rintro _ rfl) | (apply at_call; refine k_call (contains_str reservedL s (by decide)) hE ?_; rintro _ rfl) | refine nx ?_ | (apply qr_move; refine r_move ?_) | (apply qr_assign; refine r_assign ?_) | (apply at_guard; first | refine g_go ?_ | refine g_nt ?_ | refine g_nf ?_ | refine g_nu ?_ | ((first | refine al_split_t rfl rfl (lt_ok rfl) (fun hb => ?_) (fun hb => ?_) | refine al_split_f rfl rfl (lt_ok rfl) (fun hb => ?_) (fun hb => ?_)) <;> ((try have hq := dX hb); (try (exfalso; omega))))) | (apply qr_pick; refine r_pick ?_) | (apply qr_not; refine r_not ?_))
  refine rt1 ?_
  rfl
def Texts (l : List Tok) : Prop := ∀ t ∈ l, t.s.size ≤ 100000
theorem Texts.suf {l t : List Tok} (h : Texts l) (hs : Suf l t) : Texts t := by
 obtain ⟨m, rfl, _⟩ := hs
 exact fun x hx => h x (by simp [hx])
theorem Texts.nxt {l : List Tok} (h : Texts l) : (nxt l).s.size ≤ 100000 := by
 cases l with
 | nil => exact Nat.zero_le _
 | cons x r => exact h x (by simp)
theorem pnamed {L l : List Tok} (h : Rdy L l) (ht : Texts l) : ObC 125 [.box 1000 0] (psr L l) [] (fun x o => x = .d (.bool (decide ((nxt l).k = 0) && nameV (nxt l).s)) ∧ o = psr L l) := by
 have hz := ht.nxt
 by_cases hk : (nxt l).k = 0
 ·have q1 : decide ((nxt l).k = 0) = true := decide_eq_true hk
  rw [q1, Bool.true_and]
  refine ob_enter Tryz.func125 rfl (by decide) _ Tryz.ntmps125 (le_ok rfl) rfl (fun w Pr β κ hE => ?_)
  dsimp only [slotsV, Nat.zero_add, Nat.reduceAdd]
  repeat' (first | (apply at_call; refine k_ocall [(1000, 1000)] (pnext h) hE ?_; rintro _ _ ⟨rfl, rfl⟩ <;> (intro _ _ h1 h2; simp only [renEqs, Nat.reduceBEq, renL_app, renL_ds, renL_und] at h1 h2; subst h1 h2)) | (apply at_call; refine k_call (name_any (nxt l).s (by omega)) hE ?_; rintro _ rfl) | refine nx ?_ | (apply qr_move; refine r_move ?_) | (apply qr_assign; refine r_assign ?_) | (apply at_guard; first | refine g_go ?_ | refine g_nt ?_ | refine g_nf ?_ | refine g_nu ?_ | ((first | refine al_split_t rfl rfl (lt_ok rfl) (fun hb => ?_) (fun hb => ?_) | refine al_split_f rfl rfl (lt_ok rfl) (fun hb => ?_) (fun hb => ?_)) <;> ((try have hq := dX hb); (try (exfalso; omega))))) | (apply qr_pick; refine r_pick ?_) | (apply qr_eql; refine r_eql ?_) | (apply qr_field; refine r_field ?_))
  refine oret1 (psr L l) (by rfl) rv (⟨rfl, rfl⟩) sb okx
 ·have q1 : decide ((nxt l).k = 0) = false := decide_eq_false hk
  rw [q1, Bool.false_and]
  refine ob_enter Tryz.func125 rfl (by decide) _ Tryz.ntmps125 (le_ok rfl) rfl (fun w Pr β κ hE => ?_)
  dsimp only [slotsV, Nat.zero_add, Nat.reduceAdd]
  repeat' (first | (apply at_call; refine k_ocall [(1000, 1000)] (pnext h) hE ?_; rintro _ _ ⟨rfl, rfl⟩ <;> (intro _ _ h1 h2; simp only [renEqs, Nat.reduceBEq, renL_app, renL_ds, renL_und] at h1 h2; subst h1 h2)) | refine nx ?_ | (apply qr_move; refine r_move ?_) | (apply qr_assign; refine r_assign ?_) | (apply at_guard; first | refine g_go ?_ | refine g_nt ?_ | refine g_nf ?_ | refine g_nu ?_ | ((first | refine al_split_t rfl rfl (lt_ok rfl) (fun hb => ?_) (fun hb => ?_) | refine al_split_f rfl rfl (lt_ok rfl) (fun hb => ?_) (fun hb => ?_)) <;> ((try have hq := dX hb); (try (exfalso; omega))))) | (apply qr_pick; refine r_pick ?_) | (apply qr_eql; refine r_eql ?_) | (apply qr_field; refine r_field ?_))
  refine oret1 (psr L l) (by rfl) rv (⟨rfl, rfl⟩) sb okx
theorem pname {L l : List Tok} (h : Rdy L l) (ht : Texts l) : ObP 79 [.box 1000 0] (psr L l) [] (Out (nameP nameV l) (fun s => .d (.str s)) (psr L)) (Bads (nameP nameV l)) := by
 have hle := h.le
 by_cases hn : (nxt l).k = 0 ∧ nameV (nxt l).s = true
 ·refine ok_out (a := (nxt l).s) (t := l.drop 1) ?_ (by simp [nameP, hn.1, hn.2])
  have hq : (decide ((nxt l).k = 0) && nameV (nxt l).s) = true := by simp [hn.1, hn.2]
  have hnamed := pnamed h ht
  rw [hq] at hnamed
  refine ob_enter Tryz.func79 rfl (by decide) _ Tryz.ntmps79 (le_ok rfl) rfl (fun w Pr β κ hE => ?_)
  dsimp only [slotsV, Nat.zero_add, Nat.reduceAdd]
  repeat' (first | (apply at_call; refine k_ocall [(1000, 1000)] (hnamed) hE ?_; rintro _ _ ⟨rfl, rfl⟩ <;> (intro _ _ h1 h2; simp only [renEqs, Nat.reduceBEq, renL_app, renL_ds, renL_und] at h1 h2; subst h1 h2)) | (apply at_call; refine k_ocall [(1000, 1000)] (pcheck_y 12) hE ?_; rintro _ _ ⟨rfl, rfl⟩ <;> (intro _ _ h1 h2; simp only [renEqs, Nat.reduceBEq, renL_app, renL_ds, renL_und] at h1 h2; subst h1 h2)) | (apply at_call; refine k_ocall [(1000, 1000)] (pnext h) hE ?_; rintro _ _ ⟨rfl, rfl⟩ <;> (intro _ _ h1 h2; simp only [renEqs, Nat.reduceBEq, renL_app, renL_ds, renL_und] at h1 h2; subst h1 h2)) | refine nx ?_ | (apply qr_move; refine r_move ?_) | (apply qr_assign; refine r_assign ?_) | (apply qr_add; refine r_add ?_) | (apply qr_load; refine r_load ?_) | (apply qr_faddr; refine r_faddr ?_) | (apply qr_field; refine r_field ?_) | (apply qr_nilck; refine r_nilck ?_) | (apply qr_store; refine r_store ?_))
  rw [h.step]
  refine oret1 (psr L (l.drop 1)) (by rfl) rv (⟨rfl, rfl⟩) sb okx
 ·refine bad_out (p := (nxt l).p) (e := 12) ?_ (by simp only [nameP, if_neg hn])
  have hq : (decide ((nxt l).k = 0) && nameV (nxt l).s) = false := by
   cases hv : nameV (nxt l).s
   ·simp
   ·simp [hv] at hn
    simp [hn]
  have hnamed := pnamed h ht
  rw [hq] at hnamed
  refine obp_enter Tryz.func79 rfl (by decide) _ Tryz.ntmps79 (le_ok rfl) rfl (fun w Pr β κ hE => ?_)
  dsimp only [slotsV, Nat.zero_add, Nat.reduceAdd]
  repeat' (first | (apply at_call; refine k_ocall [(1000, 1000)] (hnamed) hE ?_; rintro _ _ ⟨rfl, rfl⟩ <;> (intro _ _ h1 h2; simp only [renEqs, Nat.reduceBEq, renL_app, renL_ds, renL_und] at h1 h2; subst h1 h2)) | (apply at_call; refine k_pcall [(1000, 1000)] (pcheck_n h 12) hE (fun v hv => by subst hv; (repeat (first | with_reducible refine ap_block ?_ | with_reducible refine ap_then ?_)); first | exact ap_body ⟨_, _, hR, rfl⟩ | exact ap_body ⟨_, _, rfl, rfl⟩ | exact ap_body rfl) (fun _ _ h => h.elim)) | refine nx ?_ | apply aq_pq | (apply qr_move; refine r_move ?_) | (apply qr_assign; refine r_assign ?_) | (apply qr_add; refine r_add ?_) | (apply qr_load; refine r_load ?_) | (apply qr_faddr; refine r_faddr ?_) | (apply qr_field; refine r_field ?_) | (apply qr_nilck; refine r_nilck ?_) | (apply qr_store; refine r_store ?_))
def numP (least most : Int) (l : List Tok) : Rd Int :=
 if (nxt l).k = 1 then (if least ≤ (nxt l).n ∧ (nxt l).n ≤ most then .ok (nxt l).n (l.drop 1) else .bad (nxt l).p 3) else .bad (nxt l).p 12
theorem pnumber {L l : List Tok} (h : Rdy L l) (least most : Int) : ObP 127 [.box 1000 0, .d (.int least), .d (.int most)] (psr L l) [] (Out (numP least most l) (fun n => .d (.int n)) (psr L)) (Bads (numP least most l)) := by
 have hle := h.le
 by_cases hk : (nxt l).k = 1
 ·have q1 : decide ((nxt l).k = 1) = true := decide_eq_true hk
  by_cases h1 : least ≤ (nxt l).n
  ·have q2 : decide (least ≤ (nxt l).n) = true := decide_eq_true h1
   by_cases h2 : (nxt l).n ≤ most
   ·have q3 : decide ((nxt l).n ≤ most) = true := decide_eq_true h2
    refine ok_out (a := (nxt l).n) (t := l.drop 1) ?_ (by simp [numP, hk, h1, h2])
    have c1 := pcheck_y (L := L) (l := l) 12
    rw [← q1] at c1
    have c2 := pcheck_y (L := L) (l := l) 3
    rw [← q3] at c2
    refine ob_enter Tryz.func127 rfl (by decide) _ Tryz.ntmps127 (le_ok rfl) rfl (fun w Pr β κ hE => ?_)
    dsimp only [slotsV, Nat.zero_add, Nat.reduceAdd]
    repeat' (first | (apply at_call; refine k_ocall [(1000, 1000)] (pnext h) hE ?_; rintro _ _ ⟨rfl, rfl⟩ <;> (intro _ _ h1 h2; simp only [renEqs, Nat.reduceBEq, renL_app, renL_ds, renL_und] at h1 h2; subst h1 h2)) | (apply at_call; refine k_ocall [(1000, 1000)] (c1) hE ?_; rintro _ _ ⟨rfl, rfl⟩ <;> (intro _ _ h1 h2; simp only [renEqs, Nat.reduceBEq, renL_app, renL_ds, renL_und] at h1 h2; subst h1 h2)) | (apply at_call; refine k_ocall [(1000, 1000)] (c2) hE ?_; rintro _ _ ⟨rfl, rfl⟩ <;> (intro _ _ h1 h2; simp only [renEqs, Nat.reduceBEq, renL_app, renL_ds, renL_und] at h1 h2; subst h1 h2)) | refine nx ?_ | apply aq_pq | (apply qr_move; refine r_move ?_) | (apply qr_assign; refine r_assign ?_) | (apply at_guard; first | refine g_go ?_ | refine g_nt ?_ | refine g_nf ?_ | refine g_nu ?_ | ((first | refine al_split_t rfl rfl (lt_ok rfl) (fun hb => ?_) (fun hb => ?_) | refine al_split_f rfl rfl (lt_ok rfl) (fun hb => ?_) (fun hb => ?_)) <;> ((try have hq := dX hb); (try (exfalso; omega))))) | (apply qr_pick; refine r_pick ?_) | (apply qr_leq; refine r_leq ?_) | (apply qr_eql; refine r_eql ?_) | (apply qr_add; refine r_add ?_) | (apply qr_load; refine r_load ?_) | (apply qr_faddr; refine r_faddr ?_) | (apply qr_nilck; refine r_nilck ?_) | (apply qr_alloc; refine r_alloc ?_) | (apply qr_store; refine r_store ?_))
    rw [h.step]
    refine oret1 (psr L (l.drop 1)) (by rfl) rv (⟨rfl, rfl⟩) sb okx
   ·have q3 : decide ((nxt l).n ≤ most) = false := decide_eq_false h2
    refine bad_out (p := (nxt l).p) (e := 3) ?_ (by simp [numP, hk, h2])
    have c1 := pcheck_y (L := L) (l := l) 12
    rw [← q1] at c1
    have c2 := pcheck_n h 3
    rw [← q3] at c2
    refine obp_enter Tryz.func127 rfl (by decide) _ Tryz.ntmps127 (le_ok rfl) rfl (fun w Pr β κ hE => ?_)
    dsimp only [slotsV, Nat.zero_add, Nat.reduceAdd]
    repeat' (first | (apply at_call; refine k_ocall [(1000, 1000)] (pnext h) hE ?_; rintro _ _ ⟨rfl, rfl⟩ <;> (intro _ _ h1 h2; simp only [renEqs, Nat.reduceBEq, renL_app, renL_ds, renL_und] at h1 h2; subst h1 h2)) | (apply at_call; refine k_ocall [(1000, 1000)] (c1) hE ?_; rintro _ _ ⟨rfl, rfl⟩ <;> (intro _ _ h1 h2; simp only [renEqs, Nat.reduceBEq, renL_app, renL_ds, renL_und] at h1 h2; subst h1 h2)) | (apply at_call; refine k_pcall [(1000, 1000)] (c2) hE (fun v hv => by subst hv; (repeat (first | with_reducible refine ap_block ?_ | with_reducible refine ap_then ?_)); first | exact ap_body ⟨_, _, hR, rfl⟩ | exact ap_body ⟨_, _, rfl, rfl⟩ | exact ap_body rfl) (fun _ _ h => h.elim)) | refine nx ?_ | apply aq_pq | (apply qr_move; refine r_move ?_) | (apply qr_assign; refine r_assign ?_) | (apply at_guard; first | refine g_go ?_ | refine g_nt ?_ | refine g_nf ?_ | refine g_nu ?_ | ((first | refine al_split_t rfl rfl (lt_ok rfl) (fun hb => ?_) (fun hb => ?_) | refine al_split_f rfl rfl (lt_ok rfl) (fun hb => ?_) (fun hb => ?_)) <;> ((try have hq := dX hb); (try (exfalso; omega))))) | (apply qr_pick; refine r_pick ?_) | (apply qr_leq; refine r_leq ?_) | (apply qr_eql; refine r_eql ?_) | (apply qr_add; refine r_add ?_) | (apply qr_load; refine r_load ?_) | (apply qr_faddr; refine r_faddr ?_) | (apply qr_nilck; refine r_nilck ?_) | (apply qr_alloc; refine r_alloc ?_) | (apply qr_store; refine r_store ?_))
  ·have q2 : decide (least ≤ (nxt l).n) = false := decide_eq_false h1
   refine bad_out (p := (nxt l).p) (e := 3) ?_ (by simp [numP, hk, h1])
   have c1 := pcheck_y (L := L) (l := l) 12
   rw [← q1] at c1
   refine obp_enter Tryz.func127 rfl (by decide) _ Tryz.ntmps127 (le_ok rfl) rfl (fun w Pr β κ hE => ?_)
   dsimp only [slotsV, Nat.zero_add, Nat.reduceAdd]
   repeat' (first | (apply at_call; refine k_ocall [(1000, 1000)] (pnext h) hE ?_; rintro _ _ ⟨rfl, rfl⟩ <;> (intro _ _ h1 h2; simp only [renEqs, Nat.reduceBEq, renL_app, renL_ds, renL_und] at h1 h2; subst h1 h2)) | (apply at_call; refine k_ocall [(1000, 1000)] (c1) hE ?_; rintro _ _ ⟨rfl, rfl⟩ <;> (intro _ _ h1 h2; simp only [renEqs, Nat.reduceBEq, renL_app, renL_ds, renL_und] at h1 h2; subst h1 h2)) | (apply at_call; refine k_pcall [(1000, 1000)] (pcheck_n h 3) hE (fun v hv => by subst hv; (repeat (first | with_reducible refine ap_block ?_ | with_reducible refine ap_then ?_)); first | exact ap_body ⟨_, _, hR, rfl⟩ | exact ap_body ⟨_, _, rfl, rfl⟩ | exact ap_body rfl) (fun _ _ h => h.elim)) | refine nx ?_ | apply aq_pq | (apply qr_move; refine r_move ?_) | (apply qr_assign; refine r_assign ?_) | (apply at_guard; first | refine g_go ?_ | refine g_nt ?_ | refine g_nf ?_ | refine g_nu ?_ | ((first | refine al_split_t rfl rfl (lt_ok rfl) (fun hb => ?_) (fun hb => ?_) | refine al_split_f rfl rfl (lt_ok rfl) (fun hb => ?_) (fun hb => ?_)) <;> ((try have hq := dX hb); (try (exfalso; omega))))) | (apply qr_pick; refine r_pick ?_) | (apply qr_leq; refine r_leq ?_) | (apply qr_eql; refine r_eql ?_) | (apply qr_add; refine r_add ?_) | (apply qr_load; refine r_load ?_) | (apply qr_faddr; refine r_faddr ?_) | (apply qr_nilck; refine r_nilck ?_) | (apply qr_alloc; refine r_alloc ?_) | (apply qr_store; refine r_store ?_))
 ·have q1 : decide ((nxt l).k = 1) = false := decide_eq_false hk
  refine bad_out (p := (nxt l).p) (e := 12) ?_ (by simp [numP, hk])
  have c1 := pcheck_n h 12
  rw [← q1] at c1
  refine obp_enter Tryz.func127 rfl (by decide) _ Tryz.ntmps127 (le_ok rfl) rfl (fun w Pr β κ hE => ?_)
  dsimp only [slotsV, Nat.zero_add, Nat.reduceAdd]
  repeat' (first | (apply at_call; refine k_ocall [(1000, 1000)] (pnext h) hE ?_; rintro _ _ ⟨rfl, rfl⟩ <;> (intro _ _ h1 h2; simp only [renEqs, Nat.reduceBEq, renL_app, renL_ds, renL_und] at h1 h2; subst h1 h2)) | (apply at_call; refine k_pcall [(1000, 1000)] (c1) hE (fun v hv => by subst hv; (repeat (first | with_reducible refine ap_block ?_ | with_reducible refine ap_then ?_)); first | exact ap_body ⟨_, _, hR, rfl⟩ | exact ap_body ⟨_, _, rfl, rfl⟩ | exact ap_body rfl) (fun _ _ h => h.elim)) | refine nx ?_ | apply aq_pq | (apply qr_move; refine r_move ?_) | (apply qr_assign; refine r_assign ?_) | (apply at_guard; first | refine g_go ?_ | refine g_nt ?_ | refine g_nf ?_ | refine g_nu ?_ | ((first | refine al_split_t rfl rfl (lt_ok rfl) (fun hb => ?_) (fun hb => ?_) | refine al_split_f rfl rfl (lt_ok rfl) (fun hb => ?_) (fun hb => ?_)) <;> ((try have hq := dX hb); (try (exfalso; omega))))) | (apply qr_pick; refine r_pick ?_) | (apply qr_leq; refine r_leq ?_) | (apply qr_eql; refine r_eql ?_) | (apply qr_add; refine r_add ?_) | (apply qr_load; refine r_load ?_) | (apply qr_faddr; refine r_faddr ?_) | (apply qr_nilck; refine r_nilck ?_) | (apply qr_alloc; refine r_alloc ?_) | (apply qr_store; refine r_store ?_))
theorem punit {L l : List Tok} (h : Rdy L l) : ObC 142 [.box 1000 0] (psr L l) [] (fun x o => x = .d (.int (unitP l).1) ∧ o = psr L (unitP l).2) := by
 cases h1 : isT l w_cents
 ·cases h2 : isT l w_minutes
  ·simp only [unitP, h1, h2, Bool.false_eq_true, if_false]
   refine ob_enter Tryz.func142 rfl (by decide) _ Tryz.ntmps142 (le_ok rfl) rfl (fun w Pr β κ hE => ?_)
   dsimp only [slotsV, Nat.zero_add, Nat.reduceAdd]
   repeat' (first | (apply at_call; refine k_ocall [(1000, 1000)] (phas_n h w_cents h1) hE ?_; rintro _ _ ⟨rfl, rfl⟩ <;> (intro _ _ h1 h2; simp only [renEqs, Nat.reduceBEq, renL_app, renL_ds, renL_und] at h1 h2; subst h1 h2)) | (apply at_call; refine k_ocall [(1000, 1000)] (phas_n h w_minutes h2) hE ?_; rintro _ _ ⟨rfl, rfl⟩ <;> (intro _ _ h1 h2; simp only [renEqs, Nat.reduceBEq, renL_app, renL_ds, renL_und] at h1 h2; subst h1 h2)) | refine nx ?_ | apply aq_pq | (apply aq_block_y; decide) | (apply qr_move; refine r_move ?_) | (apply qr_assign; refine r_assign ?_) | (apply at_cond; first | refine c_t ?_ | refine c_f ?_ | (refine aw_cond rfl (fun hb => ?_) (fun hb => ?_) <;> ((try have hq := dX hb); (try (exfalso; omega))))))
   refine oret1 (psr L l) (by rfl) rv (⟨rfl, rfl⟩) sb okx
  ·simp only [unitP, h1, h2, Bool.false_eq_true, if_false, if_true]
   refine ob_enter Tryz.func142 rfl (by decide) _ Tryz.ntmps142 (le_ok rfl) rfl (fun w Pr β κ hE => ?_)
   dsimp only [slotsV, Nat.zero_add, Nat.reduceAdd]
   repeat' (first | (apply at_call; refine k_ocall [(1000, 1000)] (phas_n h w_cents h1) hE ?_; rintro _ _ ⟨rfl, rfl⟩ <;> (intro _ _ h1 h2; simp only [renEqs, Nat.reduceBEq, renL_app, renL_ds, renL_und] at h1 h2; subst h1 h2)) | (apply at_call; refine k_ocall [(1000, 1000)] (phas_y h w_minutes h2) hE ?_; rintro _ _ ⟨rfl, rfl⟩ <;> (intro _ _ h1 h2; simp only [renEqs, Nat.reduceBEq, renL_app, renL_ds, renL_und] at h1 h2; subst h1 h2)) | refine nx ?_ | apply aq_pq | (apply aq_block_y; decide) | (apply qr_move; refine r_move ?_) | (apply qr_assign; refine r_assign ?_) | (apply at_cond; first | refine c_t ?_ | refine c_f ?_ | (refine aw_cond rfl (fun hb => ?_) (fun hb => ?_) <;> ((try have hq := dX hb); (try (exfalso; omega))))))
   refine oret1 (psr L (l.drop 1)) (by rfl) rv (⟨rfl, rfl⟩) sb okx
 ·simp only [unitP, h1, if_true]
  refine ob_enter Tryz.func142 rfl (by decide) _ Tryz.ntmps142 (le_ok rfl) rfl (fun w Pr β κ hE => ?_)
  dsimp only [slotsV, Nat.zero_add, Nat.reduceAdd]
  repeat' (first | (apply at_call; refine k_ocall [(1000, 1000)] (phas_y h w_cents h1) hE ?_; rintro _ _ ⟨rfl, rfl⟩ <;> (intro _ _ h1 h2; simp only [renEqs, Nat.reduceBEq, renL_app, renL_ds, renL_und] at h1 h2; subst h1 h2)) | refine nx ?_ | apply aq_pq | (apply aq_block_y; decide) | (apply qr_move; refine r_move ?_) | (apply qr_assign; refine r_assign ?_) | (apply at_cond; first | refine c_t ?_ | refine c_f ?_ | (refine aw_cond rfl (fun hb => ?_) (fun hb => ?_) <;> ((try have hq := dX hb); (try (exfalso; omega))))))
  refine oret1 (psr L (l.drop 1)) (by rfl) rv (⟨rfl, rfl⟩) sb okx
mutual
def Ex.cells : Ex → List D
 | .mk op n u s a => [.int op, .int n, .int u, .str s, .list 5 (Ex.rows a)]
def Ex.rows : List Ex → List (List D)
 | [] => []
 | x :: r => Ex.cells x :: Ex.rows r
end
abbrev exC (e : Ex) : List D := [.int e.op, .int e.num, .int e.unit, .str e.str, .list 5 (Ex.rows e.args)]
theorem cells_ex (e : Ex) : e.cells = exC e := by
 cases e
 rfl
theorem rows_map : ∀ l : List Ex, Ex.rows l = l.map exC
 | [] => rfl
 | x :: r => by
  rw [List.map_cons, ← rows_map r, ← cells_ex x]
  rfl
theorem rows_len (l : List Ex) : (Ex.rows l).length = l.length := by rw [rows_map, List.length_map]
theorem levels_args (e : Ex) : e.levels = Ex.levelsL e.args + 1 := by
 cases e
 rfl
theorem levelsL_take {a : List Ex} {i : Nat} (h : i < a.length) : Ex.levelsL (a.take (i + 1)) = max (Ex.levelsL (a.take i)) a[i].levels := by
 induction a generalizing i with
 | nil => simp at h
 | cons x r ih =>
  cases i with
  | zero => simp [Ex.levelsL]
  | succ i =>
   simp only [List.take_succ_cons, Ex.levelsL, List.getElem_cons_succ]
   rw [ih (by simpa using h)]
   omega
theorem levelsL_get {a : List Ex} {i : Nat} (h : i < a.length) : a[i].levels ≤ Ex.levelsL a := by
 induction a generalizing i with
 | nil => simp at h
 | cons x r ih =>
  cases i with
  | zero => simp only [List.getElem_cons_zero, Ex.levelsL]; omega
  | succ i =>
   have := ih (i := i) (by simpa using h)
   simp only [List.getElem_cons_succ, Ex.levelsL]
   omega
theorem levelsL_take_le {a : List Ex} (i : Nat) : Ex.levelsL (a.take i) ≤ Ex.levelsL a := by
 induction a generalizing i with
 | nil => simp
 | cons x r ih =>
  cases i with
  | zero => simp [Ex.levelsL]
  | succ i =>
   have := ih i
   simp only [List.take_succ_cons, Ex.levelsL]
   omega
theorem rows_get {a : List Ex} {i : Nat} (h : i < a.length) : (Ex.rows a)[i]? = some (exC a[i]) := by rw [rows_map, List.getElem?_map, List.getElem?_eq_getElem h]; rfl
theorem max_nat (a b : Nat) : max (a : Int) (b : Int) = ((max a b : Nat) : Int) := by omega
end Go.Proofs.YtedoeogopmenpaaGreatDoor
end
section
set_option linter.unusedSimpArgs false
set_option linter.unusedVariables false
namespace Go.Proofs.YtedoeogopmenpaaGreatDoor
open Go.RowKit
theorem levels_any : ∀ (n : Nat) (e : Ex), e.levels ≤ n → n ≤ 1000000 → e.wid ≤ 9223372036854775807 → PureC 45 [.agg (exC e)] (· = .int e.levels)
 | 0, e, h, _, _ => by have := levels_pos e; omega
 | n + 1, e, h, hn, hw => by
  have hwa := wid_args e
  have hl := levels_args e
  have ih := levels_any n
  have hlen := rows_len e.args
  refine pure_enter Tryz.func45 rfl (by decide) _ Tryz.ntmps45 (le_ok rfl) (fun w Pr hE => ?_)
  dsimp only [slotsOf, Nat.zero_add, Nat.reduceAdd]
  repeat' (first | refine nx ?_ | (apply aq_block_y; decide) | (apply qr_move; refine r_move ?_) | (apply qr_assign; refine r_assign ?_) | (apply at_cond; first | refine c_t ?_ | refine c_f ?_ | (refine aw_cond rfl (fun hb => ?_) (fun hb => ?_) <;> ((try have hq := dX hb); (try (exfalso; omega))))) | (apply qr_lss; refine r_lss ?_) | (apply qr_add; refine r_add ?_) | (apply qr_max; refine r_max ?_) | (apply qr_len; refine r_len ?_) | (apply qr_ix; refine r_ix ?_) | (apply qr_load; refine r_load ?_) | (apply qr_faddr; refine r_faddr ?_) | (apply qr_alloc; refine r_alloc ?_) | (apply qr_boxed; refine r_boxed ?_) | (apply qr_store; refine r_store ?_))
  rw [hlen]
  refine aw_lp (fun N sl ob => ∃ i : Nat, N = e.args.length - i ∧ i ≤ e.args.length ∧ sl = [(9, .d (.int i)), (8, .d (.int e.args.length)), (7, .d (.list 5 (Ex.rows e.args))), (3, .d (.int (Ex.levelsL (e.args.take i))))] ∧ ob = []) (⟨0, rfl, Nat.zero_le _, rfl, rfl⟩) ?_
  rintro N sl ob ⟨i, rfl, hi, rfl, rfl⟩
  have hle := levelsL_take_le (a := e.args) i
  by_cases hlt : i < e.args.length
  ·have hg := rows_get hlt
   have hx := levelsL_get hlt
   have hwi := wid_get hlt
   have hc := ih e.args[i] (by omega) (by omega) (by omega)
   have ht := levelsL_take hlt
   generalize e.args[i] = x at hg hx hc ht hwi
   repeat' (first | (apply at_op (.indexAddr _ _ _); refine al_ixq hg ?_) | (apply at_call; refine k_call (hc) hE ?_; rintro _ rfl) | refine nx ?_ | (apply aq_block_y; decide) | (apply qr_move; refine r_move ?_) | (apply qr_assign; refine r_assign ?_) | (apply at_cond; first | refine c_t ?_ | refine c_f ?_ | (refine aw_cond rfl (fun hb => ?_) (fun hb => ?_) <;> ((try have hq := dX hb); (try (exfalso; omega))))) | (apply qr_lss; refine r_lss ?_) | (apply qr_add; refine r_add ?_) | (apply qr_max; refine r_max ?_) | (apply qr_len; refine r_len ?_) | (apply qr_ix; refine r_ix ?_) | (apply qr_load; refine r_load ?_) | (apply qr_faddr; refine r_faddr ?_) | (apply qr_alloc; refine r_alloc ?_) | (apply qr_boxed; refine r_boxed ?_) | (apply qr_store; refine r_store ?_))
   rw [max_nat, ← ht]
   refine aq_rd (⟨i + 1, rfl, by omega, rfl, rfl⟩) (by omega)
  ·obtain rfl : i = e.args.length := by omega
   rw [List.take_length]
   repeat' (first | refine nx ?_ | (apply aq_block_y; decide) | (apply qr_move; refine r_move ?_) | (apply qr_assign; refine r_assign ?_) | (apply at_cond; first | refine c_t ?_ | refine c_f ?_ | (refine aw_cond rfl (fun hb => ?_) (fun hb => ?_) <;> ((try have hq := dX hb); (try (exfalso; omega))))) | (apply qr_lss; refine r_lss ?_) | (apply qr_add; refine r_add ?_) | (apply qr_max; refine r_max ?_) | (apply qr_len; refine r_len ?_) | (apply qr_ix; refine r_ix ?_) | (apply qr_load; refine r_load ?_) | (apply qr_faddr; refine r_faddr ?_) | (apply qr_alloc; refine r_alloc ?_) | (apply qr_boxed; refine r_boxed ?_) | (apply qr_store; refine r_store ?_))
   refine rt1 ?_
   rw [hl]
   rfl
def opsL : List (ByteArray × Int × Int) := [(w_or, 14, 1), (w_and, 13, 2), (w_eq, 11, 4), (w_lt, 10, 4), (w_plus, 4, 5), (w_minus, 5, 5), (w_times, 6, 6), (w_by, 7, 6)]
abbrev opC (q : ByteArray × Int × Int) : List D := [.str q.1, .int q.2.1, .int q.2.2]
theorem operators_any : PureC 93 [] (· = .list 3 (opsL.map opC)) := by
 refine pure_enter Tryz.func93 rfl (by decide) _ Tryz.ntmps93 (le_ok rfl) (fun w Pr hE => ?_)
 dsimp only [slotsOf, Nat.zero_add, Nat.reduceAdd]
 repeat' (first | refine nx ?_ | (apply qr_assign; refine r_assign ?_) | (apply qr_build; refine r_build ?_) | (apply qr_lits; refine r_lits ?_))
 refine rt1 ?_
 rfl
abbrev pbx (L l : List Tok) : Objs := (1001, .box 56 [.box 1000 0]) :: psr L l
theorem exp1_any {L l : List Tok} (h : Rdy L l) (s : ByteArray) (a b : Int) : ObC 94 [.d (.agg [.str s, .int a, .int b]), .box 1001 0] (pbx L l) [] (fun x o => x = .d (.bool (isT l s)) ∧ o = pbx L l) := by
 refine ob_enter Tryz.func94 rfl (by decide) _ Tryz.ntmps94 (le_ok rfl) rfl (fun w Pr β κ hE => ?_)
 dsimp only [slotsV, Nat.zero_add, Nat.reduceAdd]
 repeat' (first | (apply at_call; refine k_ocall [(1000, 1000)] (pis h s) hE ?_; rintro _ _ ⟨rfl, rfl⟩ <;> (intro _ _ h1 h2; simp only [renEqs, Nat.reduceBEq, renL_app, renL_ds, renL_und] at h1 h2; subst h1 h2)) | refine nx ?_ | (apply qr_assign; refine r_assign ?_) | (apply qr_load; refine r_load ?_) | (apply qr_faddr; refine r_faddr ?_) | (apply qr_boxed; refine r_boxed ?_))
 refine oret1 (pbx L l) (by rfl) rv (⟨rfl, rfl⟩) sb okx
def SymI (l : List Tok) (r : Int) : Prop := (r = -1 ∧ symP l = none) ∨ ∃ (i : Nat) (q : ByteArray × Int × Int), i < 8 ∧ r = i ∧ opsL[i]? = some q ∧ symP l = some (q.2.1, q.2.2.toNat) ∧ 1 ≤ q.2.2 ∧ q.2.2 ≤ 6
theorem symI_no {l : List Tok} (h : ∀ q ∈ opsL, isT l q.1 = false) : symP l = none := by
 have h1 := h (w_or, 14, 1) (by simp [opsL])
 have h2 := h (w_and, 13, 2) (by simp [opsL])
 have h3 := h (w_eq, 11, 4) (by simp [opsL])
 have h4 := h (w_lt, 10, 4) (by simp [opsL])
 have h5 := h (w_plus, 4, 5) (by simp [opsL])
 have h6 := h (w_minus, 5, 5) (by simp [opsL])
 have h7 := h (w_times, 6, 6) (by simp [opsL])
 have h8 := h (w_by, 7, 6) (by simp [opsL])
 simp only at h1 h2 h3 h4 h5 h6 h7 h8
 simp only [symP, h1, h2, h3, h4, h5, h6, h7, h8, Bool.false_eq_true, if_false]
theorem isT_two {l : List Tok} {s t : ByteArray} (h : isT l s = true) (hne : s ≠ t) : isT l t = false := by
 obtain ⟨h1, h2⟩ := isT_k h
 simp [isT, h2, hne]
theorem symI_yes {l : List Tok} {i : Nat} {q : ByteArray × Int × Int} (hq : opsL[i]? = some q) (h : isT l q.1 = true) : symP l = some (q.2.1, q.2.2.toNat) ∧ 1 ≤ q.2.2 ∧ q.2.2 ≤ 6 := by
 have hall : ∀ t, t ≠ q.1 → isT l t = false := fun t ht => isT_two h (Ne.symm ht)
 match i, hq with
 | 0, hq => cases hq; exact ⟨by simp only [symP]; simp [h], by decide⟩
 | 1, hq => cases hq; exact ⟨by simp only [symP]; simp [h, hall w_or (by decide)], by decide⟩
 | 2, hq => cases hq; exact ⟨by simp only [symP]; simp [h, hall w_or (by decide), hall w_and (by decide)], by decide⟩
 | 3, hq => cases hq; exact ⟨by simp only [symP]; simp [h, hall w_or (by decide), hall w_and (by decide), hall w_eq (by decide)], by decide⟩
 | 4, hq => cases hq; exact ⟨by simp only [symP]; simp [h, hall w_or (by decide), hall w_and (by decide), hall w_eq (by decide), hall w_lt (by decide)], by decide⟩
 | 5, hq => cases hq; exact ⟨by simp only [symP]; simp [h, hall w_or (by decide), hall w_and (by decide), hall w_eq (by decide), hall w_lt (by decide), hall w_plus (by decide)], by decide⟩
 | 6, hq => cases hq; exact ⟨by simp only [symP]; simp [h, hall w_or (by decide), hall w_and (by decide), hall w_eq (by decide), hall w_lt (by decide), hall w_plus (by decide), hall w_minus (by decide)], by decide⟩
 | 7, hq => cases hq; exact ⟨by simp only [symP]; simp [h, hall w_or (by decide), hall w_and (by decide), hall w_eq (by decide), hall w_lt (by decide), hall w_plus (by decide), hall w_minus (by decide), hall w_times (by decide)], by decide⟩
 | i + 8, hq => simp [opsL] at hq
theorem pindex {L l : List Tok} (h : Rdy L l) : ObC 92 [.d (.list 3 (opsL.map opC)), .clo (.func 94) [.box 1001 0]] (pbx L l) [] (fun x o => (∃ r, x = .d (.int r) ∧ SymI l r) ∧ o = pbx L l) := by
 refine ob_enter Tryz.func92 rfl (by decide) _ Tryz.ntmps92 (le_ok rfl) rfl (fun w Pr β κ hE => ?_)
 dsimp only [slotsV, Nat.zero_add, Nat.reduceAdd]
 repeat' (first | refine nx ?_ | (apply aq_block_y; decide) | (apply qr_move; refine r_move ?_) | (apply qr_assign; refine r_assign ?_) | (apply at_cond; first | refine c_t ?_ | refine c_f ?_ | (refine aw_cond rfl (fun hb => ?_) (fun hb => ?_) <;> ((try have hq := dX hb); (try (exfalso; omega))))) | (apply qr_lss; refine r_lss ?_) | (apply qr_add; refine r_add ?_) | (apply qr_len; refine r_len ?_) | (apply qr_ix; refine r_ix ?_) | (apply qr_load; refine r_load ?_))
 refine aw_lp (fun N sl ob => ∃ i : Nat, N = 8 - i ∧ i ≤ 8 ∧ (∀ q ∈ opsL.take i, isT l q.1 = false) ∧ sl = [(8, .d (.int i)), (7, .d (.int 8)), (1, .clo (.func 94) [.box 1001 0]), (0, .d (.list 3 (opsL.map opC)))] ∧ ob = pbx L l) (⟨0, rfl, Nat.zero_le _, by simp, rfl, rfl⟩) ?_
 rintro N sl ob ⟨i, rfl, hi, hs, rfl, rfl⟩
 by_cases hlt : i < 8
 ·have hl8 : i < opsL.length := hlt
  obtain ⟨q, hx⟩ : ∃ q, opsL[i]? = some q := ⟨_, List.getElem?_eq_getElem hl8⟩
  have hg : (opsL.map opC)[i]? = some (opC q) := by rw [List.getElem?_map, hx]; rfl
  have hc := exp1_any h q.1 q.2.1 q.2.2
  cases hT : isT l q.1
  ·rw [hT] at hc
   have hnext : ∀ p ∈ opsL.take (i + 1), isT l p.1 = false := fun p hp => by
    rw [List.take_add_one, hx] at hp
    rcases List.mem_append.1 hp with hp | hp
    ·exact hs p hp
    ·simp at hp
     subst hp
     exact hT
   repeat' (first | (apply at_op (.indexAddr _ _ _); refine al_ixq hg ?_) | (apply at_call; refine k_clocall1 [(1001, 1001), (1000, 1000)] (hc) hE ?_; rintro _ _ ⟨rfl, rfl⟩ <;> (intro _ _ h1 h2; simp only [renEqs, Nat.reduceBEq, renL_app, renL_ds, renL_und] at h1 h2; subst h1 h2)) | refine nx ?_ | (apply aq_block_y; decide) | (apply qr_move; refine r_move ?_) | (apply qr_assign; refine r_assign ?_) | (apply at_cond; first | refine c_t ?_ | refine c_f ?_ | (refine aw_cond rfl (fun hb => ?_) (fun hb => ?_) <;> ((try have hq := dX hb); (try (exfalso; omega))))) | (apply qr_lss; refine r_lss ?_) | (apply qr_add; refine r_add ?_) | (apply qr_len; refine r_len ?_) | (apply qr_ix; refine r_ix ?_) | (apply qr_load; refine r_load ?_))
   refine aq_rd (⟨i + 1, rfl, by omega, hnext, rfl, rfl⟩) (by omega)
  ·rw [hT] at hc
   have hy := symI_yes hx hT
   repeat' (first | (apply at_op (.indexAddr _ _ _); refine al_ixq hg ?_) | (apply at_call; refine k_clocall1 [(1001, 1001), (1000, 1000)] (hc) hE ?_; rintro _ _ ⟨rfl, rfl⟩ <;> (intro _ _ h1 h2; simp only [renEqs, Nat.reduceBEq, renL_app, renL_ds, renL_und] at h1 h2; subst h1 h2)) | refine nx ?_ | (apply aq_block_y; decide) | (apply qr_move; refine r_move ?_) | (apply qr_assign; refine r_assign ?_) | (apply at_cond; first | refine c_t ?_ | refine c_f ?_ | (refine aw_cond rfl (fun hb => ?_) (fun hb => ?_) <;> ((try have hq := dX hb); (try (exfalso; omega))))) | (apply qr_lss; refine r_lss ?_) | (apply qr_add; refine r_add ?_) | (apply qr_len; refine r_len ?_) | (apply qr_ix; refine r_ix ?_) | (apply qr_load; refine r_load ?_))
   refine oret1 (pbx L l) (by rfl) rv (⟨⟨i, rfl, .inr ⟨i, q, hlt, rfl, hx, hy⟩⟩, rfl⟩) sb okx
 ·have hno := symI_no (l := l) (fun q hq => hs q (by rw [List.take_of_length_le (show opsL.length ≤ i by show 8 ≤ i; omega)]; exact hq))
  repeat' (first | refine nx ?_ | (apply aq_block_y; decide) | (apply qr_move; refine r_move ?_) | (apply qr_assign; refine r_assign ?_) | (apply at_cond; first | refine c_t ?_ | refine c_f ?_ | (refine aw_cond rfl (fun hb => ?_) (fun hb => ?_) <;> ((try have hq := dX hb); (try (exfalso; omega))))) | (apply qr_lss; refine r_lss ?_) | (apply qr_add; refine r_add ?_) | (apply qr_len; refine r_len ?_) | (apply qr_ix; refine r_ix ?_) | (apply qr_load; refine r_load ?_))
  refine oret1 (pbx L l) (by rfl) rv (⟨⟨-1, rfl, .inl ⟨rfl, hno⟩⟩, rfl⟩) sb okx
end Go.Proofs.YtedoeogopmenpaaGreatDoor
end
section
set_option linter.unusedSimpArgs false
set_option linter.unusedVariables false
namespace Go.Proofs.YtedoeogopmenpaaGreatDoor
open Go.RowKit Go.ChangeShapes Go.WideShapes
theorem repD_val {w : World} {Pr : Prot} {u v : Value} (h : RepD w Pr v (.val u)) : v = u := by
 cases h
 rfl
theorem pure_vals {f : FuncId} {us : List Value} {Post : D → Prop} (hf : FnOk f) (h : ∀ w Pr, (∀ b o, Pr b o → b < w.heap.size) → EnvOk w Pr → Calls Tryz.prog f us.toArray w (PostR w Pr Post)) : PureC f (us.map D.val) Post := by
 refine ⟨hf, fun w Pr vs h1 h2 h3 h4 => ?_⟩
 have e : vs = us := by
  apply List.ext_getElem?
  intro i
  have hl : vs.length = us.length := by simpa using h3
  by_cases hi : i < vs.length
  ·have := h4 i vs[i] (.val us[i]) (List.getElem?_eq_getElem hi) (by simp [List.getElem?_eq_getElem (show i < us.length by omega)])
   rw [List.getElem?_eq_getElem hi, List.getElem?_eq_getElem (by omega), repD_val this]
  ·rw [List.getElem?_eq_none (by omega), List.getElem?_eq_none (by omega)]
 subst e
 exact h w Pr h1 h2
def itoaB (n : Int) : ByteArray := ⟨(Lib.itoa n).toArray⟩
theorem itoa_any (n : Int) (h0 : -9223372036854775808 ≤ n) (h1 : n ≤ 9223372036854775807) : PureC 56 [.int n] (· = .str (itoaB n)) := by
 refine pure_vals (us := [.int .i64 n]) ⟨_, Tryz.func56, by decide, rfl⟩ (fun w Pr _ hE => ?_)
 have ht : Lib.TabIs Tryz.prog w "internal/strconv.uint64pow10" .u64 Lib.pow10Tab := tab_of hE (by unfold laidG; exact List.mem_cons_of_mem _ List.mem_cons_self) (by kernel_rfl) (by decide)
 refine (Tryz.strconv_Itoa n h0 h1 w ht).mono fun e w' ⟨he, k, os, hw⟩ => ?_
 subst hw
 exact ⟨_, _, he, rfl, .val _, Lib.below_grow _ _ (Nat.le_refl _) k os⟩
section
variable {E : Entry} {sl : Slots} {ob : Objs} {d : Option Nat} {t ty T : TypeId} {p : String} {af : Array Edge} {g : Option (Nat × Bool)} {x : Operand}
end
abbrev L (r : ByteArray) : List UInt8 := r.data.toList
abbrev B (l : List UInt8) : ByteArray := ⟨l.toArray⟩
theorem dig_byte {u : Nat} (h : u < 10) : (UInt8.ofNat (48 + u)).toNat = 48 + u := by
 rw [UInt8.toNat_ofNat']
 omega
theorem ba_ext {a b : ByteArray} (h : a.data.toList = b.data.toList) : a = b := by
 apply ByteArray.ext
 exact Array.toList_inj.1 h
theorem dec_one {u : Nat} (h : u < 10) : Lib.decDigits u = [UInt8.ofNat (48 + u)] := by
 unfold Lib.decDigits
 rw [dif_pos h]
theorem dec_more {u : Nat} (h : ¬ u < 10) : Lib.decDigits u = Lib.decDigits (u / 10) ++ [UInt8.ofNat (48 + u % 10)] := by
 rw [Lib.decDigits]
 rw [dif_neg h]
theorem dec_len (u : Nat) : ∀ k : Nat, u < 10 ^ k → 0 < k → (Lib.decDigits u).length ≤ k := by
 induction u using Nat.strongRecOn with
 | _ u ih =>
  intro k hk h0
  by_cases h : u < 10
  ·rw [dec_one h]; exact h0
  ·obtain ⟨j, rfl⟩ : ∃ j, k = j + 1 := ⟨k - 1, by omega⟩
   rw [dec_more h, List.length_append, List.length_singleton]
   have h1 : u / 10 < 10 ^ j := by rw [Nat.pow_succ] at hk; omega
   have hj : 0 < j := by
    rcases Nat.eq_zero_or_pos j with rfl | hj
    ·simp at h1; omega
    ·exact hj
   have := ih (u / 10) (by omega) j h1 hj
   omega
theorem dec19 {u : Nat} (h : u ≤ 9223372036854775808) : (Lib.decDigits u).length ≤ 19 := dec_len u 19 (by omega) (by omega)
theorem itoaB_pos {n : Int} (h : 0 ≤ n) : itoaB n = B (Lib.decDigits n.toNat) := by
 unfold itoaB Lib.itoa
 rw [if_neg (by omega)]
theorem itoaB_size {n : Int} (h : 0 ≤ n) (h1 : n ≤ 9223372036854775807) : (itoaB n).size ≤ 19 := by
 rw [itoaB_pos h]
 have := dec19 (u := n.toNat) (by omega)
 have hsz : (B (Lib.decDigits n.toNat)).size = (Lib.decDigits n.toNat).length := List.size_toArray
 omega
end Go.Proofs.YtedoeogopmenpaaGreatDoor
end
section
set_option linter.unusedSimpArgs false
set_option linter.unusedVariables false
namespace Go.Proofs.YtedoeogopmenpaaGreatDoor
open Go.RowKit
mutual
def Ex.tame : Ex → Prop
 | .mk _ _ _ s a => s.size ≤ 100000 ∧ a.length ≤ 100000 ∧ Ex.tameL a
def Ex.tameL : List Ex → Prop
 | [] => True
 | x :: r => x.tame ∧ Ex.tameL r
end
theorem tame_str {e : Ex} (h : e.tame) : e.str.size ≤ 100000 := by
 cases e
 exact h.1
theorem tame_len {e : Ex} (h : e.tame) : e.args.length ≤ 100000 := by
 cases e
 exact h.2.1
theorem tameL_get {a : List Ex} (h : Ex.tameL a) {i : Nat} (hi : i < a.length) : a[i].tame := by
 induction a generalizing i with
 | nil => simp at hi
 | cons x r ih =>
  cases i with
  | zero => exact h.1
  | succ i => exact ih h.2 (by simpa using hi)
theorem tame_get {e : Ex} (h : e.tame) {i : Nat} (hi : i < e.args.length) : e.args[i].tame := by
 cases e
 exact tameL_get h.2.2 hi
theorem rightL_all : ∀ (a : List Ex) (d : Nat), Ex.rightL a d = a.all fun x => x.right d
 | [], _ => rfl
 | x :: r, d => by rw [List.all_cons, ← rightL_all r d]; rfl
theorem right_eq (e : Ex) (d : Nat) : e.right (d + 1) = (decide ((e.args.length : Int) = operandsV e.op) &&
  (if e.op = 0 then numRight e.num e.unit e.str
   else if e.op = 1 ∨ e.op = 2 ∨ e.op = 3 then decide (e.num = 0) && decide (e.unit = 0) && nameV e.str
   else decide (e.num = 0) && decide (e.unit = 0) && decide (e.str = ⟨#[]⟩) && e.args.all fun x => x.right d)) := by
 cases e
 simp only [Ex.right, Ex.args, Ex.op, Ex.num, Ex.unit, Ex.str, Nat.add_sub_cancel, rightL_all, show (d + 1 = 0) = False from by simp, decide_false, Bool.not_false, Bool.true_and]
 congr
theorem right_zero (e : Ex) : e.right 0 = false := by
 cases e
 simp [Ex.right]
theorem operands_any (op : Int) : PureC 118 [.int op] (· = .int (operandsV op)) := by
 unfold operandsV
 refine pure_enter Tryz.func118 rfl (by decide) _ Tryz.ntmps118 (le_ok rfl) (fun w Pr hE => ?_)
 dsimp only [slotsOf, Nat.zero_add, Nat.reduceAdd]
 repeat' (first | refine nx ?_ | (apply aq_block_y; decide) | (apply qr_move; refine r_move ?_) | (apply qr_assign; refine r_assign ?_) | (apply at_cond; first | refine c_t ?_ | refine c_f ?_ | (refine aw_cond rfl (fun hb => ?_) (fun hb => ?_) <;> ((try have hq := dX hb); (try (exfalso; omega))))) | (apply at_guard; first | refine g_go ?_ | refine g_nt ?_ | refine g_nf ?_ | refine g_nu ?_ | ((first | refine al_split_t rfl rfl (lt_ok rfl) (fun hb => ?_) (fun hb => ?_) | refine al_split_f rfl rfl (lt_ok rfl) (fun hb => ?_) (fun hb => ?_)) <;> ((try have hq := dX hb); (try (exfalso; omega))))) | (apply qr_pick; refine r_pick ?_) | (apply qr_lss; refine r_lss ?_) | (apply qr_geq; refine r_geq ?_) | (apply qr_eql; refine r_eql ?_))
 all_goals
  refine ret_one (by rfl) (by exact ToD.d _) ?_
  simp [*]
  try omega
abbrev inB (a b : Int) : Objs := [(1001, .box 3 [.d (.int a)]), (1002, .box 3 [.d (.int b)])]
theorem in1_any (n a b : Int) : ObC 116 [.d (.int n), .box 1001 0, .box 1002 0] (inB a b) [] (fun x o => x = .d (.bool (decide (n < a) || decide (b < n))) ∧ o = inB a b) := by
 cases h : decide (n < a)
 ·rw [Bool.false_or]
  refine ob_enter Tryz.func116 rfl (by decide) _ Tryz.ntmps116 (le_ok rfl) rfl (fun w Pr β κ hE => ?_)
  dsimp only [slotsV, Nat.zero_add, Nat.reduceAdd]
  repeat' (first | refine nx ?_ | (apply qr_move; refine r_move ?_) | (apply qr_assign; refine r_assign ?_) | (apply at_guard; first | refine g_go ?_ | refine g_nt ?_ | refine g_nf ?_ | refine g_nu ?_ | ((first | refine al_split_t rfl rfl (lt_ok rfl) (fun hb => ?_) (fun hb => ?_) | refine al_split_f rfl rfl (lt_ok rfl) (fun hb => ?_) (fun hb => ?_)) <;> ((try have hq := dX hb); (try (exfalso; omega))))) | (apply qr_pick; refine r_pick ?_) | (apply qr_lss; refine r_lss ?_) | (apply qr_gtr; refine r_gtr ?_) | (apply qr_load; refine r_load ?_))
  refine oret1 (inB a b) (by rfl) rv (⟨rfl, rfl⟩) sb okx
 ·rw [Bool.true_or]
  refine ob_enter Tryz.func116 rfl (by decide) _ Tryz.ntmps116 (le_ok rfl) rfl (fun w Pr β κ hE => ?_)
  dsimp only [slotsV, Nat.zero_add, Nat.reduceAdd]
  repeat' (first | refine nx ?_ | (apply qr_move; refine r_move ?_) | (apply qr_assign; refine r_assign ?_) | (apply at_guard; first | refine g_go ?_ | refine g_nt ?_ | refine g_nf ?_ | refine g_nu ?_ | ((first | refine al_split_t rfl rfl (lt_ok rfl) (fun hb => ?_) (fun hb => ?_) | refine al_split_f rfl rfl (lt_ok rfl) (fun hb => ?_) (fun hb => ?_)) <;> ((try have hq := dX hb); (try (exfalso; omega))))) | (apply qr_pick; refine r_pick ?_) | (apply qr_lss; refine r_lss ?_) | (apply qr_gtr; refine r_gtr ?_) | (apply qr_load; refine r_load ?_))
  refine oret1 (inB a b) (by rfl) rv (⟨rfl, rfl⟩) sb okx
abbrev intsD (l : List Int) : D := .list 1 (l.map fun n => [D.int n])
theorem iindex (l : List Int) (hl : l.length ≤ 9223372036854775806) (a b : Int) : ObC 139 [.d (intsD l), .clo (.func 116) [.box 1001 0, .box 1002 0]] (inB a b) [] (fun x o => (∃ r, x = .d (.int r) ∧ decide (0 ≤ r) = l.any fun n => (decide (n < a) || decide (b < n))) ∧ o = inB a b) := by
 refine ob_enter Tryz.func139 rfl (by decide) _ Tryz.ntmps139 (le_ok rfl) rfl (fun w Pr β κ hE => ?_)
 dsimp only [slotsV, Nat.zero_add, Nat.reduceAdd]
 repeat' (first | refine nx ?_ | (apply aq_block_y; decide) | (apply qr_move; refine r_move ?_) | (apply qr_assign; refine r_assign ?_) | (apply at_cond; first | refine c_t ?_ | refine c_f ?_ | (refine aw_cond rfl (fun hb => ?_) (fun hb => ?_) <;> ((try have hq := dX hb); (try (exfalso; omega))))) | (apply qr_lss; refine r_lss ?_) | (apply qr_add; refine r_add ?_) | (apply qr_len; refine r_len ?_) | (apply qr_ix; refine r_ix ?_) | (apply qr_load; refine r_load ?_))
 refine aw_lp (fun N sl ob => ∃ i : Nat, N = l.length - i ∧ i ≤ l.length ∧ ((l.take i).any fun n => (decide (n < a) || decide (b < n))) = false ∧ sl = [(8, .d (.int i)), (7, .d (.int l.length)), (1, .clo (.func 116) [.box 1001 0, .box 1002 0]), (0, .d (intsD l))] ∧ ob = inB a b) (⟨0, rfl, Nat.zero_le _, by simp, rfl, rfl⟩) ?_
 rintro N sl ob ⟨i, rfl, hi, hs, rfl, rfl⟩
 by_cases hlt : i < l.length
 ·have hg : (l.map fun n => [D.int n])[i]? = some [D.int l[i]] := by rw [get_map hlt]
  have hnext := any_take (fun n => (decide (n < a) || decide (b < n))) hlt
  rw [hs, Bool.false_or] at hnext
  have hc := in1_any l[i] a b
  cases hT : (decide (l[i] < a) || decide (b < l[i]))
  ·rw [hT] at hc hnext
   generalize l[i] = z at hg hc
   repeat' (first | (apply at_op (.indexAddr _ _ _); refine al_ixq hg ?_) | (apply at_call; refine k_clocall1 [(1001, 1001), (1002, 1002)] (hc) hE ?_; rintro _ _ ⟨rfl, rfl⟩ <;> (intro _ _ h1 h2; simp only [renEqs, Nat.reduceBEq, renL_app, renL_ds, renL_und] at h1 h2; subst h1 h2)) | refine nx ?_ | (apply aq_block_y; decide) | (apply qr_move; refine r_move ?_) | (apply qr_assign; refine r_assign ?_) | (apply at_cond; first | refine c_t ?_ | refine c_f ?_ | (refine aw_cond rfl (fun hb => ?_) (fun hb => ?_) <;> ((try have hq := dX hb); (try (exfalso; omega))))) | (apply qr_lss; refine r_lss ?_) | (apply qr_add; refine r_add ?_) | (apply qr_len; refine r_len ?_) | (apply qr_ix; refine r_ix ?_) | (apply qr_load; refine r_load ?_))
   refine aq_rd (⟨i + 1, rfl, by omega, hnext, rfl, rfl⟩) (by omega)
  ·rw [hT] at hc
   have hany : (l.any fun n => (decide (n < a) || decide (b < n))) = true := List.any_eq_true.2 ⟨l[i], List.getElem_mem hlt, hT⟩
   generalize l[i] = z at hg hc
   repeat' (first | (apply at_op (.indexAddr _ _ _); refine al_ixq hg ?_) | (apply at_call; refine k_clocall1 [(1001, 1001), (1002, 1002)] (hc) hE ?_; rintro _ _ ⟨rfl, rfl⟩ <;> (intro _ _ h1 h2; simp only [renEqs, Nat.reduceBEq, renL_app, renL_ds, renL_und] at h1 h2; subst h1 h2)) | refine nx ?_ | (apply aq_block_y; decide) | (apply qr_move; refine r_move ?_) | (apply qr_assign; refine r_assign ?_) | (apply at_cond; first | refine c_t ?_ | refine c_f ?_ | (refine aw_cond rfl (fun hb => ?_) (fun hb => ?_) <;> ((try have hq := dX hb); (try (exfalso; omega))))) | (apply qr_lss; refine r_lss ?_) | (apply qr_add; refine r_add ?_) | (apply qr_len; refine r_len ?_) | (apply qr_ix; refine r_ix ?_) | (apply qr_load; refine r_load ?_))
   refine oret1 (inB a b) (by rfl) rv (⟨⟨i, rfl, by rw [hany]; exact decide_eq_true (by omega)⟩, rfl⟩) sb okx
 ·rw [List.take_of_length_le (by omega)] at hs
  repeat' (first | refine nx ?_ | (apply aq_block_y; decide) | (apply qr_move; refine r_move ?_) | (apply qr_assign; refine r_assign ?_) | (apply at_cond; first | refine c_t ?_ | refine c_f ?_ | (refine aw_cond rfl (fun hb => ?_) (fun hb => ?_) <;> ((try have hq := dX hb); (try (exfalso; omega))))) | (apply qr_lss; refine r_lss ?_) | (apply qr_add; refine r_add ?_) | (apply qr_len; refine r_len ?_) | (apply qr_ix; refine r_ix ?_) | (apply qr_load; refine r_load ?_))
  refine oret1 (inB a b) (by rfl) rv (⟨⟨-1, rfl, by rw [hs]; rfl⟩, rfl⟩) sb okx
theorem icontains (l : List Int) (hl : l.length ≤ 9223372036854775806) (a b : Int) : ObC 115 [.d (intsD l), .clo (.func 116) [.box 1001 0, .box 1002 0]] (inB a b) [] (fun x o => x = .d (.bool (l.any fun n => (decide (n < a) || decide (b < n)))) ∧ o = inB a b) := by
 have hc := iindex l hl a b
 refine ob_enter Tryz.func115 rfl (by decide) _ Tryz.ntmps115 (le_ok rfl) rfl (fun w Pr β κ hE => ?_)
 dsimp only [slotsV, Nat.zero_add, Nat.reduceAdd]
 repeat' (first | (apply at_call; refine k_ocall [(1001, 1001), (1002, 1002)] (hc) hE ?_; rintro _ _ ⟨⟨r, rfl, hr⟩, rfl⟩ <;> (intro _ _ h1 h2; simp only [renEqs, Nat.reduceBEq, renL_app, renL_ds, renL_und] at h1 h2; subst h1 h2)) | refine nx ?_ | (apply qr_move; refine r_move ?_) | (apply qr_assign; refine r_assign ?_) | (apply qr_geq; refine r_geq ?_))
 refine oret1 (inB a b) (by rfl) rv (⟨by rw [hr], rfl⟩) sb okx
theorem in_any (a b : Int) (l : List Int) (hl : l.length ≤ 9223372036854775806) : PureC 62 [.int a, .int b, intsD l] (· = .bool (!l.any fun n => (decide (n < a) || decide (b < n)))) := by
 have hc := icontains l hl a b
 refine pure_enter Tryz.func62 rfl (by decide) _ Tryz.ntmps62 (le_ok rfl) (fun w Pr hE => ?_)
 dsimp only [slotsOf, Nat.zero_add, Nat.reduceAdd]
 repeat' (first | (apply at_op (.makeFunc _ _ _); refine al_y (y_clo rfl) (lt_ok rfl) ?_) | (apply at_call; refine k_ocall [(1001, 3), (1002, 4)] (hc) hE ?_; rintro _ _ ⟨rfl, rfl⟩ <;> (intro _ _ h1 h2; simp only [renEqs, Nat.reduceBEq, renL_app, renL_ds, renL_und] at h1 h2; subst h1 h2)) | refine nx ?_ | (apply qr_move; refine r_move ?_) | (apply qr_assign; refine r_assign ?_) | (apply qr_not; refine r_not ?_) | (apply qr_func; refine r_func ?_) | (apply qr_boxed; refine r_boxed ?_))
 refine rt1 ?_
 rfl
end Go.Proofs.YtedoeogopmenpaaGreatDoor
end
section
namespace Go.Proofs.YtedoeogopmenpaaGreatDoor
inductive LexOk (s : ByteArray) : Nat → List Tok → Prop where
 | stop (p : Nat) (hp : p ≤ s.size) (h : skip s p = s.size) : LexOk s p [endTok s.size]
 | tok (p : Nat) (t : Tok) (l : List Tok) (hp : p ≤ s.size) (h : ¬ skip s p = s.size) (ht : tokenV s (skip s p) = (t, 0)) (hl : LexOk s (skip s p + t.s.size) l) : LexOk s p (t :: l)
inductive LexErr (s : ByteArray) : Nat → Nat → Int → Prop where
 | here (p : Nat) (t : Tok) (e : Int) (hp : p ≤ s.size) (h : ¬ skip s p = s.size) (ht : tokenV s (skip s p) = (t, e)) (he : ¬ e = 0) : LexErr s p (skip s p) e
 | tok (p a : Nat) (t : Tok) (e : Int) (hp : p ≤ s.size) (h : ¬ skip s p = s.size) (ht : tokenV s (skip s p) = (t, 0)) (hl : LexErr s (skip s p + t.s.size) a e) : LexErr s p a e
theorem lexF_case {s : ByteArray} (n p : Nat) (out : List Tok) (hn : s.size - p < n) (hp : p ≤ s.size) :
  (∃ l, LexOk s p l ∧ lexF s n p out = (out ++ l, 0, 0)) ∨ (∃ a e, LexErr s p a e ∧ ¬ e = 0 ∧ lexF s n p out = ([], (a : Int), e)) := by
 induction n generalizing p out with
 | zero => omega
 | succ n ih =>
  have h1 := skip_le hp
  rw [lexF]
  by_cases h : skip s p = s.size
  ·rw [if_pos h]
   exact .inl ⟨_, .stop p hp h, rfl⟩
  ·rw [if_neg h]
   rcases hT : tokenV s (skip s p) with ⟨t, e⟩
   by_cases he : e = 0
   ·subst he
    rw [if_pos rfl]
    have h2 := tokenV_size (s := s) (p := skip s p) (by omega) (by rw [hT])
    rw [hT] at h2
    simp only at h2
    rcases ih (skip s p + t.s.size) (out ++ [t]) (by omega) (by omega) with ⟨l, h3, h4⟩ | ⟨a, e, h3, h4, h5⟩
    ·refine .inl ⟨t :: l, .tok p t l hp h hT h3, ?_⟩
     rw [h4, List.append_assoc]
     rfl
    ·exact .inr ⟨a, e, .tok p a t e hp h hT h3, h4, h5⟩
   ·rw [if_neg he]
    exact .inr ⟨_, e, .here p t e hp h hT he, he, rfl⟩
theorem lexV_case {s : ByteArray} (hs : s.size ≤ 4000) :
  (∃ l, LexOk s 0 l ∧ lexV s = (l, 0, 0)) ∨ (∃ a e, LexErr s 0 a e ∧ ¬ e = 0 ∧ lexV s = ([], (a : Int), e)) := by
 unfold lexV
 rw [if_neg (by omega)]
 simpa using lexF_case (s := s) (s.size + 1) 0 [] (by omega) (by omega)
theorem LexOk.unique {s : ByteArray} {p : Nat} {l m : List Tok} (h : LexOk s p l) (h' : LexOk s p m) : l = m := by
 induction h generalizing m with
 | stop p hp h =>
  cases h' with
  | stop _ _ _ => rfl
  | tok _ _ _ _ h2 _ _ => exact absurd h h2
 | tok p t l hp h ht hl ih =>
  cases h' with
  | stop _ _ h2 => exact absurd h2 h
  | tok _ u m _ _ hu hm =>
   rw [ht] at hu
   cases hu
   rw [ih hm]
theorem LexOk.noErr {s : ByteArray} {p a : Nat} {l : List Tok} {e : Int} (h : LexOk s p l) (h' : LexErr s p a e) (he : ¬ e = 0) : False := by
 induction h with
 | stop p hp h =>
  cases h' with
  | here _ _ _ _ h2 _ _ => exact h2 h
  | tok _ _ _ _ _ h2 _ _ => exact h2 h
 | tok p t l hp h ht hl ih =>
  cases h' with
  | here _ _ _ _ _ h3 h4 => rw [ht] at h3; cases h3; exact h4 rfl
  | tok _ _ _ _ _ _ h3 h4 => rw [ht] at h3; cases h3; exact ih h4
theorem lexV_ok {s : ByteArray} {l : List Tok} (hs : s.size ≤ 4000) (h : LexOk s 0 l) : lexV s = (l, 0, 0) := by
 rcases lexV_case hs with ⟨m, h1, h2⟩ | ⟨a, e, h1, h2, _⟩
 ·rw [h2, h.unique h1]
 ·exact (h.noErr h1 h2).elim
theorem tokenV_form {s : ByteArray} {p : Nat} {t : Tok} (hp : p < s.size) (h : tokenV s p = (t, 0)) :
  t.p = p ∧ 0 < t.s.size ∧ p + t.s.size ≤ s.size ∧ t.s = s.extract p (p + t.s.size) ∧
  ((t.k = 0 ∧ letterB (bAt s p) = true ∧ t.s.size = pre alnumB (s.extract p s.size) ∧ t.s.size ≤ 20 ∧ t.n = 0) ∨
   (t.k = 1 ∧ letterB (bAt s p) = false ∧ digitB (bAt s p) = true ∧ t.s.size = pre digitB (s.extract p s.size) ∧ numOk t.s = true ∧ t.n = numTo t.s t.s.size) ∨
   (t.k = 2 ∧ letterB (bAt s p) = false ∧ digitB (bAt s p) = false ∧ (t.s.size : Int) = signTo s p ∧ t.n = 0)) := by
 have hsz := tokenV_size (s := s) (p := p) hp (by rw [h])
 rw [h] at hsz
 simp only at hsz
 have hz : (s.extract p s.size).size = s.size - p := by simp
 have h0 : bAt (s.extract p s.size) 0 = bAt s p := by rw [bAt_ext (by omega) (Nat.le_refl _), Nat.add_zero]
 have hpos : ∀ F : UInt8 → Bool, F (bAt s p) = true → 0 < pre F (s.extract p s.size) := by
  intro F hF
  rcases Nat.eq_zero_or_pos (pre F (s.extract p s.size)) with h | h
  ·exfalso
   have h1 := pre_stop (F := F) (s := s.extract p s.size) (by omega)
   rw [h, h0, hF] at h1
   cases h1
  ·exact h
 have hle : ∀ F : UInt8 → Bool, pre F (s.extract p s.size) ≤ s.size - p := fun F => by have := pre_le F (s.extract p s.size); omega
 have hes : ∀ a b, b ≤ s.size → (s.extract a b).size = b - a := fun a b hb => extract_size hb
 cases hl : letterB (bAt s p)
 ·cases hd : digitB (bAt s p)
  ·rw [token_sign hl hd hp] at h
   have h1 := signTo_bd hp
   by_cases h2 : signTo s p = 0
   ·rw [if_pos h2] at h; cases h
   ·rw [if_neg h2] at h
    cases h
    have h3 := hes p (p + (signTo s p).toNat) (by omega)
    refine ⟨rfl, hsz.1, hsz.2, ?_, .inr (.inr ⟨rfl, rfl, rfl, ?_, rfl⟩)⟩
    ·simp only [h3]
     congr 1
     omega
    ·simp only [h3]
     omega
  ·have h1 := hpos digitB hd
   have h2 := hle digitB
   rw [token_num (k := p + pre digitB (s.extract p s.size)) hl hd (by omega) (by omega) (by omega)] at h
   split at h
   ·rename_i hn
    cases h
    have h3 := hes p (p + pre digitB (s.extract p s.size)) (by omega)
    refine ⟨rfl, hsz.1, hsz.2, ?_, .inr (.inl ⟨rfl, rfl, rfl, ?_, hn, rfl⟩)⟩
    ·simp only [h3]
     congr 1
     omega
    ·simp only [h3]
     omega
   ·cases h
 ·have h1 := hpos alnumB (alnum_of hl)
  have h2 := hle alnumB
  rw [token_word (k := p + pre alnumB (s.extract p s.size)) hl (by omega) (by omega) (by omega)] at h
  split at h
  ·rename_i hn
   cases h
   have h3 := hes p (p + pre alnumB (s.extract p s.size)) (by omega)
   refine ⟨rfl, hsz.1, hsz.2, ?_, .inl ⟨rfl, rfl, ?_, ?_, rfl⟩⟩
   ·simp only [h3]
    congr 1
    omega
   ·simp only [h3]
    omega
   ·simp only [h3]
    omega
  ·cases h
end Go.Proofs.YtedoeogopmenpaaGreatDoor
end
