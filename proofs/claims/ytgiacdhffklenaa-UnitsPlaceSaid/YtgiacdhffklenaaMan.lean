/-
  Conditions: none.
-/
import Derived.Test.YtgiacdhffklenaaMam
set_option maxHeartbeats 16000000
set_option maxRecDepth 20000
section
set_option linter.unusedSimpArgs false
set_option linter.unusedVariables false
namespace Go.Proofs.Ytgiacdhffklenaa
open Go.RowKit
def knownD (u : Int) : D := .tup [.int (if u = -1 then 0 else u), .bool (!decide (u = -1))]
theorem utrip_any (s : ByteArray) : PureC 12 [.str s] (· = knownD (tripU s)) := by
 refine pure_enter Try.func12 rfl (by decide) _ Try.ntmps12 (le_ok rfl) (fun w Pr hE => ?_)
 dsimp only [slotsOf, Nat.zero_add, Nat.reduceAdd]
 repeat' (first | refine nx ?_ | (apply aq_block_y; decide) | (apply qr_move; refine r_move ?_) | (apply qr_assign; refine r_assign ?_) | (apply at_cond; first | refine c_t ?_ | refine c_f ?_ | (refine aw_cond rfl (fun hb => ?_) (fun hb => ?_) <;> ((try have hq := dX hb); (try (exfalso; omega))))) | (apply qr_eql; refine r_eql ?_))
 all_goals refine ret_two (by rfl) (by first | exact ToD.d _ | exact ToD.row _ _ _ _ _ rfl) (by first | exact ToD.d _ | exact ToD.row _ _ _ _ _ rfl) ?_
 all_goals
  unfold tripU knownD
  simp only [decide_eq_true_eq, decide_eq_false_iff_not] at *
  simp [*]
theorem umember_any (s : ByteArray) : PureC 14 [.str s] (· = knownD (memberU s)) := by
 refine pure_enter Try.func14 rfl (by decide) _ Try.ntmps14 (le_ok rfl) (fun w Pr hE => ?_)
 dsimp only [slotsOf, Nat.zero_add, Nat.reduceAdd]
 repeat' (first | refine nx ?_ | (apply aq_block_y; decide) | (apply qr_move; refine r_move ?_) | (apply qr_assign; refine r_assign ?_) | (apply at_cond; first | refine c_t ?_ | refine c_f ?_ | (refine aw_cond rfl (fun hb => ?_) (fun hb => ?_) <;> ((try have hq := dX hb); (try (exfalso; omega))))) | (apply qr_eql; refine r_eql ?_))
 all_goals refine ret_two (by rfl) (by first | exact ToD.d _ | exact ToD.row _ _ _ _ _ rfl) (by first | exact ToD.d _ | exact ToD.row _ _ _ _ _ rfl) ?_
 all_goals
  unfold memberU knownD
  simp only [decide_eq_true_eq, decide_eq_false_iff_not] at *
  simp [*]
theorem pair_any (op a b : Int) : PureC 71 [.int op, .int a, .int b] (· = .int (pairU op a b)) := by
 refine pure_enter Try.func71 rfl (by decide) _ Try.ntmps71 (le_ok rfl) (fun w Pr hE => ?_)
 dsimp only [slotsOf, Nat.zero_add, Nat.reduceAdd]
 repeat' (first | refine nx ?_ | (apply aq_block_y; decide) | (apply qr_move; refine r_move ?_) | (apply qr_assign; refine r_assign ?_) | (apply at_cond; first | refine c_t ?_ | refine c_f ?_ | (refine aw_cond rfl (fun hb => ?_) (fun hb => ?_) <;> ((try have hq := dX hb); (try (exfalso; omega))))) | (apply at_guard; first | refine g_go ?_ | refine g_nt ?_ | refine g_nf ?_ | refine g_nu ?_ | ((first | refine al_split_t rfl rfl (lt_ok rfl) (fun hb => ?_) (fun hb => ?_) | refine al_split_f rfl rfl (lt_ok rfl) (fun hb => ?_) (fun hb => ?_)) <;> ((try have hq := dX hb); (try (exfalso; omega))))) | (apply qr_pick; refine r_pick ?_) | (apply qr_eql; refine r_eql ?_) | (apply qr_neq; refine r_neq ?_))
 all_goals refine rt1 ?_
 all_goals
  unfold pairU
  simp only [decide_eq_true_eq, decide_eq_false_iff_not, Bool.not_eq_true', Bool.not_eq_false', decide_eq_true_eq] at *
  (repeat' split) <;> first | rfl | (exfalso; omega)
theorem scope_at {sc : List (ByteArray × Int)} {s : ByteArray} {i : Nat} (hi : i < sc.length) (h : sc[i].1 = s) (hn : ∀ (j : Nat) (hj : j < sc.length), j < i → sc[j].1 ≠ s) : scopeU sc s = sc[i].2 := by
 induction sc generalizing i with
 | nil => simp at hi
 | cons q r ih =>
  cases i with
  | zero =>
   have h0 : q.1 = s := by simpa using h
   simp [scopeU, h0]
  | succ i =>
   have h0 : q.1 ≠ s := hn 0 (by simp) (by omega)
   have := ih (i := i) (by simpa using hi) (by simpa using h) (fun j hj hji => hn (j + 1) (by simpa using hj) (by omega))
   simp only [scopeU, List.find?_cons, h0, decide_false] at this ⊢
   simpa using this
theorem scope_no {sc : List (ByteArray × Int)} {s : ByteArray} (hn : ∀ (j : Nat) (hj : j < sc.length), sc[j].1 ≠ s) : scopeU sc s = -1 := by
 unfold scopeU
 have : sc.find? (fun q => decide (q.1 = s)) = none := by
  rw [List.find?_eq_none]
  intro q hq
  obtain ⟨j, hj, rfl⟩ := List.getElem_of_mem hq
  simpa using hn j hj
 rw [this]
abbrev nmB (s : ByteArray) : Objs := [(1001, .box 9 [.d (.str s)])]
theorem name1_any (q : ByteArray × Ex) (s : ByteArray) : ObC 68 [.d (.agg (letC q)), .box 1001 0] (nmB s) [] (fun x o => x = .d (.bool (decide (q.1 = s))) ∧ o = nmB s) := by
 refine ob_enter Try.func68 rfl (by decide) _ Try.ntmps68 (le_ok rfl) rfl (fun w Pr β κ hE => ?_)
 dsimp only [slotsV, Nat.zero_add, Nat.reduceAdd]
 repeat' (first | refine nx ?_ | apply aw_scope | apply aw_label | apply aq_ng_n | apply aq_ng_r | apply aq_ng_x | (apply qr_assign; refine r_assign ?_) | (apply qr_eql; refine r_eql ?_) | (apply qr_load; refine r_load ?_) | (apply qr_faddr; refine r_faddr ?_) | (apply qr_boxed; refine r_boxed ?_))
 refine oret1 (nmB s) (by rfl) rv (⟨rfl, rfl⟩) sb okx
def FirstN (ls : List (ByteArray × Ex)) (s : ByteArray) (r : Int) : Prop := (r = -1 ∧ ∀ (j : Nat) (hj : j < ls.length), ls[j].1 ≠ s) ∨ ∃ (i : Nat) (hi : i < ls.length), r = i ∧ ls[i].1 = s ∧ ∀ (j : Nat) (hj : j < ls.length), j < i → ls[j].1 ≠ s
theorem lindex (ls : List (ByteArray × Ex)) (s : ByteArray) (hl : ls.length ≤ 100000) : ObC 41 [.d (letsD ls), .clo (.func 68) [.box 1001 0]] (nmB s) [] (fun x o => (∃ r, x = .d (.int r) ∧ FirstN ls s r) ∧ o = nmB s) := by
 have hlen : (ls.map letC).length = ls.length := List.length_map ..
 refine ob_enter Try.func41 rfl (by decide) _ Try.ntmps41 (le_ok rfl) rfl (fun w Pr β κ hE => ?_)
 dsimp only [slotsV, Nat.zero_add, Nat.reduceAdd]
 repeat' (first | refine nx ?_ | (apply aq_block_y; decide) | (apply qr_move; refine r_move ?_) | (apply qr_assign; refine r_assign ?_) | (apply at_cond; first | refine c_t ?_ | refine c_f ?_ | (refine aw_cond rfl (fun hb => ?_) (fun hb => ?_) <;> ((try have hq := dX hb); (try (exfalso; omega))))) | (apply qr_lss; refine r_lss ?_) | (apply qr_add; refine r_add ?_) | (apply qr_len; refine r_len ?_) | (apply qr_ix; refine r_ix ?_) | (apply qr_load; refine r_load ?_))
 refine aw_lp (fun N sl ob => ∃ i : Nat, N = ls.length - i ∧ i ≤ ls.length ∧ (∀ (j : Nat) (hj : j < ls.length), j < i → ls[j].1 ≠ s) ∧ sl = [(8, .d (.int i)), (7, .d (.int ls.length)), (1, .clo (.func 68) [.box 1001 0]), (0, .d (letsD ls))] ∧ ob = nmB s) (⟨0, rfl, Nat.zero_le _, fun j hj h => by omega, rfl, rfl⟩) ?_
 rintro N sl ob ⟨i, rfl, hi, hs, rfl, rfl⟩
 by_cases hlt : i < ls.length
 ·have hg : (ls.map letC)[i]? = some (letC ls[i]) := by rw [get_map hlt]
  have hc := name1_any ls[i] s
  by_cases hT : ls[i].1 = s
  ·rw [decide_eq_true hT] at hc
   generalize hz : ls[i] = z at hg hc
   repeat' (first | (apply at_op (.indexAddr _ _ _); refine al_ixq hg ?_) | (apply at_call; refine k_clocall1 [(1001, 1001)] (hc) hE ?_; rintro _ _ ⟨rfl, rfl⟩ <;> (intro _ _ h1 h2; simp only [renEqs, Nat.reduceBEq, renL_app, renL_ds, renL_und] at h1 h2; subst h1 h2)) | refine nx ?_ | (apply aq_block_y; decide) | (apply qr_move; refine r_move ?_) | (apply qr_assign; refine r_assign ?_) | (apply at_cond; first | refine c_t ?_ | refine c_f ?_ | (refine aw_cond rfl (fun hb => ?_) (fun hb => ?_) <;> ((try have hq := dX hb); (try (exfalso; omega))))) | (apply qr_lss; refine r_lss ?_) | (apply qr_add; refine r_add ?_) | (apply qr_len; refine r_len ?_) | (apply qr_ix; refine r_ix ?_) | (apply qr_load; refine r_load ?_))
   refine oret1 (nmB s) (by rfl) rv (⟨⟨i, rfl, .inr ⟨i, hlt, rfl, hT, hs⟩⟩, rfl⟩) sb okx
  ·rw [decide_eq_false hT] at hc
   have hnext : ∀ (j : Nat) (hj : j < ls.length), j < i + 1 → ls[j].1 ≠ s := fun j hj hji => by
    rcases Nat.lt_succ_iff_lt_or_eq.1 hji with h | rfl
    ·exact hs j hj h
    ·exact hT
   generalize ls[i] = z at hg hc
   repeat' (first | (apply at_op (.indexAddr _ _ _); refine al_ixq hg ?_) | (apply at_call; refine k_clocall1 [(1001, 1001)] (hc) hE ?_; rintro _ _ ⟨rfl, rfl⟩ <;> (intro _ _ h1 h2; simp only [renEqs, Nat.reduceBEq, renL_app, renL_ds, renL_und] at h1 h2; subst h1 h2)) | refine nx ?_ | (apply aq_block_y; decide) | (apply qr_move; refine r_move ?_) | (apply qr_assign; refine r_assign ?_) | (apply at_cond; first | refine c_t ?_ | refine c_f ?_ | (refine aw_cond rfl (fun hb => ?_) (fun hb => ?_) <;> ((try have hq := dX hb); (try (exfalso; omega))))) | (apply qr_lss; refine r_lss ?_) | (apply qr_add; refine r_add ?_) | (apply qr_len; refine r_len ?_) | (apply qr_ix; refine r_ix ?_) | (apply qr_load; refine r_load ?_))
   refine aq_rd (⟨i + 1, rfl, by omega, hnext, rfl, rfl⟩) (by omega)
 ·skip
  repeat' (first | refine nx ?_ | (apply aq_block_y; decide) | (apply qr_move; refine r_move ?_) | (apply qr_assign; refine r_assign ?_) | (apply at_cond; first | refine c_t ?_ | refine c_f ?_ | (refine aw_cond rfl (fun hb => ?_) (fun hb => ?_) <;> ((try have hq := dX hb); (try (exfalso; omega))))) | (apply qr_lss; refine r_lss ?_) | (apply qr_add; refine r_add ?_) | (apply qr_len; refine r_len ?_) | (apply qr_ix; refine r_ix ?_) | (apply qr_load; refine r_load ?_))
  refine oret1 (nmB s) (by rfl) rv (⟨⟨-1, rfl, .inl ⟨rfl, fun j hj => hs j hj (by omega)⟩⟩, rfl⟩) sb okx
structure ScOk (ls : List (ByteArray × Ex)) (sc : List (ByteArray × Int)) : Prop where
 names : ls.map (·.1) = sc.map (·.1)
 len : ls.length ≤ 1000
theorem ScOk.length {ls : List (ByteArray × Ex)} {sc : List (ByteArray × Int)} (h : ScOk ls sc) : ls.length = sc.length := by
 have := congrArg List.length h.names
 simpa using this
theorem ScOk.at {ls : List (ByteArray × Ex)} {sc : List (ByteArray × Int)} (h : ScOk ls sc) {i : Nat} (hi : i < ls.length) (hi' : i < sc.length) : ls[i].1 = sc[i].1 := by
 have := congrArg (fun l => l[i]?) h.names
 simpa [hi, hi'] using this
abbrev scD (ls : List (ByteArray × Ex)) (sc : List (ByteArray × Int)) : D := .agg [letsD ls, intsD (sc.map (·.2))]
theorem scname_any {ls : List (ByteArray × Ex)} {sc : List (ByteArray × Int)} (h : ScOk ls sc) (s : ByteArray) : PureC 57 [scD ls sc, .str s] (· = .int (scopeU sc s)) := by
 have hlen := h.length
 have hl := h.len
 have hc := lindex ls s (by omega)
 obtain ⟨us, hus⟩ : ∃ us, us = (sc.map (·.2)).map fun n => [D.int n] := ⟨_, rfl⟩
 unfold scD intsD
 rw [← hus]
 refine pure_enter Try.func57 rfl (by decide) _ Try.ntmps57 (le_ok rfl) (fun w Pr hE => ?_)
 dsimp only [slotsOf, Nat.zero_add, Nat.reduceAdd]
 repeat' (first | (apply at_op (.makeFunc _ _ _); refine al_y (y_clo rfl) (lt_ok rfl) ?_) | (apply at_call; refine k_ocall [(1001, 3)] (hc) hE ?_; rintro _ _ ⟨⟨r, rfl, hr⟩, rfl⟩ <;> (intro _ _ h1 h2; simp only [renEqs, Nat.reduceBEq, renL_app, renL_ds, renL_und] at h1 h2; subst h1 h2)) | refine nx ?_ | apply aw_scope | apply aw_label | apply aq_ng_n | apply aq_ng_r | apply aq_ng_x | (apply qr_assign; refine r_assign ?_) | (apply at_cond; first | refine c_t ?_ | refine c_f ?_ | (refine aw_cond rfl (fun hb => ?_) (fun hb => ?_) <;> ((try have hq := dX hb); (try (exfalso; omega))))) | (apply qr_func; refine r_func ?_) | (apply qr_load; refine r_load ?_) | (apply qr_faddr; refine r_faddr ?_) | (apply qr_boxed; refine r_boxed ?_))
 rcases hr with ⟨rfl, hno⟩ | ⟨i, hi, rfl, he, hno⟩
 ·skip
  repeat' (first | refine nx ?_ | apply aw_scope | apply aw_label | apply aq_ng_n | apply aq_ng_r | apply aq_ng_x | (apply qr_move; refine r_move ?_) | (apply qr_assign; refine r_assign ?_) | (apply at_cond; first | refine c_t ?_ | refine c_f ?_ | (refine aw_cond rfl (fun hb => ?_) (fun hb => ?_) <;> ((try have hq := dX hb); (try (exfalso; omega))))) | (apply qr_lss; refine r_lss ?_) | (apply qr_func; refine r_func ?_) | (apply qr_ix; refine r_ix ?_) | (apply qr_load; refine r_load ?_) | (apply qr_faddr; refine r_faddr ?_) | (apply qr_boxed; refine r_boxed ?_))
  refine rt1 ?_
  rw [scope_no fun j hj => by rw [← h.at (by omega) hj]; exact hno j (by omega)]
 ·have hg : us[i]? = some [D.int (sc[i]'(by omega)).2] := by rw [hus]; simp [show i < sc.length by omega]
  have hres := scope_at (sc := sc) (s := s) (i := i) (by omega) (by rw [← h.at hi (by omega)]; exact he) (fun j hj hji => by rw [← h.at (by omega) hj]; exact hno j (by omega) hji)
  generalize (sc[i]'(by omega)).2 = u at hg hres
  repeat' (first | (apply at_op (.indexAddr _ _ _); refine al_ixq hg ?_) | refine nx ?_ | apply aw_scope | apply aw_label | apply aq_ng_n | apply aq_ng_r | apply aq_ng_x | (apply qr_move; refine r_move ?_) | (apply qr_assign; refine r_assign ?_) | (apply at_cond; first | refine c_t ?_ | refine c_f ?_ | (refine aw_cond rfl (fun hb => ?_) (fun hb => ?_) <;> ((try have hq := dX hb); (try (exfalso; omega))))) | (apply qr_lss; refine r_lss ?_) | (apply qr_func; refine r_func ?_) | (apply qr_ix; refine r_ix ?_) | (apply qr_load; refine r_load ?_) | (apply qr_faddr; refine r_faddr ?_) | (apply qr_boxed; refine r_boxed ?_))
  refine rt1 ?_
  rw [hres]
end Go.Proofs.Ytgiacdhffklenaa
end
section
set_option linter.unusedSimpArgs false
set_option linter.unusedVariables false
namespace Go.Proofs.Ytgiacdhffklenaa
open Go.RowKit
theorem iindexof (l : List Int) (n : Int) (hl : l.length ≤ 100000) : PureC 81 [intsD l, .int n] (fun r => ∃ i : Int, r = .int i ∧ decide (0 ≤ i) = l.any fun m => decide (n = m)) := by
 have hlen : (l.map fun n => [D.int n]).length = l.length := List.length_map ..
 refine pure_enter Try.func81 rfl (by decide) _ Try.ntmps81 (le_ok rfl) (fun w Pr hE => ?_)
 dsimp only [slotsOf, Nat.zero_add, Nat.reduceAdd]
 repeat' (first | refine nx ?_ | (apply aq_block_y; decide) | (apply qr_move; refine r_move ?_) | (apply qr_assign; refine r_assign ?_) | (apply at_cond; first | refine c_t ?_ | refine c_f ?_ | (refine aw_cond rfl (fun hb => ?_) (fun hb => ?_) <;> ((try have hq := dX hb); (try (exfalso; omega))))) | (apply qr_lss; refine r_lss ?_) | (apply qr_eql; refine r_eql ?_) | (apply qr_add; refine r_add ?_) | (apply qr_len; refine r_len ?_) | (apply qr_ix; refine r_ix ?_) | (apply qr_load; refine r_load ?_))
 refine aw_lp (fun N sl ob => ∃ i : Nat, N = l.length - i ∧ i ≤ l.length ∧ ((l.take i).any fun m => decide (n = m)) = false ∧ sl = [(8, .d (.int i)), (7, .d (.int l.length)), (1, .d (.int n)), (0, .d (intsD l))] ∧ ob = []) (⟨0, rfl, Nat.zero_le _, by simp, rfl, rfl⟩) ?_
 rintro N sl ob ⟨i, rfl, hi, hs, rfl, rfl⟩
 by_cases hlt : i < l.length
 ·have hg : (l.map fun n => [D.int n])[i]? = some [D.int l[i]] := by rw [get_map hlt]
  have hnext := any_take (fun m => decide (n = m)) hlt
  rw [hs, Bool.false_or] at hnext
  cases hT : decide (n = l[i])
  ·rw [hT] at hnext
   generalize l[i] = z at hg hT
   repeat' (first | (apply at_op (.indexAddr _ _ _); refine al_ixq hg ?_) | refine nx ?_ | (apply aq_block_y; decide) | (apply qr_move; refine r_move ?_) | (apply qr_assign; refine r_assign ?_) | (apply at_cond; first | refine c_t ?_ | refine c_f ?_ | (refine aw_cond rfl (fun hb => ?_) (fun hb => ?_) <;> ((try have hq := dX hb); (try (exfalso; omega))))) | (apply qr_lss; refine r_lss ?_) | (apply qr_eql; refine r_eql ?_) | (apply qr_add; refine r_add ?_) | (apply qr_len; refine r_len ?_) | (apply qr_ix; refine r_ix ?_) | (apply qr_load; refine r_load ?_))
   refine aq_rd (⟨i + 1, rfl, by omega, hnext, rfl, rfl⟩) (by omega)
  ·have hany : (l.any fun m => decide (n = m)) = true := List.any_eq_true.2 ⟨l[i], List.getElem_mem hlt, hT⟩
   generalize l[i] = z at hg hT
   repeat' (first | (apply at_op (.indexAddr _ _ _); refine al_ixq hg ?_) | refine nx ?_ | (apply aq_block_y; decide) | (apply qr_move; refine r_move ?_) | (apply qr_assign; refine r_assign ?_) | (apply at_cond; first | refine c_t ?_ | refine c_f ?_ | (refine aw_cond rfl (fun hb => ?_) (fun hb => ?_) <;> ((try have hq := dX hb); (try (exfalso; omega))))) | (apply qr_lss; refine r_lss ?_) | (apply qr_eql; refine r_eql ?_) | (apply qr_add; refine r_add ?_) | (apply qr_len; refine r_len ?_) | (apply qr_ix; refine r_ix ?_) | (apply qr_load; refine r_load ?_))
   refine rt1 ?_
   exact ⟨i, rfl, by rw [hany]; exact decide_eq_true (by omega)⟩
 ·rw [List.take_of_length_le (by omega)] at hs
  repeat' (first | refine nx ?_ | (apply aq_block_y; decide) | (apply qr_move; refine r_move ?_) | (apply qr_assign; refine r_assign ?_) | (apply at_cond; first | refine c_t ?_ | refine c_f ?_ | (refine aw_cond rfl (fun hb => ?_) (fun hb => ?_) <;> ((try have hq := dX hb); (try (exfalso; omega))))) | (apply qr_lss; refine r_lss ?_) | (apply qr_eql; refine r_eql ?_) | (apply qr_add; refine r_add ?_) | (apply qr_len; refine r_len ?_) | (apply qr_ix; refine r_ix ?_) | (apply qr_load; refine r_load ?_))
  refine rt1 ?_
  exact ⟨-1, rfl, by rw [hs]; rfl⟩
theorem icontains_any (l : List Int) (n : Int) (hl : l.length ≤ 100000) : PureC 80 [intsD l, .int n] (· = .bool (l.any fun m => decide (n = m))) := by
 have hc := iindexof l n hl
 refine pure_enter Try.func80 rfl (by decide) _ Try.ntmps80 (le_ok rfl) (fun w Pr hE => ?_)
 dsimp only [slotsOf, Nat.zero_add, Nat.reduceAdd]
 repeat' (first | (apply at_call; refine k_call (hc) hE ?_; rintro _ ⟨i, rfl, hi⟩) | refine nx ?_ | (apply qr_move; refine r_move ?_) | (apply qr_assign; refine r_assign ?_) | (apply qr_geq; refine r_geq ?_))
 refine rt1 ?_
 rw [hi]
theorem logic_any (op : Int) : PureC 70 [.int op] (· = .bool (decide (op = 12 ∨ op = 13 ∨ op = 14))) := by
 have hc := icontains_any [12, 13, 14] op (by decide)
 refine pure_enter Try.func70 rfl (by decide) _ Try.ntmps70 (le_ok rfl) (fun w Pr hE => ?_)
 dsimp only [slotsOf, Nat.zero_add, Nat.reduceAdd]
 repeat' (first | (apply at_call; refine k_call (hc) hE ?_; rintro _ rfl) | refine nx ?_ | (apply qr_move; refine r_move ?_) | (apply qr_assign; refine r_assign ?_) | (apply qr_lits; refine r_lits ?_))
 refine rt1 ?_
 simp
theorem odd_any (u : Int) : PureC 69 [.int u] (· = .bool (!decide (u = 3))) := by
 refine pure_enter Try.func69 rfl (by decide) _ Try.ntmps69 (le_ok rfl) (fun w Pr hE => ?_)
 dsimp only [slotsOf, Nat.zero_add, Nat.reduceAdd]
 repeat' (first | refine nx ?_ | (apply qr_move; refine r_move ?_) | (apply qr_assign; refine r_assign ?_) | (apply qr_neq; refine r_neq ?_))
 refine rt1 ?_
 rfl
theorem oindex (l : List Int) (hl : l.length ≤ 100000) : PureC 77 [intsD l, .val (.func (.func 69) #[] #[])] (fun r => ∃ i : Int, r = .int i ∧ decide (0 ≤ i) = l.any fun u => !decide (u = 3)) := by
 have hlen : (l.map fun n => [D.int n]).length = l.length := List.length_map ..
 refine pure_enter Try.func77 rfl (by decide) _ Try.ntmps77 (le_ok rfl) (fun w Pr hE => ?_)
 dsimp only [slotsOf, Nat.zero_add, Nat.reduceAdd]
 repeat' (first | refine nx ?_ | (apply aq_block_y; decide) | (apply qr_move; refine r_move ?_) | (apply qr_assign; refine r_assign ?_) | (apply at_cond; first | refine c_t ?_ | refine c_f ?_ | (refine aw_cond rfl (fun hb => ?_) (fun hb => ?_) <;> ((try have hq := dX hb); (try (exfalso; omega))))) | (apply qr_lss; refine r_lss ?_) | (apply qr_add; refine r_add ?_) | (apply qr_len; refine r_len ?_) | (apply qr_ix; refine r_ix ?_) | (apply qr_load; refine r_load ?_))
 refine aw_lp (fun N sl ob => ∃ i : Nat, N = l.length - i ∧ i ≤ l.length ∧ ((l.take i).any fun u => !decide (u = 3)) = false ∧ sl = [(8, .d (.int i)), (7, .d (.int l.length)), (1, .d (.val (.func (.func 69) #[] #[]))), (0, .d (intsD l))] ∧ ob = []) (⟨0, rfl, Nat.zero_le _, by simp, rfl, rfl⟩) ?_
 rintro N sl ob ⟨i, rfl, hi, hs, rfl, rfl⟩
 by_cases hlt : i < l.length
 ·have hg : (l.map fun n => [D.int n])[i]? = some [D.int l[i]] := by rw [get_map hlt]
  have hnext := any_take (fun u => !decide (u = 3)) hlt
  rw [hs, Bool.false_or] at hnext
  have hc := odd_any l[i]
  cases hT : (!decide (l[i] = 3))
  ·rw [hT] at hnext hc
   generalize l[i] = z at hg hc
   repeat' (first | (apply at_op (.indexAddr _ _ _); refine al_ixq hg ?_) | (apply at_call; refine k_call (hc) hE ?_; rintro _ rfl) | refine nx ?_ | (apply aq_block_y; decide) | (apply qr_move; refine r_move ?_) | (apply qr_assign; refine r_assign ?_) | (apply at_cond; first | refine c_t ?_ | refine c_f ?_ | (refine aw_cond rfl (fun hb => ?_) (fun hb => ?_) <;> ((try have hq := dX hb); (try (exfalso; omega))))) | (apply qr_lss; refine r_lss ?_) | (apply qr_add; refine r_add ?_) | (apply qr_len; refine r_len ?_) | (apply qr_ix; refine r_ix ?_) | (apply qr_load; refine r_load ?_))
   refine aq_rd (⟨i + 1, rfl, by omega, hnext, rfl, rfl⟩) (by omega)
  ·rw [hT] at hc
   have hany : (l.any fun u => !decide (u = 3)) = true := List.any_eq_true.2 ⟨l[i], List.getElem_mem hlt, hT⟩
   generalize l[i] = z at hg hc
   repeat' (first | (apply at_op (.indexAddr _ _ _); refine al_ixq hg ?_) | (apply at_call; refine k_call (hc) hE ?_; rintro _ rfl) | refine nx ?_ | (apply aq_block_y; decide) | (apply qr_move; refine r_move ?_) | (apply qr_assign; refine r_assign ?_) | (apply at_cond; first | refine c_t ?_ | refine c_f ?_ | (refine aw_cond rfl (fun hb => ?_) (fun hb => ?_) <;> ((try have hq := dX hb); (try (exfalso; omega))))) | (apply qr_lss; refine r_lss ?_) | (apply qr_add; refine r_add ?_) | (apply qr_len; refine r_len ?_) | (apply qr_ix; refine r_ix ?_) | (apply qr_load; refine r_load ?_))
   refine rt1 ?_
   exact ⟨i, rfl, by rw [hany]; exact decide_eq_true (by omega)⟩
 ·rw [List.take_of_length_le (by omega)] at hs
  repeat' (first | refine nx ?_ | (apply aq_block_y; decide) | (apply qr_move; refine r_move ?_) | (apply qr_assign; refine r_assign ?_) | (apply at_cond; first | refine c_t ?_ | refine c_f ?_ | (refine aw_cond rfl (fun hb => ?_) (fun hb => ?_) <;> ((try have hq := dX hb); (try (exfalso; omega))))) | (apply qr_lss; refine r_lss ?_) | (apply qr_add; refine r_add ?_) | (apply qr_len; refine r_len ?_) | (apply qr_ix; refine r_ix ?_) | (apply qr_load; refine r_load ?_))
  refine rt1 ?_
  exact ⟨-1, rfl, by rw [hs]; rfl⟩
theorem ocontains (l : List Int) (hl : l.length ≤ 100000) : PureC 63 [intsD l, .val (.func (.func 69) #[] #[])] (· = .bool (l.any fun u => !decide (u = 3))) := by
 have hc := oindex l hl
 refine pure_enter Try.func63 rfl (by decide) _ Try.ntmps63 (le_ok rfl) (fun w Pr hE => ?_)
 dsimp only [slotsOf, Nat.zero_add, Nat.reduceAdd]
 repeat' (first | (apply at_call; refine k_call (hc) hE ?_; rintro _ ⟨i, rfl, hi⟩) | refine nx ?_ | (apply qr_move; refine r_move ?_) | (apply qr_assign; refine r_assign ?_) | (apply qr_geq; refine r_geq ?_))
 refine rt1 ?_
 rw [hi]
theorem joined_any (op : Int) (l : List Int) (hl : l.length ≤ 100000) (h15 : op = 15 → l.length = 3) : PureC 59 [.int op, intsD l] (· = .int (joinU op l)) := by
 have hlen : (l.map fun n => [D.int n]).length = l.length := List.length_map ..
 have c1 := logic_any op
 have c2 := ocontains l hl
 by_cases hlog : op = 12 ∨ op = 13 ∨ op = 14
 ·rw [decide_eq_true hlog] at c1
  have hj : joinU op l = if l.any (fun u => !decide (u = 3)) then -1 else 3 := by
   unfold joinU
   rw [if_pos hlog]
  rw [hj]
  cases ha : l.any (fun u => !decide (u = 3))
  all_goals rw [ha] at c2
  all_goals
   refine pure_enter Try.func59 rfl (by decide) _ Try.ntmps59 (le_ok rfl) (fun w Pr hE => ?_)
   dsimp only [slotsOf, Nat.zero_add, Nat.reduceAdd]
   repeat' (first | (apply at_call; refine k_call (c1) hE ?_; rintro _ rfl) | (apply at_call; refine k_call (c2) hE ?_; rintro _ rfl) | refine nx ?_ | (apply aq_block_y; decide) | (apply qr_move; refine r_move ?_) | (apply qr_assign; refine r_assign ?_) | (apply at_cond; first | refine c_t ?_ | refine c_f ?_ | (refine aw_cond rfl (fun hb => ?_) (fun hb => ?_) <;> ((try have hq := dX hb); (try (exfalso; omega))))) | (apply at_guard; first | refine g_go ?_ | refine g_nt ?_ | refine g_nf ?_ | refine g_nu ?_ | ((first | refine al_split_t rfl rfl (lt_ok rfl) (fun hb => ?_) (fun hb => ?_) | refine al_split_f rfl rfl (lt_ok rfl) (fun hb => ?_) (fun hb => ?_)) <;> ((try have hq := dX hb); (try (exfalso; omega))))) | (apply qr_pick; refine r_pick ?_) | (apply qr_eql; refine r_eql ?_) | (apply qr_not; refine r_not ?_) | (apply qr_len; refine r_len ?_) | (apply qr_ix; refine r_ix ?_) | (apply qr_load; refine r_load ?_))
   refine rt1 ?_
   rfl
 rw [decide_eq_false hlog] at c1
 by_cases h : op = 15
 ·have q1 : decide (op = 15) = true := decide_eq_true h
  have h3 := h15 h
  match l, h3 with
  | [x, y, z], _ =>
   have g0 : ([x, y, z].map fun n => [D.int n])[0]? = some [D.int x] := rfl
   have g1 : ([x, y, z].map fun n => [D.int n])[1]? = some [D.int y] := rfl
   have g2 : ([x, y, z].map fun n => [D.int n])[2]? = some [D.int z] := rfl
   have hj : joinU op [x, y, z] = if x = 3 ∧ y = z then y else -1 := by
    unfold joinU
    rw [if_neg hlog, if_pos h]
    rfl
   rw [hj]
   refine pure_enter Try.func59 rfl (by decide) _ Try.ntmps59 (le_ok rfl) (fun w Pr hE => ?_)
   dsimp only [slotsOf, Nat.zero_add, Nat.reduceAdd]
   cases h1 : decide (x = 3)
   all_goals cases h2 : decide (y = z)
   all_goals
    repeat' (first | (apply at_op (.indexAddr _ _ _); first | refine al_y (y_ix (by first | exact ToD.d _ | exact ToD.row _ _ _ _ _ rfl) rfl rfl rfl g0) (lt_ok rfl) ?_ | refine al_y (y_ix (by first | exact ToD.d _ | exact ToD.row _ _ _ _ _ rfl) rfl rfl rfl g1) (lt_ok rfl) ?_) | (apply at_call; refine k_call (c1) hE ?_; rintro _ rfl) | refine nx ?_ | (apply aq_block_y; decide) | (apply qr_move; refine r_move ?_) | (apply qr_assign; refine r_assign ?_) | (apply at_cond; first | refine c_t ?_ | refine c_f ?_ | (refine aw_cond rfl (fun hb => ?_) (fun hb => ?_) <;> ((try have hq := dX hb); (try (exfalso; omega))))) | (apply at_guard; first | refine g_go ?_ | refine g_nt ?_ | refine g_nf ?_ | refine g_nu ?_ | ((first | refine al_split_t rfl rfl (lt_ok rfl) (fun hb => ?_) (fun hb => ?_) | refine al_split_f rfl rfl (lt_ok rfl) (fun hb => ?_) (fun hb => ?_)) <;> ((try have hq := dX hb); (try (exfalso; omega))))) | (apply qr_pick; refine r_pick ?_) | (apply qr_eql; refine r_eql ?_) | (apply qr_not; refine r_not ?_) | (apply qr_len; refine r_len ?_) | (apply qr_ix; refine r_ix ?_) | (apply qr_load; refine r_load ?_))
    refine aw_mixo ([]) [(0, true), (1, true), (2, true), (3, true), (4, true), (5, true), (6, true), (7, true), (8, true), (9, true), (10, true), (11, true), (12, true)] [] (by kernel_rfl) (by kernel_rfl) (by kernel_rfl) (by decide) (by (repeat (first | exact obs_nil | (apply obs_cons; focus (first | rfl | (simp [find]; done)))))) ?_
    simp only [planned, tailed, List.filterMap_cons, List.filterMap_nil, List.getElem?_cons_zero, List.getElem?_cons_succ, Option.map_some]
    repeat' (first | apply am_nil | refine m_skip ?_ | refine n_skip ?_ | (apply at_am (.indexAddr _ _ _); first | refine am_y (by first | exact want_none | exact want_yes rfl rfl (by assumption) | exact want_yes rfl rfl (by with_reducible rfl)) (y_ix (by first | exact ToD.d _ | exact ToD.row _ _ _ _ _ rfl) rfl rfl rfl g0) (lt_ok rfl) ?_ | refine am_y (by first | exact want_none | exact want_yes rfl rfl (by assumption) | exact want_yes rfl rfl (by with_reducible rfl)) (y_ix (by first | exact ToD.d _ | exact ToD.row _ _ _ _ _ rfl) rfl rfl rfl g1) (lt_ok rfl) ?_ | refine am_y (by first | exact want_none | exact want_yes rfl rfl (by assumption) | exact want_yes rfl rfl (by with_reducible rfl)) (y_ix (by first | exact ToD.d _ | exact ToD.row _ _ _ _ _ rfl) rfl rfl rfl g2) (lt_ok rfl) ?_) | (apply qm_move; refine m_move ?_) | (apply qm_pick; refine m_pick ?_) | (apply qm_eql; refine m_eql ?_) | (apply qm_ix; refine m_ix ?_) | (apply qm_load; refine m_load ?_) | (refine am_split rfl rfl (fun hb => ?_) (fun hb => ?_) <;> ((try have hq := dX hb); (try (exfalso; omega)))))
    repeat' (first | (apply at_op (.indexAddr _ _ _); first | refine al_y (y_ix (by first | exact ToD.d _ | exact ToD.row _ _ _ _ _ rfl) rfl rfl rfl g1) (lt_ok rfl) ?_) | refine nx ?_ | (apply aq_block_y; decide) | (apply qr_move; refine r_move ?_) | (apply qr_assign; refine r_assign ?_) | (apply at_cond; first | refine c_t ?_ | refine c_f ?_ | (refine aw_cond rfl (fun hb => ?_) (fun hb => ?_) <;> ((try have hq := dX hb); (try (exfalso; omega))))) | (apply at_guard; first | refine g_go ?_ | refine g_nt ?_ | refine g_nf ?_ | refine g_nu ?_ | ((first | refine al_split_t rfl rfl (lt_ok rfl) (fun hb => ?_) (fun hb => ?_) | refine al_split_f rfl rfl (lt_ok rfl) (fun hb => ?_) (fun hb => ?_)) <;> ((try have hq := dX hb); (try (exfalso; omega))))) | (apply qr_pick; refine r_pick ?_) | (apply qr_eql; refine r_eql ?_) | (apply qr_not; refine r_not ?_) | (apply qr_len; refine r_len ?_) | (apply qr_ix; refine r_ix ?_) | (apply qr_load; refine r_load ?_))
    refine rt1 ?_
    simp only [decide_eq_true_eq, decide_eq_false_iff_not] at h1 h2
    simp [h1, h2]
 have q1 : decide (op = 15) = false := decide_eq_false h
 have hj : joinU op l = if l.length = 2 then pairU op (l.getD 0 0) (l.getD 1 0) else -1 := by
  unfold joinU
  rw [if_neg hlog, if_neg h]
 rw [hj]
 by_cases h2 : l.length = 2
 ·match l, h2 with
  | [x, y], _ =>
   have g0 : ([x, y].map fun n => [D.int n])[0]? = some [D.int x] := rfl
   have g1 : ([x, y].map fun n => [D.int n])[1]? = some [D.int y] := rfl
   have c3 := pair_any op x y
   refine pure_enter Try.func59 rfl (by decide) _ Try.ntmps59 (le_ok rfl) (fun w Pr hE => ?_)
   dsimp only [slotsOf, Nat.zero_add, Nat.reduceAdd]
   repeat' (first | (apply at_call; refine k_call (c1) hE ?_; rintro _ rfl) | refine nx ?_ | (apply aq_block_y; decide) | (apply qr_move; refine r_move ?_) | (apply qr_assign; refine r_assign ?_) | (apply at_cond; first | refine c_t ?_ | refine c_f ?_ | (refine aw_cond rfl (fun hb => ?_) (fun hb => ?_) <;> ((try have hq := dX hb); (try (exfalso; omega))))) | (apply at_guard; first | refine g_go ?_ | refine g_nt ?_ | refine g_nf ?_ | refine g_nu ?_ | ((first | refine al_split_t rfl rfl (lt_ok rfl) (fun hb => ?_) (fun hb => ?_) | refine al_split_f rfl rfl (lt_ok rfl) (fun hb => ?_) (fun hb => ?_)) <;> ((try have hq := dX hb); (try (exfalso; omega))))) | (apply qr_pick; refine r_pick ?_) | (apply qr_eql; refine r_eql ?_) | (apply qr_not; refine r_not ?_) | (apply qr_len; refine r_len ?_) | (apply qr_ix; refine r_ix ?_) | (apply qr_load; refine r_load ?_))
   refine aw_mixo ([]) [(0, true), (1, true), (2, true), (3, true), (4, true), (5, true), (6, true), (7, false)] [8] (by kernel_rfl) (by kernel_rfl) (by kernel_rfl) (by decide) (by (repeat (first | exact obs_nil | (apply obs_cons; focus (first | rfl | (simp [find]; done)))))) ?_
   simp only [planned, tailed, List.filterMap_cons, List.filterMap_nil, List.getElem?_cons_zero, List.getElem?_cons_succ, Option.map_some]
   repeat' (first | apply am_nil | refine m_skip ?_ | refine n_skip ?_ | (apply at_am (.indexAddr _ _ _); first | refine am_y (by first | exact want_none | exact want_yes rfl rfl (by assumption) | exact want_yes rfl rfl (by with_reducible rfl)) (y_ix (by first | exact ToD.d _ | exact ToD.row _ _ _ _ _ rfl) rfl rfl rfl g0) (lt_ok rfl) ?_ | refine am_y (by first | exact want_none | exact want_yes rfl rfl (by assumption) | exact want_yes rfl rfl (by with_reducible rfl)) (y_ix (by first | exact ToD.d _ | exact ToD.row _ _ _ _ _ rfl) rfl rfl rfl g1) (lt_ok rfl) ?_) | (apply at_mcall; refine m_call (c3) hE ?_; rintro _ rfl; (try dsimp only [flat, D.plain, D.plainL])) | (apply qm_move; refine m_move ?_) | (apply qm_ix; refine m_ix ?_) | (apply qm_load; refine m_load ?_) | (refine am_split rfl rfl (fun hb => ?_) (fun hb => ?_) <;> ((try have hq := dX hb); (try (exfalso; omega)))))
   repeat' (first | refine nx ?_ | (apply aq_block_y; decide) | (apply qr_move; refine r_move ?_) | (apply qr_assign; refine r_assign ?_) | (apply at_cond; first | refine c_t ?_ | refine c_f ?_ | (refine aw_cond rfl (fun hb => ?_) (fun hb => ?_) <;> ((try have hq := dX hb); (try (exfalso; omega))))) | (apply qr_ix; refine r_ix ?_) | (apply qr_load; refine r_load ?_))
   refine rt1 ?_
   rfl
 ·have q2 : decide ((l.length : Int) = 2) = false := decide_eq_false (by omega)
  rw [if_neg h2]
  refine pure_enter Try.func59 rfl (by decide) _ Try.ntmps59 (le_ok rfl) (fun w Pr hE => ?_)
  dsimp only [slotsOf, Nat.zero_add, Nat.reduceAdd]
  repeat' (first | (apply at_call; refine k_call (c1) hE ?_; rintro _ rfl) | refine nx ?_ | (apply aq_block_y; decide) | (apply qr_move; refine r_move ?_) | (apply qr_assign; refine r_assign ?_) | (apply at_cond; first | refine c_t ?_ | refine c_f ?_ | (refine aw_cond rfl (fun hb => ?_) (fun hb => ?_) <;> ((try have hq := dX hb); (try (exfalso; omega))))) | (apply at_guard; first | refine g_go ?_ | refine g_nt ?_ | refine g_nf ?_ | refine g_nu ?_ | ((first | refine al_split_t rfl rfl (lt_ok rfl) (fun hb => ?_) (fun hb => ?_) | refine al_split_f rfl rfl (lt_ok rfl) (fun hb => ?_) (fun hb => ?_)) <;> ((try have hq := dX hb); (try (exfalso; omega))))) | (apply qr_pick; refine r_pick ?_) | (apply qr_eql; refine r_eql ?_) | (apply qr_not; refine r_not ?_) | (apply qr_len; refine r_len ?_) | (apply qr_ix; refine r_ix ?_) | (apply qr_load; refine r_load ?_))
  refine rt1 ?_
  rfl
end Go.Proofs.Ytgiacdhffklenaa
end
section
set_option linter.unusedSimpArgs false
set_option linter.unusedVariables false
namespace Go.Proofs.Ytgiacdhffklenaa
open Go.RowKit
theorem one_uints (l : List Int) : ∀ q ∈ l.map (fun n => [D.int n]), ∀ z ∈ q, D.one z = true := by
 intro q hq z hz
 obtain ⟨n, _, rfl⟩ := List.mem_map.1 hq
 simp at hz
 subst hz
 rfl
theorem clone_ints (l : List Int) (hl : l.length ≤ 1000000) : PureC 58 [intsD l] (· = intsD l) := by
 refine pure_enter Try.func58 rfl (by decide) _ Try.ntmps58 (le_ok rfl) (fun w Pr hE => ?_)
 dsimp only [slotsOf, Nat.zero_add, Nat.reduceAdd]
 repeat' (first | (apply at_op (.binOp .eql _ _ _ _); refine al_slnil (by first | exact ToD.d _ | exact ToD.row _ _ _ _ _ rfl) Try.underlying31 (lt_ok rfl) (fun b hb0 => ?_)) | (apply at_op (.buildSlice _ _ _); refine al_step (st_litR0 rfl (lt_ok rfl) rfl) rfl ?_) | (apply at_op (.call { callee := .builtin .append, args := _, argTypes := _ }); refine al_step (st_append rfl rfl (by first | exact ToD.d _ | exact ToD.row _ _ _ _ _ rfl) rfl rfl (one_uints l) (by decide) (by first | (simp only [List.length_map, List.length_append, List.length_cons, List.length_nil]; omega) | omega) (by first | (simp only [List.length_map, List.length_append, List.length_cons, List.length_nil]; omega) | omega) (lt_ok rfl)) rfl ?_) | refine nx ?_ | (apply qr_move; refine r_move ?_) | (apply qr_assign; refine r_assign ?_) | (apply at_cond; first | refine c_t ?_ | refine c_f ?_ | (refine aw_cond rfl (fun hb => ?_) (fun hb => ?_) <;> ((try have hq := dX hb); (try (exfalso; omega))))) | (apply qr_eql; refine r_eql ?_) | (apply qr_lits; refine r_lits ?_) | (apply qr_appd; refine r_appd ?_))
 ·refine ret_one (by rfl) (ToD.nil 1) ?_
  have := hb0 (by assumption)
  have e : l = [] := by simpa using this
  rw [e]
  rfl
 ·skip
  refine rt1 ?_
  simp
theorem clone_irow (l : List Int) (hl : l.length ≤ 1000000) : ObC 58 [.d (intsD l)] [] [5] (fun x o => ∃ k, x = .row 5 k ∧ o = [(5, .row 3 1 k (l.map fun n => [D.int n]))]) := by
 refine ob_enter Try.func58 rfl (by decide) _ Try.ntmps58 (le_ok rfl) rfl (fun w Pr β κ hE => ?_)
 dsimp only [slotsV, Nat.zero_add, Nat.reduceAdd]
 repeat' (first | (apply at_op (.binOp .eql _ _ _ _); refine al_slnil (by first | exact ToD.d _ | exact ToD.row _ _ _ _ _ rfl) Try.underlying31 (lt_ok rfl) (fun b hb0 => ?_)) | (apply at_op (.buildSlice _ _ _); refine al_step (st_litR0 rfl (lt_ok rfl) rfl) rfl ?_) | (apply at_op (.call { callee := .builtin .append, args := _, argTypes := _ }); refine al_step (st_append rfl rfl (by first | exact ToD.d _ | exact ToD.row _ _ _ _ _ rfl) rfl rfl (one_uints l) (by decide) (by first | (simp only [List.length_map, List.length_append, List.length_cons, List.length_nil]; omega) | omega) (by first | (simp only [List.length_map, List.length_append, List.length_cons, List.length_nil]; omega) | omega) (lt_ok rfl)) rfl ?_) | refine nx ?_ | (apply qr_move; refine r_move ?_) | (apply qr_assign; refine r_assign ?_) | (apply at_cond; first | refine c_t ?_ | refine c_f ?_ | (refine aw_cond rfl (fun hb => ?_) (fun hb => ?_) <;> ((try have hq := dX hb); (try (exfalso; omega))))) | (apply qr_eql; refine r_eql ?_) | (apply qr_lits; refine r_lits ?_) | (apply qr_appd; refine r_appd ?_))
 ·refine aq_adopt 2 5 3 1 rfl rfl (lt_ok rfl) ?_
  refine oret1 ([(5, .row 3 1 0 [])]) (by rfl) rv (⟨0, rfl, by rw [hb0 (by assumption)]⟩) sb okx
 ·skip
  refine oret1 ([(5, .row 3 1 1 ([] ++ l.map fun n => [D.int n]))]) (by rfl) rv (⟨1, rfl, rfl⟩) sb okx
abbrev reasD (p : List Int) (c : Int) : D := .agg [intsD p, .int c]
theorem uknown_any {f : Nat} {u : Int} (s : ByteArray) (path : List Int) (hf : PureC f [.str s] (· = knownD u)) (hp : path.length ≤ 1000) :
  PureP 56 [.val (.func (.func f) #[] #[]), .str s, intsD path] 58 (fun r => nameU u = .ok u ∧ r = .int u) (fun z => nameU u = .bad [] 14 ∧ z = reasD path 14) := by
 have hcl := clone_ints path (by omega)
 by_cases hu : u = -1
 ·have hk : knownD u = .tup [.int 0, .bool false] := by
   unfold knownD
   rw [if_pos hu, decide_eq_true hu]
   rfl
  rw [hk] at hf
  refine purep_enter Try.func56 rfl (by decide) _ Try.ntmps56 (le_ok rfl) (fun w Pr hE => ?_)
  dsimp only [slotsOf, Nat.zero_add, Nat.reduceAdd]
  repeat' (first | (apply at_call; refine k_call (hf) hE ?_; rintro _ rfl) | (apply at_call; refine k_call (hcl) hE ?_; rintro _ rfl) | (apply at_op (.makeInterface _ _); refine al_y (y_ifc (by first | exact ToD.d _ | exact ToD.row _ _ _ _ _ rfl) Try.underlying58 rfl) (lt_ok rfl) ?_) | (apply at_op (.panic _); refine al_panicD rfl ?_) | refine nx ?_ | apply aq_pq | apply aq_pandn | (apply qr_move; refine r_move ?_) | (apply qr_assign; refine r_assign ?_) | (apply at_cond; first | refine c_t ?_ | refine c_f ?_ | (refine aw_cond rfl (fun hb => ?_) (fun hb => ?_) <;> ((try have hq := dX hb); (try (exfalso; omega))))) | (apply qr_not; refine r_not ?_) | (apply qr_extract; refine r_extract ?_) | (apply qr_build; refine r_build ?_))
  repeat (first | with_reducible refine aqd_block ?_ | with_reducible refine aqd_then ?_)
  exact aqd_body ⟨by unfold nameU; rw [if_pos hu], rfl⟩
 ·have hk : knownD u = .tup [.int u, .bool true] := by
   unfold knownD
   rw [if_neg hu, decide_eq_false hu]
   rfl
  rw [hk] at hf
  refine purep_enter Try.func56 rfl (by decide) _ Try.ntmps56 (le_ok rfl) (fun w Pr hE => ?_)
  dsimp only [slotsOf, Nat.zero_add, Nat.reduceAdd]
  repeat' (first | (apply at_call; refine k_call (hf) hE ?_; rintro _ rfl) | refine nx ?_ | apply aq_pq | apply aq_pandn | (apply qr_move; refine r_move ?_) | (apply qr_assign; refine r_assign ?_) | (apply at_cond; first | refine c_t ?_ | refine c_f ?_ | (refine aw_cond rfl (fun hb => ?_) (fun hb => ?_) <;> ((try have hq := dX hb); (try (exfalso; omega))))) | (apply qr_not; refine r_not ?_) | (apply qr_extract; refine r_extract ?_) | (apply qr_build; refine r_build ?_))
  refine aq_pd ?_
  refine rt1 ?_
  exact ⟨by unfold nameU; rw [if_neg hu], rfl⟩
end Go.Proofs.Ytgiacdhffklenaa
end
