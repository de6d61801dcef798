/-
  A disk's queue and set: what is deleted from them. Conditions: none.
-/
import Derived.Test.YtabaflklognhaaaDkB
set_option linter.unusedSimpArgs false
set_option linter.unusedVariables false
namespace Go.Proofs.Ytabaflklognhaaa
open Go.RowKit Go.ChangeMaps

def flatD (Q : List Sec) : List D := (Q.map secC).flatten
theorem flatD_cons (p : Sec) (Q : List Sec) : flatD (p :: Q) = D.int p.1 :: D.int p.2 :: flatD Q := rfl
theorem flatD_app (A B : List Sec) : flatD (A ++ B) = flatD A ++ flatD B := by simp [flatD]
theorem flatD_len : ∀ (Q : List Sec), (flatD Q).length = 2 * Q.length
  | [] => rfl
  | p :: Q => by rw [flatD_cons, List.length_cons, List.length_cons, flatD_len Q, List.length_cons]; omega
theorem flatD_drop : ∀ (Q : List Sec) (i : Nat), (flatD Q).drop (2 * i) = flatD (Q.drop i)
  | Q, 0 => by simp
  | [], i + 1 => by simp [flatD]
  | p :: Q, i + 1 => by rw [flatD_cons, show 2 * (i + 1) = 2 * i + 1 + 1 by omega, List.drop_succ_cons, List.drop_succ_cons, List.drop_succ_cons, flatD_drop Q i]
theorem flatD_get {Q : List Sec} {i : Nat} (h : i < Q.length) : ((flatD Q).drop (2 * i)).take 2 = [D.int Q[i].1, D.int Q[i].2] := by
  rw [flatD_drop, List.drop_eq_getElem_cons h, flatD_cons]
  rfl
theorem unD_maps : ∀ (l : List D), unD (l.map V.d) = some l
  | [] => rfl
  | x :: l => by simp [unD, unD_maps l]
theorem unD_part {B : List D} {Z : List V} {o n : Nat} (h : o + n ≤ B.length) : unD (((B.map V.d ++ Z).drop o).take n) = some ((B.drop o).take n) := by
  rw [List.drop_append_of_le_length (by simp; omega), List.take_append_of_le_length (by simp; omega), ← List.map_drop, ← List.map_take, unD_maps]
theorem put_ds {B : List D} {Z : List V} {o : Nat} {n : List D} (h : o + n.length ≤ B.length) : Go.Proofs.Ytabaflklognhaaa.put (B.map V.d ++ Z) o (n.map V.d) = (putD B o n).map V.d ++ Z := by
  unfold Go.Proofs.Ytabaflklognhaaa.put putD
  rw [List.take_append_of_le_length (by simp; omega), List.drop_append_of_le_length (by simp; omega)]
  simp
theorem take_ne {f : Int} {Q : List Sec} {i : Nat} (hlt : i < Q.length) (hs : ∀ p ∈ Q.take i, p.1 ≠ f) (he : ¬ Q[i].1 = f) : ∀ p ∈ Q.take (i + 1), p.1 ≠ f := by
  rw [List.take_succ_eq_append_getElem hlt]
  intro p hp
  rcases List.mem_append.1 hp with hp | hp
  · exact hs p hp
  · simp at hp
    subst hp
    exact he
abbrev capB (f : Int) : O := .box 3 [.d (.int f)]
set_option maxHeartbeats 4000000 in
set_option maxRecDepth 20000 in
theorem clo1_any (f a b : Int) : ObC 57 [.d (.agg [.int a, .int b]), .box 1000 0] [(1000, capB f)] [] (fun x o => x = .d (.bool (decide (a = f))) ∧ o = [(1000, capB f)]) := by
  refine ob_enter Try.func57 rfl (by decide) _ Try.ntmps57 (le_ok rfl) rfl (fun w Pr β κ hE => ?_)
  dsimp only [slotsV, Nat.zero_add, Nat.reduceAdd]
  repeat' (first | apply aw_seq | apply aw_region | apply al_nil | apply aq_np | apply aq_then | apply aq_then_x | apply aq_then_r | apply aw_skip | apply aw_exit | apply aw_ret | (apply at_op (.assign _); refine r_assign ?_) | (apply at_op (.binOp .eql _ _ _ _); refine r_eql ?_) | (apply at_op (.load _ _); refine r_load ?_) | (apply at_op (.fieldAddr _ _ _); refine r_faddr ?_) | (apply at_op (.box _ _); refine r_boxed ?_))
  refine oret1 ([(1000, capB f)]) (by rfl) (by first | exact ResV.x _ _ (ResX.tmp _ _ (by first | exact ToD.d _ | exact ToD.row _ _ _ _ _ rfl | exact ToD.nil _)) | exact ResV.tmp _ _ rfl | exact ResV.x _ _ (ResX.cellA _ _ _ _ _ _ _ rfl rfl rfl (by first | (simp only [normV, normList, normMap]; rfl) | rfl) rfl)) (⟨rfl, rfl⟩) (by (repeat (first | exact obs_nil | (apply obs_cons; focus (first | rfl | (simp [find]; done)))))) (by first | rfl | (simp [okOut, V.within, V.withinL, O.within, keys, mem, look, nbeq_def, withinL_app, withinL_ds, withinL_und]; done))
set_option maxHeartbeats 4000000 in
set_option maxRecDepth 20000 in
theorem clo2_any (f a b : Int) (u : Bool) : ObC 59 [.d (.agg [.int a, .int b]), .d (.bool u), .box 1000 0] [(1000, capB f)] [] (fun x o => x = .d (.bool (decide (a = f))) ∧ o = [(1000, capB f)]) := by
  refine ob_enter Try.func59 rfl (by decide) _ Try.ntmps59 (le_ok rfl) rfl (fun w Pr β κ hE => ?_)
  dsimp only [slotsV, Nat.zero_add, Nat.reduceAdd]
  repeat' (first | apply aw_seq | apply aw_region | apply al_nil | apply aq_np | apply aq_then | apply aq_then_x | apply aq_then_r | apply aw_skip | apply aw_exit | apply aw_ret | (apply at_op (.assign _); refine r_assign ?_) | (apply at_op (.binOp .eql _ _ _ _); refine r_eql ?_) | (apply at_op (.load _ _); refine r_load ?_) | (apply at_op (.fieldAddr _ _ _); refine r_faddr ?_) | (apply at_op (.box _ _); refine r_boxed ?_))
  refine oret1 ([(1000, capB f)]) (by rfl) (by first | exact ResV.x _ _ (ResX.tmp _ _ (by first | exact ToD.d _ | exact ToD.row _ _ _ _ _ rfl | exact ToD.nil _)) | exact ResV.tmp _ _ rfl | exact ResV.x _ _ (ResX.cellA _ _ _ _ _ _ _ rfl rfl rfl (by first | (simp only [normV, normList, normMap]; rfl) | rfl) rfl)) (⟨rfl, rfl⟩) (by (repeat (first | exact obs_nil | (apply obs_cons; focus (first | rfl | (simp [find]; done)))))) (by first | rfl | (simp [okOut, V.within, V.withinL, O.within, keys, mem, look, nbeq_def, withinL_app, withinL_ds, withinL_und]; done))
abbrev rowB (B : List D) (m : Nat) : O := .box 70 (B.map V.d ++ List.replicate m .und)
def Idx (f : Int) (Q : List Sec) (r : Int) : Prop := (r = -1 ∧ ∀ p ∈ Q, p.1 ≠ f) ∨ ∃ i : Nat, ∃ h : i < Q.length, r = i ∧ Q[i].1 = f ∧ ∀ p ∈ Q.take i, p.1 ≠ f
set_option maxHeartbeats 8000000 in
set_option maxRecDepth 20000 in
theorem index_any (f : Int) (Q : List Sec) (m : Nat) (hQ : Q.length ≤ 4194320) : ObC 63 [.sl 1001 0 Q.length, .clo (.func 57) [.box 1000 0]] [(1001, rowB (flatD Q) m), (1000, capB f)] [] (fun x o => (∃ r, x = .d (.int r) ∧ Idx f Q r) ∧ o = [(1001, rowB (flatD Q) m), (1000, capB f)]) := by
  refine ob_enter Try.func63 rfl (by decide) _ Try.ntmps63 (le_ok rfl) rfl (fun w Pr β κ hE => ?_)
  dsimp only [slotsV, Nat.zero_add, Nat.reduceAdd]
  repeat' (first | apply aw_seq | apply aw_region | apply al_nil | apply aq_np | apply aq_then | apply aq_then_x | apply aq_then_r | apply aq_block_x | (apply aq_block_y; decide) | apply aq_block_r | apply aq_block | apply aw_block | apply aw_skip | apply aw_exit | apply aw_ret | (apply at_op (.move _); refine r_move ?_) | (apply at_op (.assign _); refine r_assign ?_) | (apply at_cond; first | refine c_t ?_ | refine c_f ?_ | (refine aw_cond rfl (fun hb => ?_) (fun hb => ?_) <;> ((first | have hq := of_decide_eq_true hb | have hq := of_decide_eq_false hb | have hq := dNT hb | have hq := dNF hb | skip); (try (exfalso; omega))))) | (apply at_op (.binOp .lss _ _ _ _); refine r_lss ?_) | (apply at_op (.binOp .add _ _ _ _); refine r_add ?_) | (apply at_op (.call { callee := .builtin .len, args := _, argTypes := _ }); refine r_len ?_) | (apply at_op (.indexAddr _ _ _); refine r_ix ?_) | (apply at_op (.load _ _); refine r_load ?_))
  refine aw_loop2 (fun N sl ob => ∃ i : Nat, N = Q.length - i ∧ i ≤ Q.length ∧ (∀ p ∈ Q.take i, p.1 ≠ f) ∧ sl = [(8, .d (.int i)), (7, .d (.int Q.length)), (1, .clo (.func 57) [.box 1000 0]), (0, .sl 1001 0 Q.length)] ∧ ob = [(1001, rowB (flatD Q) m), (1000, capB f)]) (_) _ _ (⟨0, rfl, Nat.zero_le _, by simp, rfl, rfl⟩) ?_ ?_ ?_
  · (repeat (first | exact sub_nil | (apply sub_cons; focus (first | rfl | exact vint (by first | omega) | (simp [look]; done)))))
  · (repeat (first | exact obs_nil | (apply obs_cons; focus (first | rfl | (simp [find]; done)))))
  rintro N sl ob ⟨i, rfl, hi, hs, rfl, rfl⟩
  by_cases hlt : i < Q.length
  · have hld : unD ((((flatD Q).map V.d ++ List.replicate m V.und).drop (0 + i * 2)).take 2) = some [D.int Q[i].1, D.int Q[i].2] := by
      rw [unD_part (by rw [flatD_len]; omega), show 0 + i * 2 = 2 * i by omega, flatD_get hlt]
    have hc := clo1_any f Q[i].1 Q[i].2
    by_cases he : Q[i].1 = f
    · have hq1 : decide (Q[i].1 = f) = true := decide_eq_true he
      repeat' (first | (apply at_op (.indexAddr _ _ _); refine al_y (y_slix rfl rfl rfl rfl hlt rfl) (lt_ok rfl) ?_) | (apply at_op (.load _ _); refine al_y (y_bloadA rfl rfl rfl hld rfl) (lt_ok rfl) ?_) | (apply at_call; refine k_clocall1 [(1000, 1000)] (hc) hE ?_; rintro _ _ ⟨rfl, rfl⟩ <;> (intro _ _ h1 h2; simp only [renEqs, Nat.reduceBEq] at h1 h2; subst h1 h2)) | apply aw_seq | apply aw_region | apply al_nil | apply aq_np | apply aq_then | apply aq_then_x | apply aq_then_r | apply aq_block_x | (apply aq_block_y; decide) | apply aq_block_r | apply aq_block | apply aw_block | apply aw_skip | apply aw_exit | apply aw_ret | (apply at_op (.move _); refine r_move ?_) | (apply at_op (.assign _); refine r_assign ?_) | (apply at_cond; first | refine c_t ?_ | refine c_f ?_ | (refine aw_cond rfl (fun hb => ?_) (fun hb => ?_) <;> ((first | have hq := of_decide_eq_true hb | have hq := of_decide_eq_false hb | have hq := dNT hb | have hq := dNF hb | skip); (try (exfalso; omega))))) | (apply at_op (.binOp .lss _ _ _ _); refine r_lss ?_) | (apply at_op (.binOp .add _ _ _ _); refine r_add ?_) | (apply at_op (.call { callee := .builtin .len, args := _, argTypes := _ }); refine r_len ?_) | (apply at_op (.indexAddr _ _ _); refine r_ix ?_) | (apply at_op (.load _ _); refine r_load ?_))
      refine oret1 ([(1001, rowB (flatD Q) m), (1000, capB f)]) (by rfl) (by first | exact ResV.x _ _ (ResX.tmp _ _ (by first | exact ToD.d _ | exact ToD.row _ _ _ _ _ rfl | exact ToD.nil _)) | exact ResV.tmp _ _ rfl | exact ResV.x _ _ (ResX.cellA _ _ _ _ _ _ _ rfl rfl rfl (by first | (simp only [normV, normList, normMap]; rfl) | rfl) rfl)) (⟨⟨i, rfl, .inr ⟨i, hlt, rfl, he, hs⟩⟩, rfl⟩) (by (repeat (first | exact obs_nil | (apply obs_cons; focus (first | rfl | (simp [find]; done)))))) (by first | rfl | (simp [okOut, V.within, V.withinL, O.within, keys, mem, look, nbeq_def, withinL_app, withinL_ds, withinL_und]; done))
    · have hq1 : decide (Q[i].1 = f) = false := decide_eq_false he
      repeat' (first | (apply at_op (.indexAddr _ _ _); refine al_y (y_slix rfl rfl rfl rfl hlt rfl) (lt_ok rfl) ?_) | (apply at_op (.load _ _); refine al_y (y_bloadA rfl rfl rfl hld rfl) (lt_ok rfl) ?_) | (apply at_call; refine k_clocall1 [(1000, 1000)] (hc) hE ?_; rintro _ _ ⟨rfl, rfl⟩ <;> (intro _ _ h1 h2; simp only [renEqs, Nat.reduceBEq] at h1 h2; subst h1 h2)) | apply aw_seq | apply aw_region | apply al_nil | apply aq_np | apply aq_then | apply aq_then_x | apply aq_then_r | apply aq_block_x | (apply aq_block_y; decide) | apply aq_block_r | apply aq_block | apply aw_block | apply aw_skip | apply aw_exit | apply aw_ret | (apply at_op (.move _); refine r_move ?_) | (apply at_op (.assign _); refine r_assign ?_) | (apply at_cond; first | refine c_t ?_ | refine c_f ?_ | (refine aw_cond rfl (fun hb => ?_) (fun hb => ?_) <;> ((first | have hq := of_decide_eq_true hb | have hq := of_decide_eq_false hb | have hq := dNT hb | have hq := dNF hb | skip); (try (exfalso; omega))))) | (apply at_op (.binOp .lss _ _ _ _); refine r_lss ?_) | (apply at_op (.binOp .add _ _ _ _); refine r_add ?_) | (apply at_op (.call { callee := .builtin .len, args := _, argTypes := _ }); refine r_len ?_) | (apply at_op (.indexAddr _ _ _); refine r_ix ?_) | (apply at_op (.load _ _); refine r_load ?_))
      refine aq_round _ _ _ (⟨i + 1, rfl, by omega, take_ne hlt hs he, rfl, rfl⟩) (by omega) ?_ ?_
      · (repeat (first | exact sub_nil | (apply sub_cons; focus (first | rfl | exact vint (by first | omega) | (simp [look]; done)))))
      · (repeat (first | exact obs_nil | (apply obs_cons; focus (first | rfl | (simp [find]; done)))))
  · rw [List.take_of_length_le (by omega)] at hs
    repeat' (first | apply aw_seq | apply aw_region | apply al_nil | apply aq_np | apply aq_then | apply aq_then_x | apply aq_then_r | apply aq_block_x | (apply aq_block_y; decide) | apply aq_block_r | apply aq_block | apply aw_block | apply aw_skip | apply aw_exit | apply aw_ret | (apply at_op (.move _); refine r_move ?_) | (apply at_op (.assign _); refine r_assign ?_) | (apply at_cond; first | refine c_t ?_ | refine c_f ?_ | (refine aw_cond rfl (fun hb => ?_) (fun hb => ?_) <;> ((first | have hq := of_decide_eq_true hb | have hq := of_decide_eq_false hb | have hq := dNT hb | have hq := dNF hb | skip); (try (exfalso; omega))))) | (apply at_op (.binOp .lss _ _ _ _); refine r_lss ?_) | (apply at_op (.binOp .add _ _ _ _); refine r_add ?_) | (apply at_op (.call { callee := .builtin .len, args := _, argTypes := _ }); refine r_len ?_) | (apply at_op (.indexAddr _ _ _); refine r_ix ?_) | (apply at_op (.load _ _); refine r_load ?_))
    refine oret1 ([(1001, rowB (flatD Q) m), (1000, capB f)]) (by rfl) (by first | exact ResV.x _ _ (ResX.tmp _ _ (by first | exact ToD.d _ | exact ToD.row _ _ _ _ _ rfl | exact ToD.nil _)) | exact ResV.tmp _ _ rfl | exact ResV.x _ _ (ResX.cellA _ _ _ _ _ _ _ rfl rfl rfl (by first | (simp only [normV, normList, normMap]; rfl) | rfl) rfl)) (⟨⟨_, rfl, .inl ⟨rfl, hs⟩⟩, rfl⟩) (by (repeat (first | exact obs_nil | (apply obs_cons; focus (first | rfl | (simp [find]; done)))))) (by first | rfl | (simp [okOut, V.within, V.withinL, O.within, keys, mem, look, nbeq_def, withinL_app, withinL_ds, withinL_und]; done))
end Go.Proofs.Ytabaflklognhaaa
