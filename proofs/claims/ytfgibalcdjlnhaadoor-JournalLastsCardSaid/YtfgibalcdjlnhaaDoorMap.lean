/-
  A disk's queue and set: what is deleted from them. Conditions: none.
  A disk's queue and set: DeleteFunc of slices and maps; settle. Conditions: none.
  A disk's queue and set: what settle does. Conditions: none.
-/
import Derived.Test.YtfgibalcdjlnhaaDoorMao
section
set_option linter.unusedSimpArgs false
set_option linter.unusedVariables false
namespace Go.Proofs.YtfgibalcdjlnhaaDoor
open Go.RowKit Go.ChangeMaps

def flatD (Q : List Sec) : List D := (Q.map secC).flatten
theorem flatD_cons (p : Sec) (Q : List Sec) : flatD (p :: Q) = D.int p.1 :: D.int p.2 :: flatD Q := rfl
theorem flatD_app (A B : List Sec) : flatD (A ++ B) = flatD A ++ flatD B := by simp [flatD]
theorem flatD_len : ∀ (Q : List Sec), (flatD Q).length = 2 * Q.length
  | [] => rfl
  | p :: Q => by rw [flatD_cons, List.length_cons, List.length_cons, flatD_len Q, List.length_cons]; omega
theorem flatD_drop : ∀ (Q : List Sec) (i : Nat), (flatD Q).drop (2 * i) = flatD (Q.drop i)
  | Q, 0 => by simp
  | [], i + 1 => by simp [flatD]
  | p :: Q, i + 1 => by rw [flatD_cons, show 2 * (i + 1) = 2 * i + 1 + 1 by omega, List.drop_succ_cons, List.drop_succ_cons, List.drop_succ_cons, flatD_drop Q i]
theorem flatD_get {Q : List Sec} {i : Nat} (h : i < Q.length) : ((flatD Q).drop (2 * i)).take 2 = [D.int Q[i].1, D.int Q[i].2] := by
  rw [flatD_drop, List.drop_eq_getElem_cons h, flatD_cons]
  rfl
theorem unD_maps : ∀ (l : List D), unD (l.map V.d) = some l
  | [] => rfl
  | x :: l => by simp [unD, unD_maps l]
theorem unD_part {B : List D} {Z : List V} {o n : Nat} (h : o + n ≤ B.length) : unD (((B.map V.d ++ Z).drop o).take n) = some ((B.drop o).take n) := by
  rw [List.drop_append_of_le_length (by simp; omega), List.take_append_of_le_length (by simp; omega), ← List.map_drop, ← List.map_take, unD_maps]
theorem put_ds {B : List D} {Z : List V} {o : Nat} {n : List D} (h : o + n.length ≤ B.length) : Go.Proofs.YtfgibalcdjlnhaaDoor.put (B.map V.d ++ Z) o (n.map V.d) = (putD B o n).map V.d ++ Z := by
  unfold Go.Proofs.YtfgibalcdjlnhaaDoor.put putD
  rw [List.take_append_of_le_length (by simp; omega), List.drop_append_of_le_length (by simp; omega)]
  simp
theorem take_ne {f : Int} {Q : List Sec} {i : Nat} (hlt : i < Q.length) (hs : ∀ p ∈ Q.take i, p.1 ≠ f) (he : ¬ Q[i].1 = f) : ∀ p ∈ Q.take (i + 1), p.1 ≠ f := by
  rw [List.take_succ_eq_append_getElem hlt]
  intro p hp
  rcases List.mem_append.1 hp with hp | hp
  · exact hs p hp
  · simp at hp
    subst hp
    exact he
abbrev capB (f : Int) : O := .box 3 [.d (.int f)]
set_option maxHeartbeats 4000000 in
set_option maxRecDepth 20000 in
theorem clo1_any (f a b : Int) : ObC 54 [.d (.agg [.int a, .int b]), .box 1000 0] [(1000, capB f)] [] (fun x o => x = .d (.bool (decide (a = f))) ∧ o = [(1000, capB f)]) := by
  refine ob_enter Tryd.func54 rfl (by decide) _ Tryd.ntmps54 (le_ok rfl) rfl (fun w Pr β κ hE => ?_)
  dsimp only [slotsV, Nat.zero_add, Nat.reduceAdd]
  repeat' (first | apply aw_seq | apply aw_region | apply al_nil | apply aq_np | apply aq_then | apply aq_then_x | apply aq_then_r | apply aw_skip | apply aw_exit | apply aw_ret | (apply at_op (.assign _); refine r_assign ?_) | (apply at_op (.binOp .eql _ _ _ _); refine r_eql ?_) | (apply at_op (.load _ _); refine r_load ?_) | (apply at_op (.fieldAddr _ _ _); refine r_faddr ?_) | (apply at_op (.box _ _); refine r_boxed ?_))
  refine oret1 ([(1000, capB f)]) (by rfl) (by first | exact ResV.x _ _ (ResX.tmp _ _ (by first | exact ToD.d _ | exact ToD.row _ _ _ _ _ rfl | exact ToD.nil _)) | exact ResV.tmp _ _ rfl | exact ResV.x _ _ (ResX.cellA _ _ _ _ _ _ _ rfl rfl rfl (by first | (simp only [normV, normList, normMap]; rfl) | rfl) rfl)) (⟨rfl, rfl⟩) (by (repeat (first | exact obs_nil | (apply obs_cons; focus (first | rfl | (simp [find]; done)))))) (by first | rfl | (simp [okOut, V.within, V.withinL, O.within, keys, mem, look, nbeq_def, withinL_app, withinL_ds, withinL_und]; done))
set_option maxHeartbeats 4000000 in
set_option maxRecDepth 20000 in
theorem clo2_any (f a b : Int) (u : Bool) : ObC 56 [.d (.agg [.int a, .int b]), .d (.bool u), .box 1000 0] [(1000, capB f)] [] (fun x o => x = .d (.bool (decide (a = f))) ∧ o = [(1000, capB f)]) := by
  refine ob_enter Tryd.func56 rfl (by decide) _ Tryd.ntmps56 (le_ok rfl) rfl (fun w Pr β κ hE => ?_)
  dsimp only [slotsV, Nat.zero_add, Nat.reduceAdd]
  repeat' (first | apply aw_seq | apply aw_region | apply al_nil | apply aq_np | apply aq_then | apply aq_then_x | apply aq_then_r | apply aw_skip | apply aw_exit | apply aw_ret | (apply at_op (.assign _); refine r_assign ?_) | (apply at_op (.binOp .eql _ _ _ _); refine r_eql ?_) | (apply at_op (.load _ _); refine r_load ?_) | (apply at_op (.fieldAddr _ _ _); refine r_faddr ?_) | (apply at_op (.box _ _); refine r_boxed ?_))
  refine oret1 ([(1000, capB f)]) (by rfl) (by first | exact ResV.x _ _ (ResX.tmp _ _ (by first | exact ToD.d _ | exact ToD.row _ _ _ _ _ rfl | exact ToD.nil _)) | exact ResV.tmp _ _ rfl | exact ResV.x _ _ (ResX.cellA _ _ _ _ _ _ _ rfl rfl rfl (by first | (simp only [normV, normList, normMap]; rfl) | rfl) rfl)) (⟨rfl, rfl⟩) (by (repeat (first | exact obs_nil | (apply obs_cons; focus (first | rfl | (simp [find]; done)))))) (by first | rfl | (simp [okOut, V.within, V.withinL, O.within, keys, mem, look, nbeq_def, withinL_app, withinL_ds, withinL_und]; done))
abbrev rowB (B : List D) (m : Nat) : O := .box 78 (B.map V.d ++ List.replicate m .und)
def Idx (f : Int) (Q : List Sec) (r : Int) : Prop := (r = -1 ∧ ∀ p ∈ Q, p.1 ≠ f) ∨ ∃ i : Nat, ∃ h : i < Q.length, r = i ∧ Q[i].1 = f ∧ ∀ p ∈ Q.take i, p.1 ≠ f
set_option maxHeartbeats 8000000 in
set_option maxRecDepth 20000 in
theorem index_any (f : Int) (Q : List Sec) (m : Nat) (hQ : Q.length ≤ 4194320) : ObC 62 [.sl 1001 0 Q.length, .clo (.func 54) [.box 1000 0]] [(1001, rowB (flatD Q) m), (1000, capB f)] [] (fun x o => (∃ r, x = .d (.int r) ∧ Idx f Q r) ∧ o = [(1001, rowB (flatD Q) m), (1000, capB f)]) := by
  refine ob_enter Tryd.func62 rfl (by decide) _ Tryd.ntmps62 (le_ok rfl) rfl (fun w Pr β κ hE => ?_)
  dsimp only [slotsV, Nat.zero_add, Nat.reduceAdd]
  repeat' (first | apply aw_seq | apply aw_region | apply al_nil | apply aq_np | apply aq_then | apply aq_then_x | apply aq_then_r | apply aq_block_x | (apply aq_block_y; decide) | apply aq_block_r | apply aq_block | apply aw_block | apply aw_skip | apply aw_exit | apply aw_ret | (apply at_op (.move _); refine r_move ?_) | (apply at_op (.assign _); refine r_assign ?_) | (apply at_cond; first | refine c_t ?_ | refine c_f ?_ | (refine aw_cond rfl (fun hb => ?_) (fun hb => ?_) <;> ((first | have hq := of_decide_eq_true hb | have hq := of_decide_eq_false hb | have hq := dNT hb | have hq := dNF hb | skip); (try (exfalso; omega))))) | (apply at_op (.binOp .lss _ _ _ _); refine r_lss ?_) | (apply at_op (.binOp .add _ _ _ _); refine r_add ?_) | (apply at_op (.call { callee := .builtin .len, args := _, argTypes := _ }); refine r_len ?_) | (apply at_op (.indexAddr _ _ _); refine r_ix ?_) | (apply at_op (.load _ _); refine r_load ?_))
  refine aw_loop2 (fun N sl ob => ∃ i : Nat, N = Q.length - i ∧ i ≤ Q.length ∧ (∀ p ∈ Q.take i, p.1 ≠ f) ∧ sl = [(8, .d (.int i)), (7, .d (.int Q.length)), (1, .clo (.func 54) [.box 1000 0]), (0, .sl 1001 0 Q.length)] ∧ ob = [(1001, rowB (flatD Q) m), (1000, capB f)]) (_) _ _ (⟨0, rfl, Nat.zero_le _, by simp, rfl, rfl⟩) ?_ ?_ ?_
  · (repeat (first | exact sub_nil | (apply sub_cons; focus (first | rfl | exact vint (by first | omega) | (simp [look]; done)))))
  · (repeat (first | exact obs_nil | (apply obs_cons; focus (first | rfl | (simp [find]; done)))))
  rintro N sl ob ⟨i, rfl, hi, hs, rfl, rfl⟩
  by_cases hlt : i < Q.length
  · have hld : unD ((((flatD Q).map V.d ++ List.replicate m V.und).drop (0 + i * 2)).take 2) = some [D.int Q[i].1, D.int Q[i].2] := by
      rw [unD_part (by rw [flatD_len]; omega), show 0 + i * 2 = 2 * i by omega, flatD_get hlt]
    have hc := clo1_any f Q[i].1 Q[i].2
    by_cases he : Q[i].1 = f
    · have hq1 : decide (Q[i].1 = f) = true := decide_eq_true he
      repeat' (first | (apply at_op (.indexAddr _ _ _); refine al_y (y_slix rfl rfl rfl rfl hlt rfl) (lt_ok rfl) ?_) | (apply at_op (.load _ _); refine al_y (y_bloadA rfl rfl rfl hld rfl) (lt_ok rfl) ?_) | (apply at_call; refine k_clocall1 [(1000, 1000)] (hc) hE ?_; rintro _ _ ⟨rfl, rfl⟩ <;> (intro _ _ h1 h2; simp only [renEqs, Nat.reduceBEq] at h1 h2; subst h1 h2)) | apply aw_seq | apply aw_region | apply al_nil | apply aq_np | apply aq_then | apply aq_then_x | apply aq_then_r | apply aq_block_x | (apply aq_block_y; decide) | apply aq_block_r | apply aq_block | apply aw_block | apply aw_skip | apply aw_exit | apply aw_ret | (apply at_op (.move _); refine r_move ?_) | (apply at_op (.assign _); refine r_assign ?_) | (apply at_cond; first | refine c_t ?_ | refine c_f ?_ | (refine aw_cond rfl (fun hb => ?_) (fun hb => ?_) <;> ((first | have hq := of_decide_eq_true hb | have hq := of_decide_eq_false hb | have hq := dNT hb | have hq := dNF hb | skip); (try (exfalso; omega))))) | (apply at_op (.binOp .lss _ _ _ _); refine r_lss ?_) | (apply at_op (.binOp .add _ _ _ _); refine r_add ?_) | (apply at_op (.call { callee := .builtin .len, args := _, argTypes := _ }); refine r_len ?_) | (apply at_op (.indexAddr _ _ _); refine r_ix ?_) | (apply at_op (.load _ _); refine r_load ?_))
      refine oret1 ([(1001, rowB (flatD Q) m), (1000, capB f)]) (by rfl) (by first | exact ResV.x _ _ (ResX.tmp _ _ (by first | exact ToD.d _ | exact ToD.row _ _ _ _ _ rfl | exact ToD.nil _)) | exact ResV.tmp _ _ rfl | exact ResV.x _ _ (ResX.cellA _ _ _ _ _ _ _ rfl rfl rfl (by first | (simp only [normV, normList, normMap]; rfl) | rfl) rfl)) (⟨⟨i, rfl, .inr ⟨i, hlt, rfl, he, hs⟩⟩, rfl⟩) (by (repeat (first | exact obs_nil | (apply obs_cons; focus (first | rfl | (simp [find]; done)))))) (by first | rfl | (simp [okOut, V.within, V.withinL, O.within, keys, mem, look, nbeq_def, withinL_app, withinL_ds, withinL_und]; done))
    · have hq1 : decide (Q[i].1 = f) = false := decide_eq_false he
      repeat' (first | (apply at_op (.indexAddr _ _ _); refine al_y (y_slix rfl rfl rfl rfl hlt rfl) (lt_ok rfl) ?_) | (apply at_op (.load _ _); refine al_y (y_bloadA rfl rfl rfl hld rfl) (lt_ok rfl) ?_) | (apply at_call; refine k_clocall1 [(1000, 1000)] (hc) hE ?_; rintro _ _ ⟨rfl, rfl⟩ <;> (intro _ _ h1 h2; simp only [renEqs, Nat.reduceBEq] at h1 h2; subst h1 h2)) | apply aw_seq | apply aw_region | apply al_nil | apply aq_np | apply aq_then | apply aq_then_x | apply aq_then_r | apply aq_block_x | (apply aq_block_y; decide) | apply aq_block_r | apply aq_block | apply aw_block | apply aw_skip | apply aw_exit | apply aw_ret | (apply at_op (.move _); refine r_move ?_) | (apply at_op (.assign _); refine r_assign ?_) | (apply at_cond; first | refine c_t ?_ | refine c_f ?_ | (refine aw_cond rfl (fun hb => ?_) (fun hb => ?_) <;> ((first | have hq := of_decide_eq_true hb | have hq := of_decide_eq_false hb | have hq := dNT hb | have hq := dNF hb | skip); (try (exfalso; omega))))) | (apply at_op (.binOp .lss _ _ _ _); refine r_lss ?_) | (apply at_op (.binOp .add _ _ _ _); refine r_add ?_) | (apply at_op (.call { callee := .builtin .len, args := _, argTypes := _ }); refine r_len ?_) | (apply at_op (.indexAddr _ _ _); refine r_ix ?_) | (apply at_op (.load _ _); refine r_load ?_))
      refine aq_round _ _ _ (⟨i + 1, rfl, by omega, take_ne hlt hs he, rfl, rfl⟩) (by omega) ?_ ?_
      · (repeat (first | exact sub_nil | (apply sub_cons; focus (first | rfl | exact vint (by first | omega) | (simp [look]; done)))))
      · (repeat (first | exact obs_nil | (apply obs_cons; focus (first | rfl | (simp [find]; done)))))
  · rw [List.take_of_length_le (by omega)] at hs
    repeat' (first | apply aw_seq | apply aw_region | apply al_nil | apply aq_np | apply aq_then | apply aq_then_x | apply aq_then_r | apply aq_block_x | (apply aq_block_y; decide) | apply aq_block_r | apply aq_block | apply aw_block | apply aw_skip | apply aw_exit | apply aw_ret | (apply at_op (.move _); refine r_move ?_) | (apply at_op (.assign _); refine r_assign ?_) | (apply at_cond; first | refine c_t ?_ | refine c_f ?_ | (refine aw_cond rfl (fun hb => ?_) (fun hb => ?_) <;> ((first | have hq := of_decide_eq_true hb | have hq := of_decide_eq_false hb | have hq := dNT hb | have hq := dNF hb | skip); (try (exfalso; omega))))) | (apply at_op (.binOp .lss _ _ _ _); refine r_lss ?_) | (apply at_op (.binOp .add _ _ _ _); refine r_add ?_) | (apply at_op (.call { callee := .builtin .len, args := _, argTypes := _ }); refine r_len ?_) | (apply at_op (.indexAddr _ _ _); refine r_ix ?_) | (apply at_op (.load _ _); refine r_load ?_))
    refine oret1 ([(1001, rowB (flatD Q) m), (1000, capB f)]) (by rfl) (by first | exact ResV.x _ _ (ResX.tmp _ _ (by first | exact ToD.d _ | exact ToD.row _ _ _ _ _ rfl | exact ToD.nil _)) | exact ResV.tmp _ _ rfl | exact ResV.x _ _ (ResX.cellA _ _ _ _ _ _ _ rfl rfl rfl (by first | (simp only [normV, normList, normMap]; rfl) | rfl) rfl)) (⟨⟨_, rfl, .inl ⟨rfl, hs⟩⟩, rfl⟩) (by (repeat (first | exact obs_nil | (apply obs_cons; focus (first | rfl | (simp [find]; done)))))) (by first | rfl | (simp [okOut, V.within, V.withinL, O.within, keys, mem, look, nbeq_def, withinL_app, withinL_ds, withinL_und]; done))
end Go.Proofs.YtfgibalcdjlnhaaDoor
end
section
set_option linter.unusedSimpArgs false
set_option linter.unusedVariables false
namespace Go.Proofs.YtfgibalcdjlnhaaDoor
open Go.RowKit Go.ChangeMaps

def kept (f : Int) (Q : List Sec) : List Sec := Q.filter fun p => !decide (p.1 = f)
theorem kept_snoc (f : Int) {Q : List Sec} {j : Nat} (h : j < Q.length) : kept f (Q.take (j + 1)) = if Q[j].1 = f then kept f (Q.take j) else kept f (Q.take j) ++ [Q[j]] := by
  rw [List.take_succ_eq_append_getElem h]
  unfold kept
  rw [List.filter_append]
  by_cases he : Q[j].1 = f
  · simp [he]
  · simp [he]
theorem kept_all {f : Int} {Q : List Sec} (h : ∀ p ∈ Q, p.1 ≠ f) : kept f Q = Q := by
  unfold kept
  rw [List.filter_eq_self]
  intro p hp
  simp [h p hp]
/-- how far DeleteFunc has come: i places are settled, the places from j on are as they were -/
structure Come (f : Int) (Q : List Sec) (i j : Nat) (B : List D) : Prop where
  lt : i < j
  le : j ≤ Q.length
  len : B.length = 2 * Q.length
  cnt : i = (kept f (Q.take j)).length
  head : B.take (2 * i) = flatD (kept f (Q.take j))
  tail : B.drop (2 * j) = flatD (Q.drop j)
theorem Come.start {f : Int} {Q : List Sec} {i : Nat} (h : i < Q.length) (he : Q[i].1 = f) (hs : ∀ p ∈ Q.take i, p.1 ≠ f) : Come f Q i (i + 1) (flatD Q) := by
  have hk : kept f (Q.take (i + 1)) = Q.take i := by rw [kept_snoc f h, if_pos he, kept_all hs]
  refine ⟨by omega, by omega, flatD_len Q, by rw [hk]; simp; omega, ?_, flatD_drop Q (i + 1)⟩
  rw [hk]
  have e : flatD Q = flatD (Q.take i) ++ flatD (Q.drop i) := by rw [← flatD_app, List.take_append_drop]
  rw [e, List.take_append_of_le_length (by rw [flatD_len]; simp; omega), List.take_of_length_le (by rw [flatD_len]; simp; omega)]
theorem Come.skip {f : Int} {Q : List Sec} {i j : Nat} {B : List D} (h : Come f Q i j B) (hj : j < Q.length) (he : Q[j].1 = f) : Come f Q i (j + 1) B := by
  obtain ⟨h1, h2, h3, h4, h5, h6⟩ := h
  refine ⟨by omega, by omega, h3, ?_, ?_, ?_⟩
  · rw [kept_snoc f hj, if_pos he]; exact h4
  · rw [kept_snoc f hj, if_pos he]; exact h5
  · rw [show 2 * (j + 1) = 2 * j + 2 by omega, ← List.drop_drop, h6, ← flatD_drop, ← flatD_drop, List.drop_drop]
    congr 1
theorem Come.get {f : Int} {Q : List Sec} {i j : Nat} {B : List D} (h : Come f Q i j B) (hj : j < Q.length) : (B.drop (2 * j)).take 2 = [D.int Q[j].1, D.int Q[j].2] := by
  rw [h.tail, ← flatD_drop, flatD_get hj]
theorem Come.move {f : Int} {Q : List Sec} {i j : Nat} {B : List D} (h : Come f Q i j B) (hj : j < Q.length) (he : ¬ Q[j].1 = f) : Come f Q (i + 1) (j + 1) (putD B (2 * i) [D.int Q[j].1, D.int Q[j].2]) := by
  have hk := kept_snoc f hj
  rw [if_neg he] at hk
  obtain ⟨h1, h2, h3, h4, h5, h6⟩ := h
  have hl : (putD B (2 * i) [D.int Q[j].1, D.int Q[j].2]).length = B.length := by simp [putD]; omega
  refine ⟨by omega, by omega, by rw [hl, h3], by rw [hk, List.length_append, ← h4]; rfl, ?_, ?_⟩
  · rw [hk, flatD_app, ← h5, show flatD [Q[j]] = [D.int Q[j].1, D.int Q[j].2] from rfl]
    unfold putD
    rw [show 2 * (i + 1) = (B.take (2 * i) ++ [D.int Q[j].1, D.int Q[j].2]).length by simp; omega, List.take_left]
  · unfold putD
    rw [show 2 * (j + 1) = (B.take (2 * i) ++ [D.int Q[j].1, D.int Q[j].2]).length + 2 * (j - i) by simp; omega, ← List.drop_drop, List.drop_left, List.drop_drop]
    have e : 2 * i + [D.int Q[j].1, D.int Q[j].2].length + 2 * (j - i) = 2 * j + 2 := by simp; omega
    rw [e, ← List.drop_drop, h6, ← flatD_drop, ← flatD_drop, List.drop_drop]
    congr 1
theorem idx_none {f : Int} {Q : List Sec} {r : Int} (h : Idx f Q r) (hn : ∀ p ∈ Q, p.1 ≠ f) : r = -1 := by
  rcases h with ⟨h, _⟩ | ⟨i, hi, _, he, _⟩
  · exact h
  · exact absurd he (hn _ (List.getElem_mem hi))
theorem idx_some {f : Int} {Q : List Sec} {r : Int} (h : Idx f Q r) {i : Nat} (hi : i < Q.length) (he : Q[i].1 = f) (hs : ∀ p ∈ Q.take i, p.1 ≠ f) : r = i := by
  have mem : ∀ {a b : Nat} (hb : b < Q.length), b < a → Q[b] ∈ Q.take a := fun {a b} hb hab => by
    rw [List.mem_take_iff_getElem]
    exact ⟨b, by omega, rfl⟩
  rcases h with ⟨_, hn⟩ | ⟨j, hj, rfl, hje, hjs⟩
  · exact absurd he (hn _ (List.getElem_mem hi))
  · rcases Nat.lt_trichotomy i j with hlt | rfl | hlt
    · exact absurd he (hjs _ (mem hi hlt))
    · rfl
    · exact absurd hje (hs _ (mem hj hlt))
theorem idx_cases (f : Int) (Q : List Sec) : (∀ p ∈ Q, p.1 ≠ f) ∨ ∃ i, ∃ h : i < Q.length, Q[i].1 = f ∧ ∀ p ∈ Q.take i, p.1 ≠ f := by
  induction Q with
  | nil => exact .inl (by simp)
  | cons p Q ih =>
    by_cases h : p.1 = f
    · exact .inr ⟨0, by simp, h, by simp⟩
    · rcases ih with h1 | ⟨i, hi, h1, h2⟩
      · refine .inl fun q hq => ?_
        rcases List.mem_cons.1 hq with rfl | hq
        · exact h
        · exact h1 q hq
      · refine .inr ⟨i + 1, by simpa using hi, by simpa using h1, fun q hq => ?_⟩
        rw [List.take_succ_cons] at hq
        rcases List.mem_cons.1 hq with rfl | hq
        · exact h
        · exact h2 q hq
def DelPost (f : Int) (Q : List Sec) (m : Nat) (x : V) (o : Objs) : Prop := ∃ Z, ((flatD Q).map V.d ++ List.replicate m V.und).length = ((flatD (kept f Q)).map V.d ++ Z).length ∧ x = .sl 1001 0 (kept f Q).length ∧ o = [(1001, .box 78 ((flatD (kept f Q)).map V.d ++ Z)), (1000, capB f)]
set_option maxHeartbeats 16000000 in
set_option maxRecDepth 20000 in
theorem delq_box (f : Int) (Q : List Sec) (m : Nat) (hQ : Q.length ≤ 4194320) (h0 : 0 < Q.length) : ObC 53 [.sl 1001 0 Q.length, .clo (.func 54) [.box 1000 0]] [(1001, rowB (flatD Q) m), (1000, capB f)] [] (DelPost f Q m) := by
  rcases idx_cases f Q with hn | ⟨i, hi, he, hs⟩
  · have hix := (index_any f Q m hQ).mono (Q := fun x o => x = .d (.int (-1)) ∧ o = [(1001, rowB (flatD Q) m), (1000, capB f)]) (fun x o ⟨⟨r, h1, h2⟩, h3⟩ => ⟨by rw [h1, idx_none h2 hn], h3⟩)
    have hq1 : decide ((-1 : Int) = -1) = true := rfl
    refine ob_enter Tryd.func53 rfl (by decide) _ Tryd.ntmps53 (le_ok rfl) rfl (fun w Pr β κ hE => ?_)
    dsimp only [slotsV, Nat.zero_add, Nat.reduceAdd]
    repeat' (first | (apply at_call; refine k_ocall [(1001, 1001), (1000, 1000)] (hix) hE ?_; rintro _ _ ⟨rfl, rfl⟩ <;> (intro _ _ h1 h2; simp only [renEqs, Nat.reduceBEq, renL_app, renL_ds, renL_und] at h1 h2; subst h1 h2)) | apply aw_seq | apply aw_region | apply al_nil | apply aq_np | apply aq_then | apply aq_then_x | apply aq_then_r | apply aq_block_x | (apply aq_block_y; decide) | apply aq_block_r | apply aq_block | apply aw_block | apply aw_skip | apply aw_exit | apply aw_ret | (apply at_op (.move _); refine r_move ?_) | (apply at_op (.assign _); refine r_assign ?_) | (apply at_cond; first | refine c_t ?_ | refine c_f ?_ | (refine aw_cond rfl (fun hb => ?_) (fun hb => ?_) <;> ((first | have hq := of_decide_eq_true hb | have hq := of_decide_eq_false hb | have hq := dNT hb | have hq := dNF hb | skip); (try (exfalso; omega))))) | (apply at_op (.binOp .lss _ _ _ _); refine r_lss ?_) | (apply at_op (.binOp .eql _ _ _ _); refine r_eql ?_) | (apply at_op (.binOp .add _ _ _ _); refine r_add ?_) | (apply at_op (.unOp .not _ _); refine r_not ?_) | (apply at_op (.call { callee := .builtin .len, args := _, argTypes := _ }); refine r_len ?_) | (apply at_op (.slice _ _ _ _ _); refine r_slice ?_) | (apply at_op (.indexAddr _ _ _); refine r_ix ?_) | (apply at_op (.load _ _); refine r_load ?_) | (apply at_op (.alloc _); refine r_alloc ?_) | (apply at_op (.store _ _ _); refine r_store ?_))
    refine oret1 ([(1001, rowB (flatD Q) m), (1000, capB f)]) (by rfl) (by first | exact ResV.x _ _ (ResX.tmp _ _ (by first | exact ToD.d _ | exact ToD.row _ _ _ _ _ rfl | exact ToD.nil _)) | exact ResV.tmp _ _ rfl | exact ResV.x _ _ (ResX.cellA _ _ _ _ _ _ _ rfl rfl rfl (by first | (simp only [normV, normList, normMap]; rfl) | rfl) rfl)) (⟨List.replicate m V.und, by rw [kept_all hn], by rw [kept_all hn]; rfl, by rw [kept_all hn]⟩) (by (repeat (first | exact obs_nil | (apply obs_cons; focus (first | rfl | (simp [find]; done)))))) (by first | (simp [okOut, V.within, V.withinL, O.within, keys, mem, look, nbeq_def, withinL_app, withinL_ds, withinL_und]; done) | rfl)
  · have hix := (index_any f Q m hQ).mono (Q := fun x o => x = .d (.int i) ∧ o = [(1001, rowB (flatD Q) m), (1000, capB f)]) (fun x o ⟨⟨r, h1, h2⟩, h3⟩ => ⟨by rw [h1, idx_some h2 hi he hs], h3⟩)
    refine ob_enter Tryd.func53 rfl (by decide) _ Tryd.ntmps53 (le_ok rfl) rfl (fun w Pr β κ hE => ?_)
    dsimp only [slotsV, Nat.zero_add, Nat.reduceAdd]
    repeat' (first | (apply at_call; refine k_ocall [(1001, 1001), (1000, 1000)] (hix) hE ?_; rintro _ _ ⟨rfl, rfl⟩ <;> (intro _ _ h1 h2; simp only [renEqs, Nat.reduceBEq, renL_app, renL_ds, renL_und] at h1 h2; subst h1 h2)) | apply aw_seq | apply aw_region | apply al_nil | apply aq_np | apply aq_then | apply aq_then_x | apply aq_then_r | apply aq_block_x | (apply aq_block_y; decide) | apply aq_block_r | apply aq_block | apply aw_block | apply aw_skip | apply aw_exit | apply aw_ret | (apply at_op (.move _); refine r_move ?_) | (apply at_op (.assign _); refine r_assign ?_) | (apply at_cond; first | refine c_t ?_ | refine c_f ?_ | (refine aw_cond rfl (fun hb => ?_) (fun hb => ?_) <;> ((first | have hq := of_decide_eq_true hb | have hq := of_decide_eq_false hb | have hq := dNT hb | have hq := dNF hb | skip); (try (exfalso; omega))))) | (apply at_op (.binOp .lss _ _ _ _); refine r_lss ?_) | (apply at_op (.binOp .eql _ _ _ _); refine r_eql ?_) | (apply at_op (.binOp .add _ _ _ _); refine r_add ?_) | (apply at_op (.unOp .not _ _); refine r_not ?_) | (apply at_op (.call { callee := .builtin .len, args := _, argTypes := _ }); refine r_len ?_) | (apply at_op (.slice _ _ _ _ _); refine r_slice ?_) | (apply at_op (.indexAddr _ _ _); refine r_ix ?_) | (apply at_op (.load _ _); refine r_load ?_) | (apply at_op (.alloc _); refine r_alloc ?_) | (apply at_op (.store _ _ _); refine r_store ?_))
    refine aw_loop2 (fun N sl ob => ∃ (i j : Nat) (B : List D), N = Q.length - j ∧ Come f Q i j B ∧ sl = [(6, .d (.int j)), (5, .d (.int i)), (1, .clo (.func 54) [.box 1000 0]), (0, .sl 1001 0 Q.length)] ∧ ob = [(1001, rowB B m), (1000, capB f)]) (_) _ _ (⟨i, i + 1, _, rfl, Come.start hi he hs, rfl, rfl⟩) ?_ ?_ ?_
    · (repeat (first | exact sub_nil | (apply sub_cons; focus (first | rfl | exact vint (by first | omega) | (simp [look]; done)))))
    · (repeat (first | exact obs_nil | (apply obs_cons; focus (first | rfl | (simp [find]; done)))))
    clear hi he hs hix
    rintro N sl ob ⟨i, j, B, rfl, hC, rfl, rfl⟩
    have c1 := hC.lt
    have c2 := hC.le
    have c3 := hC.len
    by_cases hlt : j < Q.length
    · have hld : unD (((B.map V.d ++ List.replicate m V.und).drop (0 + j * 2)).take 2) = some [D.int Q[j].1, D.int Q[j].2] := by
        rw [unD_part (by omega), show 0 + j * 2 = 2 * j by omega, hC.get hlt]
      have hno : ∀ i, V.hasL i (B.map V.d ++ List.replicate m V.und) = false := fun i => by rw [hasL_app, hasL_ds, hasL_und]; rfl
      have hc := clo1_any f Q[j].1 Q[j].2
      by_cases hf : Q[j].1 = f
      · have hq1 : decide (Q[j].1 = f) = true := decide_eq_true hf
        have hq2 : (!decide (Q[j].1 = f)) = false := by rw [hq1]; rfl
        repeat' (first | (apply at_op (.indexAddr _ _ _); refine al_y (y_slix rfl rfl rfl rfl hlt rfl) (lt_ok rfl) ?_) | (apply at_op (.load _ _); first | refine al_y (y_bloadA rfl rfl rfl hld rfl) (lt_ok rfl) ?_ | refine al_y (y_bloadA rfl rfl rfl (by first | (simp only [normV, normList, normMap]; rfl) | rfl) rfl) (lt_ok rfl) ?_) | (apply at_op (.alloc _); refine al_step (st_alloc rfl (by first | (simp only [normV, normList, normMap]; rfl) | rfl) rfl (lt_ok rfl) (by simp [noneOf, V.has, V.hasL, O.has, hasL_app, hasL_ds, hasL_und, nbeq_def])) rfl ?_) | (apply at_call; refine k_clocall1 [(1000, 1000)] (hc) hE ?_; rintro _ _ ⟨rfl, rfl⟩ <;> (intro _ _ h1 h2; simp only [renEqs, Nat.reduceBEq, renL_app, renL_ds, renL_und] at h1 h2; subst h1 h2)) | apply aw_seq | apply aw_region | apply al_nil | apply aq_np | apply aq_then | apply aq_then_x | apply aq_then_r | apply aq_block_x | (apply aq_block_y; decide) | apply aq_block_r | apply aq_block | apply aw_block | apply aw_skip | apply aw_exit | apply aw_ret | (apply at_op (.move _); refine r_move ?_) | (apply at_op (.assign _); refine r_assign ?_) | (apply at_cond; first | refine c_t ?_ | refine c_f ?_ | (refine aw_cond rfl (fun hb => ?_) (fun hb => ?_) <;> ((first | have hq := of_decide_eq_true hb | have hq := of_decide_eq_false hb | have hq := dNT hb | have hq := dNF hb | skip); (try (exfalso; omega))))) | (apply at_op (.binOp .lss _ _ _ _); refine r_lss ?_) | (apply at_op (.binOp .eql _ _ _ _); refine r_eql ?_) | (apply at_op (.binOp .add _ _ _ _); refine r_add ?_) | (apply at_op (.unOp .not _ _); refine r_not ?_) | (apply at_op (.call { callee := .builtin .len, args := _, argTypes := _ }); refine r_len ?_) | (apply at_op (.slice _ _ _ _ _); refine r_slice ?_) | (apply at_op (.indexAddr _ _ _); refine r_ix ?_) | (apply at_op (.load _ _); refine r_load ?_) | (apply at_op (.alloc _); refine r_alloc ?_) | (apply at_op (.store _ _ _); refine r_store ?_))
        refine aq_round _ _ _ (⟨i, j + 1, B, rfl, hC.skip hlt hf, rfl, rfl⟩) (by omega) ?_ ?_
        · (repeat (first | exact sub_nil | (apply sub_cons; focus (first | rfl | exact vint (by first | omega) | (simp [look]; done)))))
        · (repeat (first | exact obs_nil | (apply obs_cons; focus (first | rfl | (simp [find]; done)))))
      · have hput : Go.Proofs.YtfgibalcdjlnhaaDoor.put (B.map V.d ++ List.replicate m V.und) (i * 2) [.d (.int Q[j].1), .d (.int Q[j].2)] = (putD B (2 * i) [D.int Q[j].1, D.int Q[j].2]).map V.d ++ List.replicate m V.und := by
          rw [Nat.mul_comm]
          exact put_ds (n := [D.int Q[j].1, D.int Q[j].2]) (by simp; omega)
        have hq1 : decide (Q[j].1 = f) = false := decide_eq_false hf
        have hq2 : (!decide (Q[j].1 = f)) = true := by rw [hq1]; rfl
        repeat' (first | (apply at_op (.indexAddr _ _ _); refine al_y (y_slix rfl rfl rfl rfl hlt rfl) (lt_ok rfl) ?_) | (apply at_op (.load _ _); first | refine al_y (y_bloadA rfl rfl rfl hld rfl) (lt_ok rfl) ?_ | refine al_y (y_bloadA rfl rfl rfl (by first | (simp only [normV, normList, normMap]; rfl) | rfl) rfl) (lt_ok rfl) ?_) | (apply at_op (.alloc _); refine al_step (st_alloc rfl (by first | (simp only [normV, normList, normMap]; rfl) | rfl) rfl (lt_ok rfl) (by simp [noneOf, V.has, V.hasL, O.has, hasL_app, hasL_ds, hasL_und, nbeq_def])) rfl ?_) | (apply at_call; refine k_clocall1 [(1000, 1000)] (hc) hE ?_; rintro _ _ ⟨rfl, rfl⟩ <;> (intro _ _ h1 h2; simp only [renEqs, Nat.reduceBEq, renL_app, renL_ds, renL_und] at h1 h2; subst h1 h2)) | (apply at_op (.store _ _ _); refine al_step (st_store (i := 1001) (n := [.d (.int Q[j].1), .d (.int Q[j].2)]) rfl rfl (ev_d rfl) nofun rfl (by simp [V.one, Value.oneCell']) (.inr rfl) rfl (by simp; omega) hput) rfl ?_) | apply aw_seq | apply aw_region | apply al_nil | apply aq_np | apply aq_then | apply aq_then_x | apply aq_then_r | apply aq_block_x | (apply aq_block_y; decide) | apply aq_block_r | apply aq_block | apply aw_block | apply aw_skip | apply aw_exit | apply aw_ret | (apply at_op (.move _); refine r_move ?_) | (apply at_op (.assign _); refine r_assign ?_) | (apply at_cond; first | refine c_t ?_ | refine c_f ?_ | (refine aw_cond rfl (fun hb => ?_) (fun hb => ?_) <;> ((first | have hq := of_decide_eq_true hb | have hq := of_decide_eq_false hb | have hq := dNT hb | have hq := dNF hb | skip); (try (exfalso; omega))))) | (apply at_op (.binOp .lss _ _ _ _); refine r_lss ?_) | (apply at_op (.binOp .eql _ _ _ _); refine r_eql ?_) | (apply at_op (.binOp .add _ _ _ _); refine r_add ?_) | (apply at_op (.unOp .not _ _); refine r_not ?_) | (apply at_op (.call { callee := .builtin .len, args := _, argTypes := _ }); refine r_len ?_) | (apply at_op (.slice _ _ _ _ _); refine r_slice ?_) | (apply at_op (.indexAddr _ _ _); refine r_ix ?_) | (apply at_op (.load _ _); refine r_load ?_) | (apply at_op (.alloc _); refine r_alloc ?_) | (apply at_op (.store _ _ _); refine r_store ?_))
        refine aq_round _ _ _ (⟨i + 1, j + 1, _, rfl, hC.move hlt hf, rfl, rfl⟩) (by omega) ?_ ?_
        · (repeat (first | exact sub_nil | (apply sub_cons; focus (first | rfl | exact vint (by first | omega) | (simp [look]; done)))))
        · (repeat (first | exact obs_nil | (apply obs_cons; focus (first | rfl | (simp [find]; done)))))
    · have hj : j = Q.length := by omega
      subst hj
      have hk : i = (kept f Q).length := by have := hC.cnt; rwa [List.take_length] at this
      have hh : B.take (2 * i) = flatD (kept f Q) := by have := hC.head; rwa [List.take_length] at this
      have hio : i * 2 + (Q.length - i) * 2 ≤ (B.map V.d ++ List.replicate m V.und).length := by simp; omega
      repeat' (first | (apply at_op (.slice _ _ none (some _) none); refine al_y (y_sub_slH (o := 0) (n := Q.length) (h1 := i) rfl rfl (high_some rfl rfl) (by omega) (by omega)) (lt_ok rfl) ?_) | (apply at_op (.slice _ _ (some _) none none); refine al_y (y_sub_slA (o := 0) (n := Q.length) (l1 := i) (es := 2) (r := i * 2) (q := Q.length - i) rfl rfl (low_some rfl rfl) (by omega) (by decide) (by omega) rfl) (lt_ok rfl) ?_) | (apply at_op (.call { callee := .builtin .clear, args := _, argTypes := _ }); refine al_step (st_clear rfl rfl rfl rfl rfl hio) rfl ?_) | apply aw_seq | apply aw_region | apply al_nil | apply aq_np | apply aq_then | apply aq_then_x | apply aq_then_r | apply aq_block_x | (apply aq_block_y; decide) | apply aq_block_r | apply aq_block | apply aw_block | apply aw_skip | apply aw_exit | apply aw_ret | (apply at_op (.move _); refine r_move ?_) | (apply at_op (.assign _); refine r_assign ?_) | (apply at_cond; first | refine c_t ?_ | refine c_f ?_ | (refine aw_cond rfl (fun hb => ?_) (fun hb => ?_) <;> ((first | have hq := of_decide_eq_true hb | have hq := of_decide_eq_false hb | have hq := dNT hb | have hq := dNF hb | skip); (try (exfalso; omega))))) | (apply at_op (.binOp .lss _ _ _ _); refine r_lss ?_) | (apply at_op (.binOp .eql _ _ _ _); refine r_eql ?_) | (apply at_op (.binOp .add _ _ _ _); refine r_add ?_) | (apply at_op (.unOp .not _ _); refine r_not ?_) | (apply at_op (.call { callee := .builtin .len, args := _, argTypes := _ }); refine r_len ?_) | (apply at_op (.slice _ _ _ _ _); refine r_slice ?_) | (apply at_op (.indexAddr _ _ _); refine r_ix ?_) | (apply at_op (.load _ _); refine r_load ?_) | (apply at_op (.alloc _); refine r_alloc ?_) | (apply at_op (.store _ _ _); refine r_store ?_))
      have hbox : Go.Proofs.YtfgibalcdjlnhaaDoor.put (B.map V.d ++ List.replicate m V.und) (i * 2) (List.replicate ((Q.length - i) * 2) .und) = (flatD (kept f Q)).map V.d ++ (List.replicate ((Q.length - i) * 2) .und ++ List.replicate m V.und) := by
        unfold Go.Proofs.YtfgibalcdjlnhaaDoor.put
        rw [List.take_append_of_le_length (by simp; omega), ← List.map_take, Nat.mul_comm, hh, List.drop_append, List.drop_of_length_le (by simp; omega), List.append_assoc]
        congr 2
        rw [List.length_replicate, List.length_map]
        have e : 2 * i + 2 * (Q.length - i) - B.length = 0 := by omega
        have e2 : i * 2 + (Q.length - i) * 2 - B.length = 0 := by omega
        simp [Nat.mul_comm, e]
        omega
      rw [hbox]
      refine oret1 ([(1001, .box 78 ((flatD (kept f Q)).map V.d ++ (List.replicate ((Q.length - i) * 2) .und ++ List.replicate m V.und))), (1000, capB f)]) (by rfl) (by first | exact ResV.x _ _ (ResX.tmp _ _ (by first | exact ToD.d _ | exact ToD.row _ _ _ _ _ rfl | exact ToD.nil _)) | exact ResV.tmp _ _ rfl | exact ResV.x _ _ (ResX.cellA _ _ _ _ _ _ _ rfl rfl rfl (by first | (simp only [normV, normList, normMap]; rfl) | rfl) rfl)) (⟨_, by simp [flatD_len]; omega, by rw [← hk]; rfl, rfl⟩) (by (repeat (first | exact obs_nil | (apply obs_cons; focus (first | rfl | (simp [find]; done)))))) (by first | (simp [okOut, V.within, V.withinL, O.within, keys, mem, look, nbeq_def, withinL_app, withinL_ds, withinL_und]; done) | rfl)
end Go.Proofs.YtfgibalcdjlnhaaDoor
end
section
set_option linter.unusedSimpArgs false
set_option linter.unusedVariables false
namespace Go.Proofs.YtfgibalcdjlnhaaDoor
open Go.RowKit Go.ChangeMaps

abbrev secRow (k : Nat) (Q : List Sec) : O := .vec 78 2 k (Q.map secC)
set_option maxHeartbeats 8000000 in
set_option maxRecDepth 20000 in
theorem index_nil (f : Int) (k : Nat) : ObC 62 [.row 1001 k, .clo (.func 54) [.box 1000 0]] [(1001, secRow k []), (1000, capB f)] [] (fun x o => x = .d (.int (-1)) ∧ o = [(1001, secRow k []), (1000, capB f)]) := by
  refine ob_enter Tryd.func62 rfl (by decide) _ Tryd.ntmps62 (le_ok rfl) rfl (fun w Pr β κ hE => ?_)
  dsimp only [slotsV, Nat.zero_add, Nat.reduceAdd]
  repeat' (first | (apply at_op (.call { callee := .builtin .len, args := _, argTypes := _ }); refine al_y (y_veclen (n := 0) rfl rfl rfl ⟨_, _, _, _, rfl⟩ rfl) (lt_ok rfl) ?_) | apply aw_seq | apply aw_region | apply al_nil | apply aq_np | apply aq_then | apply aq_then_x | apply aq_then_r | apply aq_block_x | (apply aq_block_y; decide) | apply aq_block_r | apply aq_block | apply aw_block | apply aw_skip | apply aw_exit | apply aw_ret | (apply at_op (.move _); refine r_move ?_) | (apply at_op (.assign _); refine r_assign ?_) | (apply at_cond; first | refine c_t ?_ | refine c_f ?_ | (refine aw_cond rfl (fun hb => ?_) (fun hb => ?_) <;> ((first | have hq := of_decide_eq_true hb | have hq := of_decide_eq_false hb | have hq := dNT hb | have hq := dNF hb | skip); (try (exfalso; omega))))) | (apply at_op (.binOp .lss _ _ _ _); refine r_lss ?_) | (apply at_op (.binOp .add _ _ _ _); refine r_add ?_) | (apply at_op (.call { callee := .builtin .len, args := _, argTypes := _ }); refine r_len ?_) | (apply at_op (.indexAddr _ _ _); refine r_ix ?_) | (apply at_op (.load _ _); refine r_load ?_))
  refine aw_loop2 (fun N sl ob => N = 0 ∧ sl = [(8, .d (.int 0)), (7, .d (.int 0)), (1, .clo (.func 54) [.box 1000 0]), (0, .row 1001 k)] ∧ ob = [(1001, secRow k []), (1000, capB f)]) (_) _ _ (⟨rfl, rfl, rfl⟩) ?_ ?_ ?_
  · (repeat (first | exact sub_nil | (apply sub_cons; focus (first | rfl | exact vint (by first | omega) | (simp [look]; done)))))
  · (repeat (first | exact obs_nil | (apply obs_cons; focus (first | rfl | (simp [find]; done)))))
  rintro N sl ob ⟨rfl, rfl, rfl⟩
  repeat' (first | apply aw_seq | apply aw_region | apply al_nil | apply aq_np | apply aq_then | apply aq_then_x | apply aq_then_r | apply aq_block_x | (apply aq_block_y; decide) | apply aq_block_r | apply aq_block | apply aw_block | apply aw_skip | apply aw_exit | apply aw_ret | (apply at_op (.move _); refine r_move ?_) | (apply at_op (.assign _); refine r_assign ?_) | (apply at_cond; first | refine c_t ?_ | refine c_f ?_ | (refine aw_cond rfl (fun hb => ?_) (fun hb => ?_) <;> ((first | have hq := of_decide_eq_true hb | have hq := of_decide_eq_false hb | have hq := dNT hb | have hq := dNF hb | skip); (try (exfalso; omega))))) | (apply at_op (.binOp .lss _ _ _ _); refine r_lss ?_) | (apply at_op (.binOp .add _ _ _ _); refine r_add ?_) | (apply at_op (.call { callee := .builtin .len, args := _, argTypes := _ }); refine r_len ?_) | (apply at_op (.indexAddr _ _ _); refine r_ix ?_) | (apply at_op (.load _ _); refine r_load ?_))
  refine oret1 ([(1001, secRow k []), (1000, capB f)]) (by rfl) (by first | exact ResV.x _ _ (ResX.tmp _ _ (by first | exact ToD.d _ | exact ToD.row _ _ _ _ _ rfl | exact ToD.nil _)) | exact ResV.tmp _ _ rfl | exact ResV.x _ _ (ResX.cellA _ _ _ _ _ _ _ rfl rfl rfl (by first | (simp only [normV, normList, normMap]; rfl) | rfl) rfl)) (⟨rfl, rfl⟩) (by (repeat (first | exact obs_nil | (apply obs_cons; focus (first | rfl | (simp [find]; done)))))) (by first | (simp [okOut, V.within, V.withinL, O.within, keys, mem, look, nbeq_def, withinL_app, withinL_ds, withinL_und]; done) | rfl)
set_option maxHeartbeats 8000000 in
set_option maxRecDepth 20000 in
theorem delq_nil (f : Int) (k : Nat) : ObC 53 [.row 1001 k, .clo (.func 54) [.box 1000 0]] [(1001, secRow k []), (1000, capB f)] [] (fun x o => x = .row 1001 k ∧ o = [(1001, secRow k []), (1000, capB f)]) := by
  have hix := index_nil f k
  refine ob_enter Tryd.func53 rfl (by decide) _ Tryd.ntmps53 (le_ok rfl) rfl (fun w Pr β κ hE => ?_)
  dsimp only [slotsV, Nat.zero_add, Nat.reduceAdd]
  repeat' (first | (apply at_call; refine k_ocall [(1001, 1001), (1000, 1000)] (hix) hE ?_; rintro _ _ ⟨rfl, rfl⟩ <;> (intro _ _ h1 h2; simp only [renEqs, Nat.reduceBEq, renL_app, renL_ds, renL_und] at h1 h2; subst h1 h2)) | apply aw_seq | apply aw_region | apply al_nil | apply aq_np | apply aq_then | apply aq_then_x | apply aq_then_r | apply aq_block_x | (apply aq_block_y; decide) | apply aq_block_r | apply aq_block | apply aw_block | apply aw_skip | apply aw_exit | apply aw_ret | (apply at_op (.move _); refine r_move ?_) | (apply at_op (.assign _); refine r_assign ?_) | (apply at_cond; first | refine c_t ?_ | refine c_f ?_ | (refine aw_cond rfl (fun hb => ?_) (fun hb => ?_) <;> ((first | have hq := of_decide_eq_true hb | have hq := of_decide_eq_false hb | have hq := dNT hb | have hq := dNF hb | skip); (try (exfalso; omega))))) | (apply at_op (.binOp .lss _ _ _ _); refine r_lss ?_) | (apply at_op (.binOp .eql _ _ _ _); refine r_eql ?_) | (apply at_op (.binOp .add _ _ _ _); refine r_add ?_) | (apply at_op (.unOp .not _ _); refine r_not ?_) | (apply at_op (.call { callee := .builtin .len, args := _, argTypes := _ }); refine r_len ?_) | (apply at_op (.slice _ _ _ _ _); refine r_slice ?_) | (apply at_op (.indexAddr _ _ _); refine r_ix ?_) | (apply at_op (.load _ _); refine r_load ?_) | (apply at_op (.alloc _); refine r_alloc ?_) | (apply at_op (.store _ _ _); refine r_store ?_))
  refine oret1 ([(1001, secRow k []), (1000, capB f)]) (by rfl) (by first | exact ResV.x _ _ (ResX.tmp _ _ (by first | exact ToD.d _ | exact ToD.row _ _ _ _ _ rfl | exact ToD.nil _)) | exact ResV.tmp _ _ rfl | exact ResV.x _ _ (ResX.cellA _ _ _ _ _ _ _ rfl rfl rfl (by first | (simp only [normV, normList, normMap]; rfl) | rfl) rfl)) (⟨rfl, rfl⟩) (by (repeat (first | exact obs_nil | (apply obs_cons; focus (first | rfl | (simp [find]; done)))))) (by first | (simp [okOut, V.within, V.withinL, O.within, keys, mem, look, nbeq_def, withinL_app, withinL_ds, withinL_und]; done) | rfl)
theorem secC_len (Q : List Sec) : ∀ x ∈ Q.map secC, x.length = 2 := by
  intro x hx
  obtain ⟨p, _, rfl⟩ := List.mem_map.1 hx
  rfl
theorem delq_any (f : Int) (Q : List Sec) (k : Nat) (hQ : Q.length ≤ 4194320) : ObC 53 [.row 1001 k, .clo (.func 54) [.box 1000 0]] [(1001, secRow k Q), (1000, capB f)] [] (fun x o => ∃ k', x = .row 1001 k' ∧ o = [(1001, secRow k' (kept f Q)), (1000, capB f)]) := by
  by_cases h0 : Q = []
  · subst h0
    exact (delq_nil f k).mono fun x o ⟨h1, h2⟩ => ⟨k, h1, h2⟩
  · have hpos : 0 < Q.length := List.length_pos_iff.2 h0
    have := ObC.view (f := 53) (rest := [.clo (.func 54) [.box 1000 0]]) (ob1 := [(1000, capB f)]) (r := 1001) (e := 78) (s := 2) (k := k) (L := Q.map secC) (P := fun L' => L' = (kept f Q).map secC) (by simpa using h0) rfl rfl (fun i o hi => by
      by_cases hi0 : i = 1000
      · subst hi0
        rw [find_eq] at hi
        cases hi
        rfl
      · rw [find_ne hi0] at hi
        cases hi) (fun m => by
      have hb := delq_box f Q m hQ hpos
      rw [List.length_map]
      exact hb.mono fun x o ⟨Z, h1, h2, h3⟩ => ⟨(kept f Q).map secC, Z, rfl, secC_len _, h1, by rw [List.length_map]; exact h2, h3⟩)
    exact this.mono fun x o ⟨L', h1, h2, h3⟩ => ⟨k + 1, h2, by rw [h3, h1]⟩
/-- how far the range over the set has come -/
structure DelI (f : Int) (l0 l : List ME) (seen : List Nat) : Prop where
  sub : ∀ q ∈ l, q ∈ l0
  gone : ∀ q ∈ l0, q ∈ l ∨ ∃ p, q.2.1 = secV p ∧ p.1 = f
  seen : ∀ q ∈ l, q.1 ∈ seen → ∀ p, q.2.1 = secV p → p.1 ≠ f
def unseen (l : List ME) (seen : List Nat) : Nat := l.countP fun q => !decide (q.1 ∈ seen)
theorem unseen_lt {l : List ME} {seen : List Nat} {q : ME} (hq : q ∈ l) (hs : q.1 ∉ seen) : unseen l (seen ++ [q.1]) < unseen l seen := by
  have mono : ∀ r : List ME, unseen r (seen ++ [q.1]) ≤ unseen r seen := fun r => List.countP_mono_left fun x _ h => by
    simp at h ⊢
    exact h.1
  induction l with
  | nil => cases hq
  | cons x l ih =>
    unfold unseen
    rw [List.countP_cons, List.countP_cons]
    rcases List.mem_cons.1 hq with rfl | hq
    · have := mono l
      unfold unseen at this
      have e1 : (if (!decide (q.1 ∈ seen ++ [q.1])) = true then 1 else 0) = 0 := by simp
      have e2 : (if (!decide (q.1 ∈ seen)) = true then 1 else 0) = 1 := by simp [hs]
      omega
    · have := ih hq
      unfold unseen at this
      have h2 : (if (!decide (x.1 ∈ seen ++ [q.1])) = true then 1 else 0) ≤ (if (!decide (x.1 ∈ seen)) = true then 1 else 0) := by
        by_cases h1 : x.1 ∈ seen
        · simp [h1]
        · by_cases h2 : x.1 = q.1 <;> simp [h1, h2]
      omega
theorem DelI.start (f : Int) (l : List ME) : DelI f l l [] := ⟨fun _ h => h, fun _ h => .inl h, fun _ _ h => by cases h⟩
theorem DelI.done {f : Int} {l0 l : List ME} {seen : List Nat} {Q : List Sec} (h : DelI f l0 l seen) (hS : SRep l0 Q) (hall : ∀ q ∈ l, q.1 ∈ seen) : SRep l (kept f Q) := by
  refine ⟨fun q hq => ?_, fun p hp => ?_⟩
  · obtain ⟨p, h1, h2, h3⟩ := hS.of q (h.sub q hq)
    refine ⟨p, ?_, h2, h3⟩
    have := h.seen q hq (hall q hq) p h2
    simp [kept, h1, this]
  · have hp2 : p ∈ Q ∧ ¬ p.1 = f := by simpa [kept] using hp
    obtain ⟨q, h1, h2⟩ := hS.all p hp2.1
    rcases h.gone q h1 with h3 | ⟨p', h3, h4⟩
    · exact ⟨q, h3, h2⟩
    · exact absurd (by rw [secV_inj (h2.symm.trans h3)]; exact h4) hp2.2
theorem DelI.keep {f : Int} {l0 l : List ME} {seen : List Nat} (h : DelI f l0 l seen) {t : Type} {c : Nat} (hm : (l.map fun q : ME => q.1).Nodup) {j n : Nat} {p : Sec} {d : D} (hj : l[j]? = some (n, secV p, d)) (hp : ¬ p.1 = f) : DelI f l0 l (seen ++ [n]) := by
  have _ := c
  refine ⟨h.sub, h.gone, fun q hq hs p' hp' => ?_⟩
  rcases List.mem_append.1 hs with hs | hs
  · exact h.seen q hq hs p' hp'
  · simp at hs
    obtain ⟨i, hi⟩ := List.mem_iff_getElem?.1 hq
    have := nodup_one (f := fun q : ME => q.1) hm hi hj hs
    subst this
    rw [hj] at hi
    cases hi
    rw [← secV_inj hp']
    exact hp
theorem erase_mem {α : Type} {l : List α} {j : Nat} {q : α} (h : q ∈ l.eraseIdx j) : ∃ i, i ≠ j ∧ l[i]? = some q := by
  obtain ⟨i, hi⟩ := List.mem_iff_getElem?.1 h
  rw [List.getElem?_eraseIdx] at hi
  split at hi
  · exact ⟨i, by omega, hi⟩
  · exact ⟨i + 1, by omega, hi⟩
theorem mem_erase {α : Type} {l : List α} {i j : Nat} {q : α} (hi : l[i]? = some q) (hne : i ≠ j) : q ∈ l.eraseIdx j := by
  by_cases h : i < j
  · exact List.mem_of_getElem? (i := i) (by rw [List.getElem?_eraseIdx, if_pos h]; exact hi)
  · exact List.mem_of_getElem? (i := i - 1) (by rw [List.getElem?_eraseIdx, if_neg (by omega), show i - 1 + 1 = i by omega]; exact hi)
theorem DelI.drop {f : Int} {l0 l : List ME} {seen : List Nat} (h : DelI f l0 l seen) (hm : (l.map fun q : ME => q.1).Nodup) {j n : Nat} {p : Sec} {d : D} (hj : l[j]? = some (n, secV p, d)) (hp : p.1 = f) : DelI f l0 (l.eraseIdx j) (seen ++ [n]) := by
  refine ⟨fun q hq => ?_, fun q hq => ?_, fun q hq hs p' hp' => ?_⟩
  · obtain ⟨i, _, hi⟩ := erase_mem hq
    exact h.sub q (List.mem_of_getElem? hi)
  · rcases h.gone q hq with h1 | h1
    · obtain ⟨i, hi⟩ := List.mem_iff_getElem?.1 h1
      by_cases hij : i = j
      · subst hij
        rw [hj] at hi
        cases hi
        exact .inr ⟨p, rfl, hp⟩
      · exact .inl (mem_erase hi hij)
    · exact .inr h1
  · obtain ⟨i, hij, hi⟩ := erase_mem hq
    rcases List.mem_append.1 hs with hs | hs
    · exact h.seen q (List.mem_of_getElem? hi) hs p' hp'
    · simp at hs
      exact absurd (nodup_one (f := fun q : ME => q.1) hm hi hj hs) hij
theorem keyD_sec (p : Sec) : keyD (secV p) = .agg [.int p.1, .int p.2] := rfl
def SecKeys (Q : List Sec) : Prop := ∀ p ∈ Q, i64 p.1 ∧ i64 p.2
set_option maxHeartbeats 8000000 in
set_option maxRecDepth 20000 in
theorem delm_any (f : Int) (Q : List Sec) (hk : SecKeys Q) (c : Nat) (l0 : List ME) (hS : SRep l0 Q) : ObC 55 [.mp 1001, .clo (.func 56) [.box 1000 0]] [(1001, .map 61 c l0), (1000, capB f)] [] (fun x o => x = .tup [] ∧ ∃ l', SRep l' (kept f Q) ∧ o = [(1001, .map 61 c l'), (1000, capB f)]) := by
  refine ob_enter Tryd.func55 rfl (by decide) _ Tryd.ntmps55 (le_ok rfl) rfl (fun w Pr β κ hE => ?_)
  dsimp only [slotsV, Nat.zero_add, Nat.reduceAdd]
  refine aw_mapok 1001 rfl (fun hm0 => ?_)
  repeat' (first | (apply at_op (.range _ _); refine al_step (st_range setM rfl rfl (lt_ok rfl) rfl (by decide)) rfl ?_) | apply aw_seq | apply aw_region | apply al_nil | apply aq_np | apply aq_then | apply aq_then_x | apply aq_then_r | apply aq_block_x | (apply aq_block_y; decide) | apply aq_block_r | apply aq_block | apply aw_block | apply aw_skip | apply aw_exit | apply aw_ret | (apply at_op (.move _); refine r_move ?_) | (apply at_op (.assign _); refine r_assign ?_) | (apply at_cond; first | refine c_t ?_ | refine c_f ?_ | (refine aw_cond rfl (fun hb => ?_) (fun hb => ?_) <;> ((first | have hq := of_decide_eq_true hb | have hq := of_decide_eq_false hb | have hq := dNT hb | have hq := dNF hb | skip); (try (exfalso; omega))))) | (apply at_op (.extract _ _); refine r_extract ?_) | (apply at_op (.load _ _); refine r_load ?_) | (apply at_op (.alloc _); refine r_alloc ?_) | (apply at_op (.store _ _ _); refine r_store ?_))
  refine aw_loop2 (fun N sl ob => ∃ (l : List ME) (seen : List Nat), N = unseen l0 seen ∧ DelI f l0 l seen ∧ sl = [(7, .box 7 0), (1, .clo (.func 56) [.box 1000 0]), (0, .mp 1001)] ∧ ob = [(7, .iter (.mp 1001) c seen c), (1001, .map 61 c l), (1000, capB f)]) (_) _ _ (⟨l0, [], rfl, DelI.start f l0, rfl, rfl⟩) ?_ ?_ ?_
  · (repeat (first | exact sub_nil | (apply sub_cons; focus (first | rfl | exact vint (by first | omega) | (simp [look]; done)))))
  · (repeat (first | exact obs_nil | (apply obs_cons; focus (first | rfl | (simp [find]; done)))))
  rintro N sl ob ⟨l, seen, rfl, hI, rfl, rfl⟩
  refine aw_mapok 1001 rfl (fun hm => ?_)
  repeat' (first | apply aw_seq | apply aw_region | apply al_nil | apply aq_np | apply aq_then | apply aq_then_x | apply aq_then_r | apply aq_block_x | (apply aq_block_y; decide) | apply aq_block_r | apply aq_block | apply aw_block | apply aw_skip | apply aw_exit | apply aw_ret | (apply at_op (.move _); refine r_move ?_) | (apply at_op (.assign _); refine r_assign ?_) | (apply at_cond; first | refine c_t ?_ | refine c_f ?_ | (refine aw_cond rfl (fun hb => ?_) (fun hb => ?_) <;> ((first | have hq := of_decide_eq_true hb | have hq := of_decide_eq_false hb | have hq := dNT hb | have hq := dNF hb | skip); (try (exfalso; omega))))) | (apply at_op (.extract _ _); refine r_extract ?_) | (apply at_op (.load _ _); refine r_load ?_) | (apply at_op (.alloc _); refine r_alloc ?_) | (apply at_op (.store _ _ _); refine r_store ?_))
  refine al_next rfl rfl rfl (fun q hq => hm0.lt q (hI.sub q hq)) (Nat.le_refl _) (lt_ok rfl) (fun hall => ?_) (fun q hq hns => ?_)
  · have hdone := hI.done hS hall
    repeat' (first | apply aw_seq | apply aw_region | apply al_nil | apply aq_np | apply aq_then | apply aq_then_x | apply aq_then_r | apply aq_block_x | (apply aq_block_y; decide) | apply aq_block_r | apply aq_block | apply aw_block | apply aw_skip | apply aw_exit | apply aw_ret | (apply at_op (.move _); refine r_move ?_) | (apply at_op (.assign _); refine r_assign ?_) | (apply at_cond; first | refine c_t ?_ | refine c_f ?_ | (refine aw_cond rfl (fun hb => ?_) (fun hb => ?_) <;> ((first | have hq := of_decide_eq_true hb | have hq := of_decide_eq_false hb | have hq := dNT hb | have hq := dNF hb | skip); (try (exfalso; omega))))) | (apply at_op (.extract _ _); refine r_extract ?_) | (apply at_op (.load _ _); refine r_load ?_) | (apply at_op (.alloc _); refine r_alloc ?_) | (apply at_op (.store _ _ _); refine r_store ?_))
    try refine aq_end ?_
    refine oret0 ([(1001, .map 61 c l), (1000, capB f)]) (by rfl)  (⟨rfl, l, hdone, rfl⟩) (by (repeat (first | exact obs_nil | (apply obs_cons; focus (first | rfl | (simp [find]; done)))))) (by first | (simp [okOut, V.within, V.withinL, O.within, keys, mem, look, nbeq_def, withinL_app, withinL_ds, withinL_und]; done) | rfl)
  · obtain ⟨p, hpQ, hp1, hp2⟩ := hS.of q (hI.sub q hq)
    obtain ⟨n, kk, d⟩ := q
    have hp1 : kk = secV p := hp1
    have hp2 : d = .bool true := hp2
    subst hp1 hp2
    obtain ⟨j, hj⟩ := List.mem_iff_getElem?.1 hq
    have hlt := unseen_lt (hI.sub _ hq) hns
    have hkey := sec_key (hk p hpQ).1 (hk p hpQ).2
    have hc := clo2_any f p.1 p.2 true
    by_cases he : p.1 = f
    · have hq1 : decide (p.1 = f) = true := decide_eq_true he
      have hdel : Del l (secV p) (l.eraseIdx j) := .old j n _ hj
      repeat' (first | (apply at_op (.entry _); refine al_y (y_entry (c0 := 0) rfl rfl rfl hj) (lt_ok rfl) ?_; simp only [keyD_sec]) | (apply at_call; refine k_clocall2 [(1000, 1000)] (hc) hE ?_; rintro _ _ ⟨rfl, rfl⟩ <;> (intro _ _ h1 h2; simp only [renEqs, Nat.reduceBEq, renL_app, renL_ds, renL_und] at h1 h2; subst h1 h2)) | (apply at_op (.call { callee := .builtin .delete, args := _, argTypes := _ }); refine al_step (st_delete setM rfl rfl rfl hkey rfl hdel) rfl ?_) | apply aw_seq | apply aw_region | apply al_nil | apply aq_np | apply aq_then | apply aq_then_x | apply aq_then_r | apply aq_block_x | (apply aq_block_y; decide) | apply aq_block_r | apply aq_block | apply aw_block | apply aw_skip | apply aw_exit | apply aw_ret | (apply at_op (.move _); refine r_move ?_) | (apply at_op (.assign _); refine r_assign ?_) | (apply at_cond; first | refine c_t ?_ | refine c_f ?_ | (refine aw_cond rfl (fun hb => ?_) (fun hb => ?_) <;> ((first | have hq := of_decide_eq_true hb | have hq := of_decide_eq_false hb | have hq := dNT hb | have hq := dNF hb | skip); (try (exfalso; omega))))) | (apply at_op (.extract _ _); refine r_extract ?_) | (apply at_op (.load _ _); refine r_load ?_) | (apply at_op (.alloc _); refine r_alloc ?_) | (apply at_op (.store _ _ _); refine r_store ?_))
      refine aq_round _ _ _ (⟨_, _, rfl, hI.drop hm.nodup hj he, rfl, rfl⟩) (hlt) ?_ ?_
      · (repeat (first | exact sub_nil | (apply sub_cons; focus (first | rfl | exact vint (by first | omega) | (simp [look]; done)))))
      · (repeat (first | exact obs_nil | (apply obs_cons; focus (first | rfl | (simp [find]; done)))))
    · have hq1 : decide (p.1 = f) = false := decide_eq_false he
      repeat' (first | (apply at_op (.entry _); refine al_y (y_entry (c0 := 0) rfl rfl rfl hj) (lt_ok rfl) ?_; simp only [keyD_sec]) | (apply at_call; refine k_clocall2 [(1000, 1000)] (hc) hE ?_; rintro _ _ ⟨rfl, rfl⟩ <;> (intro _ _ h1 h2; simp only [renEqs, Nat.reduceBEq, renL_app, renL_ds, renL_und] at h1 h2; subst h1 h2)) | (apply at_op (.call { callee := .builtin .delete, args := _, argTypes := _ }); refine al_step (st_delete setM rfl rfl rfl hkey rfl hdel) rfl ?_) | apply aw_seq | apply aw_region | apply al_nil | apply aq_np | apply aq_then | apply aq_then_x | apply aq_then_r | apply aq_block_x | (apply aq_block_y; decide) | apply aq_block_r | apply aq_block | apply aw_block | apply aw_skip | apply aw_exit | apply aw_ret | (apply at_op (.move _); refine r_move ?_) | (apply at_op (.assign _); refine r_assign ?_) | (apply at_cond; first | refine c_t ?_ | refine c_f ?_ | (refine aw_cond rfl (fun hb => ?_) (fun hb => ?_) <;> ((first | have hq := of_decide_eq_true hb | have hq := of_decide_eq_false hb | have hq := dNT hb | have hq := dNF hb | skip); (try (exfalso; omega))))) | (apply at_op (.extract _ _); refine r_extract ?_) | (apply at_op (.load _ _); refine r_load ?_) | (apply at_op (.alloc _); refine r_alloc ?_) | (apply at_op (.store _ _ _); refine r_store ?_))
      refine aq_round _ _ _ (⟨_, _, rfl, hI.keep (t := Nat) (c := c) hm.nodup hj he, rfl, rfl⟩) (hlt) ?_ ?_
      · (repeat (first | exact sub_nil | (apply sub_cons; focus (first | rfl | exact vint (by first | omega) | (simp [look]; done)))))
      · (repeat (first | exact obs_nil | (apply obs_cons; focus (first | rfl | (simp [find]; done)))))
end Go.Proofs.YtfgibalcdjlnhaaDoor
end
