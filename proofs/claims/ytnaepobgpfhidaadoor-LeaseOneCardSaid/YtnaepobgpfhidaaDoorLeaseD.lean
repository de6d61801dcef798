/-
  The walks of package lease and of its reference: frames that are read. Conditions: sizes.
-/
import Derived.Test.YtnaepobgpfhidaaDoorLeaseC
set_option linter.unusedSimpArgs false
set_option linter.unusedVariables false
namespace Go.Proofs.YtnaepobgpfhidaaDoor
open Go.RowKit

theorem close_empty {r : ByteArray} {b : Bool} {c : UInt8} (h : r.size = 0) : closeS r b ⟨#[c]⟩ = (emp, true) := by
  rcases closeS_to (r := r) (b := b) (c := c) with ⟨q, _, h1⟩ | h1
  · have h2 := L_len r
    rw [h1] at h2
    simp at h2
    omega
  · exact h1
theorem text_fail {r q : ByteArray} {b e : Bool} {n : Int} (hq : numS r b 58 0 = ⟨n, q, e⟩) (h0 : 0 ≤ n) (h : e = true ∧ q = emp ∨ (q.size : Int) ≤ n) : textS r b = ⟨emp, emp, true⟩ := by
  unfold textS
  rw [hq]
  simp only
  split
  · rfl
  · rename_i hn
    have hz : (q.extract n.toNat q.size).size = 0 := by
      rw [ByteArray.size_extract]
      rcases h with ⟨_, rfl⟩ | h
      · rw [emp_size]; omega
      · omega
    rw [close_empty hz]
    rfl

def FrameIs (s : ByteArray) (p : Int × ByteArray) : Prop := 1 ≤ p.1 ∧ p.1 ≤ 1048576 ∧ p.2.size ≤ 20000 ∧ s = intW p.1 ++ textW p.2
theorem frame_read {s : ByteArray} {p : Int × ByteArray} (h : FrameIs s p) : numS s false 59 0 = ⟨p.1, textW p.2, false⟩ ∧ textS (textW p.2) false = ⟨p.2, emp, false⟩ := by
  obtain ⟨h1, h2, h3, h4⟩ := h
  have h5 : L s = L (intW p.1) ++ L (textW p.2) := by rw [h4, L_app]
  have h6 := int_of (b := false) (least := 0) h5 (by unfold isInt; omega) (by omega)
  rw [B_L] at h6
  exact ⟨h6, text_of (t := []) (by simp) (by omega)⟩
theorem frame_unique {s : ByteArray} {p q : Int × ByteArray} (h : FrameIs s p) (h' : FrameIs s q) : p = q := by
  obtain ⟨h1, h2⟩ := frame_read h
  obtain ⟨h3, h4⟩ := frame_read h'
  rw [h1] at h3
  injection h3 with e1 e2
  rw [e2, h4] at h2
  injection h2 with e3
  exact Prod.ext e1 e3.symm
theorem frame_of {s r t : ByteArray} {n : Int} (h1 : numS s false 59 0 = ⟨n, r, false⟩) (h2 : textS r false = ⟨t, emp, false⟩) : s = intW n ++ textW t := by
  obtain ⟨h3, _⟩ := int_to h1
  obtain ⟨h4, _⟩ := text_to h2
  refine ba_ext ?_
  show L s = L (intW n ++ textW t)
  rw [L_app, h3, h4]
  show _ ++ (_ ++ []) = _
  rw [List.append_nil]
open Classical in
/-- the epoch and the record of a frame -/
noncomputable def openO (s : ByteArray) : Option (Int × ByteArray) := if h : ∃ p, FrameIs s p then some (Classical.choose h) else none
theorem openO_is {s : ByteArray} {p : Int × ByteArray} (h : FrameIs s p) : openO s = some p := by
  unfold openO
  rw [dif_pos ⟨p, h⟩]
  exact congrArg some (frame_unique (Classical.choose_spec (⟨p, h⟩ : ∃ p, FrameIs s p)) h)
theorem openO_no {s : ByteArray} (h : ∀ p, ¬ FrameIs s p) : openO s = none := by
  unfold openO
  rw [dif_neg fun ⟨p, hp⟩ => h p hp]
theorem openO_to {s : ByteArray} {p : Int × ByteArray} (h : openO s = some p) : FrameIs s p := by
  unfold openO at h
  split at h
  · rename_i he
    injection h with h
    rw [← h]
    exact Classical.choose_spec he
  · cases h
/-- what open says -/
def OpenP (s : ByteArray) (x : D) : Prop := ∃ n t c, x = .tup [.int n, .str t, .bool c] ∧ (c = true → openO s = some (n, t)) ∧ (c = false → openO s = none)
theorem text_emp : textS emp true = ⟨emp, emp, true⟩ := by
  have h : numS emp true 58 0 = ⟨0, emp, true⟩ := by
    rcases numS_to (r := emp) (b := true) (c := 58) (least := 0) with ⟨n, q, _, h2, _⟩ | h1
    · have h3 : ([] : List UInt8) = Lib.itoa n ++ 58 :: L q := h2
      simp at h3
    · exact h1
  exact text_fail h (Int.le_refl _) (.inl ⟨rfl, rfl⟩)
theorem open_no {s r t q : ByteArray} {n : Int} {b e : Bool} (h1 : numS s false 59 0 = ⟨n, r, b⟩) (h2 : textS r b = ⟨t, q, e⟩) (h : ¬ (e = false ∧ q = emp ∧ 1 ≤ n ∧ n ≤ 1048576 ∧ t.size ≤ 20000)) : openO s = none := openO_no fun p hp => by
  obtain ⟨k1, k2⟩ := frame_read hp
  obtain ⟨b1, b2, b3, _⟩ := hp
  rw [h1] at k1
  injection k1 with e1 e2 e3
  rw [e2, e3, k2] at h2
  injection h2 with e4 e5 e6
  refine h ⟨e6.symm, e5.symm, by omega, by omega, ?_⟩
  rw [← e4]
  exact b3
theorem open_yes {s r t q : ByteArray} {n : Int} {b e : Bool} (h1 : numS s false 59 0 = ⟨n, r, b⟩) (h2 : textS r b = ⟨t, q, e⟩) (h : e = false ∧ q = emp ∧ 1 ≤ n ∧ n ≤ 1048576 ∧ t.size ≤ 20000) : openO s = some (n, t) ∧ s = intW n ++ textW t := by
  obtain ⟨rfl, rfl, b1, b2, b3⟩ := h
  have hb : b = false := by
    cases b with
    | false => rfl
    | true =>
      rcases numS_to (r := s) (b := false) (c := 59) (least := 0) with ⟨m, q, h3, _⟩ | h3
      · rw [h1] at h3; injection h3 with _ _ h4
      · rw [h1] at h3
        injection h3 with _ h4 _
        rw [h4, text_emp] at h2
        injection h2 with _ _ h5
  subst hb
  have h3 := frame_of h1 h2
  exact ⟨openO_is ⟨b1, b2, b3, h3⟩, h3⟩
attribute [local irreducible] numS textS openO intW textW
set_option maxHeartbeats 4000000 in
theorem lopen_any (s : ByteArray) (hs : s.size ≤ 1000000) : PureC 25 [.str s] (OpenP s) := by
  have h0 := num_ge (r := s) (b := false) (c := 59) (least := 0) (Int.le_refl _)
  have hz := numS_le (r := s) (b := false) (c := 59) (least := 0)
  have c1 := num_any s false (by omega)
  rcases h1 : numS s false 59 0 with ⟨n, r, b⟩
  rw [h1] at h0 hz c1
  simp only at h0 hz c1
  have c2 := text_any r b (by omega)
  rcases h2 : textS r b with ⟨t, q, e⟩
  rw [h2] at c2
  simp only at c2
  by_cases h : e = false ∧ q = emp ∧ 1 ≤ n ∧ n ≤ 1048576 ∧ t.size ≤ 20000
  · have hy := (open_yes h1 h2 h).1
    obtain ⟨rfl, rfl, b1, b2, b3⟩ := h
    have f1 : (!false && decide (emp = emp)) = true := by simp
    have f2 : decide ((0 : Int) < n) = true := decide_eq_true (by omega)
    have f3 : decide (n ≤ 1048576) = true := decide_eq_true (by omega)
    have f4 : decide ((t.size : Int) ≤ 20000) = true := decide_eq_true (by omega)
    refine pure_enter Tryd.func25 rfl (by decide) _ Tryd.ntmps25 (le_ok rfl) (fun w Pr hE => ?_)
    dsimp only [slotsOf, Nat.zero_add, Nat.reduceAdd]
    repeat' (first | (apply at_op (.call { callee := .value _, args := _, argTypes := _ }); refine al_ocall [(5, 9)] (open_any s) rfl hE (lt_ok rfl) (by repeat (first | exact ArgsV.nil | refine ArgsV.cons (.same _ _ rfl) ?_ | refine ArgsV.cons (.toD _ _ (by first | exact ToD.d _ | exact ToD.row _ _ _ _ _ rfl | exact ToD.nil _)) ?_)) ⟨by first | exact obs_nil | exact (obs_cons rfl obs_nil) | exact (obs_cons rfl (obs_cons rfl obs_nil)) | exact (obs_cons rfl (obs_cons rfl (obs_cons rfl obs_nil))) | exact (obs_cons rfl (obs_cons rfl (obs_cons rfl (obs_cons rfl obs_nil)))) | exact (obs_cons rfl (obs_cons rfl (obs_cons rfl (obs_cons rfl (obs_cons rfl obs_nil))))), rfl, rfl, rfl, rfl⟩ ?_; (all_goals (try first | omega | assumption)); rintro _ _ ⟨rfl, rfl⟩; intro _ _ h1 h2; simp only [V.ren, V.renL, O.ren, renO, rn, dropK, keys, mem, List.map_cons, List.map_nil, List.any_cons, List.any_nil, List.cons_append, List.nil_append, nbeq_def, Nat.reduceBEq, cond_true, cond_false, Bool.or_false, Bool.false_or, Bool.true_or] at h1 h2; subst h1 h2) | (apply at_op (.call { callee := .value _, args := _, argTypes := _ }); refine al_ocall [(1000, 9)] (c1) rfl hE (lt_ok rfl) (by repeat (first | exact ArgsV.nil | refine ArgsV.cons (.same _ _ rfl) ?_ | refine ArgsV.cons (.toD _ _ (by first | exact ToD.d _ | exact ToD.row _ _ _ _ _ rfl | exact ToD.nil _)) ?_)) ⟨by first | exact obs_nil | exact (obs_cons rfl obs_nil) | exact (obs_cons rfl (obs_cons rfl obs_nil)) | exact (obs_cons rfl (obs_cons rfl (obs_cons rfl obs_nil))) | exact (obs_cons rfl (obs_cons rfl (obs_cons rfl (obs_cons rfl obs_nil)))) | exact (obs_cons rfl (obs_cons rfl (obs_cons rfl (obs_cons rfl (obs_cons rfl obs_nil))))), rfl, rfl, rfl, rfl⟩ ?_; (all_goals (try first | omega | assumption)); rintro _ _ ⟨rfl, rfl⟩; intro _ _ h1 h2; simp only [V.ren, V.renL, O.ren, renO, rn, dropK, keys, mem, List.map_cons, List.map_nil, List.any_cons, List.any_nil, List.cons_append, List.nil_append, nbeq_def, Nat.reduceBEq, cond_true, cond_false, Bool.or_false, Bool.false_or, Bool.true_or] at h1 h2; subst h1 h2) | (apply at_op (.call { callee := .value _, args := _, argTypes := _ }); refine al_ocall [(1000, 9)] (c2) rfl hE (lt_ok rfl) (by repeat (first | exact ArgsV.nil | refine ArgsV.cons (.same _ _ rfl) ?_ | refine ArgsV.cons (.toD _ _ (by first | exact ToD.d _ | exact ToD.row _ _ _ _ _ rfl | exact ToD.nil _)) ?_)) ⟨by first | exact obs_nil | exact (obs_cons rfl obs_nil) | exact (obs_cons rfl (obs_cons rfl obs_nil)) | exact (obs_cons rfl (obs_cons rfl (obs_cons rfl obs_nil))) | exact (obs_cons rfl (obs_cons rfl (obs_cons rfl (obs_cons rfl obs_nil)))) | exact (obs_cons rfl (obs_cons rfl (obs_cons rfl (obs_cons rfl (obs_cons rfl obs_nil))))), rfl, rfl, rfl, rfl⟩ ?_; (all_goals (try first | omega | assumption)); rintro _ _ ⟨rfl, rfl⟩; intro _ _ h1 h2; simp only [V.ren, V.renL, O.ren, renO, rn, dropK, keys, mem, List.map_cons, List.map_nil, List.any_cons, List.any_nil, List.cons_append, List.nil_append, nbeq_def, Nat.reduceBEq, cond_true, cond_false, Bool.or_false, Bool.false_or, Bool.true_or] at h1 h2; subst h1 h2) | (apply at_op (.call { callee := .value _, args := _, argTypes := _ }); refine al_ocall [(1000, 9)] (done_any _ _) rfl hE (lt_ok rfl) (by repeat (first | exact ArgsV.nil | refine ArgsV.cons (.same _ _ rfl) ?_ | refine ArgsV.cons (.toD _ _ (by first | exact ToD.d _ | exact ToD.row _ _ _ _ _ rfl | exact ToD.nil _)) ?_)) ⟨by first | exact obs_nil | exact (obs_cons rfl obs_nil) | exact (obs_cons rfl (obs_cons rfl obs_nil)) | exact (obs_cons rfl (obs_cons rfl (obs_cons rfl obs_nil))) | exact (obs_cons rfl (obs_cons rfl (obs_cons rfl (obs_cons rfl obs_nil)))) | exact (obs_cons rfl (obs_cons rfl (obs_cons rfl (obs_cons rfl (obs_cons rfl obs_nil))))), rfl, rfl, rfl, rfl⟩ ?_; (all_goals (try first | omega | assumption)); rintro _ _ ⟨rfl, rfl⟩; intro _ _ h1 h2; simp only [V.ren, V.renL, O.ren, renO, rn, dropK, keys, mem, List.map_cons, List.map_nil, List.any_cons, List.any_nil, List.cons_append, List.nil_append, nbeq_def, Nat.reduceBEq, cond_true, cond_false, Bool.or_false, Bool.false_or, Bool.true_or] at h1 h2; subst h1 h2) | apply aw_seq | apply aw_region | apply al_nil | apply aq_np | apply aq_then | apply aq_then_x | apply aq_then_r | apply aw_skip | apply aw_exit | apply aw_ret | (apply at_op (.move _); refine al_y (y_moveC (by constructor)) (lt_ok rfl) ?_) | (apply at_op (.assign _); refine al_y (y_assignC (by constructor)) (lt_ok rfl) ?_) | (apply at_guard; first | refine al_go rfl rfl (by assumption) ?_ | refine al_not_t rfl rfl (by assumption) (lt_ok rfl) ?_ | refine al_not_f rfl rfl (by assumption) (lt_ok rfl) ?_ | refine al_go rfl rfl (by first | with_reducible rfl | decide) ?_ | refine al_not_t rfl rfl (by first | with_reducible rfl | decide) (lt_ok rfl) ?_ | refine al_not_f rfl rfl (by first | with_reducible rfl | decide) (lt_ok rfl) ?_ | refine al_not_u rfl rfl (lt_ok rfl) ?_ | (refine al_split_t rfl rfl (lt_ok rfl) (fun hb => ?_) (fun hb => ?_) <;> ((first | have hq := of_decide_eq_true hb | have hq := of_decide_eq_false hb | have hq := of_decide_eq_false (not_t hb) | have hq := of_decide_eq_true (not_f hb) | skip); (try (exfalso; omega)))) | (refine al_split_f rfl rfl (lt_ok rfl) (fun hb => ?_) (fun hb => ?_) <;> ((first | have hq := of_decide_eq_true hb | have hq := of_decide_eq_false hb | have hq := of_decide_eq_false (not_t hb) | have hq := of_decide_eq_true (not_f hb) | skip); (try (exfalso; omega))))) | (apply at_op (.pick _ _ _); first | refine al_y (y_pick_t rfl (by assumption) (ev_d rfl)) (lt_ok rfl) ?_ | refine al_y (y_pick_f rfl (by assumption) (ev_d rfl)) (lt_ok rfl) ?_ | refine al_y (y_pick_t rfl (by first | with_reducible rfl | decide) (ev_d rfl)) (lt_ok rfl) ?_ | refine al_y (y_pick_f rfl (by first | with_reducible rfl | decide) (ev_d rfl)) (lt_ok rfl) ?_) | (apply at_op (.binOp .leq _ _ _ _); refine al_y (y_leq rfl rfl) (lt_ok rfl) ?_) | (apply at_op (.binOp .gtr _ _ _ _); refine al_y (y_gtr rfl rfl) (lt_ok rfl) ?_) | (apply at_op (.call { callee := .builtin .len, args := _, argTypes := _ }); first | refine al_y (y_slen rfl rfl (by kernel_rfl)) (lt_ok rfl) ?_ | refine al_y (y_llen (by first | exact ToD.d _ | exact ToD.row _ _ _ _ _ rfl) rfl ⟨_, _, _, _, rfl⟩ (by first | (simp only [List.length_map, List.length_append, List.length_cons, List.length_nil]; rfl) | rfl)) (lt_ok rfl) ?_ | refine al_y (y_sllen rfl rfl ⟨_, _, _, _, rfl⟩) (lt_ok rfl) ?_))
    refine ret_three (by rfl) (by first | exact ToD.d _ | exact ToD.row _ _ _ _ _ rfl) (by first | exact ToD.d _ | exact ToD.row _ _ _ _ _ rfl) (by first | exact ToD.d _ | exact ToD.row _ _ _ _ _ rfl) ?_
    exact ⟨n, t, true, by rw [f4], fun _ => hy, fun h => by cases h⟩
  · have hn := open_no h1 h2 h
    by_cases hd : e = false ∧ q = emp
    · obtain ⟨rfl, rfl⟩ := hd
      have hbd : ¬ (1 ≤ n ∧ n ≤ 1048576 ∧ t.size ≤ 20000) := fun hx => h ⟨rfl, rfl, hx⟩
      have f1 : (!false && decide (emp = emp)) = true := by simp
      refine pure_enter Tryd.func25 rfl (by decide) _ Tryd.ntmps25 (le_ok rfl) (fun w Pr hE => ?_)
      dsimp only [slotsOf, Nat.zero_add, Nat.reduceAdd]
      repeat' (first | (apply at_op (.call { callee := .value _, args := _, argTypes := _ }); refine al_ocall [(5, 9)] (open_any s) rfl hE (lt_ok rfl) (by repeat (first | exact ArgsV.nil | refine ArgsV.cons (.same _ _ rfl) ?_ | refine ArgsV.cons (.toD _ _ (by first | exact ToD.d _ | exact ToD.row _ _ _ _ _ rfl | exact ToD.nil _)) ?_)) ⟨by first | exact obs_nil | exact (obs_cons rfl obs_nil) | exact (obs_cons rfl (obs_cons rfl obs_nil)) | exact (obs_cons rfl (obs_cons rfl (obs_cons rfl obs_nil))) | exact (obs_cons rfl (obs_cons rfl (obs_cons rfl (obs_cons rfl obs_nil)))) | exact (obs_cons rfl (obs_cons rfl (obs_cons rfl (obs_cons rfl (obs_cons rfl obs_nil))))), rfl, rfl, rfl, rfl⟩ ?_; (all_goals (try first | omega | assumption)); rintro _ _ ⟨rfl, rfl⟩; intro _ _ h1 h2; simp only [V.ren, V.renL, O.ren, renO, rn, dropK, keys, mem, List.map_cons, List.map_nil, List.any_cons, List.any_nil, List.cons_append, List.nil_append, nbeq_def, Nat.reduceBEq, cond_true, cond_false, Bool.or_false, Bool.false_or, Bool.true_or] at h1 h2; subst h1 h2) | (apply at_op (.call { callee := .value _, args := _, argTypes := _ }); refine al_ocall [(1000, 9)] (c1) rfl hE (lt_ok rfl) (by repeat (first | exact ArgsV.nil | refine ArgsV.cons (.same _ _ rfl) ?_ | refine ArgsV.cons (.toD _ _ (by first | exact ToD.d _ | exact ToD.row _ _ _ _ _ rfl | exact ToD.nil _)) ?_)) ⟨by first | exact obs_nil | exact (obs_cons rfl obs_nil) | exact (obs_cons rfl (obs_cons rfl obs_nil)) | exact (obs_cons rfl (obs_cons rfl (obs_cons rfl obs_nil))) | exact (obs_cons rfl (obs_cons rfl (obs_cons rfl (obs_cons rfl obs_nil)))) | exact (obs_cons rfl (obs_cons rfl (obs_cons rfl (obs_cons rfl (obs_cons rfl obs_nil))))), rfl, rfl, rfl, rfl⟩ ?_; (all_goals (try first | omega | assumption)); rintro _ _ ⟨rfl, rfl⟩; intro _ _ h1 h2; simp only [V.ren, V.renL, O.ren, renO, rn, dropK, keys, mem, List.map_cons, List.map_nil, List.any_cons, List.any_nil, List.cons_append, List.nil_append, nbeq_def, Nat.reduceBEq, cond_true, cond_false, Bool.or_false, Bool.false_or, Bool.true_or] at h1 h2; subst h1 h2) | (apply at_op (.call { callee := .value _, args := _, argTypes := _ }); refine al_ocall [(1000, 9)] (c2) rfl hE (lt_ok rfl) (by repeat (first | exact ArgsV.nil | refine ArgsV.cons (.same _ _ rfl) ?_ | refine ArgsV.cons (.toD _ _ (by first | exact ToD.d _ | exact ToD.row _ _ _ _ _ rfl | exact ToD.nil _)) ?_)) ⟨by first | exact obs_nil | exact (obs_cons rfl obs_nil) | exact (obs_cons rfl (obs_cons rfl obs_nil)) | exact (obs_cons rfl (obs_cons rfl (obs_cons rfl obs_nil))) | exact (obs_cons rfl (obs_cons rfl (obs_cons rfl (obs_cons rfl obs_nil)))) | exact (obs_cons rfl (obs_cons rfl (obs_cons rfl (obs_cons rfl (obs_cons rfl obs_nil))))), rfl, rfl, rfl, rfl⟩ ?_; (all_goals (try first | omega | assumption)); rintro _ _ ⟨rfl, rfl⟩; intro _ _ h1 h2; simp only [V.ren, V.renL, O.ren, renO, rn, dropK, keys, mem, List.map_cons, List.map_nil, List.any_cons, List.any_nil, List.cons_append, List.nil_append, nbeq_def, Nat.reduceBEq, cond_true, cond_false, Bool.or_false, Bool.false_or, Bool.true_or] at h1 h2; subst h1 h2) | (apply at_op (.call { callee := .value _, args := _, argTypes := _ }); refine al_ocall [(1000, 9)] (done_any _ _) rfl hE (lt_ok rfl) (by repeat (first | exact ArgsV.nil | refine ArgsV.cons (.same _ _ rfl) ?_ | refine ArgsV.cons (.toD _ _ (by first | exact ToD.d _ | exact ToD.row _ _ _ _ _ rfl | exact ToD.nil _)) ?_)) ⟨by first | exact obs_nil | exact (obs_cons rfl obs_nil) | exact (obs_cons rfl (obs_cons rfl obs_nil)) | exact (obs_cons rfl (obs_cons rfl (obs_cons rfl obs_nil))) | exact (obs_cons rfl (obs_cons rfl (obs_cons rfl (obs_cons rfl obs_nil)))) | exact (obs_cons rfl (obs_cons rfl (obs_cons rfl (obs_cons rfl (obs_cons rfl obs_nil))))), rfl, rfl, rfl, rfl⟩ ?_; (all_goals (try first | omega | assumption)); rintro _ _ ⟨rfl, rfl⟩; intro _ _ h1 h2; simp only [V.ren, V.renL, O.ren, renO, rn, dropK, keys, mem, List.map_cons, List.map_nil, List.any_cons, List.any_nil, List.cons_append, List.nil_append, nbeq_def, Nat.reduceBEq, cond_true, cond_false, Bool.or_false, Bool.false_or, Bool.true_or] at h1 h2; subst h1 h2) | apply aw_seq | apply aw_region | apply al_nil | apply aq_np | apply aq_then | apply aq_then_x | apply aq_then_r | apply aw_skip | apply aw_exit | apply aw_ret | (apply at_op (.move _); refine al_y (y_moveC (by constructor)) (lt_ok rfl) ?_) | (apply at_op (.assign _); refine al_y (y_assignC (by constructor)) (lt_ok rfl) ?_) | (apply at_guard; first | refine al_go rfl rfl (by assumption) ?_ | refine al_not_t rfl rfl (by assumption) (lt_ok rfl) ?_ | refine al_not_f rfl rfl (by assumption) (lt_ok rfl) ?_ | refine al_go rfl rfl (by first | with_reducible rfl | decide) ?_ | refine al_not_t rfl rfl (by first | with_reducible rfl | decide) (lt_ok rfl) ?_ | refine al_not_f rfl rfl (by first | with_reducible rfl | decide) (lt_ok rfl) ?_ | refine al_not_u rfl rfl (lt_ok rfl) ?_ | (refine al_split_t rfl rfl (lt_ok rfl) (fun hb => ?_) (fun hb => ?_) <;> ((first | have hq := of_decide_eq_true hb | have hq := of_decide_eq_false hb | have hq := of_decide_eq_false (not_t hb) | have hq := of_decide_eq_true (not_f hb) | skip); (try (exfalso; omega)))) | (refine al_split_f rfl rfl (lt_ok rfl) (fun hb => ?_) (fun hb => ?_) <;> ((first | have hq := of_decide_eq_true hb | have hq := of_decide_eq_false hb | have hq := of_decide_eq_false (not_t hb) | have hq := of_decide_eq_true (not_f hb) | skip); (try (exfalso; omega))))) | (apply at_op (.pick _ _ _); first | refine al_y (y_pick_t rfl (by assumption) (ev_d rfl)) (lt_ok rfl) ?_ | refine al_y (y_pick_f rfl (by assumption) (ev_d rfl)) (lt_ok rfl) ?_ | refine al_y (y_pick_t rfl (by first | with_reducible rfl | decide) (ev_d rfl)) (lt_ok rfl) ?_ | refine al_y (y_pick_f rfl (by first | with_reducible rfl | decide) (ev_d rfl)) (lt_ok rfl) ?_) | (apply at_op (.binOp .leq _ _ _ _); refine al_y (y_leq rfl rfl) (lt_ok rfl) ?_) | (apply at_op (.binOp .gtr _ _ _ _); refine al_y (y_gtr rfl rfl) (lt_ok rfl) ?_) | (apply at_op (.call { callee := .builtin .len, args := _, argTypes := _ }); first | refine al_y (y_slen rfl rfl (by kernel_rfl)) (lt_ok rfl) ?_ | refine al_y (y_llen (by first | exact ToD.d _ | exact ToD.row _ _ _ _ _ rfl) rfl ⟨_, _, _, _, rfl⟩ (by first | (simp only [List.length_map, List.length_append, List.length_cons, List.length_nil]; rfl) | rfl)) (lt_ok rfl) ?_ | refine al_y (y_sllen rfl rfl ⟨_, _, _, _, rfl⟩) (lt_ok rfl) ?_))
      all_goals refine ret_three (by rfl) (by first | exact ToD.d _ | exact ToD.row _ _ _ _ _ rfl) (by first | exact ToD.d _ | exact ToD.row _ _ _ _ _ rfl) (by first | exact ToD.d _ | exact ToD.row _ _ _ _ _ rfl) ?_
      all_goals refine ⟨n, t, _, rfl, fun hc => ?_, fun _ => hn⟩
      all_goals exfalso
      all_goals first | (have := of_decide_eq_true hc; omega) | cases hc
    · have f1 : (!e && decide (q = emp)) = false := by
        cases e with
        | true => rfl
        | false => rw [decide_eq_false fun hq => hd ⟨rfl, hq⟩]; rfl
      refine pure_enter Tryd.func25 rfl (by decide) _ Tryd.ntmps25 (le_ok rfl) (fun w Pr hE => ?_)
      dsimp only [slotsOf, Nat.zero_add, Nat.reduceAdd]
      repeat' (first | (apply at_op (.call { callee := .value _, args := _, argTypes := _ }); refine al_ocall [(5, 9)] (open_any s) rfl hE (lt_ok rfl) (by repeat (first | exact ArgsV.nil | refine ArgsV.cons (.same _ _ rfl) ?_ | refine ArgsV.cons (.toD _ _ (by first | exact ToD.d _ | exact ToD.row _ _ _ _ _ rfl | exact ToD.nil _)) ?_)) ⟨by first | exact obs_nil | exact (obs_cons rfl obs_nil) | exact (obs_cons rfl (obs_cons rfl obs_nil)) | exact (obs_cons rfl (obs_cons rfl (obs_cons rfl obs_nil))) | exact (obs_cons rfl (obs_cons rfl (obs_cons rfl (obs_cons rfl obs_nil)))) | exact (obs_cons rfl (obs_cons rfl (obs_cons rfl (obs_cons rfl (obs_cons rfl obs_nil))))), rfl, rfl, rfl, rfl⟩ ?_; (all_goals (try first | omega | assumption)); rintro _ _ ⟨rfl, rfl⟩; intro _ _ h1 h2; simp only [V.ren, V.renL, O.ren, renO, rn, dropK, keys, mem, List.map_cons, List.map_nil, List.any_cons, List.any_nil, List.cons_append, List.nil_append, nbeq_def, Nat.reduceBEq, cond_true, cond_false, Bool.or_false, Bool.false_or, Bool.true_or] at h1 h2; subst h1 h2) | (apply at_op (.call { callee := .value _, args := _, argTypes := _ }); refine al_ocall [(1000, 9)] (c1) rfl hE (lt_ok rfl) (by repeat (first | exact ArgsV.nil | refine ArgsV.cons (.same _ _ rfl) ?_ | refine ArgsV.cons (.toD _ _ (by first | exact ToD.d _ | exact ToD.row _ _ _ _ _ rfl | exact ToD.nil _)) ?_)) ⟨by first | exact obs_nil | exact (obs_cons rfl obs_nil) | exact (obs_cons rfl (obs_cons rfl obs_nil)) | exact (obs_cons rfl (obs_cons rfl (obs_cons rfl obs_nil))) | exact (obs_cons rfl (obs_cons rfl (obs_cons rfl (obs_cons rfl obs_nil)))) | exact (obs_cons rfl (obs_cons rfl (obs_cons rfl (obs_cons rfl (obs_cons rfl obs_nil))))), rfl, rfl, rfl, rfl⟩ ?_; (all_goals (try first | omega | assumption)); rintro _ _ ⟨rfl, rfl⟩; intro _ _ h1 h2; simp only [V.ren, V.renL, O.ren, renO, rn, dropK, keys, mem, List.map_cons, List.map_nil, List.any_cons, List.any_nil, List.cons_append, List.nil_append, nbeq_def, Nat.reduceBEq, cond_true, cond_false, Bool.or_false, Bool.false_or, Bool.true_or] at h1 h2; subst h1 h2) | (apply at_op (.call { callee := .value _, args := _, argTypes := _ }); refine al_ocall [(1000, 9)] (c2) rfl hE (lt_ok rfl) (by repeat (first | exact ArgsV.nil | refine ArgsV.cons (.same _ _ rfl) ?_ | refine ArgsV.cons (.toD _ _ (by first | exact ToD.d _ | exact ToD.row _ _ _ _ _ rfl | exact ToD.nil _)) ?_)) ⟨by first | exact obs_nil | exact (obs_cons rfl obs_nil) | exact (obs_cons rfl (obs_cons rfl obs_nil)) | exact (obs_cons rfl (obs_cons rfl (obs_cons rfl obs_nil))) | exact (obs_cons rfl (obs_cons rfl (obs_cons rfl (obs_cons rfl obs_nil)))) | exact (obs_cons rfl (obs_cons rfl (obs_cons rfl (obs_cons rfl (obs_cons rfl obs_nil))))), rfl, rfl, rfl, rfl⟩ ?_; (all_goals (try first | omega | assumption)); rintro _ _ ⟨rfl, rfl⟩; intro _ _ h1 h2; simp only [V.ren, V.renL, O.ren, renO, rn, dropK, keys, mem, List.map_cons, List.map_nil, List.any_cons, List.any_nil, List.cons_append, List.nil_append, nbeq_def, Nat.reduceBEq, cond_true, cond_false, Bool.or_false, Bool.false_or, Bool.true_or] at h1 h2; subst h1 h2) | (apply at_op (.call { callee := .value _, args := _, argTypes := _ }); refine al_ocall [(1000, 9)] (done_any _ _) rfl hE (lt_ok rfl) (by repeat (first | exact ArgsV.nil | refine ArgsV.cons (.same _ _ rfl) ?_ | refine ArgsV.cons (.toD _ _ (by first | exact ToD.d _ | exact ToD.row _ _ _ _ _ rfl | exact ToD.nil _)) ?_)) ⟨by first | exact obs_nil | exact (obs_cons rfl obs_nil) | exact (obs_cons rfl (obs_cons rfl obs_nil)) | exact (obs_cons rfl (obs_cons rfl (obs_cons rfl obs_nil))) | exact (obs_cons rfl (obs_cons rfl (obs_cons rfl (obs_cons rfl obs_nil)))) | exact (obs_cons rfl (obs_cons rfl (obs_cons rfl (obs_cons rfl (obs_cons rfl obs_nil))))), rfl, rfl, rfl, rfl⟩ ?_; (all_goals (try first | omega | assumption)); rintro _ _ ⟨rfl, rfl⟩; intro _ _ h1 h2; simp only [V.ren, V.renL, O.ren, renO, rn, dropK, keys, mem, List.map_cons, List.map_nil, List.any_cons, List.any_nil, List.cons_append, List.nil_append, nbeq_def, Nat.reduceBEq, cond_true, cond_false, Bool.or_false, Bool.false_or, Bool.true_or] at h1 h2; subst h1 h2) | apply aw_seq | apply aw_region | apply al_nil | apply aq_np | apply aq_then | apply aq_then_x | apply aq_then_r | apply aw_skip | apply aw_exit | apply aw_ret | (apply at_op (.move _); refine al_y (y_moveC (by constructor)) (lt_ok rfl) ?_) | (apply at_op (.assign _); refine al_y (y_assignC (by constructor)) (lt_ok rfl) ?_) | (apply at_guard; first | refine al_go rfl rfl (by assumption) ?_ | refine al_not_t rfl rfl (by assumption) (lt_ok rfl) ?_ | refine al_not_f rfl rfl (by assumption) (lt_ok rfl) ?_ | refine al_go rfl rfl (by first | with_reducible rfl | decide) ?_ | refine al_not_t rfl rfl (by first | with_reducible rfl | decide) (lt_ok rfl) ?_ | refine al_not_f rfl rfl (by first | with_reducible rfl | decide) (lt_ok rfl) ?_ | refine al_not_u rfl rfl (lt_ok rfl) ?_ | (refine al_split_t rfl rfl (lt_ok rfl) (fun hb => ?_) (fun hb => ?_) <;> ((first | have hq := of_decide_eq_true hb | have hq := of_decide_eq_false hb | have hq := of_decide_eq_false (not_t hb) | have hq := of_decide_eq_true (not_f hb) | skip); (try (exfalso; omega)))) | (refine al_split_f rfl rfl (lt_ok rfl) (fun hb => ?_) (fun hb => ?_) <;> ((first | have hq := of_decide_eq_true hb | have hq := of_decide_eq_false hb | have hq := of_decide_eq_false (not_t hb) | have hq := of_decide_eq_true (not_f hb) | skip); (try (exfalso; omega))))) | (apply at_op (.pick _ _ _); first | refine al_y (y_pick_t rfl (by assumption) (ev_d rfl)) (lt_ok rfl) ?_ | refine al_y (y_pick_f rfl (by assumption) (ev_d rfl)) (lt_ok rfl) ?_ | refine al_y (y_pick_t rfl (by first | with_reducible rfl | decide) (ev_d rfl)) (lt_ok rfl) ?_ | refine al_y (y_pick_f rfl (by first | with_reducible rfl | decide) (ev_d rfl)) (lt_ok rfl) ?_) | (apply at_op (.binOp .leq _ _ _ _); refine al_y (y_leq rfl rfl) (lt_ok rfl) ?_) | (apply at_op (.binOp .gtr _ _ _ _); refine al_y (y_gtr rfl rfl) (lt_ok rfl) ?_) | (apply at_op (.call { callee := .builtin .len, args := _, argTypes := _ }); first | refine al_y (y_slen rfl rfl (by kernel_rfl)) (lt_ok rfl) ?_ | refine al_y (y_llen (by first | exact ToD.d _ | exact ToD.row _ _ _ _ _ rfl) rfl ⟨_, _, _, _, rfl⟩ (by first | (simp only [List.length_map, List.length_append, List.length_cons, List.length_nil]; rfl) | rfl)) (lt_ok rfl) ?_ | refine al_y (y_sllen rfl rfl ⟨_, _, _, _, rfl⟩) (lt_ok rfl) ?_))
      all_goals refine ret_three (by rfl) (by first | exact ToD.d _ | exact ToD.row _ _ _ _ _ rfl) (by first | exact ToD.d _ | exact ToD.row _ _ _ _ _ rfl) (by first | exact ToD.d _ | exact ToD.row _ _ _ _ _ rfl) ?_
      all_goals refine ⟨n, t, _, rfl, fun hc => ?_, fun _ => hn⟩
      all_goals first | (rw [f1] at hc; cases hc) | cases hc
theorem frame_ne {n : Int} {t : ByteArray} : intW n ++ textW t ≠ ⟨#[]⟩ := by
  intro h
  have h1 := congrArg L h
  rw [L_app, intW_L] at h1
  simp [L] at h1
end Go.Proofs.YtnaepobgpfhidaaDoor
