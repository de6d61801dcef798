/-
  The walks of package wire: strings and lists that a reader reads. Conditions: none.
  What a number's text is, and that it is read back. Conditions: the number is an int.
  The walks of package wire: lists that a reader reads. Conditions: none.
  The walks of package wire: what is written. Conditions: sizes.
  What a reader reads of what was written, and what it says of a text that it reads. Conditions: none.
  The plain laws of package wire: a reader that has failed has nothing left. Conditions: none.
-/
import Derived.Lib.AtoiAllCases
import Derived.Test.YtfgibalcdjlnhaaDoorMam
section
set_option linter.unusedSimpArgs false
set_option linter.unusedVariables false
namespace Go.Proofs.YtfgibalcdjlnhaaDoor
open Go.RowKit

open Classical in
/-- the int that stands at the beginning -/
noncomputable def numR (r : ByteArray) (c : UInt8) (least : Int) : Option Int := if h : ∃ n, numIs r c least n then some (Classical.choose h) else none
theorem numIs_unique {r : ByteArray} {c : UInt8} {least n m : Int} (h : numIs r c least n) (h' : numIs r c least m) : n = m := by
  have h1 := h.2.1
  rw [h'.2.1] at h1
  injection h1 with h1
  exact h1.symm
theorem numR_some {r : ByteArray} {c : UInt8} {least n : Int} (h : numIs r c least n) : numR r c least = some n := by
  have he : ∃ n, numIs r c least n := ⟨n, h⟩
  unfold numR
  rw [dif_pos he, numIs_unique (Classical.choose_spec he) h]
theorem numR_none {r : ByteArray} {c : UInt8} {least : Int} (h : ∀ n, ¬ numIs r c least n) : numR r c least = none := by
  unfold numR
  rw [dif_neg (fun ⟨n, hn⟩ => h n hn)]
theorem numR_is {r : ByteArray} {c : UInt8} {least n : Int} (h : numR r c least = some n) : numIs r c least n := by
  by_cases he : ∃ n, numIs r c least n
  · obtain ⟨m, hm⟩ := he
    rw [numR_some hm] at h
    injection h with h
    rw [← h]
    exact hm
  · rw [numR_none (fun n hn => he ⟨n, hn⟩)] at h
    cases h
structure RS (α : Type) where
  v : α
  r : ByteArray
  b : Bool
noncomputable def numS (r : ByteArray) (b : Bool) (c : UInt8) (least : Int) : RS Int := match numR r c least with
  | some n => ⟨n, behind r c, b⟩
  | none => ⟨0, emp, true⟩
theorem behind_size {r : ByteArray} {c : UInt8} {least n : Int} (h : numIs r c least n) : (behind r c).size < r.size := by
  have h1 := atV_bd r c
  have h2 := h.1
  simp only [behind, ByteArray.size_extract]
  omega
/-- what is read is gone -/
theorem numS_size (r : ByteArray) (b : Bool) (c : UInt8) (least : Int) : ((numS r b c least).b = b ∧ (numS r b c least).r.size < r.size) ∨ (numS r b c least = ⟨0, emp, true⟩) := by
  cases h : numR r c least with
  | none => right; simp only [numS, h]
  | some n =>
    left
    simp only [numS, h, true_and]
    exact behind_size (numR_is h)
theorem numS_le {r : ByteArray} {b : Bool} {c : UInt8} {least : Int} : (numS r b c least).r.size ≤ r.size := by
  rcases numS_size r b c least with h | h
  · omega
  · rw [h]; exact Nat.zero_le _
theorem num_ge {r : ByteArray} {b : Bool} {c : UInt8} {least : Int} (hl : least ≤ 0) : least ≤ (numS r b c least).v := by
  unfold numS
  cases h : numR r c least with
  | none => exact hl
  | some n => exact (numR_is h).2.2.2
theorem number_s (r : ByteArray) (b : Bool) (c : UInt8) (least : Int) (hr : r.size ≤ 1000000000) : ObC 41 [.box 1000 0, .d (.val (.int .u8 c.toNat)), .d (.int least)] (rd r b) []
    (fun x o => x = .d (.int (numS r b c least).v) ∧ o = rd (numS r b c least).r (numS r b c least).b) :=
  (number_any r b c least hr).mono fun x o h => by
    rcases h with ⟨n, h1, h2, h3⟩ | ⟨h1, h2, h3⟩
    · simp only [numS, numR_some h1]
      exact ⟨h2, h3⟩
    · simp only [numS, numR_none h1]
      exact ⟨h2, h3⟩
attribute [local irreducible] numS
theorem num_any (r : ByteArray) (b : Bool) (hr : r.size ≤ 1000000000) : ObC 22 [.box 1000 0] (rd r b) [] (fun x o => x = .d (.int (numS r b 59 0).v) ∧ o = rd (numS r b 59 0).r (numS r b 59 0).b) := by
  refine ob_enter Tryd.func22 rfl (by decide) _ Tryd.ntmps22 (le_ok rfl) rfl (fun w Pr β κ hE => ?_)
  dsimp only [slotsV, Nat.zero_add, Nat.reduceAdd]
  repeat' (first | (apply at_op (.call { callee := .value _, args := _, argTypes := _ }); refine al_ocall [(1000, 1000)] (number_s r b 59 0 hr) rfl hE (lt_ok rfl) (by (repeat (first | refine ArgsV.cons (.same _ _ rfl) ?_ | refine ArgsV.cons (.toD _ _ (by first | exact ToD.d _ | exact ToD.row _ _ _ _ _ rfl | exact ToD.nil _)) ?_)); exact ArgsV.nil) ⟨(obs_cons rfl obs_nil), rfl, rfl, rfl, rfl⟩ ?_; (all_goals (try first | omega | assumption)); rintro _ _ ⟨rfl, rfl⟩ <;> (intro _ _ h1 h2; simp only [V.ren, V.renL, O.ren, renO, rn, dropK, keys, mem, List.map_cons, List.map_nil, List.any_cons, List.any_nil, List.cons_append, List.nil_append, nbeq_def, Nat.reduceBEq, cond_true, cond_false, Bool.or_false, Bool.false_or, Bool.true_or] at h1 h2; subst h1 h2)) | apply aw_seq | apply aw_region | apply al_nil | apply aq_np | apply aq_then | apply aq_then_x | apply aq_then_r | apply aw_skip | apply aw_exit | apply aw_ret | (apply at_op (.move _); refine al_y (y_moveC (by constructor)) (lt_ok rfl) ?_) | (apply at_op (.assign _); refine al_y (y_assignC (by constructor)) (lt_ok rfl) ?_))
  refine oret1 (rd (numS r b 59 0).r (numS r b 59 0).b) (by rfl) (by first | exact ResV.x _ _ (ResX.tmp _ _ (by first | exact ToD.d _ | exact ToD.row _ _ _ _ _ rfl | exact ToD.nil _)) | exact ResV.tmp _ _ rfl | exact ResV.x _ _ (ResX.cellA _ _ _ _ _ _ _ rfl rfl rfl (by first | (simp only [normV, normList, normMap]; rfl) | rfl) rfl)) (⟨rfl, rfl⟩) (by (repeat (first | exact obs_nil | (apply obs_cons; focus (first | rfl | (simp [find]; done)))))) (by first | rfl | (simp [okOut, V.within, V.withinL, O.within, keys, mem, look, nbeq_def, withinL_app, withinL_ds, withinL_und]; done))
def least64 : Int := -9223372036854775808
/-- a byte is read -/
def closeS (r : ByteArray) (b : Bool) (e : ByteArray) : ByteArray × Bool := if Lib.hasPrefix r.data.toList e.data.toList then (⟨(Lib.trimPrefix r.data.toList e.data.toList).toArray⟩, b) else (emp, true)
theorem close_any (r : ByteArray) (b : Bool) (e : ByteArray) : ObC 43 [.box 1000 0, .d (.str e)] (rd r b) [] (fun x o => x = .tup [] ∧ o = rd (closeS r b e).1 (closeS r b e).2) := by
  refine ob_enter Tryd.func43 rfl (by decide) _ Tryd.ntmps43 (le_ok rfl) rfl (fun w Pr β κ hE => ?_)
  dsimp only [slotsV, Nat.zero_add, Nat.reduceAdd]
  cases hp : Lib.hasPrefix r.data.toList e.data.toList with
  | true =>
    repeat' (first | (apply at_op (.call { callee := .value _, args := _, argTypes := _ }); refine al_call (cutprefix_any r e) rfl hE (lt_ok rfl) (by (first | exact (ArgsD.cons (by first | exact ToD.d _ | exact ToD.row _ _ _ _ _ rfl | exact ToD.nil _) ArgsD.nil) | exact (ArgsD.cons (by first | exact ToD.d _ | exact ToD.row _ _ _ _ _ rfl | exact ToD.nil _) (ArgsD.cons (by first | exact ToD.d _ | exact ToD.row _ _ _ _ _ rfl | exact ToD.nil _) ArgsD.nil)))) ?_; (all_goals (try first | omega | assumption)); rintro _ rfl; rw [hp]) | apply aw_seq | apply aw_region | apply al_nil | apply aq_np | apply aq_then | apply aq_then_x | apply aq_then_r | apply aw_skip | apply aw_exit | apply aw_ret | (apply at_op (.move _); refine al_y (y_moveC (by constructor)) (lt_ok rfl) ?_) | (apply at_op (.assign _); refine al_y (y_assignC (by constructor)) (lt_ok rfl) ?_) | (apply at_cond; first | refine aw_cond_t rfl (by assumption) ?_ | refine aw_cond_f rfl (by assumption) ?_ | refine aw_cond_t rfl (by first | with_reducible rfl | decide) ?_ | refine aw_cond_f rfl (by first | with_reducible rfl | decide) ?_ | (refine aw_cond rfl (fun hb => ?_) (fun hb => ?_) <;> ((first | have hq := of_decide_eq_true hb | have hq := of_decide_eq_false hb | have hq := of_decide_eq_false (not_t hb) | have hq := of_decide_eq_true (not_f hb) | skip); (try (exfalso; omega))))) | (apply at_op (.unOp .not _ _); refine al_y (y_not rfl) (lt_ok rfl) ?_) | (apply at_op (.extract _ _); first | refine al_y (y_extract rfl rfl) (lt_ok rfl) ?_ | refine al_y (y_vextract rfl rfl) (lt_ok rfl) ?_) | (apply at_op (.load _ _); first | refine al_y (y_load1 rfl rfl rfl) (lt_ok rfl) ?_ | refine al_y (y_loadA rfl rfl (take_all rfl rfl) rfl) (lt_ok rfl) ?_ | refine al_y (y_loadA rfl rfl rfl rfl) (lt_ok rfl) ?_ | refine al_y (y_bload1 rfl rfl rfl rfl) (lt_ok rfl) ?_ | refine al_y (y_bloadA rfl rfl rfl (by first | (simp only [normV, normList, normMap]; rfl) | rfl) rfl) (lt_ok rfl) ?_ | refine al_y (y_glob hE (by unfold laidG; first | exact List.Mem.head _ | exact .tail _ (.head _) | exact .tail _ (.tail _ (.head _))) rfl rfl) (lt_ok rfl) ?_) | (apply at_op (.fieldAddr _ _ _); first | refine al_y (y_fbox rfl rfl rfl) (lt_ok rfl) ?_ | refine al_y (y_faddr rfl rfl rfl) (lt_ok rfl) ?_) | (apply at_op (.nilCheck _); first | refine al_y (y_nilbox rfl) (lt_ok rfl) ?_ | refine al_y (y_nilep rfl) (lt_ok rfl) ?_) | (apply at_op (.store _ _ _); first | refine al_step (st_store rfl rfl (ev_d rfl) nofun (by first | (simp only [normV, normList, normMap]; rfl) | rfl) (by simp [V.one, Value.oneCell']) (.inl ⟨rfl, rfl⟩) rfl (le_ok rfl) (by first | (simp only [normV, normList, normMap]; rfl) | rfl)) rfl ?_ | refine al_step (st_store rfl rfl (ev_d rfl) nofun (by first | (simp only [normV, normList, normMap]; rfl) | rfl) (by simp [V.one, Value.oneCell']) (.inr rfl) rfl (le_ok rfl) (by first | (simp only [normV, normList, normMap]; rfl) | rfl)) rfl ?_ | refine al_step (st_store rfl rfl (ev_row rfl) nofun (by first | (simp only [normV, normList, normMap]; rfl) | rfl) (by simp [V.one, Value.oneCell']) (.inl ⟨rfl, rfl⟩) rfl (le_ok rfl) (by first | (simp only [normV, normList, normMap]; rfl) | rfl)) rfl ?_ | refine al_step (st_store rfl rfl (ev_box rfl) nofun (by first | (simp only [normV, normList, normMap]; rfl) | rfl) (by simp [V.one, Value.oneCell']) (.inl ⟨rfl, rfl⟩) rfl (le_ok rfl) (by first | (simp only [normV, normList, normMap]; rfl) | rfl)) rfl ?_))
    try refine aq_end ?_
    refine oret0 (rd ⟨(Lib.trimPrefix r.data.toList e.data.toList).toArray⟩ b) (by rfl)  (⟨rfl, by simp [closeS, hp]⟩) (by (repeat (first | exact obs_nil | (apply obs_cons; focus (first | rfl | (simp [find]; done)))))) (by first | rfl | (simp [okOut, V.within, V.withinL, O.within, keys, mem, look, nbeq_def, withinL_app, withinL_ds, withinL_und]; done))
  | false =>
    repeat' (first | (apply at_op (.call { callee := .value _, args := _, argTypes := _ }); refine al_call (cutprefix_any r e) rfl hE (lt_ok rfl) (by (first | exact (ArgsD.cons (by first | exact ToD.d _ | exact ToD.row _ _ _ _ _ rfl | exact ToD.nil _) ArgsD.nil) | exact (ArgsD.cons (by first | exact ToD.d _ | exact ToD.row _ _ _ _ _ rfl | exact ToD.nil _) (ArgsD.cons (by first | exact ToD.d _ | exact ToD.row _ _ _ _ _ rfl | exact ToD.nil _) ArgsD.nil)))) ?_; (all_goals (try first | omega | assumption)); rintro _ rfl; rw [hp]) | (apply at_op (.call { callee := .value _, args := _, argTypes := _ }); refine al_ocall [(1000, 1000)] (fail_any _ _) rfl hE (lt_ok rfl) (by (repeat (first | refine ArgsV.cons (.same _ _ rfl) ?_ | refine ArgsV.cons (.toD _ _ (by first | exact ToD.d _ | exact ToD.row _ _ _ _ _ rfl | exact ToD.nil _)) ?_)); exact ArgsV.nil) ⟨(obs_cons rfl obs_nil), rfl, rfl, rfl, rfl⟩ ?_; (all_goals (try first | omega | assumption)); rintro _ _ ⟨rfl, rfl⟩ <;> (intro _ _ h1 h2; simp only [V.ren, V.renL, O.ren, renO, rn, dropK, keys, mem, List.map_cons, List.map_nil, List.any_cons, List.any_nil, List.cons_append, List.nil_append, nbeq_def, Nat.reduceBEq, cond_true, cond_false, Bool.or_false, Bool.false_or, Bool.true_or] at h1 h2; subst h1 h2)) | apply aw_seq | apply aw_region | apply al_nil | apply aq_np | apply aq_then | apply aq_then_x | apply aq_then_r | apply aw_skip | apply aw_exit | apply aw_ret | (apply at_op (.move _); refine al_y (y_moveC (by constructor)) (lt_ok rfl) ?_) | (apply at_op (.assign _); refine al_y (y_assignC (by constructor)) (lt_ok rfl) ?_) | (apply at_cond; first | refine aw_cond_t rfl (by assumption) ?_ | refine aw_cond_f rfl (by assumption) ?_ | refine aw_cond_t rfl (by first | with_reducible rfl | decide) ?_ | refine aw_cond_f rfl (by first | with_reducible rfl | decide) ?_ | (refine aw_cond rfl (fun hb => ?_) (fun hb => ?_) <;> ((first | have hq := of_decide_eq_true hb | have hq := of_decide_eq_false hb | have hq := of_decide_eq_false (not_t hb) | have hq := of_decide_eq_true (not_f hb) | skip); (try (exfalso; omega))))) | (apply at_op (.unOp .not _ _); refine al_y (y_not rfl) (lt_ok rfl) ?_) | (apply at_op (.extract _ _); first | refine al_y (y_extract rfl rfl) (lt_ok rfl) ?_ | refine al_y (y_vextract rfl rfl) (lt_ok rfl) ?_) | (apply at_op (.load _ _); first | refine al_y (y_load1 rfl rfl rfl) (lt_ok rfl) ?_ | refine al_y (y_loadA rfl rfl (take_all rfl rfl) rfl) (lt_ok rfl) ?_ | refine al_y (y_loadA rfl rfl rfl rfl) (lt_ok rfl) ?_ | refine al_y (y_bload1 rfl rfl rfl rfl) (lt_ok rfl) ?_ | refine al_y (y_bloadA rfl rfl rfl (by first | (simp only [normV, normList, normMap]; rfl) | rfl) rfl) (lt_ok rfl) ?_ | refine al_y (y_glob hE (by unfold laidG; first | exact List.Mem.head _ | exact .tail _ (.head _) | exact .tail _ (.tail _ (.head _))) rfl rfl) (lt_ok rfl) ?_) | (apply at_op (.fieldAddr _ _ _); first | refine al_y (y_fbox rfl rfl rfl) (lt_ok rfl) ?_ | refine al_y (y_faddr rfl rfl rfl) (lt_ok rfl) ?_) | (apply at_op (.nilCheck _); first | refine al_y (y_nilbox rfl) (lt_ok rfl) ?_ | refine al_y (y_nilep rfl) (lt_ok rfl) ?_) | (apply at_op (.store _ _ _); first | refine al_step (st_store rfl rfl (ev_d rfl) nofun (by first | (simp only [normV, normList, normMap]; rfl) | rfl) (by simp [V.one, Value.oneCell']) (.inl ⟨rfl, rfl⟩) rfl (le_ok rfl) (by first | (simp only [normV, normList, normMap]; rfl) | rfl)) rfl ?_ | refine al_step (st_store rfl rfl (ev_d rfl) nofun (by first | (simp only [normV, normList, normMap]; rfl) | rfl) (by simp [V.one, Value.oneCell']) (.inr rfl) rfl (le_ok rfl) (by first | (simp only [normV, normList, normMap]; rfl) | rfl)) rfl ?_ | refine al_step (st_store rfl rfl (ev_row rfl) nofun (by first | (simp only [normV, normList, normMap]; rfl) | rfl) (by simp [V.one, Value.oneCell']) (.inl ⟨rfl, rfl⟩) rfl (le_ok rfl) (by first | (simp only [normV, normList, normMap]; rfl) | rfl)) rfl ?_ | refine al_step (st_store rfl rfl (ev_box rfl) nofun (by first | (simp only [normV, normList, normMap]; rfl) | rfl) (by simp [V.one, Value.oneCell']) (.inl ⟨rfl, rfl⟩) rfl (le_ok rfl) (by first | (simp only [normV, normList, normMap]; rfl) | rfl)) rfl ?_))
    try refine aq_end ?_
    refine oret0 (rd emp true) (by rfl)  (⟨rfl, by simp [closeS, hp]⟩) (by (repeat (first | exact obs_nil | (apply obs_cons; focus (first | rfl | (simp [find]; done)))))) (by first | rfl | (simp [okOut, V.within, V.withinL, O.within, keys, mem, look, nbeq_def, withinL_app, withinL_ds, withinL_und]; done))
theorem closeS_size (r : ByteArray) (b : Bool) (e : ByteArray) : (closeS r b e).1.size ≤ r.size := by
  unfold closeS
  split
  · have : (Lib.trimPrefix r.data.toList e.data.toList).length ≤ r.data.toList.length := by
      unfold Lib.trimPrefix
      split
      all_goals first
        | exact Nat.le_refl _
        | (rw [List.length_drop]; exact Nat.sub_le _ _)
    have h2 : r.data.toList.length = r.size := by simp
    show (List.toArray _).size ≤ _
    rw [List.size_toArray]
    omega
  · exact Nat.zero_le _
noncomputable def textS (r : ByteArray) (b : Bool) : RS ByteArray :=
  let q := numS r b 58 0
  if q.v > q.r.size then ⟨emp, emp, true⟩
  else
    let c := closeS (q.r.extract q.v.toNat q.r.size) q.b ⟨#[44]⟩
    ⟨if c.2 then emp else q.r.extract 0 q.v.toNat, c.1, c.2⟩
attribute [local irreducible] closeS
set_option maxHeartbeats 1000000 in
theorem text_any (r : ByteArray) (b : Bool) (hr : r.size ≤ 1000000000) : ObC 21 [.box 1000 0] (rd r b) [] (fun x o => x = .d (.str (textS r b).v) ∧ o = rd (textS r b).r (textS r b).b) := by
  refine ob_enter Tryd.func21 rfl (by decide) _ Tryd.ntmps21 (le_ok rfl) rfl (fun w Pr β κ hE => ?_)
  dsimp only [slotsV, Nat.zero_add, Nat.reduceAdd]
  have h0 := num_ge (r := r) (b := b) (c := 58) (least := 0) (Int.le_refl _)
  have h1 := numS_le (r := r) (b := b) (c := 58) (least := 0)
  have hT : textS r b = textS r b := rfl
  conv at hT => rhs; unfold textS
  rcases hq : numS r b 58 0 with ⟨n, q, e⟩
  rw [hq] at hT h0 h1
  simp only at hT h0 h1
  by_cases hn : n > q.size
  · rw [if_pos hn] at hT
    repeat' (first | (apply at_op (.call { callee := .value _, args := _, argTypes := _ }); refine al_ocall [(1000, 1000)] (number_s r b 58 0 hr) rfl hE (lt_ok rfl) (by (repeat (first | refine ArgsV.cons (.same _ _ rfl) ?_ | refine ArgsV.cons (.toD _ _ (by first | exact ToD.d _ | exact ToD.row _ _ _ _ _ rfl | exact ToD.nil _)) ?_)); exact ArgsV.nil) ⟨(obs_cons rfl obs_nil), rfl, rfl, rfl, rfl⟩ ?_; (all_goals (try first | omega | assumption)); rw [hq]; rintro _ _ ⟨rfl, rfl⟩ <;> (intro _ _ h1 h2; simp only [V.ren, V.renL, O.ren, renO, rn, dropK, keys, mem, List.map_cons, List.map_nil, List.any_cons, List.any_nil, List.cons_append, List.nil_append, nbeq_def, Nat.reduceBEq, cond_true, cond_false, Bool.or_false, Bool.false_or, Bool.true_or] at h1 h2; subst h1 h2)) | (apply at_op (.call { callee := .value _, args := _, argTypes := _ }); refine al_ocall [(1000, 1000)] (fail_any _ _) rfl hE (lt_ok rfl) (by (repeat (first | refine ArgsV.cons (.same _ _ rfl) ?_ | refine ArgsV.cons (.toD _ _ (by first | exact ToD.d _ | exact ToD.row _ _ _ _ _ rfl | exact ToD.nil _)) ?_)); exact ArgsV.nil) ⟨(obs_cons rfl obs_nil), rfl, rfl, rfl, rfl⟩ ?_; (all_goals (try first | omega | assumption)); rintro _ _ ⟨rfl, rfl⟩ <;> (intro _ _ h1 h2; simp only [V.ren, V.renL, O.ren, renO, rn, dropK, keys, mem, List.map_cons, List.map_nil, List.any_cons, List.any_nil, List.cons_append, List.nil_append, nbeq_def, Nat.reduceBEq, cond_true, cond_false, Bool.or_false, Bool.false_or, Bool.true_or] at h1 h2; subst h1 h2)) | apply aw_seq | apply aw_region | apply al_nil | apply aq_np | apply aq_then | apply aq_then_x | apply aq_then_r | apply aw_skip | apply aw_exit | apply aw_ret | (apply at_op (.move _); refine al_y (y_moveC (by constructor)) (lt_ok rfl) ?_) | (apply at_op (.assign _); refine al_y (y_assignC (by constructor)) (lt_ok rfl) ?_) | (apply at_cond; first | refine aw_cond_t rfl (by assumption) ?_ | refine aw_cond_f rfl (by assumption) ?_ | refine aw_cond_t rfl (by first | with_reducible rfl | decide) ?_ | refine aw_cond_f rfl (by first | with_reducible rfl | decide) ?_ | (refine aw_cond rfl (fun hb => ?_) (fun hb => ?_) <;> ((first | have hq := of_decide_eq_true hb | have hq := of_decide_eq_false hb | have hq := of_decide_eq_false (not_t hb) | have hq := of_decide_eq_true (not_f hb) | skip); (try (exfalso; omega))))) | (apply at_op (.binOp .gtr _ _ _ _); refine al_y (y_gtr rfl rfl) (lt_ok rfl) ?_) | (apply at_op (.call { callee := .builtin .len, args := _, argTypes := _ }); first | refine al_y (y_slen rfl rfl (by kernel_rfl)) (lt_ok rfl) ?_ | refine al_y (y_llen (by first | exact ToD.d _ | exact ToD.row _ _ _ _ _ rfl) rfl ⟨_, _, _, _, rfl⟩ (by first | (simp only [List.length_map, List.length_append, List.length_cons, List.length_nil]; rfl) | rfl)) (lt_ok rfl) ?_ | refine al_y (y_sllen rfl rfl ⟨_, _, _, _, rfl⟩) (lt_ok rfl) ?_) | (apply at_op (.slice _ _ _ _ _); first | refine al_y (y_sub_s rfl (by kernel_rfl) (by first | exact low_none | exact low_some rfl (by first | with_reducible rfl | exact lit0 | exact lit1 | exact lit2 | exact lit3 | exact lit4 | exact int_s _ | exact int_p _ _ | exact int_nat _ (by omega))) (by first | exact high_none | exact high_some rfl (by first | with_reducible rfl | exact lit0 | exact lit1 | exact lit2 | exact lit3 | exact lit4 | exact int_s _ | exact int_p _ _ | exact int_nat _ (by omega))) (by omega) (by omega)) (lt_ok rfl) ?_ | refine al_y (y_sub_l (by first | exact ToD.d _ | exact ToD.row _ _ _ _ _ rfl) rfl (by first | exact low_none | exact low_some rfl (by first | with_reducible rfl | exact lit0 | exact lit1 | exact lit2 | exact lit3 | exact lit4 | exact int_s _ | exact int_p _ _ | exact int_nat _ (by omega))) (by first | exact high_none | exact high_some rfl (by first | with_reducible rfl | exact lit0 | exact lit1 | exact lit2 | exact lit3 | exact lit4 | exact int_s _ | exact int_p _ _ | exact int_nat _ (by omega))) (by first | (simp only [List.length_map, List.length_append, List.length_cons, List.length_nil]; omega) | omega) (by first | (simp only [List.length_map, List.length_append, List.length_cons, List.length_nil]; omega) | omega) rfl) (lt_ok rfl) ?_) | (apply at_op (.load _ _); first | refine al_y (y_load1 rfl rfl rfl) (lt_ok rfl) ?_ | refine al_y (y_loadA rfl rfl (take_all rfl rfl) rfl) (lt_ok rfl) ?_ | refine al_y (y_loadA rfl rfl rfl rfl) (lt_ok rfl) ?_ | refine al_y (y_bload1 rfl rfl rfl rfl) (lt_ok rfl) ?_ | refine al_y (y_bloadA rfl rfl rfl (by first | (simp only [normV, normList, normMap]; rfl) | rfl) rfl) (lt_ok rfl) ?_ | refine al_y (y_glob hE (by unfold laidG; first | exact List.Mem.head _ | exact .tail _ (.head _) | exact .tail _ (.tail _ (.head _))) rfl rfl) (lt_ok rfl) ?_) | (apply at_op (.fieldAddr _ _ _); first | refine al_y (y_fbox rfl rfl rfl) (lt_ok rfl) ?_ | refine al_y (y_faddr rfl rfl rfl) (lt_ok rfl) ?_) | (apply at_op (.nilCheck _); first | refine al_y (y_nilbox rfl) (lt_ok rfl) ?_ | refine al_y (y_nilep rfl) (lt_ok rfl) ?_) | (apply at_op (.store _ _ _); first | refine al_step (st_store rfl rfl (ev_d rfl) nofun (by first | (simp only [normV, normList, normMap]; rfl) | rfl) (by simp [V.one, Value.oneCell']) (.inl ⟨rfl, rfl⟩) rfl (le_ok rfl) (by first | (simp only [normV, normList, normMap]; rfl) | rfl)) rfl ?_ | refine al_step (st_store rfl rfl (ev_d rfl) nofun (by first | (simp only [normV, normList, normMap]; rfl) | rfl) (by simp [V.one, Value.oneCell']) (.inr rfl) rfl (le_ok rfl) (by first | (simp only [normV, normList, normMap]; rfl) | rfl)) rfl ?_ | refine al_step (st_store rfl rfl (ev_row rfl) nofun (by first | (simp only [normV, normList, normMap]; rfl) | rfl) (by simp [V.one, Value.oneCell']) (.inl ⟨rfl, rfl⟩) rfl (le_ok rfl) (by first | (simp only [normV, normList, normMap]; rfl) | rfl)) rfl ?_ | refine al_step (st_store rfl rfl (ev_box rfl) nofun (by first | (simp only [normV, normList, normMap]; rfl) | rfl) (by simp [V.one, Value.oneCell']) (.inl ⟨rfl, rfl⟩) rfl (le_ok rfl) (by first | (simp only [normV, normList, normMap]; rfl) | rfl)) rfl ?_))
    refine oret1 (rd emp true) (by rfl) (by first | exact ResV.x _ _ (ResX.tmp _ _ (by first | exact ToD.d _ | exact ToD.row _ _ _ _ _ rfl | exact ToD.nil _)) | exact ResV.tmp _ _ rfl | exact ResV.x _ _ (ResX.cellA _ _ _ _ _ _ _ rfl rfl rfl (by first | (simp only [normV, normList, normMap]; rfl) | rfl) rfl)) (⟨by rw [hT]; rfl, by rw [hT]⟩) (by (repeat (first | exact obs_nil | (apply obs_cons; focus (first | rfl | (simp [find]; done)))))) (by first | rfl | (simp [okOut, V.within, V.withinL, O.within, keys, mem, look, nbeq_def, withinL_app, withinL_ds, withinL_und]; done))
  · rw [if_neg hn] at hT
    rcases hc : closeS (q.extract n.toNat q.size) e ⟨#[44]⟩ with ⟨q2, e2⟩
    rw [hc] at hT
    simp only at hT
    cases e2
    · skip
      repeat' (first | (apply at_op (.call { callee := .value _, args := _, argTypes := _ }); refine al_ocall [(1000, 1000)] (number_s r b 58 0 hr) rfl hE (lt_ok rfl) (by (repeat (first | refine ArgsV.cons (.same _ _ rfl) ?_ | refine ArgsV.cons (.toD _ _ (by first | exact ToD.d _ | exact ToD.row _ _ _ _ _ rfl | exact ToD.nil _)) ?_)); exact ArgsV.nil) ⟨(obs_cons rfl obs_nil), rfl, rfl, rfl, rfl⟩ ?_; (all_goals (try first | omega | assumption)); rw [hq]; rintro _ _ ⟨rfl, rfl⟩ <;> (intro _ _ h1 h2; simp only [V.ren, V.renL, O.ren, renO, rn, dropK, keys, mem, List.map_cons, List.map_nil, List.any_cons, List.any_nil, List.cons_append, List.nil_append, nbeq_def, Nat.reduceBEq, cond_true, cond_false, Bool.or_false, Bool.false_or, Bool.true_or] at h1 h2; subst h1 h2)) | (apply at_op (.call { callee := .value _, args := _, argTypes := _ }); refine al_ocall [(1000, 1000)] (close_any (q.extract n.toNat q.size) e ⟨#[44]⟩) rfl hE (lt_ok rfl) (by (repeat (first | refine ArgsV.cons (.same _ _ rfl) ?_ | refine ArgsV.cons (.toD _ _ (by first | exact ToD.d _ | exact ToD.row _ _ _ _ _ rfl | exact ToD.nil _)) ?_)); exact ArgsV.nil) ⟨(obs_cons rfl obs_nil), rfl, rfl, rfl, rfl⟩ ?_; (all_goals (try first | omega | assumption)); rw [hc]; rintro _ _ ⟨rfl, rfl⟩ <;> (intro _ _ h1 h2; simp only [V.ren, V.renL, O.ren, renO, rn, dropK, keys, mem, List.map_cons, List.map_nil, List.any_cons, List.any_nil, List.cons_append, List.nil_append, nbeq_def, Nat.reduceBEq, cond_true, cond_false, Bool.or_false, Bool.false_or, Bool.true_or] at h1 h2; subst h1 h2)) | apply aw_seq | apply aw_region | apply al_nil | apply aq_np | apply aq_then | apply aq_then_x | apply aq_then_r | apply aw_skip | apply aw_exit | apply aw_ret | (apply at_op (.move _); refine al_y (y_moveC (by constructor)) (lt_ok rfl) ?_) | (apply at_op (.assign _); refine al_y (y_assignC (by constructor)) (lt_ok rfl) ?_) | (apply at_cond; first | refine aw_cond_t rfl (by assumption) ?_ | refine aw_cond_f rfl (by assumption) ?_ | refine aw_cond_t rfl (by first | with_reducible rfl | decide) ?_ | refine aw_cond_f rfl (by first | with_reducible rfl | decide) ?_ | (refine aw_cond rfl (fun hb => ?_) (fun hb => ?_) <;> ((first | have hq := of_decide_eq_true hb | have hq := of_decide_eq_false hb | have hq := of_decide_eq_false (not_t hb) | have hq := of_decide_eq_true (not_f hb) | skip); (try (exfalso; omega))))) | (apply at_op (.binOp .gtr _ _ _ _); refine al_y (y_gtr rfl rfl) (lt_ok rfl) ?_) | (apply at_op (.call { callee := .builtin .len, args := _, argTypes := _ }); first | refine al_y (y_slen rfl rfl (by kernel_rfl)) (lt_ok rfl) ?_ | refine al_y (y_llen (by first | exact ToD.d _ | exact ToD.row _ _ _ _ _ rfl) rfl ⟨_, _, _, _, rfl⟩ (by first | (simp only [List.length_map, List.length_append, List.length_cons, List.length_nil]; rfl) | rfl)) (lt_ok rfl) ?_ | refine al_y (y_sllen rfl rfl ⟨_, _, _, _, rfl⟩) (lt_ok rfl) ?_) | (apply at_op (.slice _ _ _ _ _); first | refine al_y (y_sub_s rfl (by kernel_rfl) (by first | exact low_none | exact low_some rfl (by first | with_reducible rfl | exact lit0 | exact lit1 | exact lit2 | exact lit3 | exact lit4 | exact int_s _ | exact int_p _ _ | exact int_nat _ (by omega))) (by first | exact high_none | exact high_some rfl (by first | with_reducible rfl | exact lit0 | exact lit1 | exact lit2 | exact lit3 | exact lit4 | exact int_s _ | exact int_p _ _ | exact int_nat _ (by omega))) (by omega) (by omega)) (lt_ok rfl) ?_ | refine al_y (y_sub_l (by first | exact ToD.d _ | exact ToD.row _ _ _ _ _ rfl) rfl (by first | exact low_none | exact low_some rfl (by first | with_reducible rfl | exact lit0 | exact lit1 | exact lit2 | exact lit3 | exact lit4 | exact int_s _ | exact int_p _ _ | exact int_nat _ (by omega))) (by first | exact high_none | exact high_some rfl (by first | with_reducible rfl | exact lit0 | exact lit1 | exact lit2 | exact lit3 | exact lit4 | exact int_s _ | exact int_p _ _ | exact int_nat _ (by omega))) (by first | (simp only [List.length_map, List.length_append, List.length_cons, List.length_nil]; omega) | omega) (by first | (simp only [List.length_map, List.length_append, List.length_cons, List.length_nil]; omega) | omega) rfl) (lt_ok rfl) ?_) | (apply at_op (.load _ _); first | refine al_y (y_load1 rfl rfl rfl) (lt_ok rfl) ?_ | refine al_y (y_loadA rfl rfl (take_all rfl rfl) rfl) (lt_ok rfl) ?_ | refine al_y (y_loadA rfl rfl rfl rfl) (lt_ok rfl) ?_ | refine al_y (y_bload1 rfl rfl rfl rfl) (lt_ok rfl) ?_ | refine al_y (y_bloadA rfl rfl rfl (by first | (simp only [normV, normList, normMap]; rfl) | rfl) rfl) (lt_ok rfl) ?_ | refine al_y (y_glob hE (by unfold laidG; first | exact List.Mem.head _ | exact .tail _ (.head _) | exact .tail _ (.tail _ (.head _))) rfl rfl) (lt_ok rfl) ?_) | (apply at_op (.fieldAddr _ _ _); first | refine al_y (y_fbox rfl rfl rfl) (lt_ok rfl) ?_ | refine al_y (y_faddr rfl rfl rfl) (lt_ok rfl) ?_) | (apply at_op (.nilCheck _); first | refine al_y (y_nilbox rfl) (lt_ok rfl) ?_ | refine al_y (y_nilep rfl) (lt_ok rfl) ?_) | (apply at_op (.store _ _ _); first | refine al_step (st_store rfl rfl (ev_d rfl) nofun (by first | (simp only [normV, normList, normMap]; rfl) | rfl) (by simp [V.one, Value.oneCell']) (.inl ⟨rfl, rfl⟩) rfl (le_ok rfl) (by first | (simp only [normV, normList, normMap]; rfl) | rfl)) rfl ?_ | refine al_step (st_store rfl rfl (ev_d rfl) nofun (by first | (simp only [normV, normList, normMap]; rfl) | rfl) (by simp [V.one, Value.oneCell']) (.inr rfl) rfl (le_ok rfl) (by first | (simp only [normV, normList, normMap]; rfl) | rfl)) rfl ?_ | refine al_step (st_store rfl rfl (ev_row rfl) nofun (by first | (simp only [normV, normList, normMap]; rfl) | rfl) (by simp [V.one, Value.oneCell']) (.inl ⟨rfl, rfl⟩) rfl (le_ok rfl) (by first | (simp only [normV, normList, normMap]; rfl) | rfl)) rfl ?_ | refine al_step (st_store rfl rfl (ev_box rfl) nofun (by first | (simp only [normV, normList, normMap]; rfl) | rfl) (by simp [V.one, Value.oneCell']) (.inl ⟨rfl, rfl⟩) rfl (le_ok rfl) (by first | (simp only [normV, normList, normMap]; rfl) | rfl)) rfl ?_))
      refine oret1 (rd q2 false) (by rfl) (by first | exact ResV.x _ _ (ResX.tmp _ _ (by first | exact ToD.d _ | exact ToD.row _ _ _ _ _ rfl | exact ToD.nil _)) | exact ResV.tmp _ _ rfl | exact ResV.x _ _ (ResX.cellA _ _ _ _ _ _ _ rfl rfl rfl (by first | (simp only [normV, normList, normMap]; rfl) | rfl) rfl)) (⟨by rw [hT]; rfl, by rw [hT]⟩) (by (repeat (first | exact obs_nil | (apply obs_cons; focus (first | rfl | (simp [find]; done)))))) (by first | rfl | (simp [okOut, V.within, V.withinL, O.within, keys, mem, look, nbeq_def, withinL_app, withinL_ds, withinL_und]; done))
    · skip
      repeat' (first | (apply at_op (.call { callee := .value _, args := _, argTypes := _ }); refine al_ocall [(1000, 1000)] (number_s r b 58 0 hr) rfl hE (lt_ok rfl) (by (repeat (first | refine ArgsV.cons (.same _ _ rfl) ?_ | refine ArgsV.cons (.toD _ _ (by first | exact ToD.d _ | exact ToD.row _ _ _ _ _ rfl | exact ToD.nil _)) ?_)); exact ArgsV.nil) ⟨(obs_cons rfl obs_nil), rfl, rfl, rfl, rfl⟩ ?_; (all_goals (try first | omega | assumption)); rw [hq]; rintro _ _ ⟨rfl, rfl⟩ <;> (intro _ _ h1 h2; simp only [V.ren, V.renL, O.ren, renO, rn, dropK, keys, mem, List.map_cons, List.map_nil, List.any_cons, List.any_nil, List.cons_append, List.nil_append, nbeq_def, Nat.reduceBEq, cond_true, cond_false, Bool.or_false, Bool.false_or, Bool.true_or] at h1 h2; subst h1 h2)) | (apply at_op (.call { callee := .value _, args := _, argTypes := _ }); refine al_ocall [(1000, 1000)] (close_any (q.extract n.toNat q.size) e ⟨#[44]⟩) rfl hE (lt_ok rfl) (by (repeat (first | refine ArgsV.cons (.same _ _ rfl) ?_ | refine ArgsV.cons (.toD _ _ (by first | exact ToD.d _ | exact ToD.row _ _ _ _ _ rfl | exact ToD.nil _)) ?_)); exact ArgsV.nil) ⟨(obs_cons rfl obs_nil), rfl, rfl, rfl, rfl⟩ ?_; (all_goals (try first | omega | assumption)); rw [hc]; rintro _ _ ⟨rfl, rfl⟩ <;> (intro _ _ h1 h2; simp only [V.ren, V.renL, O.ren, renO, rn, dropK, keys, mem, List.map_cons, List.map_nil, List.any_cons, List.any_nil, List.cons_append, List.nil_append, nbeq_def, Nat.reduceBEq, cond_true, cond_false, Bool.or_false, Bool.false_or, Bool.true_or] at h1 h2; subst h1 h2)) | apply aw_seq | apply aw_region | apply al_nil | apply aq_np | apply aq_then | apply aq_then_x | apply aq_then_r | apply aw_skip | apply aw_exit | apply aw_ret | (apply at_op (.move _); refine al_y (y_moveC (by constructor)) (lt_ok rfl) ?_) | (apply at_op (.assign _); refine al_y (y_assignC (by constructor)) (lt_ok rfl) ?_) | (apply at_cond; first | refine aw_cond_t rfl (by assumption) ?_ | refine aw_cond_f rfl (by assumption) ?_ | refine aw_cond_t rfl (by first | with_reducible rfl | decide) ?_ | refine aw_cond_f rfl (by first | with_reducible rfl | decide) ?_ | (refine aw_cond rfl (fun hb => ?_) (fun hb => ?_) <;> ((first | have hq := of_decide_eq_true hb | have hq := of_decide_eq_false hb | have hq := of_decide_eq_false (not_t hb) | have hq := of_decide_eq_true (not_f hb) | skip); (try (exfalso; omega))))) | (apply at_op (.binOp .gtr _ _ _ _); refine al_y (y_gtr rfl rfl) (lt_ok rfl) ?_) | (apply at_op (.call { callee := .builtin .len, args := _, argTypes := _ }); first | refine al_y (y_slen rfl rfl (by kernel_rfl)) (lt_ok rfl) ?_ | refine al_y (y_llen (by first | exact ToD.d _ | exact ToD.row _ _ _ _ _ rfl) rfl ⟨_, _, _, _, rfl⟩ (by first | (simp only [List.length_map, List.length_append, List.length_cons, List.length_nil]; rfl) | rfl)) (lt_ok rfl) ?_ | refine al_y (y_sllen rfl rfl ⟨_, _, _, _, rfl⟩) (lt_ok rfl) ?_) | (apply at_op (.slice _ _ _ _ _); first | refine al_y (y_sub_s rfl (by kernel_rfl) (by first | exact low_none | exact low_some rfl (by first | with_reducible rfl | exact lit0 | exact lit1 | exact lit2 | exact lit3 | exact lit4 | exact int_s _ | exact int_p _ _ | exact int_nat _ (by omega))) (by first | exact high_none | exact high_some rfl (by first | with_reducible rfl | exact lit0 | exact lit1 | exact lit2 | exact lit3 | exact lit4 | exact int_s _ | exact int_p _ _ | exact int_nat _ (by omega))) (by omega) (by omega)) (lt_ok rfl) ?_ | refine al_y (y_sub_l (by first | exact ToD.d _ | exact ToD.row _ _ _ _ _ rfl) rfl (by first | exact low_none | exact low_some rfl (by first | with_reducible rfl | exact lit0 | exact lit1 | exact lit2 | exact lit3 | exact lit4 | exact int_s _ | exact int_p _ _ | exact int_nat _ (by omega))) (by first | exact high_none | exact high_some rfl (by first | with_reducible rfl | exact lit0 | exact lit1 | exact lit2 | exact lit3 | exact lit4 | exact int_s _ | exact int_p _ _ | exact int_nat _ (by omega))) (by first | (simp only [List.length_map, List.length_append, List.length_cons, List.length_nil]; omega) | omega) (by first | (simp only [List.length_map, List.length_append, List.length_cons, List.length_nil]; omega) | omega) rfl) (lt_ok rfl) ?_) | (apply at_op (.load _ _); first | refine al_y (y_load1 rfl rfl rfl) (lt_ok rfl) ?_ | refine al_y (y_loadA rfl rfl (take_all rfl rfl) rfl) (lt_ok rfl) ?_ | refine al_y (y_loadA rfl rfl rfl rfl) (lt_ok rfl) ?_ | refine al_y (y_bload1 rfl rfl rfl rfl) (lt_ok rfl) ?_ | refine al_y (y_bloadA rfl rfl rfl (by first | (simp only [normV, normList, normMap]; rfl) | rfl) rfl) (lt_ok rfl) ?_ | refine al_y (y_glob hE (by unfold laidG; first | exact List.Mem.head _ | exact .tail _ (.head _) | exact .tail _ (.tail _ (.head _))) rfl rfl) (lt_ok rfl) ?_) | (apply at_op (.fieldAddr _ _ _); first | refine al_y (y_fbox rfl rfl rfl) (lt_ok rfl) ?_ | refine al_y (y_faddr rfl rfl rfl) (lt_ok rfl) ?_) | (apply at_op (.nilCheck _); first | refine al_y (y_nilbox rfl) (lt_ok rfl) ?_ | refine al_y (y_nilep rfl) (lt_ok rfl) ?_) | (apply at_op (.store _ _ _); first | refine al_step (st_store rfl rfl (ev_d rfl) nofun (by first | (simp only [normV, normList, normMap]; rfl) | rfl) (by simp [V.one, Value.oneCell']) (.inl ⟨rfl, rfl⟩) rfl (le_ok rfl) (by first | (simp only [normV, normList, normMap]; rfl) | rfl)) rfl ?_ | refine al_step (st_store rfl rfl (ev_d rfl) nofun (by first | (simp only [normV, normList, normMap]; rfl) | rfl) (by simp [V.one, Value.oneCell']) (.inr rfl) rfl (le_ok rfl) (by first | (simp only [normV, normList, normMap]; rfl) | rfl)) rfl ?_ | refine al_step (st_store rfl rfl (ev_row rfl) nofun (by first | (simp only [normV, normList, normMap]; rfl) | rfl) (by simp [V.one, Value.oneCell']) (.inl ⟨rfl, rfl⟩) rfl (le_ok rfl) (by first | (simp only [normV, normList, normMap]; rfl) | rfl)) rfl ?_ | refine al_step (st_store rfl rfl (ev_box rfl) nofun (by first | (simp only [normV, normList, normMap]; rfl) | rfl) (by simp [V.one, Value.oneCell']) (.inl ⟨rfl, rfl⟩) rfl (le_ok rfl) (by first | (simp only [normV, normList, normMap]; rfl) | rfl)) rfl ?_))
      refine oret1 (rd q2 true) (by rfl) (by first | exact ResV.x _ _ (ResX.tmp _ _ (by first | exact ToD.d _ | exact ToD.row _ _ _ _ _ rfl | exact ToD.nil _)) | exact ResV.tmp _ _ rfl | exact ResV.x _ _ (ResX.cellA _ _ _ _ _ _ _ rfl rfl rfl (by first | (simp only [normV, normList, normMap]; rfl) | rfl) rfl)) (⟨by rw [hT]; rfl, by rw [hT]⟩) (by (repeat (first | exact obs_nil | (apply obs_cons; focus (first | rfl | (simp [find]; done)))))) (by first | rfl | (simp [okOut, V.within, V.withinL, O.within, keys, mem, look, nbeq_def, withinL_app, withinL_ds, withinL_und]; done))
end Go.Proofs.YtfgibalcdjlnhaaDoor
end
section
namespace Go.Proofs.YtfgibalcdjlnhaaDoor
open Go.RowKit

abbrev isInt (n : Int) : Prop := -9223372036854775808 ≤ n ∧ n ≤ 9223372036854775807
theorem dig_byte {u : Nat} (h : u < 10) : (UInt8.ofNat (48 + u)).toNat = 48 + u := by
  rw [UInt8.toNat_ofNat']
  omega
theorem decDigits_mem {u : Nat} {c : UInt8} (h : c ∈ Lib.decDigits u) : 48 ≤ c.toNat ∧ c.toNat ≤ 57 := by
  induction u using Nat.strongRecOn with
  | _ u ih =>
    rw [Lib.decDigits] at h
    split at h
    · rename_i hu
      rw [List.mem_singleton] at h
      subst h
      rw [dig_byte hu]
      omega
    · rcases List.mem_append.1 h with h | h
      · exact ih (u / 10) (by omega) h
      · rw [List.mem_singleton] at h
        subst h
        rw [dig_byte (by omega)]
        omega
theorem decDigits_ne (u : Nat) : Lib.decDigits u ≠ [] := by
  rw [Lib.decDigits]
  split <;> simp
theorem parse_step {acc u : Nat} {r : List UInt8} (hu : u < 10) (h : acc * 10 + u < 18446744073709551616) : Lib.parseUint10 acc (UInt8.ofNat (48 + u) :: r) = Lib.parseUint10 (acc * 10 + u) r := by
  rw [Lib.parseUint10, dig_byte hu, if_pos (by omega), if_neg (by omega), if_neg (by omega)]
  congr 1
  omega
theorem parse_dec {u : Nat} (h : u < 18446744073709551616) : ∀ r, Lib.parseUint10 0 (Lib.decDigits u ++ r) = Lib.parseUint10 u r := by
  induction u using Nat.strongRecOn with
  | _ u ih =>
    intro r
    rw [Lib.decDigits]
    split
    · rename_i hu
      rw [List.singleton_append, parse_step hu (by omega)]
      congr 1
      omega
    · rw [List.append_assoc, ih (u / 10) (by omega) (by omega), List.singleton_append, parse_step (by omega) (by omega)]
      congr 1
      omega
theorem atoi_itoa {n : Int} (h : isInt n) : Lib.atoiAll (Lib.itoa n) = .ok n := by
  unfold Lib.itoa
  split
  · have h1 := parse_dec (u := n.natAbs) (by omega) []
    rw [List.append_nil] at h1
    rw [Lib.atoiAll_minus, Lib.parseMag, if_neg (decDigits_ne _), h1]
    simp only [Lib.parseUint10, Lib.signed]
    rw [if_neg (by omega)]
    congr 1
    omega
  · have h1 := parse_dec (u := n.toNat) (by omega) []
    rw [List.append_nil] at h1
    have h2 := decDigits_ne n.toNat
    cases hd : Lib.decDigits n.toNat with
    | nil => exact absurd hd h2
    | cons c t =>
      have hc := decDigits_mem (u := n.toNat) (c := c) (by rw [hd]; simp)
      rw [Lib.atoiAll_plain c t (by omega) (by omega), Lib.parseMag, if_neg (by simp), ← hd, h1]
      simp only [Lib.parseUint10, Lib.signless]
      rw [if_neg (by omega)]
      congr 1
      omega
/-- a byte that stands in no number -/
def Sep (c : UInt8) : Prop := ¬ c.toNat = 45 ∧ ¬ (48 ≤ c.toNat ∧ c.toNat ≤ 57)
theorem itoa_mem {n : Int} {c : UInt8} (h : c ∈ Lib.itoa n) : c.toNat = 45 ∨ (48 ≤ c.toNat ∧ c.toNat ≤ 57) := by
  unfold Lib.itoa at h
  split at h
  · rcases List.mem_cons.1 h with rfl | h
    · exact .inl rfl
    · exact .inr (decDigits_mem h)
  · exact .inr (decDigits_mem h)
theorem sep_not {n : Int} {c : UInt8} (hc : Sep c) : c ∉ Lib.itoa n := fun h => by
  rcases itoa_mem h with h | h
  · exact hc.1 h
  · exact hc.2 h
theorem index_first {a t : List UInt8} {c : UInt8} (h : c ∉ a) : Lib.indexByte (a ++ c :: t) c = a.length := by
  induction a with
  | nil => simp [Lib.indexByte]
  | cons b a ih =>
    have hb : (b == c) = false := by
      have : b ≠ c := fun e => h (e ▸ List.mem_cons_self)
      simpa using this
    have := ih (fun hm => h (List.mem_cons_of_mem _ hm))
    simp only [List.cons_append, Lib.indexByte, hb, this, List.length_cons]
    rw [if_neg (by simp), if_neg (by simp)]
    omega
theorem headV_list (r : ByteArray) : (headV r).data.toList = r.data.toList.take 21 := by
  simp only [headV, ByteArray.data_extract, Array.toList_extract, List.extract_eq_take_drop, List.drop_zero, Nat.sub_zero]
  rcases Nat.le_total r.size 21 with h | h
  · rw [Nat.min_eq_left h, List.take_of_length_le (by simp), List.take_of_length_le (by simpa using h)]
  · rw [Nat.min_eq_right h]
theorem ext_list (r : ByteArray) (k : Nat) : (r.extract 0 k).data.toList = r.data.toList.take k := by
  simp only [ByteArray.data_extract, Array.toList_extract, List.extract_eq_take_drop, List.drop_zero, Nat.sub_zero]
theorem ext_drop (r : ByteArray) (k : Nat) : (r.extract k r.size).data.toList = r.data.toList.drop k := by
  simp only [ByteArray.data_extract, Array.toList_extract, List.extract_eq_take_drop]
  rw [List.take_of_length_le (by simp)]
theorem ba_ext {a b : ByteArray} (h : a.data.toList = b.data.toList) : a = b := by
  apply ByteArray.ext
  exact Array.toList_inj.1 h
theorem itoaB_list (n : Int) : (itoaB n).data.toList = Lib.itoa n := rfl
theorem itoa_length {n : Int} (h : isInt n) : (Lib.itoa n).length ≤ 20 := by
  have key : ∀ u : Nat, u < 10000000000000000000 → (Lib.decDigits u).length ≤ 19 := by
    intro u hu
    rw [Lib.decDigits_length]
    have h2 : ∀ k u : Nat, u < 10 ^ (k + 1) → Lib.nDigits u ≤ k + 1 := by
      intro k
      induction k with
      | zero => intro u hu; rw [Lib.nDigits_small (by simpa using hu)]; exact Nat.le_refl _
      | succ k ih =>
        intro u hu
        by_cases h : u < 10
        · rw [Lib.nDigits_small h]; omega
        · rw [Lib.nDigits_big h]
          have := ih (u / 10) (by rw [Nat.div_lt_iff_lt_mul (by decide)]; rw [Nat.pow_succ] at hu; exact hu)
          omega
    exact h2 18 u (by omega)
  unfold Lib.itoa
  split
  · have := key n.natAbs (by omega)
    rw [List.length_cons]
    omega
  · have := key n.toNat (by omega)
    omega
theorem numIs_of {r : ByteArray} {c : UInt8} {least n : Int} {t : List UInt8} (hc : Sep c) (h : r.data.toList = Lib.itoa n ++ c :: t) (hn : isInt n) (hl : least ≤ n) : numIs r c least n ∧ behind r c = ⟨t.toArray⟩ := by
  have hz := itoa_length hn
  have e1 : r.data.toList.take 21 = Lib.itoa n ++ c :: (t.take (20 - (Lib.itoa n).length)) := by
    rw [h, List.take_append, List.take_of_length_le (by omega)]
    congr 1
    rw [show 21 - (Lib.itoa n).length = (20 - (Lib.itoa n).length) + 1 by omega, List.take_succ_cons]
  have e2 : atV r c = (Lib.itoa n).length := by
    unfold atV
    rw [headV_list, e1]
    exact index_first (sep_not hc)
  have e3 : numV r c = itoaB n := by
    apply ba_ext
    rw [ext_list, headV_list, e1, e2, Int.toNat_natCast, List.take_left' rfl, itoaB_list]
  refine ⟨⟨by omega, ?_, e3.symm, hl⟩, ?_⟩
  · rw [e3, itoaB_list]
    exact atoi_itoa hn
  · apply ba_ext
    unfold behind
    rw [ext_drop, h, e2, show (((Lib.itoa n).length : Int) + 1).toNat = (Lib.itoa n).length + 1 by omega, List.drop_append, List.drop_of_length_le (by omega)]
    simp
end Go.Proofs.YtfgibalcdjlnhaaDoor
end
section
namespace Go.Proofs.YtfgibalcdjlnhaaDoor
open Go.RowKit

/-- values, one after the other -/
noncomputable def itemsL {α : Type} (one : ByteArray → Bool → RS α) : Nat → ByteArray → Bool → List α → RS (List α)
  | 0, r, b, out => ⟨out, r, b⟩
  | k + 1, r, b, out => if b then ⟨out, r, b⟩ else itemsL one k (one r b).r (one r b).b (out ++ [(one r b).v])
noncomputable def itemsS {α : Type} (one : ByteArray → Bool → RS α) (r : ByteArray) (b : Bool) : RS (List α) :=
  let q := numS r b 91 0
  let l := itemsL one q.v.toNat q.r q.b []
  let c := closeS l.r l.b ⟨#[93]⟩
  ⟨if c.2 then [] else l.v, c.1, c.2⟩
noncomputable abbrev oneInt (r : ByteArray) (b : Bool) : RS Int := numS r b 59 (-9223372036854775808)
noncomputable abbrev oneText (r : ByteArray) (b : Bool) : RS ByteArray := textS r b
attribute [local irreducible] numS closeS textS
end Go.Proofs.YtfgibalcdjlnhaaDoor
end
section
set_option linter.unusedSimpArgs false
set_option linter.unusedVariables false
namespace Go.Proofs.YtfgibalcdjlnhaaDoor
open Go.RowKit

def semi : ByteArray := ⟨#[59]⟩
def intW (n : Int) : ByteArray := itoaB n ++ ⟨#[59]⟩
def numW (n : Int) : ByteArray := if n < 0 then ⟨#[]⟩ else intW n
def textW (s : ByteArray) : ByteArray := itoaB s.size ++ ⟨#[58]⟩ ++ s ++ ⟨#[44]⟩
theorem itoa_len (n : Int) (h0 : -9223372036854775808 ≤ n) (h1 : n ≤ 9223372036854775807) : (itoaB n).size ≤ 20 := by
  have key : ∀ u : Nat, u < 10000000000000000000 → (Lib.decDigits u).length ≤ 19 := by
    intro u hu
    rw [Lib.decDigits_length]
    rcases Nat.lt_or_ge 19 (Lib.nDigits u) with h | h
    · exfalso
      have h2 : ∀ k u : Nat, u < 10 ^ (k + 1) → Lib.nDigits u ≤ k + 1 := by
        intro k
        induction k with
        | zero => intro u hu; rw [Lib.nDigits_small (by simpa using hu)]; exact Nat.le_refl _
        | succ k ih =>
          intro u hu
          by_cases h : u < 10
          · rw [Lib.nDigits_small h]; omega
          · rw [Lib.nDigits_big h]
            have := ih (u / 10) (by rw [Nat.div_lt_iff_lt_mul (by decide)]; rw [Nat.pow_succ] at hu; exact hu)
            omega
      have := h2 18 u (by omega)
      omega
    · exact h
  have : (itoaB n).size = (Lib.itoa n).length := List.size_toArray
  rw [this, Lib.itoa]
  split
  · have := key n.natAbs (by omega)
    rw [List.length_cons]
    omega
  · have := key n.toNat (by omega)
    omega
theorem winti_any (n : Int) (h0 : -9223372036854775808 ≤ n) (h1 : n ≤ 9223372036854775807) : PureC 45 [.int n] (· = .str (intW n)) := by
  have hz := itoa_len n h0 h1
  have hs : ByteArray.size ⟨#[59]⟩ = 1 := rfl
  refine pure_enter Tryd.func45 rfl (by decide) _ Tryd.ntmps45 (le_ok rfl) (fun w Pr hE => ?_)
  dsimp only [slotsOf, Nat.zero_add, Nat.reduceAdd]
  repeat' (first | (apply at_op (.call { callee := .value _, args := _, argTypes := _ }); refine al_call (itoa_any n h0 h1) rfl hE (lt_ok rfl) (by exact (ArgsD.cons (by first | exact ToD.d _ | exact ToD.row _ _ _ _ _ rfl | exact ToD.nil _) ArgsD.nil)) ?_; (all_goals (try first | omega | assumption)); rintro _ rfl) | apply aw_seq | apply aw_region | apply al_nil | apply aq_np | apply aq_then | apply aq_then_x | apply aq_then_r | apply aw_skip | apply aw_exit | apply aw_ret | (apply at_op (.move _); refine al_y (y_moveC (by constructor)) (lt_ok rfl) ?_) | (apply at_op (.assign _); refine al_y (y_assignC (by constructor)) (lt_ok rfl) ?_) | (apply at_op (.binOp .add _ _ _ _); first | refine al_y (y_add rfl rfl (by omega)) (lt_ok rfl) ?_ | refine al_y (y_sadd rfl rfl (by omega)) (lt_ok rfl) ?_))
  refine ret_one (by rfl) (by first | exact ToD.d _ | exact ToD.row _ _ _ _ _ rfl) ?_
  rfl
theorem wnum_any (n : Int) (h0 : -9223372036854775808 ≤ n) (h1 : n ≤ 9223372036854775807) : PureC 24 [.int n] (· = .str (numW n)) := by
  refine pure_enter Tryd.func24 rfl (by decide) _ Tryd.ntmps24 (le_ok rfl) (fun w Pr hE => ?_)
  dsimp only [slotsOf, Nat.zero_add, Nat.reduceAdd]
  by_cases hn : n < 0
  · skip
    repeat' (first | apply aw_seq | apply aw_region | apply al_nil | apply aq_np | apply aq_then | apply aq_then_x | apply aq_then_r | apply aw_skip | apply aw_exit | apply aw_ret | (apply at_op (.move _); refine al_y (y_moveC (by constructor)) (lt_ok rfl) ?_) | (apply at_op (.assign _); refine al_y (y_assignC (by constructor)) (lt_ok rfl) ?_) | (apply at_cond; first | refine aw_cond_t rfl (by assumption) ?_ | refine aw_cond_f rfl (by assumption) ?_ | refine aw_cond_t rfl (by first | with_reducible rfl | decide) ?_ | refine aw_cond_f rfl (by first | with_reducible rfl | decide) ?_ | (refine aw_cond rfl (fun hb => ?_) (fun hb => ?_) <;> ((first | have hq := of_decide_eq_true hb | have hq := of_decide_eq_false hb | have hq := of_decide_eq_false (not_t hb) | have hq := of_decide_eq_true (not_f hb) | skip); (try (exfalso; omega))))) | (apply at_op (.binOp .lss _ _ _ _); refine al_y (y_lss rfl rfl) (lt_ok rfl) ?_))
    refine ret_one (by rfl) (by first | exact ToD.d _ | exact ToD.row _ _ _ _ _ rfl) ?_
    simp [numW, hn]
  · skip
    repeat' (first | (apply at_op (.call { callee := .value _, args := _, argTypes := _ }); refine al_call (winti_any n h0 h1) rfl hE (lt_ok rfl) (by exact (ArgsD.cons (by first | exact ToD.d _ | exact ToD.row _ _ _ _ _ rfl | exact ToD.nil _) ArgsD.nil)) ?_; (all_goals (try first | omega | assumption)); rintro _ rfl) | apply aw_seq | apply aw_region | apply al_nil | apply aq_np | apply aq_then | apply aq_then_x | apply aq_then_r | apply aw_skip | apply aw_exit | apply aw_ret | (apply at_op (.move _); refine al_y (y_moveC (by constructor)) (lt_ok rfl) ?_) | (apply at_op (.assign _); refine al_y (y_assignC (by constructor)) (lt_ok rfl) ?_) | (apply at_cond; first | refine aw_cond_t rfl (by assumption) ?_ | refine aw_cond_f rfl (by assumption) ?_ | refine aw_cond_t rfl (by first | with_reducible rfl | decide) ?_ | refine aw_cond_f rfl (by first | with_reducible rfl | decide) ?_ | (refine aw_cond rfl (fun hb => ?_) (fun hb => ?_) <;> ((first | have hq := of_decide_eq_true hb | have hq := of_decide_eq_false hb | have hq := of_decide_eq_false (not_t hb) | have hq := of_decide_eq_true (not_f hb) | skip); (try (exfalso; omega))))) | (apply at_op (.binOp .lss _ _ _ _); refine al_y (y_lss rfl rfl) (lt_ok rfl) ?_))
    refine ret_one (by rfl) (by first | exact ToD.d _ | exact ToD.row _ _ _ _ _ rfl) ?_
    simp [numW, hn]
theorem wtext_any (s : ByteArray) (hs : s.size ≤ 1000000000) : PureC 23 [.str s] (· = .str (textW s)) := by
  have hz := itoa_len s.size (by omega) (by omega)
  have hs1 : ByteArray.size ⟨#[58]⟩ = 1 := rfl
  have hs2 : ByteArray.size ⟨#[44]⟩ = 1 := rfl
  have z1 : (itoaB s.size ++ ⟨#[58]⟩).size = (itoaB s.size).size + 1 := ByteArray.size_append
  have z2 : (itoaB s.size ++ ⟨#[58]⟩ ++ s).size = (itoaB s.size ++ ⟨#[58]⟩).size + s.size := ByteArray.size_append
  refine pure_enter Tryd.func23 rfl (by decide) _ Tryd.ntmps23 (le_ok rfl) (fun w Pr hE => ?_)
  dsimp only [slotsOf, Nat.zero_add, Nat.reduceAdd]
  repeat' (first | (apply at_op (.call { callee := .value _, args := _, argTypes := _ }); refine al_call (itoa_any s.size (by omega) (by omega)) rfl hE (lt_ok rfl) (by exact (ArgsD.cons (by first | exact ToD.d _ | exact ToD.row _ _ _ _ _ rfl | exact ToD.nil _) ArgsD.nil)) ?_; (all_goals (try first | omega | assumption)); rintro _ rfl) | apply aw_seq | apply aw_region | apply al_nil | apply aq_np | apply aq_then | apply aq_then_x | apply aq_then_r | apply aw_skip | apply aw_exit | apply aw_ret | (apply at_op (.move _); refine al_y (y_moveC (by constructor)) (lt_ok rfl) ?_) | (apply at_op (.assign _); refine al_y (y_assignC (by constructor)) (lt_ok rfl) ?_) | (apply at_op (.binOp .add _ _ _ _); first | refine al_y (y_add rfl rfl (by omega)) (lt_ok rfl) ?_ | refine al_y (y_sadd rfl rfl (by omega)) (lt_ok rfl) ?_) | (apply at_op (.call { callee := .builtin .len, args := _, argTypes := _ }); first | refine al_y (y_slen rfl rfl (by kernel_rfl)) (lt_ok rfl) ?_ | refine al_y (y_llen (by first | exact ToD.d _ | exact ToD.row _ _ _ _ _ rfl) rfl ⟨_, _, _, _, rfl⟩ (by first | (simp only [List.length_map, List.length_append, List.length_cons, List.length_nil]; rfl) | rfl)) (lt_ok rfl) ?_ | refine al_y (y_sllen rfl rfl ⟨_, _, _, _, rfl⟩) (lt_ok rfl) ?_))
  refine ret_one (by rfl) (by first | exact ToD.d _ | exact ToD.row _ _ _ _ _ rfl) ?_
  rfl
end Go.Proofs.YtfgibalcdjlnhaaDoor
end
section
namespace Go.Proofs.YtfgibalcdjlnhaaDoor
open Go.RowKit

abbrev L (r : ByteArray) : List UInt8 := r.data.toList
abbrev B (l : List UInt8) : ByteArray := ⟨l.toArray⟩
theorem L_B (l : List UInt8) : L (B l) = l := rfl
theorem L_app (a b : ByteArray) : L (a ++ b) = L a ++ L b := by simp [L, ByteArray.data_append]
theorem L_len (a : ByteArray) : (L a).length = a.size := Array.length_toList
theorem numS_of {r : ByteArray} {b : Bool} {c : UInt8} {least n : Int} {t : List UInt8} (hc : Sep c) (h : L r = Lib.itoa n ++ c :: t) (hn : isInt n) (hl : least ≤ n) : numS r b c least = ⟨n, B t, b⟩ := by
  obtain ⟨h1, h2⟩ := numIs_of hc h hn hl
  simp only [numS, numR_some h1, h2]
theorem sep59 : Sep 59 := by unfold Sep; decide
theorem sep58 : Sep 58 := by unfold Sep; decide
theorem closeS_of {r : ByteArray} {b : Bool} {c : UInt8} {t : List UInt8} (h : L r = c :: t) : closeS r b ⟨#[c]⟩ = (B t, b) := by
  have h1 : r.data.toList = c :: t := h
  have h2 : Lib.hasPrefix (c :: t) [c] = true := by simp [Lib.hasPrefix]
  have h3 : Lib.trimPrefix (c :: t) [c] = t := by simp [Lib.trimPrefix, Lib.hasPrefix]
  simp only [closeS, h1, h2, h3, if_true]
theorem intW_L (n : Int) : L (intW n) = Lib.itoa n ++ [59] := by rw [intW, L_app]; rfl
theorem textW_L (s : ByteArray) : L (textW s) = Lib.itoa s.size ++ 58 :: (L s ++ [44]) := by
  rw [textW, L_app, L_app, L_app]
  simp only [List.append_assoc]
  rfl
theorem int_of {n least : Int} {r : ByteArray} {b : Bool} {t : List UInt8} (h : L r = L (intW n) ++ t) (hn : isInt n) (hl : least ≤ n) : numS r b 59 least = ⟨n, B t, b⟩ := by
  refine numS_of sep59 ?_ hn hl
  rw [h, intW_L]
  simp
theorem text_of {s : ByteArray} {r : ByteArray} {t : List UInt8} (h : L r = L (textW s) ++ t) (hs : s.size ≤ 9223372036854775807) : textS r false = ⟨s, B t, false⟩ := by
  have h1 : numS r false 58 0 = ⟨s.size, B (L s ++ 44 :: t), false⟩ := by
    refine numS_of sep58 ?_ ⟨by omega, by omega⟩ (by omega)
    rw [h, textW_L]
    simp
  have hz : (B (L s ++ 44 :: t)).size = s.size + (t.length + 1) := by
    have : (B (L s ++ 44 :: t)).size = (L s ++ 44 :: t).length := List.size_toArray
    rw [this, List.length_append, L_len, List.length_cons]
  have h2 : (B (L s ++ 44 :: t)).extract 0 (s.size : Int).toNat = s := by
    apply ba_ext
    rw [ext_list, Int.toNat_natCast, ← L_len s]
    exact List.take_left' rfl
  have h3 : L ((B (L s ++ 44 :: t)).extract (s.size : Int).toNat (B (L s ++ 44 :: t)).size) = 44 :: t := by
    rw [L, ext_drop, Int.toNat_natCast, ← L_len s]
    exact List.drop_left' rfl
  have h4 := closeS_of (b := false) h3
  unfold textS
  simp only [h1, h2, h4]
  rw [if_neg (by omega)]
  rfl
end Go.Proofs.YtfgibalcdjlnhaaDoor
end
section
namespace Go.Proofs.YtfgibalcdjlnhaaDoor

end Go.Proofs.YtfgibalcdjlnhaaDoor
end
