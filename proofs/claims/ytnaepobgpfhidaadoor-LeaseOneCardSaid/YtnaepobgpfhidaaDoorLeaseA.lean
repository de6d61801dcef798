/-
  The walks of package lease and of its reference: who may write, and until when. Conditions: sizes.
-/
import Derived.Test.YtnaepobgpfhidaaDoorRefA
import Derived.Test.YtnaepobgpfhidaaDoorLawE
set_option linter.unusedSimpArgs false
set_option linter.unusedVariables false
namespace Go.Proofs.YtnaepobgpfhidaaDoor
open Go.RowKit

structure Lse where
  who : Int
  epoch : Int
  frm : Int
  til : Int
def Lse.cells (l : Lse) : List D := [.int l.who, .int l.epoch, .int l.frm, .int l.til]
def In (n m : Int) : Prop := 0 ≤ n ∧ n ≤ m
instance (n m : Int) : Decidable (In n m) := inferInstanceAs (Decidable (_ ∧ _))
def Right (l : Lse) : Prop := In l.who 99 ∧ In l.epoch 1048576 ∧ In l.frm 1048576 ∧ In l.til 1048576
instance (l : Lse) : Decidable (Right l) := inferInstanceAs (Decidable (_ ∧ _ ∧ _ ∧ _))
theorem bool_of {p q : Prop} [Decidable p] [Decidable q] (h : p ↔ q) : D.val (.bool (decide p)) = D.bool (decide q) := congrArg D.bool (decide_eq_decide.2 h)
theorem bool_f {q : Prop} [Decidable q] (h : ¬ q) : D.val (.bool false) = D.bool (decide q) := congrArg D.bool (decide_eq_false h).symm
set_option maxHeartbeats 4000000 in
theorem valid_any (l : Lse) : PureC 18 [.agg l.cells] (· = .bool (decide (Right l))) := by
  unfold Lse.cells
  refine pure_enter Tryd.func18 rfl (by decide) _ Tryd.ntmps18 (le_ok rfl) (fun w Pr hE => ?_)
  dsimp only [slotsOf, Nat.zero_add, Nat.reduceAdd]
  repeat' (first | apply aw_seq | apply aw_region | apply al_nil | apply aq_np | apply aq_then | apply aq_then_x | apply aq_then_r | apply aw_skip | apply aw_exit | apply aw_ret | (apply at_op (.move _); refine al_y (y_moveC (by constructor)) (lt_ok rfl) ?_) | (apply at_op (.assign _); refine al_y (y_assignC (by constructor)) (lt_ok rfl) ?_) | (apply at_guard; first | refine al_go rfl rfl (by assumption) ?_ | refine al_not_t rfl rfl (by assumption) (lt_ok rfl) ?_ | refine al_not_f rfl rfl (by assumption) (lt_ok rfl) ?_ | refine al_go rfl rfl (by first | with_reducible rfl | decide) ?_ | refine al_not_t rfl rfl (by first | with_reducible rfl | decide) (lt_ok rfl) ?_ | refine al_not_f rfl rfl (by first | with_reducible rfl | decide) (lt_ok rfl) ?_ | refine al_not_u rfl rfl (lt_ok rfl) ?_ | (refine al_split_t rfl rfl (lt_ok rfl) (fun hb => ?_) (fun hb => ?_) <;> ((first | have hq := of_decide_eq_true hb | have hq := of_decide_eq_false hb | have hq := of_decide_eq_false (not_t hb) | have hq := of_decide_eq_true (not_f hb) | skip); (try (exfalso; omega)))) | (refine al_split_f rfl rfl (lt_ok rfl) (fun hb => ?_) (fun hb => ?_) <;> ((first | have hq := of_decide_eq_true hb | have hq := of_decide_eq_false hb | have hq := of_decide_eq_false (not_t hb) | have hq := of_decide_eq_true (not_f hb) | skip); (try (exfalso; omega))))) | (apply at_op (.pick _ _ _); first | refine al_y (y_pick_t rfl (by assumption) (ev_d rfl)) (lt_ok rfl) ?_ | refine al_y (y_pick_f rfl (by assumption) (ev_d rfl)) (lt_ok rfl) ?_ | refine al_y (y_pick_t rfl (by first | with_reducible rfl | decide) (ev_d rfl)) (lt_ok rfl) ?_ | refine al_y (y_pick_f rfl (by first | with_reducible rfl | decide) (ev_d rfl)) (lt_ok rfl) ?_) | (apply at_op (.binOp .leq _ _ _ _); refine al_y (y_leq rfl rfl) (lt_ok rfl) ?_) | (apply at_op (.binOp .geq _ _ _ _); refine al_y (y_geq rfl rfl) (lt_ok rfl) ?_) | (apply at_op (.load _ _); first | refine al_y (y_load1 rfl rfl rfl) (lt_ok rfl) ?_ | refine al_y (y_loadA rfl rfl (take_all rfl rfl) rfl) (lt_ok rfl) ?_ | refine al_y (y_loadA rfl rfl rfl rfl) (lt_ok rfl) ?_ | refine al_y (y_bload1 rfl rfl rfl rfl) (lt_ok rfl) ?_ | refine al_y (y_bloadA rfl rfl rfl (by first | (simp only [normV, normList, normMap]; rfl) | rfl) rfl) (lt_ok rfl) ?_ | refine al_y (y_glob hE (by unfold laidG; first | exact List.Mem.head _ | exact .tail _ (.head _) | exact .tail _ (.tail _ (.head _))) rfl rfl) (lt_ok rfl) ?_) | (apply at_op (.fieldAddr _ _ _); first | refine al_y (y_fbox rfl rfl rfl) (lt_ok rfl) ?_ | refine al_y (y_faddr rfl rfl rfl) (lt_ok rfl) ?_) | (apply at_op (.box _ _); refine al_step (st_box (ev_d rfl) nofun (by first | (simp only [normV, normList, normMap]; rfl) | rfl) (lt_ok rfl) rfl rfl) rfl ?_))
  all_goals refine ret_one (by rfl) (by first | exact ToD.d _ | exact ToD.row _ _ _ _ _ rfl) ?_
  all_goals refine congrArg D.bool (Bool.eq_iff_iff.2 ?_)
  all_goals simp only [decide_eq_true_eq, Bool.false_eq_true, false_iff]
  all_goals unfold Right In
  all_goals omega
end Go.Proofs.YtnaepobgpfhidaaDoor
