/-
  The walks of the reference of layer 1: what a reader of it reads. Conditions: sizes.
-/
import Derived.Test.YtoebadkhgicdjaaDoorRefA
set_option linter.unusedSimpArgs false
set_option linter.unusedVariables false
namespace Go.Proofs.YtoebadkhgicdjaaDoor
open Go.RowKit Go.ChangeShapes Go.WideShapes

section
variable {E : Entry} {sl : Slots} {ob : Objs} {d : Option Nat} {t ty T : TypeId} {p : String} {af : Array Edge} {g : Option (Nat × Bool)} {x : Operand}
theorem y_negw {m : Int} (hx : ev sl x = .d (.val (.int .i64 m))) : Y E ⟨d, .unOp .neg t x, T, p, af, g⟩ sl ob (.d (.val (.int .i64 (IntKind.i64.wrap (0 - m))))) := fun a w Pr β κ hg =>
  ⟨_, .d _ _ (.val _), fun w' _ => by simp only [execOp, good_val hg hx, Op.unary, Op.intArith]; rfl⟩
end
/-- a reader of the reference -/
abbrev rr (r : ByteArray) (b : Bool) : Objs := [(1000, .box 93 [.d (.str r), .d (.bool b)])]
theorem rfail_any (r : ByteArray) (b : Bool) : ObC 53 [.box 1000 0] (rr r b) [] (fun x o => x = .d (.int 0) ∧ o = rr emp true) := by
  refine ob_enter Tryd.func53 rfl (by decide) _ Tryd.ntmps53 (le_ok rfl) rfl (fun w Pr β κ hE => ?_)
  dsimp only [slotsV, Nat.zero_add, Nat.reduceAdd]
  repeat' (first | apply aw_seq | apply aw_region | apply al_nil | apply aq_np | apply aq_then | apply aq_then_x | apply aq_then_r | apply aw_skip | apply aw_exit | apply aw_ret | (apply at_op (.move _); refine al_y (y_moveC (by constructor)) (lt_ok rfl) ?_) | (apply at_op (.assign _); refine al_y (y_assignC (by constructor)) (lt_ok rfl) ?_) | (apply at_op (.fieldAddr _ _ _); first | refine al_y (y_fbox rfl rfl rfl) (lt_ok rfl) ?_ | refine al_y (y_faddr rfl rfl rfl) (lt_ok rfl) ?_) | (apply at_op (.nilCheck _); first | refine al_y (y_nilbox rfl) (lt_ok rfl) ?_ | refine al_y (y_nilep rfl) (lt_ok rfl) ?_) | (apply at_op (.store _ _ _); first | refine al_step (st_store rfl rfl (ev_d rfl) nofun (by first | (simp only [normV, normList, normMap]; rfl) | rfl) (by simp [V.one, Value.oneCell']) (.inl ⟨rfl, rfl⟩) rfl (le_ok rfl) (by first | (simp only [normV, normList, normMap]; rfl) | rfl)) rfl ?_ | refine al_step (st_store rfl rfl (ev_d rfl) nofun (by first | (simp only [normV, normList, normMap]; rfl) | rfl) (by simp [V.one, Value.oneCell']) (.inr rfl) rfl (le_ok rfl) (by first | (simp only [normV, normList, normMap]; rfl) | rfl)) rfl ?_ | refine al_step (st_store rfl rfl (ev_row rfl) nofun (by first | (simp only [normV, normList, normMap]; rfl) | rfl) (by simp [V.one, Value.oneCell']) (.inl ⟨rfl, rfl⟩) rfl (le_ok rfl) (by first | (simp only [normV, normList, normMap]; rfl) | rfl)) rfl ?_ | refine al_step (st_store rfl rfl (ev_box rfl) nofun (by first | (simp only [normV, normList, normMap]; rfl) | rfl) (by simp [V.one, Value.oneCell']) (.inl ⟨rfl, rfl⟩) rfl (le_ok rfl) (by first | (simp only [normV, normList, normMap]; rfl) | rfl)) rfl ?_))
  refine oret1 (rr emp true) (by rfl) (by first | exact ResV.x _ _ (ResX.tmp _ _ (by first | exact ToD.d _ | exact ToD.row _ _ _ _ _ rfl | exact ToD.nil _)) | exact ResV.tmp _ _ rfl | exact ResV.x _ _ (ResX.cellA _ _ _ _ _ _ _ rfl rfl rfl (by first | (simp only [normV, normList, normMap]; rfl) | rfl) rfl)) (⟨rfl, rfl⟩) (by (repeat (first | exact obs_nil | (apply obs_cons; focus (first | rfl | (simp [find]; done)))))) (by rfl)
theorem ropen_any (s : ByteArray) : ObC 27 [.d (.str s)] [] [5] (fun x o => x = .box 5 0 ∧ o = [(5, .box 93 [.d (.str s), .d (.bool false)])]) := by
  refine ob_enter Tryd.func27 rfl (by decide) _ Tryd.ntmps27 (le_ok rfl) rfl (fun w Pr β κ hE => ?_)
  dsimp only [slotsV, Nat.zero_add, Nat.reduceAdd]
  repeat' (first | apply aw_seq | apply aw_region | apply al_nil | apply aq_np | apply aq_then | apply aq_then_x | apply aq_then_r | apply aw_skip | apply aw_exit | apply aw_ret | (apply at_op (.move _); refine al_y (y_moveC (by constructor)) (lt_ok rfl) ?_) | (apply at_op (.assign _); refine al_y (y_assignC (by constructor)) (lt_ok rfl) ?_) | (apply at_op (.box _ _); refine al_step (st_box (ev_d rfl) nofun (by first | (simp only [normV, normList, normMap]; rfl) | rfl) (lt_ok rfl) rfl rfl) rfl ?_) | (apply at_op (.build _ _); first | refine al_y (y_build rfl (by repeat (first | exact PartsD.nil | (apply PartsD.cons; first | exact ToD.d _ | exact ToD.row _ _ _ _ _ rfl))) (by first | (simp only [dfill, normV, normList, normMap]; rfl) | (simp [dfill, putD, cellsD, zerosD, Value.cells]; rfl))) (lt_ok rfl) ?_ | refine al_y (y_buildA rfl (by repeat (first | exact PartsV.nil _ | (apply PartsV.cons; constructor; rfl))) (by rfl) (by rfl)) (lt_ok rfl) ?_ | refine al_y (y_buildV rfl (by repeat (first | exact PartsV.nil _ | (apply PartsV.cons; constructor; rfl))) (by rfl)) (lt_ok rfl) ?_))
  refine oret1 ([(5, .box 93 [.d (.str s), .d (.bool false)])]) (by rfl) (by first | exact ResV.x _ _ (ResX.tmp _ _ (by first | exact ToD.d _ | exact ToD.row _ _ _ _ _ rfl | exact ToD.nil _)) | exact ResV.tmp _ _ rfl | exact ResV.x _ _ (ResX.cellA _ _ _ _ _ _ _ rfl rfl rfl (by first | (simp only [normV, normList, normMap]; rfl) | rfl) rfl)) (⟨rfl, rfl⟩) (by (repeat (first | exact obs_nil | (apply obs_cons; focus (first | rfl | (simp [find]; done)))))) (by rfl)
theorem rdone_any (r : ByteArray) (b : Bool) : ObC 29 [.box 1000 0] (rr r b) [] (fun x o => x = .d (.bool (!b && decide (r = emp))) ∧ o = rr r b) := by
  refine ob_enter Tryd.func29 rfl (by decide) _ Tryd.ntmps29 (le_ok rfl) rfl (fun w Pr β κ hE => ?_)
  dsimp only [slotsV, Nat.zero_add, Nat.reduceAdd]
  cases b
  · skip
    repeat' (first | apply aw_seq | apply aw_region | apply al_nil | apply aq_np | apply aq_then | apply aq_then_x | apply aq_then_r | apply aw_skip | apply aw_exit | apply aw_ret | (apply at_op (.move _); refine al_y (y_moveC (by constructor)) (lt_ok rfl) ?_) | (apply at_op (.assign _); refine al_y (y_assignC (by constructor)) (lt_ok rfl) ?_) | (apply at_guard; first | refine al_go rfl rfl (by assumption) ?_ | refine al_not_t rfl rfl (by assumption) (lt_ok rfl) ?_ | refine al_not_f rfl rfl (by assumption) (lt_ok rfl) ?_ | refine al_go rfl rfl (by first | with_reducible rfl | decide) ?_ | refine al_not_t rfl rfl (by first | with_reducible rfl | decide) (lt_ok rfl) ?_ | refine al_not_f rfl rfl (by first | with_reducible rfl | decide) (lt_ok rfl) ?_ | refine al_not_u rfl rfl (lt_ok rfl) ?_ | ((first | refine al_split_t rfl rfl (lt_ok rfl) (fun hb => ?_) (fun hb => ?_) | refine al_split_f rfl rfl (lt_ok rfl) (fun hb => ?_) (fun hb => ?_)) <;> ((first | have hq := of_decide_eq_true hb | have hq := of_decide_eq_false hb | have hq := of_decide_eq_false (not_t hb) | have hq := of_decide_eq_true (not_f hb) | skip); (try (exfalso; omega))))) | (apply at_op (.pick _ _ _); first | refine al_y (y_pick_t rfl (by assumption) (ev_d rfl)) (lt_ok rfl) ?_ | refine al_y (y_pick_f rfl (by assumption) (ev_d rfl)) (lt_ok rfl) ?_ | refine al_y (y_pick_t rfl (by first | with_reducible rfl | decide) (ev_d rfl)) (lt_ok rfl) ?_ | refine al_y (y_pick_f rfl (by first | with_reducible rfl | decide) (ev_d rfl)) (lt_ok rfl) ?_) | (apply at_op (.binOp .eql _ _ _ _); first | refine al_y (y_eql rfl rfl) (lt_ok rfl) ?_ | refine al_y (y_seql rfl rfl) (lt_ok rfl) ?_ | refine al_y (y_beql rfl rfl (by kernel_rfl)) (lt_ok rfl) ?_ | refine al_y (y_eqs rfl rfl (by simp only [kindsD] <;> rfl) (by simp only [kindsD] <;> rfl) (by kernel_rfl) rfl) (lt_ok rfl) ?_) | (apply at_op (.unOp .not _ _); refine al_y (y_not rfl) (lt_ok rfl) ?_) | (apply at_op (.load _ _); first | refine al_y (y_load1 rfl rfl rfl) (lt_ok rfl) ?_ | refine al_y (y_loadA rfl rfl (take_all rfl rfl) rfl) (lt_ok rfl) ?_ | refine al_y (y_loadA rfl rfl rfl rfl) (lt_ok rfl) ?_ | refine al_y (y_bload1 rfl rfl rfl rfl) (lt_ok rfl) ?_ | refine al_y (y_bloadA rfl rfl rfl (by first | (simp only [normV, normList, normMap]; rfl) | rfl) rfl) (lt_ok rfl) ?_ | refine al_y (y_glob hE (by unfold laidG; first | exact List.Mem.head _ | exact .tail _ (.head _) | exact .tail _ (.tail _ (.head _))) rfl rfl) (lt_ok rfl) ?_) | (apply at_op (.fieldAddr _ _ _); first | refine al_y (y_fbox rfl rfl rfl) (lt_ok rfl) ?_ | refine al_y (y_faddr rfl rfl rfl) (lt_ok rfl) ?_) | (apply at_op (.nilCheck _); first | refine al_y (y_nilbox rfl) (lt_ok rfl) ?_ | refine al_y (y_nilep rfl) (lt_ok rfl) ?_))
    refine oret1 (rr r false) (by rfl) (by first | exact ResV.x _ _ (ResX.tmp _ _ (by first | exact ToD.d _ | exact ToD.row _ _ _ _ _ rfl | exact ToD.nil _)) | exact ResV.tmp _ _ rfl | exact ResV.x _ _ (ResX.cellA _ _ _ _ _ _ _ rfl rfl rfl (by first | (simp only [normV, normList, normMap]; rfl) | rfl) rfl)) (⟨rfl, rfl⟩) (by (repeat (first | exact obs_nil | (apply obs_cons; focus (first | rfl | (simp [find]; done)))))) (by rfl)
  · skip
    repeat' (first | apply aw_seq | apply aw_region | apply al_nil | apply aq_np | apply aq_then | apply aq_then_x | apply aq_then_r | apply aw_skip | apply aw_exit | apply aw_ret | (apply at_op (.move _); refine al_y (y_moveC (by constructor)) (lt_ok rfl) ?_) | (apply at_op (.assign _); refine al_y (y_assignC (by constructor)) (lt_ok rfl) ?_) | (apply at_guard; first | refine al_go rfl rfl (by assumption) ?_ | refine al_not_t rfl rfl (by assumption) (lt_ok rfl) ?_ | refine al_not_f rfl rfl (by assumption) (lt_ok rfl) ?_ | refine al_go rfl rfl (by first | with_reducible rfl | decide) ?_ | refine al_not_t rfl rfl (by first | with_reducible rfl | decide) (lt_ok rfl) ?_ | refine al_not_f rfl rfl (by first | with_reducible rfl | decide) (lt_ok rfl) ?_ | refine al_not_u rfl rfl (lt_ok rfl) ?_ | ((first | refine al_split_t rfl rfl (lt_ok rfl) (fun hb => ?_) (fun hb => ?_) | refine al_split_f rfl rfl (lt_ok rfl) (fun hb => ?_) (fun hb => ?_)) <;> ((first | have hq := of_decide_eq_true hb | have hq := of_decide_eq_false hb | have hq := of_decide_eq_false (not_t hb) | have hq := of_decide_eq_true (not_f hb) | skip); (try (exfalso; omega))))) | (apply at_op (.pick _ _ _); first | refine al_y (y_pick_t rfl (by assumption) (ev_d rfl)) (lt_ok rfl) ?_ | refine al_y (y_pick_f rfl (by assumption) (ev_d rfl)) (lt_ok rfl) ?_ | refine al_y (y_pick_t rfl (by first | with_reducible rfl | decide) (ev_d rfl)) (lt_ok rfl) ?_ | refine al_y (y_pick_f rfl (by first | with_reducible rfl | decide) (ev_d rfl)) (lt_ok rfl) ?_) | (apply at_op (.binOp .eql _ _ _ _); first | refine al_y (y_eql rfl rfl) (lt_ok rfl) ?_ | refine al_y (y_seql rfl rfl) (lt_ok rfl) ?_ | refine al_y (y_beql rfl rfl (by kernel_rfl)) (lt_ok rfl) ?_ | refine al_y (y_eqs rfl rfl (by simp only [kindsD] <;> rfl) (by simp only [kindsD] <;> rfl) (by kernel_rfl) rfl) (lt_ok rfl) ?_) | (apply at_op (.unOp .not _ _); refine al_y (y_not rfl) (lt_ok rfl) ?_) | (apply at_op (.load _ _); first | refine al_y (y_load1 rfl rfl rfl) (lt_ok rfl) ?_ | refine al_y (y_loadA rfl rfl (take_all rfl rfl) rfl) (lt_ok rfl) ?_ | refine al_y (y_loadA rfl rfl rfl rfl) (lt_ok rfl) ?_ | refine al_y (y_bload1 rfl rfl rfl rfl) (lt_ok rfl) ?_ | refine al_y (y_bloadA rfl rfl rfl (by first | (simp only [normV, normList, normMap]; rfl) | rfl) rfl) (lt_ok rfl) ?_ | refine al_y (y_glob hE (by unfold laidG; first | exact List.Mem.head _ | exact .tail _ (.head _) | exact .tail _ (.tail _ (.head _))) rfl rfl) (lt_ok rfl) ?_) | (apply at_op (.fieldAddr _ _ _); first | refine al_y (y_fbox rfl rfl rfl) (lt_ok rfl) ?_ | refine al_y (y_faddr rfl rfl rfl) (lt_ok rfl) ?_) | (apply at_op (.nilCheck _); first | refine al_y (y_nilbox rfl) (lt_ok rfl) ?_ | refine al_y (y_nilep rfl) (lt_ok rfl) ?_))
    refine oret1 (rr r true) (by rfl) (by first | exact ResV.x _ _ (ResX.tmp _ _ (by first | exact ToD.d _ | exact ToD.row _ _ _ _ _ rfl | exact ToD.nil _)) | exact ResV.tmp _ _ rfl | exact ResV.x _ _ (ResX.cellA _ _ _ _ _ _ _ rfl rfl rfl (by first | (simp only [normV, normList, normMap]; rfl) | rfl) rfl)) (⟨rfl, rfl⟩) (by (repeat (first | exact obs_nil | (apply obs_cons; focus (first | rfl | (simp [find]; done)))))) (by rfl)
abbrev wr (n : Int) : Int := IntKind.i64.wrap n
theorem wr_eq (n : Int) : wr n = if n % 18446744073709551616 ≥ 9223372036854775808 then n % 18446744073709551616 - 18446744073709551616 else n % 18446744073709551616 := by
  simp [wr, IntKind.wrap, IntKind.bits, IntKind.signed]
theorem wr_is (n : Int) : isInt (wr n) := by
  rw [wr_eq]
  unfold isInt
  split <;> omega
theorem wr_in {n : Int} (h : isInt n) : wr n = n := by
  rw [wr_eq]
  unfold isInt at h
  split <;> omega
theorem wr_step (v d : Int) : wr (wr (10 * wr (0 - v)) - d) = wr (0 - (10 * v + d)) := by
  rw [wr_eq (0 - v)]
  rw [wr_eq (10 * _)]
  rw [wr_eq (_ - d), wr_eq (0 - _)]
  split <;> split <;> split <;> split <;> omega
theorem wr_neg (v : Int) : wr (0 - wr (0 - v)) = wr v := by
  rw [wr_eq (0 - v)]
  rw [wr_eq (0 - _), wr_eq v]
  split <;> split <;> split <;> omega
/-- what digits are worth -/
def worth (l : List UInt8) : Int := l.foldl (fun v c => 10 * v + ((c.toNat : Int) - 48)) 0
theorem worth_app (l : List UInt8) (c : UInt8) : worth (l ++ [c]) = 10 * worth l + ((c.toNat : Int) - 48) := by simp [worth]
theorem worth_dec (u : Nat) : worth (Lib.decDigits u) = u := by
  induction u using Nat.strongRecOn with
  | _ u ih =>
    by_cases h : u < 10
    · have := dig_byte h
      rw [dec_one h]
      simp only [worth, List.foldl_cons, List.foldl_nil, this]
      omega
    · have := dig_byte (u := u % 10) (by omega)
      rw [dec_more h, worth_app, ih (u / 10) (by omega), this]
      omega
def digit (c : UInt8) : Prop := 48 ≤ c.toNat ∧ c.toNat ≤ 57
theorem bAt_get {s : ByteArray} {i : Nat} (h : i < (L s).length) : bAt s i = (L s)[i] := by
  unfold bAt
  rw [List.getD_eq_getElem?_getD, List.getElem?_eq_getElem h]
  rfl
theorem take_step {l : List UInt8} {a i : Nat} (h : i < l.length) (ha : a ≤ i) : (l.drop a).take (i + 1 - a) = (l.drop a).take (i - a) ++ [l[i]] := by
  have h1 : i + 1 - a = (i - a) + 1 := by omega
  rw [h1, List.take_add_one, List.getElem?_drop, show a + (i - a) = i by omega, List.getElem?_eq_getElem h]
  rfl
/-- from where on the digits stand -/
def fromV (s : ByteArray) : Nat := if 0 < s.size ∧ bAt s 0 = 45 then 1 else 0
def BackP (s : ByteArray) (x : D) : Prop := ∃ n ok, x = .tup [.int n, .bool ok] ∧ (ok = true → isInt n ∧ L s = Lib.itoa n) ∧ ∀ m, isInt m → L s = Lib.itoa m → n = m ∧ ok = true
end Go.Proofs.YtoebadkhgicdjaaDoor
