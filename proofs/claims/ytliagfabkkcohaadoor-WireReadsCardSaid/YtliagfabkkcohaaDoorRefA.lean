/-
  The walks of the reference of layer 1: what it writes. Conditions: sizes.
-/
import Derived.Test.YtliagfabkkcohaaDoorLawB
import Derived.Laws.IdiomStrings
import Derived.Lib.BufferRead
set_option linter.unusedSimpArgs false
set_option linter.unusedVariables false
namespace Go.Proofs.YtliagfabkkcohaaDoor
open Go.RowKit Go.ChangeShapes Go.WideShapes

section
variable {E : Entry} {sl : Slots} {ob : Objs} {d : Option Nat} {t ty T : TypeId} {p : String} {af : Array Edge} {g : Option (Nat × Bool)} {x : Operand}
/-- bytes, as a string -/
theorem y_bytes {src dst e : TypeId} {z : D} {l : List UInt8} (hx : ToD ob (ev sl x) z) (hz : z = .list 1 (l.map fun c => [.val (.int .u8 c.toNat)])) (hs : Tryd.prog.underlying src = some (.slice e)) (he : Tryd.prog.underlying e = some (.int .u8)) (hd : Tryd.prog.underlying dst = some .string) :
    Y E ⟨d, .convert src dst x, T, p, af, g⟩ sl ob (.d (.str ⟨l.toArray⟩)) := fun a w Pr β κ h => by
  have hr := toD_rep h hx _ (good_ev h x)
  rw [hz] at hr
  refine ⟨_, .d _ _ (.val _), fun w' hk => ?_⟩
  have key : (convert src dst (a.eval x)).run Tryd.prog w' = .ok (.string ⟨l.toArray⟩) w' := by
    generalize a.eval x = v at hr
    generalize hm : (l.map fun c => [D.val (Value.int IntKind.u8 c.toNat)]) = m at hr
    cases hr with
    | nil A c s hc =>
      have hl : l = [] := by simpa using hm
      subst hl
      cases A with
      | none => exact Lib.run_convert_nil_bytes w' src dst e c hs he hd
      | some A => exact run_convert_bytes_back w' src dst e A c [] hs he hd (fun j hj => by cases hj)
    | list b o n c s _ u hn hs1 hc1 hm1 hc hr =>
      subst hm
      have hn' : n = l.length := by rw [← hn]; simp
      subst hn'
      refine run_convert_bytes_back w' src dst e ⟨b, o, none⟩ c l hs he hd (fun j hj => ?_)
      have h1 : (l.map fun c => [D.val (Value.int IntKind.u8 c.toNat)])[j]? = some [D.val (Value.int IntKind.u8 l[j].toNat)] := by simp [hj]
      obtain ⟨h2, h3⟩ := hc j 0 _ _ h1 rfl
      have h4 := hr j 0 _ _ h1 rfl
      generalize hu : u j 0 = uv at h2 h4
      cases h4
      rw [add_plain]
      rw [Nat.mul_one, Nat.add_zero] at h2 h3
      rw [hk.stays _ _ h3]
      exact h2
  simp only [execOp, Sem.run_bind, key]
  rfl
theorem y_quot {m n : Int} {y : Operand} (hx : ev sl x = .d (.val (.int .i64 m))) (hy : ev sl y = .d (.val (.int .i64 n))) (hn : n ≠ 0) (h : -9223372036854775808 ≤ m.tdiv n ∧ m.tdiv n ≤ 9223372036854775807) :
    Y E ⟨d, .binOp .quo t x y ty, T, p, af, g⟩ sl ob (.d (.val (.int .i64 (m.tdiv n)))) := y_bin' hx hy rfl fun w => by
  simp [binOp, Op.intDiv, hn, IntWalk.i64_in (m.tdiv n) h]
end
theorem dec_one {u : Nat} (h : u < 10) : Lib.decDigits u = [UInt8.ofNat (48 + u)] := by
  unfold Lib.decDigits
  rw [dif_pos h]
theorem dec_more {u : Nat} (h : ¬ u < 10) : Lib.decDigits u = Lib.decDigits (u / 10) ++ [UInt8.ofNat (48 + u % 10)] := by
  rw [Lib.decDigits]
  rw [dif_neg h]
theorem dec_len (u : Nat) : ∀ k : Nat, u < 10 ^ k → 0 < k → (Lib.decDigits u).length ≤ k := by
  induction u using Nat.strongRecOn with
  | _ u ih =>
    intro k hk h0
    by_cases h : u < 10
    · rw [dec_one h]; exact h0
    · obtain ⟨j, rfl⟩ : ∃ j, k = j + 1 := ⟨k - 1, by omega⟩
      rw [dec_more h, List.length_append, List.length_singleton]
      have h1 : u / 10 < 10 ^ j := by rw [Nat.pow_succ] at hk; omega
      have hj : 0 < j := by
        rcases Nat.eq_zero_or_pos j with rfl | hj
        · simp at h1; omega
        · exact hj
      have := ih (u / 10) (by omega) j h1 hj
      omega
theorem dec19 {u : Nat} (h : u ≤ 9223372036854775808) : (Lib.decDigits u).length ≤ 19 := dec_len u 19 (by omega) (by omega)
set_option maxRecDepth 20000 in
theorem digits_any : ∀ (u : Nat), u ≤ 9223372036854775808 → PureC 45 [.int (0 - (u : Int))] (· = .str (B (Lib.decDigits u))) := by
  intro u
  induction u using Nat.strongRecOn with
  | _ u ih =>
    intro hu
    have hr : (0 - (u : Int)).tmod 10 = 0 - ((u % 10 : Nat) : Int) := by
      rw [Int.zero_sub, Int.neg_tmod, Int.tmod_eq_emod_of_nonneg (by omega)]
      omega
    have hqt : (0 - (u : Int)).tdiv 10 = 0 - ((u / 10 : Nat) : Int) := by
      rw [Int.zero_sub, Int.neg_tdiv, Int.tdiv_eq_ediv_of_nonneg (by omega)]
      omega
    have hd := dig_byte (u := u % 10) (by omega)
    have hw : (48 - (0 - ((u % 10 : Nat) : Int))) = ((UInt8.ofNat (48 + u % 10)).toNat : Int) := by rw [hd]; omega
    refine pure_enter Tryd.func45 rfl (by decide) _ Tryd.ntmps45 (le_ok rfl) (fun w Pr hE => ?_)
    dsimp only [slotsOf, Nat.zero_add, Nat.reduceAdd]
    by_cases h : u < 10
    · skip
      repeat' (first | (apply at_op (.binOp .rem _ _ _ _); refine al_y (y_remw rfl rfl (by decide)) (lt_ok rfl) ?_; rw [hr]) | (apply at_op (.convert _ _ _); refine al_y (y_bytes (l := [UInt8.ofNat (48 + u % 10)]) (ToD.d _) (by rw [hw]; rfl) Tryd.underlying64 Tryd.underlying5 Tryd.underlying9) (lt_ok rfl) ?_) | apply aw_seq | apply aw_region | apply al_nil | apply aq_np | apply aq_then | apply aq_then_x | apply aq_then_r | apply aw_skip | apply aw_exit | apply aw_ret | (apply at_op (.move _); refine al_y (y_moveC (by constructor)) (lt_ok rfl) ?_) | (apply at_op (.assign _); refine al_y (y_assignC (by constructor)) (lt_ok rfl) ?_) | (apply at_cond; first | refine aw_cond_t rfl (by assumption) ?_ | refine aw_cond_f rfl (by assumption) ?_ | refine aw_cond_t rfl (by first | with_reducible rfl | decide) ?_ | refine aw_cond_f rfl (by first | with_reducible rfl | decide) ?_ | (refine aw_cond rfl (fun hb => ?_) (fun hb => ?_) <;> ((first | have hq := of_decide_eq_true hb | have hq := of_decide_eq_false hb | have hq := of_decide_eq_false (not_t hb) | have hq := of_decide_eq_true (not_f hb) | skip); (try (exfalso; omega))))) | (apply at_op (.binOp .gtr _ _ _ _); refine al_y (y_gtr rfl rfl) (lt_ok rfl) ?_) | (apply at_op (.binOp .add _ _ _ _); first | refine al_y (y_add rfl rfl (by omega)) (lt_ok rfl) ?_ | refine al_y (y_sadd rfl rfl (by omega)) (lt_ok rfl) ?_) | (apply at_op (.binOp .sub _ _ _ _); first | refine al_y (y_sub rfl rfl (by omega)) (lt_ok rfl) ?_ | refine al_y (y_sub8 rfl rfl (by omega)) (lt_ok rfl) ?_) | (apply at_op (.binOp .quo _ _ _ _); refine al_y (y_quo rfl rfl (by omega)) (lt_ok rfl) ?_) | (apply at_op (.binOp .rem _ _ _ _); refine al_y (y_rem rfl rfl (by omega)) (lt_ok rfl) ?_) | (apply at_op (.convert _ _ _); first | refine al_y (y_conv64 rfl rfl (by kernel_rfl) (by omega)) (lt_ok rfl) ?_ | refine al_y (y_conv8 rfl rfl (by kernel_rfl) (by omega)) (lt_ok rfl) ?_ | refine al_y (y_conv rfl rfl (by kernel_rfl)) (lt_ok rfl) ?_) | (apply at_op (.buildSlice _ _ _); first | refine al_step (st_lit1 rfl (by first | exact ToD.d _ | exact ToD.row _ _ _ _ _ rfl) (by first | (simp only [normV, normList, normMap]; rfl) | rfl) rfl (le_ok rfl) (lt_ok rfl)) rfl ?_ | refine al_step (st_lit rfl (by repeat (first | exact PartsD.nil | (apply PartsD.cons; first | exact ToD.d _ | exact ToD.row _ _ _ _ _ rfl))) (by simp [dfill, putD, cellsD, zerosD, Value.cells]; rfl) (by first | (simp only [normV, normList, normMap]; rfl) | rfl) (by decide) (by decide) (lt_ok rfl)) rfl ?_))
      refine ret_one (by rfl) (by first | exact ToD.d _ | exact ToD.row _ _ _ _ _ rfl) ?_
      rw [dec_one h, Nat.mod_eq_of_lt h]
    · have ih1 := ih (u / 10) (by omega) (by omega)
      have hl := dec19 (u := u / 10) (by omega)
      have hsz : (B (Lib.decDigits (u / 10))).size = (Lib.decDigits (u / 10)).length := List.size_toArray
      have hs1 : (⟨#[UInt8.ofNat (48 + u % 10)]⟩ : ByteArray).size = 1 := rfl
      repeat' (first | (apply at_op (.binOp .rem _ _ _ _); refine al_y (y_remw rfl rfl (by decide)) (lt_ok rfl) ?_; rw [hr]) | (apply at_op (.convert _ _ _); refine al_y (y_bytes (l := [UInt8.ofNat (48 + u % 10)]) (ToD.d _) (by rw [hw]; rfl) Tryd.underlying64 Tryd.underlying5 Tryd.underlying9) (lt_ok rfl) ?_) | (apply at_op (.binOp .quo _ _ _ _); refine al_y (y_quot rfl rfl (by decide) (by rw [hqt]; omega)) (lt_ok rfl) ?_; rw [hqt]) | (apply at_op (.call { callee := .value _, args := _, argTypes := _ }); refine al_call (ih1) rfl hE (lt_ok rfl) (by exact (ArgsD.cons (by first | exact ToD.d _ | exact ToD.row _ _ _ _ _ rfl | exact ToD.nil _) ArgsD.nil)) ?_; (all_goals (try first | omega | assumption)); rintro _ rfl) | apply aw_seq | apply aw_region | apply al_nil | apply aq_np | apply aq_then | apply aq_then_x | apply aq_then_r | apply aw_skip | apply aw_exit | apply aw_ret | (apply at_op (.move _); refine al_y (y_moveC (by constructor)) (lt_ok rfl) ?_) | (apply at_op (.assign _); refine al_y (y_assignC (by constructor)) (lt_ok rfl) ?_) | (apply at_cond; first | refine aw_cond_t rfl (by assumption) ?_ | refine aw_cond_f rfl (by assumption) ?_ | refine aw_cond_t rfl (by first | with_reducible rfl | decide) ?_ | refine aw_cond_f rfl (by first | with_reducible rfl | decide) ?_ | (refine aw_cond rfl (fun hb => ?_) (fun hb => ?_) <;> ((first | have hq := of_decide_eq_true hb | have hq := of_decide_eq_false hb | have hq := of_decide_eq_false (not_t hb) | have hq := of_decide_eq_true (not_f hb) | skip); (try (exfalso; omega))))) | (apply at_op (.binOp .gtr _ _ _ _); refine al_y (y_gtr rfl rfl) (lt_ok rfl) ?_) | (apply at_op (.binOp .add _ _ _ _); first | refine al_y (y_add rfl rfl (by omega)) (lt_ok rfl) ?_ | refine al_y (y_sadd rfl rfl (by omega)) (lt_ok rfl) ?_) | (apply at_op (.binOp .sub _ _ _ _); first | refine al_y (y_sub rfl rfl (by omega)) (lt_ok rfl) ?_ | refine al_y (y_sub8 rfl rfl (by omega)) (lt_ok rfl) ?_) | (apply at_op (.binOp .quo _ _ _ _); refine al_y (y_quo rfl rfl (by omega)) (lt_ok rfl) ?_) | (apply at_op (.binOp .rem _ _ _ _); refine al_y (y_rem rfl rfl (by omega)) (lt_ok rfl) ?_) | (apply at_op (.convert _ _ _); first | refine al_y (y_conv64 rfl rfl (by kernel_rfl) (by omega)) (lt_ok rfl) ?_ | refine al_y (y_conv8 rfl rfl (by kernel_rfl) (by omega)) (lt_ok rfl) ?_ | refine al_y (y_conv rfl rfl (by kernel_rfl)) (lt_ok rfl) ?_) | (apply at_op (.buildSlice _ _ _); first | refine al_step (st_lit1 rfl (by first | exact ToD.d _ | exact ToD.row _ _ _ _ _ rfl) (by first | (simp only [normV, normList, normMap]; rfl) | rfl) rfl (le_ok rfl) (lt_ok rfl)) rfl ?_ | refine al_step (st_lit rfl (by repeat (first | exact PartsD.nil | (apply PartsD.cons; first | exact ToD.d _ | exact ToD.row _ _ _ _ _ rfl))) (by simp [dfill, putD, cellsD, zerosD, Value.cells]; rfl) (by first | (simp only [normV, normList, normMap]; rfl) | rfl) (by decide) (by decide) (lt_ok rfl)) rfl ?_))
      refine ret_one (by rfl) (by first | exact ToD.d _ | exact ToD.row _ _ _ _ _ rfl) ?_
      rw [dec_more h]
      congr 1
theorem itoa_neg {n : Int} (h : n < 0) : Lib.itoa n = 45 :: Lib.decDigits n.natAbs := by unfold Lib.itoa; rw [if_pos h]
theorem itoa_pos {n : Int} (h : ¬ n < 0) : Lib.itoa n = Lib.decDigits n.toNat := by unfold Lib.itoa; rw [if_neg h]
theorem rint_any (n : Int) (hn : isInt n) : PureC 14 [.int n] (· = .str (intW n)) := by
  have hs1 : (⟨#[45]⟩ : ByteArray).size = 1 := rfl
  have hs2 : (⟨#[59]⟩ : ByteArray).size = 1 := rfl
  by_cases h : n < 0
  · have hd := digits_any n.natAbs (by unfold isInt at hn; omega)
    have hl := dec19 (u := n.natAbs) (by unfold isInt at hn; omega)
    have hsz : (B (Lib.decDigits n.natAbs)).size = (Lib.decDigits n.natAbs).length := List.size_toArray
    have hsa : (⟨#[45]⟩ ++ B (Lib.decDigits n.natAbs) : ByteArray).size = 1 + (B (Lib.decDigits n.natAbs)).size := ByteArray.size_append
    have he : (0 - ((n.natAbs : Nat) : Int)) = n := by omega
    rw [he] at hd
    refine pure_enter Tryd.func14 rfl (by decide) _ Tryd.ntmps14 (le_ok rfl) (fun w Pr hE => ?_)
    dsimp only [slotsOf, Nat.zero_add, Nat.reduceAdd]
    repeat' (first | (apply at_op (.call { callee := .value _, args := _, argTypes := _ }); refine al_call (hd) rfl hE (lt_ok rfl) (by exact (ArgsD.cons (by first | exact ToD.d _ | exact ToD.row _ _ _ _ _ rfl | exact ToD.nil _) ArgsD.nil)) ?_; (all_goals (try first | omega | assumption)); rintro _ rfl) | apply aw_seq | apply aw_region | apply al_nil | apply aq_np | apply aq_then | apply aq_then_x | apply aq_then_r | apply aw_skip | apply aw_exit | apply aw_ret | (apply at_op (.move _); refine al_y (y_moveC (by constructor)) (lt_ok rfl) ?_) | (apply at_op (.assign _); refine al_y (y_assignC (by constructor)) (lt_ok rfl) ?_) | (apply at_cond; first | refine aw_cond_t rfl (by assumption) ?_ | refine aw_cond_f rfl (by assumption) ?_ | refine aw_cond_t rfl (by first | with_reducible rfl | decide) ?_ | refine aw_cond_f rfl (by first | with_reducible rfl | decide) ?_ | (refine aw_cond rfl (fun hb => ?_) (fun hb => ?_) <;> ((first | have hq := of_decide_eq_true hb | have hq := of_decide_eq_false hb | have hq := of_decide_eq_false (not_t hb) | have hq := of_decide_eq_true (not_f hb) | skip); (try (exfalso; omega))))) | (apply at_op (.binOp .lss _ _ _ _); refine al_y (y_lss rfl rfl) (lt_ok rfl) ?_) | (apply at_op (.binOp .add _ _ _ _); first | refine al_y (y_add rfl rfl (by omega)) (lt_ok rfl) ?_ | refine al_y (y_sadd rfl rfl (by omega)) (lt_ok rfl) ?_))
    refine ret_one (by rfl) (by first | exact ToD.d _ | exact ToD.row _ _ _ _ _ rfl) ?_
    refine congrArg D.str (ba_ext ?_)
    show L _ = L _
    rw [intW_L, itoa_neg h, L_app, L_app]
    rfl
  · have hd := digits_any n.toNat (by unfold isInt at hn; omega)
    have hl := dec19 (u := n.toNat) (by unfold isInt at hn; omega)
    have hsz : (B (Lib.decDigits n.toNat)).size = (Lib.decDigits n.toNat).length := List.size_toArray
    have he : (0 - ((n.toNat : Nat) : Int)) = 0 - n := by omega
    rw [he] at hd
    unfold isInt at hn
    refine pure_enter Tryd.func14 rfl (by decide) _ Tryd.ntmps14 (le_ok rfl) (fun w Pr hE => ?_)
    dsimp only [slotsOf, Nat.zero_add, Nat.reduceAdd]
    repeat' (first | (apply at_op (.unOp .neg _ _); refine al_y (y_neg rfl (by omega)) (lt_ok rfl) ?_) | (apply at_op (.call { callee := .value _, args := _, argTypes := _ }); refine al_call (hd) rfl hE (lt_ok rfl) (by exact (ArgsD.cons (by first | exact ToD.d _ | exact ToD.row _ _ _ _ _ rfl | exact ToD.nil _) ArgsD.nil)) ?_; (all_goals (try first | omega | assumption)); rintro _ rfl) | apply aw_seq | apply aw_region | apply al_nil | apply aq_np | apply aq_then | apply aq_then_x | apply aq_then_r | apply aw_skip | apply aw_exit | apply aw_ret | (apply at_op (.move _); refine al_y (y_moveC (by constructor)) (lt_ok rfl) ?_) | (apply at_op (.assign _); refine al_y (y_assignC (by constructor)) (lt_ok rfl) ?_) | (apply at_cond; first | refine aw_cond_t rfl (by assumption) ?_ | refine aw_cond_f rfl (by assumption) ?_ | refine aw_cond_t rfl (by first | with_reducible rfl | decide) ?_ | refine aw_cond_f rfl (by first | with_reducible rfl | decide) ?_ | (refine aw_cond rfl (fun hb => ?_) (fun hb => ?_) <;> ((first | have hq := of_decide_eq_true hb | have hq := of_decide_eq_false hb | have hq := of_decide_eq_false (not_t hb) | have hq := of_decide_eq_true (not_f hb) | skip); (try (exfalso; omega))))) | (apply at_op (.binOp .lss _ _ _ _); refine al_y (y_lss rfl rfl) (lt_ok rfl) ?_) | (apply at_op (.binOp .add _ _ _ _); first | refine al_y (y_add rfl rfl (by omega)) (lt_ok rfl) ?_ | refine al_y (y_sadd rfl rfl (by omega)) (lt_ok rfl) ?_))
    refine ret_one (by rfl) (by first | exact ToD.d _ | exact ToD.row _ _ _ _ _ rfl) ?_
    refine congrArg D.str (ba_ext ?_)
    show L _ = L _
    rw [intW_L, itoa_pos h, L_app]
theorem rnum_any (n : Int) (hn : isInt n) : PureC 12 [.int n] (· = .str (numW n)) := by
  refine pure_enter Tryd.func12 rfl (by decide) _ Tryd.ntmps12 (le_ok rfl) (fun w Pr hE => ?_)
  dsimp only [slotsOf, Nat.zero_add, Nat.reduceAdd]
  by_cases h : n < 0
  · skip
    repeat' (first | apply aw_seq | apply aw_region | apply al_nil | apply aq_np | apply aq_then | apply aq_then_x | apply aq_then_r | apply aw_skip | apply aw_exit | apply aw_ret | (apply at_op (.move _); refine al_y (y_moveC (by constructor)) (lt_ok rfl) ?_) | (apply at_op (.assign _); refine al_y (y_assignC (by constructor)) (lt_ok rfl) ?_) | (apply at_cond; first | refine aw_cond_t rfl (by assumption) ?_ | refine aw_cond_f rfl (by assumption) ?_ | refine aw_cond_t rfl (by first | with_reducible rfl | decide) ?_ | refine aw_cond_f rfl (by first | with_reducible rfl | decide) ?_ | (refine aw_cond rfl (fun hb => ?_) (fun hb => ?_) <;> ((first | have hq := of_decide_eq_true hb | have hq := of_decide_eq_false hb | have hq := of_decide_eq_false (not_t hb) | have hq := of_decide_eq_true (not_f hb) | skip); (try (exfalso; omega))))) | (apply at_op (.binOp .lss _ _ _ _); refine al_y (y_lss rfl rfl) (lt_ok rfl) ?_))
    refine ret_one (by rfl) (by first | exact ToD.d _ | exact ToD.row _ _ _ _ _ rfl) ?_
    rw [numW, if_pos h]
  · skip
    repeat' (first | (apply at_op (.call { callee := .value _, args := _, argTypes := _ }); refine al_call (rint_any n hn) rfl hE (lt_ok rfl) (by exact (ArgsD.cons (by first | exact ToD.d _ | exact ToD.row _ _ _ _ _ rfl | exact ToD.nil _) ArgsD.nil)) ?_; (all_goals (try first | omega | assumption)); rintro _ rfl) | apply aw_seq | apply aw_region | apply al_nil | apply aq_np | apply aq_then | apply aq_then_x | apply aq_then_r | apply aw_skip | apply aw_exit | apply aw_ret | (apply at_op (.move _); refine al_y (y_moveC (by constructor)) (lt_ok rfl) ?_) | (apply at_op (.assign _); refine al_y (y_assignC (by constructor)) (lt_ok rfl) ?_) | (apply at_cond; first | refine aw_cond_t rfl (by assumption) ?_ | refine aw_cond_f rfl (by assumption) ?_ | refine aw_cond_t rfl (by first | with_reducible rfl | decide) ?_ | refine aw_cond_f rfl (by first | with_reducible rfl | decide) ?_ | (refine aw_cond rfl (fun hb => ?_) (fun hb => ?_) <;> ((first | have hq := of_decide_eq_true hb | have hq := of_decide_eq_false hb | have hq := of_decide_eq_false (not_t hb) | have hq := of_decide_eq_true (not_f hb) | skip); (try (exfalso; omega))))) | (apply at_op (.binOp .lss _ _ _ _); refine al_y (y_lss rfl rfl) (lt_ok rfl) ?_))
    refine ret_one (by rfl) (by first | exact ToD.d _ | exact ToD.row _ _ _ _ _ rfl) ?_
    rw [numW, if_neg h]
theorem rtext_any (s : ByteArray) (hs : s.size ≤ 1000000000) : PureC 16 [.str s] (· = .str (textW s)) := by
  have hs1 : (⟨#[58]⟩ : ByteArray).size = 1 := rfl
  have hs2 : (⟨#[44]⟩ : ByteArray).size = 1 := rfl
  have hd := digits_any s.size (by omega)
  have hl := dec19 (u := s.size) (by omega)
  have hsz : (B (Lib.decDigits s.size)).size = (Lib.decDigits s.size).length := List.size_toArray
  have hsa : (B (Lib.decDigits s.size) ++ ⟨#[58]⟩).size = (B (Lib.decDigits s.size)).size + 1 := ByteArray.size_append
  have hsb : (B (Lib.decDigits s.size) ++ ⟨#[58]⟩ ++ s).size = (B (Lib.decDigits s.size) ++ ⟨#[58]⟩).size + s.size := ByteArray.size_append
  refine pure_enter Tryd.func16 rfl (by decide) _ Tryd.ntmps16 (le_ok rfl) (fun w Pr hE => ?_)
  dsimp only [slotsOf, Nat.zero_add, Nat.reduceAdd]
  repeat' (first | (apply at_op (.unOp .neg _ _); refine al_y (y_neg rfl (by omega)) (lt_ok rfl) ?_) | (apply at_op (.call { callee := .value _, args := _, argTypes := _ }); refine al_call (hd) rfl hE (lt_ok rfl) (by exact (ArgsD.cons (by first | exact ToD.d _ | exact ToD.row _ _ _ _ _ rfl | exact ToD.nil _) ArgsD.nil)) ?_; (all_goals (try first | omega | assumption)); rintro _ rfl) | apply aw_seq | apply aw_region | apply al_nil | apply aq_np | apply aq_then | apply aq_then_x | apply aq_then_r | apply aw_skip | apply aw_exit | apply aw_ret | (apply at_op (.move _); refine al_y (y_moveC (by constructor)) (lt_ok rfl) ?_) | (apply at_op (.assign _); refine al_y (y_assignC (by constructor)) (lt_ok rfl) ?_) | (apply at_op (.binOp .add _ _ _ _); first | refine al_y (y_add rfl rfl (by omega)) (lt_ok rfl) ?_ | refine al_y (y_sadd rfl rfl (by omega)) (lt_ok rfl) ?_) | (apply at_op (.call { callee := .builtin .len, args := _, argTypes := _ }); first | refine al_y (y_slen rfl rfl (by kernel_rfl)) (lt_ok rfl) ?_ | refine al_y (y_llen (by first | exact ToD.d _ | exact ToD.row _ _ _ _ _ rfl) rfl ⟨_, _, _, _, rfl⟩ (by first | (simp only [List.length_map, List.length_append, List.length_cons, List.length_nil]; rfl) | rfl)) (lt_ok rfl) ?_ | refine al_y (y_sllen rfl rfl ⟨_, _, _, _, rfl⟩) (lt_ok rfl) ?_))
  refine ret_one (by rfl) (by first | exact ToD.d _ | exact ToD.row _ _ _ _ _ rfl) ?_
  rfl
end Go.Proofs.YtliagfabkkcohaaDoor
