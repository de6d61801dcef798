/-
  The walks of the reference of layer 1: what a reader of it reads. Conditions: sizes.
  The walks of the reference of layer 1: an int and the byte behind it. Conditions: sizes.
  The walks of the reference of layer 1: what a reader of it reads. Conditions: sizes.
-/
import Derived.Test.YtfgibalcdjlnhaaGreatDoorMar
section
set_option linter.unusedSimpArgs false
set_option linter.unusedVariables false
namespace Go.Proofs.YtfgibalcdjlnhaaGreatDoor
open Go.RowKit Go.ChangeShapes Go.WideShapes


section
variable {E : Entry} {sl : Slots} {ob : Objs} {d : Option Nat} {t ty T : TypeId} {p : String} {af : Array Edge} {g : Option (Nat × Bool)} {x : Operand}
theorem y_negw {m : Int} (hx : ev sl x = .d (.val (.int .i64 m))) : Y E ⟨d, .unOp .neg t x, T, p, af, g⟩ sl ob (.d (.val (.int .i64 (IntKind.i64.wrap (0 - m))))) := fun a w Pr β κ hg =>
  ⟨_, .d _ _ (.val _), fun w' _ => by simp only [execOp, good_val hg hx, Op.unary, Op.intArith]; rfl⟩
end
/-- a reader of the reference -/
abbrev rr (r : ByteArray) (b : Bool) : Objs := [(1000, .box 94 [.d (.str r), .d (.bool b)])]
theorem rfail_any (r : ByteArray) (b : Bool) : ObC 77 [.box 1000 0] (rr r b) [] (fun x o => x = .d (.int 0) ∧ o = rr emp true) := by
  refine ob_enter Tryz.func77 rfl (by decide) _ Tryz.ntmps77 (le_ok rfl) rfl (fun w Pr β κ hE => ?_)
  dsimp only [slotsV, Nat.zero_add, Nat.reduceAdd]
  repeat' (first | refine nx ?_ | (apply qr_move; refine r_move ?_) | (apply qr_assign; refine r_assign ?_) | (apply qr_faddr; refine r_faddr ?_) | (apply qr_nilck; refine r_nilck ?_) | (apply qr_store; refine r_store ?_))
  refine oret1 (rr emp true) (by rfl) rv (⟨rfl, rfl⟩) sb okx
theorem ropen_any (s : ByteArray) : ObC 57 [.d (.str s)] [] [5] (fun x o => x = .box 5 0 ∧ o = [(5, .box 94 [.d (.str s), .d (.bool false)])]) := by
  refine ob_enter Tryz.func57 rfl (by decide) _ Tryz.ntmps57 (le_ok rfl) rfl (fun w Pr β κ hE => ?_)
  dsimp only [slotsV, Nat.zero_add, Nat.reduceAdd]
  repeat' (first | refine nx ?_ | (apply qr_move; refine r_move ?_) | (apply qr_assign; refine r_assign ?_) | (apply qr_boxed; refine r_boxed ?_) | (apply qr_build; refine r_build ?_))
  refine oret1 ([(5, .box 94 [.d (.str s), .d (.bool false)])]) (by rfl) rv (⟨rfl, rfl⟩) sb okx
theorem rleft_any (r : ByteArray) (b : Bool) : ObC 58 [.box 1000 0] (rr r b) [] (fun x o => x = .d (.int r.size) ∧ o = rr r b) := by
  refine ob_enter Tryz.func58 rfl (by decide) _ Tryz.ntmps58 (le_ok rfl) rfl (fun w Pr β κ hE => ?_)
  dsimp only [slotsV, Nat.zero_add, Nat.reduceAdd]
  repeat' (first | refine nx ?_ | (apply qr_move; refine r_move ?_) | (apply qr_assign; refine r_assign ?_) | (apply qr_len; refine r_len ?_) | (apply qr_load; refine r_load ?_) | (apply qr_faddr; refine r_faddr ?_) | (apply qr_nilck; refine r_nilck ?_))
  refine oret1 (rr r b) (by rfl) rv (⟨rfl, rfl⟩) sb okx
abbrev wr (n : Int) : Int := IntKind.i64.wrap n
theorem wr_eq (n : Int) : wr n = if n % 18446744073709551616 ≥ 9223372036854775808 then n % 18446744073709551616 - 18446744073709551616 else n % 18446744073709551616 := by
  simp [wr, IntKind.wrap, IntKind.bits, IntKind.signed]
theorem wr_is (n : Int) : isInt (wr n) := by
  rw [wr_eq]
  unfold isInt
  split <;> omega
theorem wr_in {n : Int} (h : isInt n) : wr n = n := by
  rw [wr_eq]
  unfold isInt at h
  split <;> omega
theorem wr_step (v d : Int) : wr (wr (10 * wr (0 - v)) - d) = wr (0 - (10 * v + d)) := by
  rw [wr_eq (0 - v)]
  rw [wr_eq (10 * _)]
  rw [wr_eq (_ - d), wr_eq (0 - _)]
  split <;> split <;> split <;> split <;> omega
theorem wr_neg (v : Int) : wr (0 - wr (0 - v)) = wr v := by
  rw [wr_eq (0 - v)]
  rw [wr_eq (0 - _), wr_eq v]
  split <;> split <;> split <;> omega
/-- what digits are worth -/
def worth (l : List UInt8) : Int := l.foldl (fun v c => 10 * v + ((c.toNat : Int) - 48)) 0
theorem worth_app (l : List UInt8) (c : UInt8) : worth (l ++ [c]) = 10 * worth l + ((c.toNat : Int) - 48) := by simp [worth]
theorem worth_dec (u : Nat) : worth (Lib.decDigits u) = u := by
  induction u using Nat.strongRecOn with
  | _ u ih =>
    by_cases h : u < 10
    · have := dig_byte h
      rw [dec_one h]
      simp only [worth, List.foldl_cons, List.foldl_nil, this]
      omega
    · have := dig_byte (u := u % 10) (by omega)
      rw [dec_more h, worth_app, ih (u / 10) (by omega), this]
      omega
def digit (c : UInt8) : Prop := 48 ≤ c.toNat ∧ c.toNat ≤ 57
theorem bAt_get {s : ByteArray} {i : Nat} (h : i < (L s).length) : bAt s i = (L s)[i] := by
  unfold bAt
  rw [List.getD_eq_getElem?_getD, List.getElem?_eq_getElem h]
  rfl
theorem take_step {l : List UInt8} {a i : Nat} (h : i < l.length) (ha : a ≤ i) : (l.drop a).take (i + 1 - a) = (l.drop a).take (i - a) ++ [l[i]] := by
  have h1 : i + 1 - a = (i - a) + 1 := by omega
  rw [h1, List.take_add_one, List.getElem?_drop, show a + (i - a) = i by omega, List.getElem?_eq_getElem h]
  rfl
/-- from where on the digits stand -/
def fromV (s : ByteArray) : Nat := if 0 < s.size ∧ bAt s 0 = 45 then 1 else 0
def BackP (s : ByteArray) (x : D) : Prop := ∃ n ok, x = .tup [.int n, .bool ok] ∧ (ok = true → isInt n ∧ L s = Lib.itoa n) ∧ ∀ m, isInt m → L s = Lib.itoa m → n = m ∧ ok = true
end Go.Proofs.YtfgibalcdjlnhaaGreatDoor
end
section
set_option linter.unusedSimpArgs false
set_option linter.unusedVariables false
namespace Go.Proofs.YtfgibalcdjlnhaaGreatDoor
open Go.RowKit Go.ChangeShapes Go.WideShapes


theorem itoa_from {s : ByteArray} {m : Int} (h : L s = Lib.itoa m) : (L s).drop (fromV s) = Lib.decDigits m.natAbs ∧ (fromV s = 1 ↔ m < 0) ∧ fromV s ≤ s.size := by
  have hsz : s.size = (L s).length := (L_len s).symm
  unfold fromV
  by_cases hm : m < 0
  · have h1 := itoa_neg hm
    rw [h1] at h
    have h0 : 0 < s.size ∧ bAt s 0 = 45 := by
      refine ⟨by rw [hsz, h]; simp, ?_⟩
      unfold bAt
      show (L s).getD 0 0 = 45
      rw [h]
      rfl
    rw [if_pos h0, h]
    refine ⟨rfl, by simp [hm], by omega⟩
  · have h1 := itoa_pos hm
    rw [h1] at h
    have h0 : ¬ (0 < s.size ∧ bAt s 0 = 45) := by
      intro ⟨h2, h3⟩
      have h4 : bAt s 0 = (L s)[0]'(by omega) := bAt_get (by omega)
      have h5 : (L s)[0]'(by omega) ∈ Lib.decDigits m.toNat := by rw [← h]; exact List.getElem_mem _
      have h6 := decDigits_mem h5
      rw [← h4, h3] at h6
      simp at h6
    rw [if_neg h0, h]
    have h2 : m.natAbs = m.toNat := by omega
    rw [h2]
    refine ⟨rfl, by simp [hm], by omega⟩
theorem itoa_digits {s : ByteArray} {m : Int} (h : L s = Lib.itoa m) {i : Nat} (hi : i < s.size) (hf : fromV s ≤ i) : digit (bAt s i) := by
  have hsz : s.size = (L s).length := (L_len s).symm
  have h1 := (itoa_from h).1
  have h2 : bAt s i = (L s)[i]'(by omega) := bAt_get (by omega)
  have h3 : (L s)[i]'(by omega) ∈ (L s).drop (fromV s) := by
    have : ((L s).drop (fromV s))[i - fromV s]'(by rw [List.length_drop]; omega) = (L s)[i]'(by omega) := by
      rw [List.getElem_drop]
      congr 1
      omega
    rw [← this]
    exact List.getElem_mem _
  rw [h1] at h3
  rw [h2]
  exact decDigits_mem h3
/-- what Back says at the end -/
theorem back_end {s : ByteArray} {n : Int} (hn : n = if fromV s = 0 then wr (worth ((L s).drop (fromV s))) else wr (0 - worth ((L s).drop (fromV s)))) : BackP s (.tup [.int n, .bool (decide (intW n = s ++ ⟨#[59]⟩))]) := by
  have hni : isInt n := by rw [hn]; split <;> exact wr_is _
  have key : intW n = s ++ ⟨#[59]⟩ ↔ L s = Lib.itoa n := by
    constructor
    · intro h
      have h1 := congrArg L h
      rw [intW_L, L_app] at h1
      exact (List.append_cancel_right (show Lib.itoa n ++ [59] = L s ++ [59] from h1)).symm
    · intro h
      refine ba_ext ?_
      show L _ = L _
      rw [intW_L, L_app, h]
  refine ⟨n, _, rfl, fun h => ⟨hni, key.1 (of_decide_eq_true h)⟩, fun m hm h => ?_⟩
  have hnm : n = m := by
    obtain ⟨h1, h2, h3⟩ := itoa_from h
    rw [h1, worth_dec] at hn
    rw [hn]
    by_cases hs : m < 0
    · have : fromV s = 1 := h2.2 hs
      rw [if_neg (by omega), wr_in (by unfold isInt at hm ⊢; omega)]
      omega
    · have : ¬ fromV s = 1 := fun e => hs (h2.1 e)
      have h4 : fromV s = 0 := by unfold fromV at this ⊢; split at this <;> simp_all
      rw [if_pos h4, wr_in (by unfold isInt at hm ⊢; omega)]
      omega
  refine ⟨hnm, decide_eq_true (key.2 ?_)⟩
  rw [hnm]
  exact h
theorem back_not {s : ByteArray} {i : Nat} (hi : i < s.size) (hf : fromV s ≤ i) (h : ¬ digit (bAt s i) ∨ 20 < i) (hb : ∀ m, isInt m → L s = Lib.itoa m → s.size ≤ 20) : BackP s (.tup [.int 0, .bool false]) :=
  ⟨0, false, rfl, fun h => (by cases h), fun m hm hs => by
    exfalso
    rcases h with h | h
    · exact h (itoa_digits hs hi hf)
    · have := hb m hm hs
      omega⟩
theorem itoa_size {s : ByteArray} {m : Int} (hm : isInt m) (h : L s = Lib.itoa m) : s.size ≤ 20 := by
  rw [← L_len, h]
  exact itoa_length hm
attribute [local irreducible] worth intW IntKind.wrap
theorem wr_zero : (0 : Int) = wr (0 - worth []) := by
  have : worth [] = 0 := by unfold worth; rfl
  rw [this, wr_in (by unfold isInt; omega)]
  rfl
set_option maxHeartbeats 4000000 in
set_option maxRecDepth 20000 in
theorem back_any (s : ByteArray) (hs : s.size ≤ 1000) : PureC 94 [.str s] (BackP s) := by
  have hsz : s.size = (L s).length := (L_len s).symm
  have hs1 : (⟨#[59]⟩ : ByteArray).size = 1 := rfl
  have hw0 := wr_zero
  by_cases hz : 0 < s.size
  · have h1 : decide ((0 : Int) < (s.size : Int)) = true := decide_eq_true (by omega)
    by_cases hm : bAt s 0 = 45
    · have h2 : decide (((bAt s 0).toNat : Int) = 45) = true := by rw [hm]; rfl
      have hF : fromV s = 1 := by unfold fromV; rw [if_pos ⟨hz, hm⟩]
      refine pure_enter Tryz.func94 rfl (by decide) _ Tryz.ntmps94 (le_ok rfl) (fun w Pr hE => ?_)
      dsimp only [slotsOf, Nat.zero_add, Nat.reduceAdd]
      repeat' (first | refine nx ?_ | (apply aq_block_y; decide) | (apply qr_move; refine r_move ?_) | (apply qr_assign; refine r_assign ?_) | (apply at_cond; first | refine c_t ?_ | refine c_f ?_ | (refine aw_cond rfl (fun hb => ?_) (fun hb => ?_) <;> ((try have hq := dX hb); (try (exfalso; omega))))) | (apply at_guard; first | refine g_go ?_ | refine g_nt ?_ | refine g_nf ?_ | refine g_nu ?_ | ((first | refine al_split_t rfl rfl (lt_ok rfl) (fun hb => ?_) (fun hb => ?_) | refine al_split_f rfl rfl (lt_ok rfl) (fun hb => ?_) (fun hb => ?_)) <;> ((try have hq := dX hb); (try (exfalso; omega))))) | (apply qr_pick; refine r_pick ?_) | (apply qr_lss; refine r_lss ?_) | (apply qr_gtr; refine r_gtr ?_) | (apply qr_eql; refine r_eql ?_) | (apply qr_add; refine r_add ?_) | (apply qr_sub; refine r_sub ?_) | (apply qr_mul; refine r_mul ?_) | (apply qr_conv; refine r_conv ?_) | (apply qr_len; refine r_len ?_) | (apply qr_index; refine r_index ?_))
      refine aw_lp (fun N sl ob => ∃ (i : Nat) (n : Int), N = s.size - i ∧ 1 ≤ i ∧ i ≤ s.size ∧ n = wr (0 - worth (((L s).drop 1).take (i - 1))) ∧ sl = [(6, .d (.int i)), (5, .d (.int n)), (4, .d (.int (1 : Nat))), (0, .d (.str s))] ∧ ob = []) (⟨1, 0, rfl, Nat.le_refl _, by omega, by rw [Nat.sub_self, List.take_zero]; exact hw0, rfl, rfl⟩) ?_
      rintro N sl ob ⟨i, n, rfl, hi1, hi2, hn, rfl, rfl⟩
      by_cases hlt : i < s.size
      · have hbt := (bAt s i).toNat_lt
        by_cases hd1 : (bAt s i).toNat < 48
        · have h1 : decide (((bAt s i).toNat : Int) < 48) = true := decide_eq_true (by omega)
          repeat' (first | refine nx ?_ | (apply aq_block_y; decide) | (apply qr_move; refine r_move ?_) | (apply qr_assign; refine r_assign ?_) | (apply at_cond; first | refine c_t ?_ | refine c_f ?_ | (refine aw_cond rfl (fun hb => ?_) (fun hb => ?_) <;> ((try have hq := dX hb); (try (exfalso; omega))))) | (apply at_guard; first | refine g_go ?_ | refine g_nt ?_ | refine g_nf ?_ | refine g_nu ?_ | ((first | refine al_split_t rfl rfl (lt_ok rfl) (fun hb => ?_) (fun hb => ?_) | refine al_split_f rfl rfl (lt_ok rfl) (fun hb => ?_) (fun hb => ?_)) <;> ((try have hq := dX hb); (try (exfalso; omega))))) | (apply qr_pick; refine r_pick ?_) | (apply qr_lss; refine r_lss ?_) | (apply qr_gtr; refine r_gtr ?_) | (apply qr_eql; refine r_eql ?_) | (apply qr_add; refine r_add ?_) | (apply qr_sub; refine r_sub ?_) | (apply qr_mul; refine r_mul ?_) | (apply qr_conv; refine r_conv ?_) | (apply qr_len; refine r_len ?_) | (apply qr_index; refine r_index ?_))
          refine ret_two (by rfl) (by first | exact ToD.d _ | exact ToD.row _ _ _ _ _ rfl) (by first | exact ToD.d _ | exact ToD.row _ _ _ _ _ rfl) ?_
          exact back_not hlt (by omega) (.inl fun h => by have := h.1; omega) fun m => itoa_size
        · have h1 : decide (((bAt s i).toNat : Int) < 48) = false := decide_eq_false (by omega)
          by_cases hd2 : 57 < (bAt s i).toNat
          · have h2 : decide ((57 : Int) < ((bAt s i).toNat : Int)) = true := decide_eq_true (by omega)
            repeat' (first | refine nx ?_ | (apply aq_block_y; decide) | (apply qr_move; refine r_move ?_) | (apply qr_assign; refine r_assign ?_) | (apply at_cond; first | refine c_t ?_ | refine c_f ?_ | (refine aw_cond rfl (fun hb => ?_) (fun hb => ?_) <;> ((try have hq := dX hb); (try (exfalso; omega))))) | (apply at_guard; first | refine g_go ?_ | refine g_nt ?_ | refine g_nf ?_ | refine g_nu ?_ | ((first | refine al_split_t rfl rfl (lt_ok rfl) (fun hb => ?_) (fun hb => ?_) | refine al_split_f rfl rfl (lt_ok rfl) (fun hb => ?_) (fun hb => ?_)) <;> ((try have hq := dX hb); (try (exfalso; omega))))) | (apply qr_pick; refine r_pick ?_) | (apply qr_lss; refine r_lss ?_) | (apply qr_gtr; refine r_gtr ?_) | (apply qr_eql; refine r_eql ?_) | (apply qr_add; refine r_add ?_) | (apply qr_sub; refine r_sub ?_) | (apply qr_mul; refine r_mul ?_) | (apply qr_conv; refine r_conv ?_) | (apply qr_len; refine r_len ?_) | (apply qr_index; refine r_index ?_))
            refine ret_two (by rfl) (by first | exact ToD.d _ | exact ToD.row _ _ _ _ _ rfl) (by first | exact ToD.d _ | exact ToD.row _ _ _ _ _ rfl) ?_
            exact back_not hlt (by omega) (.inl fun h => by have := h.2; omega) fun m => itoa_size
          · have h2 : decide ((57 : Int) < ((bAt s i).toNat : Int)) = false := decide_eq_false (by omega)
            by_cases hd3 : 20 < i
            · have h3 : decide ((20 : Int) < (i : Int)) = true := decide_eq_true (by omega)
              repeat' (first | refine nx ?_ | (apply aq_block_y; decide) | (apply qr_move; refine r_move ?_) | (apply qr_assign; refine r_assign ?_) | (apply at_cond; first | refine c_t ?_ | refine c_f ?_ | (refine aw_cond rfl (fun hb => ?_) (fun hb => ?_) <;> ((try have hq := dX hb); (try (exfalso; omega))))) | (apply at_guard; first | refine g_go ?_ | refine g_nt ?_ | refine g_nf ?_ | refine g_nu ?_ | ((first | refine al_split_t rfl rfl (lt_ok rfl) (fun hb => ?_) (fun hb => ?_) | refine al_split_f rfl rfl (lt_ok rfl) (fun hb => ?_) (fun hb => ?_)) <;> ((try have hq := dX hb); (try (exfalso; omega))))) | (apply qr_pick; refine r_pick ?_) | (apply qr_lss; refine r_lss ?_) | (apply qr_gtr; refine r_gtr ?_) | (apply qr_eql; refine r_eql ?_) | (apply qr_add; refine r_add ?_) | (apply qr_sub; refine r_sub ?_) | (apply qr_mul; refine r_mul ?_) | (apply qr_conv; refine r_conv ?_) | (apply qr_len; refine r_len ?_) | (apply qr_index; refine r_index ?_))
              refine ret_two (by rfl) (by first | exact ToD.d _ | exact ToD.row _ _ _ _ _ rfl) (by first | exact ToD.d _ | exact ToD.row _ _ _ _ _ rfl) ?_
              exact back_not hlt (by omega) (.inr hd3) fun m => itoa_size
            · have h3 : decide ((20 : Int) < (i : Int)) = false := decide_eq_false (by omega)
              have hnx : wr (wr (10 * n) - (((bAt s i).toNat : Int) - 48)) = wr (0 - worth (((L s).drop 1).take (i + 1 - 1))) := by
                rw [take_step (by omega) hi1, worth_app, hn, wr_step, bAt_get (by omega)]
              repeat' (first | (apply at_op (.binOp .mul _ _ _ _); refine al_y (y_mulw rfl rfl) (lt_ok rfl) ?_) | (apply at_op (.binOp .sub _ _ _ _); first | refine al_y (y_sub8 rfl rfl (by omega)) (lt_ok rfl) ?_ | refine al_y (y_subw rfl rfl) (lt_ok rfl) ?_) | refine nx ?_ | (apply aq_block_y; decide) | (apply qr_move; refine r_move ?_) | (apply qr_assign; refine r_assign ?_) | (apply at_cond; first | refine c_t ?_ | refine c_f ?_ | (refine aw_cond rfl (fun hb => ?_) (fun hb => ?_) <;> ((try have hq := dX hb); (try (exfalso; omega))))) | (apply at_guard; first | refine g_go ?_ | refine g_nt ?_ | refine g_nf ?_ | refine g_nu ?_ | ((first | refine al_split_t rfl rfl (lt_ok rfl) (fun hb => ?_) (fun hb => ?_) | refine al_split_f rfl rfl (lt_ok rfl) (fun hb => ?_) (fun hb => ?_)) <;> ((try have hq := dX hb); (try (exfalso; omega))))) | (apply qr_pick; refine r_pick ?_) | (apply qr_lss; refine r_lss ?_) | (apply qr_gtr; refine r_gtr ?_) | (apply qr_eql; refine r_eql ?_) | (apply qr_add; refine r_add ?_) | (apply qr_sub; refine r_sub ?_) | (apply qr_mul; refine r_mul ?_) | (apply qr_conv; refine r_conv ?_) | (apply qr_len; refine r_len ?_) | (apply qr_index; refine r_index ?_))
              refine aq_rd (⟨i + 1, _, rfl, by omega, by omega, hnx, rfl, rfl⟩) (by omega)
      · have hi3 : i = s.size := by omega
        have htk : ((L s).drop 1).take (i - 1) = (L s).drop 1 := List.take_of_length_le (by rw [List.length_drop]; omega)
        rw [htk] at hn
        have hii : isInt (n) := by rw [hn]; exact wr_is _
        repeat' (first | (apply at_op (.unOp .neg _ _); refine al_y (y_negw rfl) (lt_ok rfl) ?_) | (apply at_call; refine k_call (rint_any (n) hii) hE ?_; rintro _ rfl) | refine nx ?_ | (apply aq_block_y; decide) | (apply qr_move; refine r_move ?_) | (apply qr_assign; refine r_assign ?_) | (apply at_cond; first | refine c_t ?_ | refine c_f ?_ | (refine aw_cond rfl (fun hb => ?_) (fun hb => ?_) <;> ((try have hq := dX hb); (try (exfalso; omega))))) | (apply at_guard; first | refine g_go ?_ | refine g_nt ?_ | refine g_nf ?_ | refine g_nu ?_ | ((first | refine al_split_t rfl rfl (lt_ok rfl) (fun hb => ?_) (fun hb => ?_) | refine al_split_f rfl rfl (lt_ok rfl) (fun hb => ?_) (fun hb => ?_)) <;> ((try have hq := dX hb); (try (exfalso; omega))))) | (apply qr_pick; refine r_pick ?_) | (apply qr_lss; refine r_lss ?_) | (apply qr_gtr; refine r_gtr ?_) | (apply qr_eql; refine r_eql ?_) | (apply qr_add; refine r_add ?_) | (apply qr_sub; refine r_sub ?_) | (apply qr_mul; refine r_mul ?_) | (apply qr_conv; refine r_conv ?_) | (apply qr_len; refine r_len ?_) | (apply qr_index; refine r_index ?_))
        refine ret_two (by rfl) (by first | exact ToD.d _ | exact ToD.row _ _ _ _ _ rfl) (by first | exact ToD.d _ | exact ToD.row _ _ _ _ _ rfl) ?_
        exact back_end (by rw [hF]; exact hn)
    · have h2 : decide (((bAt s 0).toNat : Int) = 45) = false := decide_eq_false fun h => hm (by
        have h3 : (bAt s 0).toNat = 45 := by omega
        exact UInt8.toNat_inj.1 h3)
      have hF : fromV s = 0 := by unfold fromV; rw [if_neg fun h => hm h.2]
      refine pure_enter Tryz.func94 rfl (by decide) _ Tryz.ntmps94 (le_ok rfl) (fun w Pr hE => ?_)
      dsimp only [slotsOf, Nat.zero_add, Nat.reduceAdd]
      repeat' (first | refine nx ?_ | (apply aq_block_y; decide) | (apply qr_move; refine r_move ?_) | (apply qr_assign; refine r_assign ?_) | (apply at_cond; first | refine c_t ?_ | refine c_f ?_ | (refine aw_cond rfl (fun hb => ?_) (fun hb => ?_) <;> ((try have hq := dX hb); (try (exfalso; omega))))) | (apply at_guard; first | refine g_go ?_ | refine g_nt ?_ | refine g_nf ?_ | refine g_nu ?_ | ((first | refine al_split_t rfl rfl (lt_ok rfl) (fun hb => ?_) (fun hb => ?_) | refine al_split_f rfl rfl (lt_ok rfl) (fun hb => ?_) (fun hb => ?_)) <;> ((try have hq := dX hb); (try (exfalso; omega))))) | (apply qr_pick; refine r_pick ?_) | (apply qr_lss; refine r_lss ?_) | (apply qr_gtr; refine r_gtr ?_) | (apply qr_eql; refine r_eql ?_) | (apply qr_add; refine r_add ?_) | (apply qr_sub; refine r_sub ?_) | (apply qr_mul; refine r_mul ?_) | (apply qr_conv; refine r_conv ?_) | (apply qr_len; refine r_len ?_) | (apply qr_index; refine r_index ?_))
      refine aw_lp (fun N sl ob => ∃ (i : Nat) (n : Int), N = s.size - i ∧ 0 ≤ i ∧ i ≤ s.size ∧ n = wr (0 - worth (((L s).drop 0).take (i - 0))) ∧ sl = [(6, .d (.int i)), (5, .d (.int n)), (4, .d (.int (0 : Nat))), (0, .d (.str s))] ∧ ob = []) (⟨0, 0, rfl, Nat.le_refl _, by omega, by rw [Nat.sub_self, List.take_zero]; exact hw0, rfl, rfl⟩) ?_
      rintro N sl ob ⟨i, n, rfl, hi1, hi2, hn, rfl, rfl⟩
      by_cases hlt : i < s.size
      · have hbt := (bAt s i).toNat_lt
        by_cases hd1 : (bAt s i).toNat < 48
        · have h1 : decide (((bAt s i).toNat : Int) < 48) = true := decide_eq_true (by omega)
          repeat' (first | refine nx ?_ | (apply aq_block_y; decide) | (apply qr_move; refine r_move ?_) | (apply qr_assign; refine r_assign ?_) | (apply at_cond; first | refine c_t ?_ | refine c_f ?_ | (refine aw_cond rfl (fun hb => ?_) (fun hb => ?_) <;> ((try have hq := dX hb); (try (exfalso; omega))))) | (apply at_guard; first | refine g_go ?_ | refine g_nt ?_ | refine g_nf ?_ | refine g_nu ?_ | ((first | refine al_split_t rfl rfl (lt_ok rfl) (fun hb => ?_) (fun hb => ?_) | refine al_split_f rfl rfl (lt_ok rfl) (fun hb => ?_) (fun hb => ?_)) <;> ((try have hq := dX hb); (try (exfalso; omega))))) | (apply qr_pick; refine r_pick ?_) | (apply qr_lss; refine r_lss ?_) | (apply qr_gtr; refine r_gtr ?_) | (apply qr_eql; refine r_eql ?_) | (apply qr_add; refine r_add ?_) | (apply qr_sub; refine r_sub ?_) | (apply qr_mul; refine r_mul ?_) | (apply qr_conv; refine r_conv ?_) | (apply qr_len; refine r_len ?_) | (apply qr_index; refine r_index ?_))
          refine ret_two (by rfl) (by first | exact ToD.d _ | exact ToD.row _ _ _ _ _ rfl) (by first | exact ToD.d _ | exact ToD.row _ _ _ _ _ rfl) ?_
          exact back_not hlt (by omega) (.inl fun h => by have := h.1; omega) fun m => itoa_size
        · have h1 : decide (((bAt s i).toNat : Int) < 48) = false := decide_eq_false (by omega)
          by_cases hd2 : 57 < (bAt s i).toNat
          · have h2 : decide ((57 : Int) < ((bAt s i).toNat : Int)) = true := decide_eq_true (by omega)
            repeat' (first | refine nx ?_ | (apply aq_block_y; decide) | (apply qr_move; refine r_move ?_) | (apply qr_assign; refine r_assign ?_) | (apply at_cond; first | refine c_t ?_ | refine c_f ?_ | (refine aw_cond rfl (fun hb => ?_) (fun hb => ?_) <;> ((try have hq := dX hb); (try (exfalso; omega))))) | (apply at_guard; first | refine g_go ?_ | refine g_nt ?_ | refine g_nf ?_ | refine g_nu ?_ | ((first | refine al_split_t rfl rfl (lt_ok rfl) (fun hb => ?_) (fun hb => ?_) | refine al_split_f rfl rfl (lt_ok rfl) (fun hb => ?_) (fun hb => ?_)) <;> ((try have hq := dX hb); (try (exfalso; omega))))) | (apply qr_pick; refine r_pick ?_) | (apply qr_lss; refine r_lss ?_) | (apply qr_gtr; refine r_gtr ?_) | (apply qr_eql; refine r_eql ?_) | (apply qr_add; refine r_add ?_) | (apply qr_sub; refine r_sub ?_) | (apply qr_mul; refine r_mul ?_) | (apply qr_conv; refine r_conv ?_) | (apply qr_len; refine r_len ?_) | (apply qr_index; refine r_index ?_))
            refine ret_two (by rfl) (by first | exact ToD.d _ | exact ToD.row _ _ _ _ _ rfl) (by first | exact ToD.d _ | exact ToD.row _ _ _ _ _ rfl) ?_
            exact back_not hlt (by omega) (.inl fun h => by have := h.2; omega) fun m => itoa_size
          · have h2 : decide ((57 : Int) < ((bAt s i).toNat : Int)) = false := decide_eq_false (by omega)
            by_cases hd3 : 20 < i
            · have h3 : decide ((20 : Int) < (i : Int)) = true := decide_eq_true (by omega)
              repeat' (first | refine nx ?_ | (apply aq_block_y; decide) | (apply qr_move; refine r_move ?_) | (apply qr_assign; refine r_assign ?_) | (apply at_cond; first | refine c_t ?_ | refine c_f ?_ | (refine aw_cond rfl (fun hb => ?_) (fun hb => ?_) <;> ((try have hq := dX hb); (try (exfalso; omega))))) | (apply at_guard; first | refine g_go ?_ | refine g_nt ?_ | refine g_nf ?_ | refine g_nu ?_ | ((first | refine al_split_t rfl rfl (lt_ok rfl) (fun hb => ?_) (fun hb => ?_) | refine al_split_f rfl rfl (lt_ok rfl) (fun hb => ?_) (fun hb => ?_)) <;> ((try have hq := dX hb); (try (exfalso; omega))))) | (apply qr_pick; refine r_pick ?_) | (apply qr_lss; refine r_lss ?_) | (apply qr_gtr; refine r_gtr ?_) | (apply qr_eql; refine r_eql ?_) | (apply qr_add; refine r_add ?_) | (apply qr_sub; refine r_sub ?_) | (apply qr_mul; refine r_mul ?_) | (apply qr_conv; refine r_conv ?_) | (apply qr_len; refine r_len ?_) | (apply qr_index; refine r_index ?_))
              refine ret_two (by rfl) (by first | exact ToD.d _ | exact ToD.row _ _ _ _ _ rfl) (by first | exact ToD.d _ | exact ToD.row _ _ _ _ _ rfl) ?_
              exact back_not hlt (by omega) (.inr hd3) fun m => itoa_size
            · have h3 : decide ((20 : Int) < (i : Int)) = false := decide_eq_false (by omega)
              have hnx : wr (wr (10 * n) - (((bAt s i).toNat : Int) - 48)) = wr (0 - worth (((L s).drop 0).take (i + 1 - 0))) := by
                rw [take_step (by omega) hi1, worth_app, hn, wr_step, bAt_get (by omega)]
              repeat' (first | (apply at_op (.binOp .mul _ _ _ _); refine al_y (y_mulw rfl rfl) (lt_ok rfl) ?_) | (apply at_op (.binOp .sub _ _ _ _); first | refine al_y (y_sub8 rfl rfl (by omega)) (lt_ok rfl) ?_ | refine al_y (y_subw rfl rfl) (lt_ok rfl) ?_) | refine nx ?_ | (apply aq_block_y; decide) | (apply qr_move; refine r_move ?_) | (apply qr_assign; refine r_assign ?_) | (apply at_cond; first | refine c_t ?_ | refine c_f ?_ | (refine aw_cond rfl (fun hb => ?_) (fun hb => ?_) <;> ((try have hq := dX hb); (try (exfalso; omega))))) | (apply at_guard; first | refine g_go ?_ | refine g_nt ?_ | refine g_nf ?_ | refine g_nu ?_ | ((first | refine al_split_t rfl rfl (lt_ok rfl) (fun hb => ?_) (fun hb => ?_) | refine al_split_f rfl rfl (lt_ok rfl) (fun hb => ?_) (fun hb => ?_)) <;> ((try have hq := dX hb); (try (exfalso; omega))))) | (apply qr_pick; refine r_pick ?_) | (apply qr_lss; refine r_lss ?_) | (apply qr_gtr; refine r_gtr ?_) | (apply qr_eql; refine r_eql ?_) | (apply qr_add; refine r_add ?_) | (apply qr_sub; refine r_sub ?_) | (apply qr_mul; refine r_mul ?_) | (apply qr_conv; refine r_conv ?_) | (apply qr_len; refine r_len ?_) | (apply qr_index; refine r_index ?_))
              refine aq_rd (⟨i + 1, _, rfl, by omega, by omega, hnx, rfl, rfl⟩) (by omega)
      · have hi3 : i = s.size := by omega
        have htk : ((L s).drop 0).take (i - 0) = (L s).drop 0 := List.take_of_length_le (by rw [List.length_drop]; omega)
        rw [htk] at hn
        have hii : isInt (wr (0 - n)) := wr_is _
        repeat' (first | (apply at_op (.unOp .neg _ _); refine al_y (y_negw rfl) (lt_ok rfl) ?_) | (apply at_call; refine k_call (rint_any (wr (0 - n)) hii) hE ?_; rintro _ rfl) | refine nx ?_ | (apply aq_block_y; decide) | (apply qr_move; refine r_move ?_) | (apply qr_assign; refine r_assign ?_) | (apply at_cond; first | refine c_t ?_ | refine c_f ?_ | (refine aw_cond rfl (fun hb => ?_) (fun hb => ?_) <;> ((try have hq := dX hb); (try (exfalso; omega))))) | (apply at_guard; first | refine g_go ?_ | refine g_nt ?_ | refine g_nf ?_ | refine g_nu ?_ | ((first | refine al_split_t rfl rfl (lt_ok rfl) (fun hb => ?_) (fun hb => ?_) | refine al_split_f rfl rfl (lt_ok rfl) (fun hb => ?_) (fun hb => ?_)) <;> ((try have hq := dX hb); (try (exfalso; omega))))) | (apply qr_pick; refine r_pick ?_) | (apply qr_lss; refine r_lss ?_) | (apply qr_gtr; refine r_gtr ?_) | (apply qr_eql; refine r_eql ?_) | (apply qr_add; refine r_add ?_) | (apply qr_sub; refine r_sub ?_) | (apply qr_mul; refine r_mul ?_) | (apply qr_conv; refine r_conv ?_) | (apply qr_len; refine r_len ?_) | (apply qr_index; refine r_index ?_))
        refine ret_two (by rfl) (by first | exact ToD.d _ | exact ToD.row _ _ _ _ _ rfl) (by first | exact ToD.d _ | exact ToD.row _ _ _ _ _ rfl) ?_
        exact back_end (by rw [hF, hn]; exact wr_neg _)
  · have h1 : decide ((0 : Int) < (s.size : Int)) = false := decide_eq_false (by omega)
    have hF : fromV s = 0 := by unfold fromV; rw [if_neg fun h => hz h.1]
    refine pure_enter Tryz.func94 rfl (by decide) _ Tryz.ntmps94 (le_ok rfl) (fun w Pr hE => ?_)
    dsimp only [slotsOf, Nat.zero_add, Nat.reduceAdd]
    repeat' (first | refine nx ?_ | (apply aq_block_y; decide) | (apply qr_move; refine r_move ?_) | (apply qr_assign; refine r_assign ?_) | (apply at_cond; first | refine c_t ?_ | refine c_f ?_ | (refine aw_cond rfl (fun hb => ?_) (fun hb => ?_) <;> ((try have hq := dX hb); (try (exfalso; omega))))) | (apply at_guard; first | refine g_go ?_ | refine g_nt ?_ | refine g_nf ?_ | refine g_nu ?_ | ((first | refine al_split_t rfl rfl (lt_ok rfl) (fun hb => ?_) (fun hb => ?_) | refine al_split_f rfl rfl (lt_ok rfl) (fun hb => ?_) (fun hb => ?_)) <;> ((try have hq := dX hb); (try (exfalso; omega))))) | (apply qr_pick; refine r_pick ?_) | (apply qr_lss; refine r_lss ?_) | (apply qr_gtr; refine r_gtr ?_) | (apply qr_eql; refine r_eql ?_) | (apply qr_add; refine r_add ?_) | (apply qr_sub; refine r_sub ?_) | (apply qr_mul; refine r_mul ?_) | (apply qr_conv; refine r_conv ?_) | (apply qr_len; refine r_len ?_) | (apply qr_index; refine r_index ?_))
    have hnil : L s = [] := List.eq_nil_of_length_eq_zero (by omega)
    refine aw_lp (fun N sl ob => ∃ n : Int, N = 0 ∧ n = wr (0 - worth []) ∧ sl = [(6, .d (.int (0 : Nat))), (5, .d (.int n)), (4, .d (.int (0 : Nat))), (0, .d (.str s))] ∧ ob = []) (⟨0, rfl, hw0, rfl, rfl⟩) ?_
    rintro N sl ob ⟨n, rfl, hn, rfl, rfl⟩
    have hii : isInt (wr (0 - n)) := wr_is _
    have hb0 : decide ((((0 : Nat) : Int)) < (s.size : Int)) = false := decide_eq_false (by omega)
    repeat' (first | (apply at_op (.unOp .neg _ _); refine al_y (y_negw rfl) (lt_ok rfl) ?_) | (apply at_call; refine k_call (rint_any (wr (0 - n)) hii) hE ?_; rintro _ rfl) | refine nx ?_ | (apply aq_block_y; decide) | (apply qr_move; refine r_move ?_) | (apply qr_assign; refine r_assign ?_) | (apply at_cond; first | refine c_t ?_ | refine c_f ?_ | (refine aw_cond rfl (fun hb => ?_) (fun hb => ?_) <;> ((try have hq := dX hb); (try (exfalso; omega))))) | (apply at_guard; first | refine g_go ?_ | refine g_nt ?_ | refine g_nf ?_ | refine g_nu ?_ | ((first | refine al_split_t rfl rfl (lt_ok rfl) (fun hb => ?_) (fun hb => ?_) | refine al_split_f rfl rfl (lt_ok rfl) (fun hb => ?_) (fun hb => ?_)) <;> ((try have hq := dX hb); (try (exfalso; omega))))) | (apply qr_pick; refine r_pick ?_) | (apply qr_lss; refine r_lss ?_) | (apply qr_gtr; refine r_gtr ?_) | (apply qr_eql; refine r_eql ?_) | (apply qr_add; refine r_add ?_) | (apply qr_sub; refine r_sub ?_) | (apply qr_mul; refine r_mul ?_) | (apply qr_conv; refine r_conv ?_) | (apply qr_len; refine r_len ?_) | (apply qr_index; refine r_index ?_))
    refine ret_two (by rfl) (by first | exact ToD.d _ | exact ToD.row _ _ _ _ _ rfl) (by first | exact ToD.d _ | exact ToD.row _ _ _ _ _ rfl) ?_
    exact back_end (by rw [hF, hn, hnil]; exact wr_neg _)
end Go.Proofs.YtfgibalcdjlnhaaGreatDoor
end
section
set_option linter.unusedSimpArgs false
set_option linter.unusedVariables false
namespace Go.Proofs.YtfgibalcdjlnhaaGreatDoor
open Go.RowKit


theorem first_not {r : ByteArray} {c : UInt8} {n : Int} {t : List UInt8} (hc : Sep c) (h : L r = Lib.itoa n ++ c :: t) : bAt r (Lib.itoa n).length = c ∧ (Lib.itoa n).length < r.size ∧ ∀ j, j < (Lib.itoa n).length → bAt r j ≠ c := by
  have hsz : r.size = (L r).length := (L_len r).symm
  have hl : (L r).length = (Lib.itoa n).length + 1 + t.length := by rw [h]; simp; omega
  refine ⟨?_, by omega, fun j hj => ?_⟩
  · rw [bAt_get (by omega)]
    simp [h]
  · rw [bAt_get (by omega)]
    intro e
    refine sep_not hc (n := n) ?_
    rw [← e]
    have : (L r)[j]'(by omega) = (Lib.itoa n)[j] := by
      simp only [h]
      rw [List.getElem_append_left hj]
    rw [this]
    exact List.getElem_mem _
theorem ahead_no {r : ByteArray} {b : Bool} {c : UInt8} (hc : Sep c) (h : ∀ n t, isInt n → L r = Lib.itoa n ++ c :: t → False) : numS r b c (-9223372036854775808) = ⟨0, emp, true⟩ := by
  rcases numS_to (r := r) (b := b) (c := c) (least := -9223372036854775808) with ⟨n, q, _, h2, h3, _⟩ | h1
  · exact (h n _ h3 h2).elim
  · exact h1
theorem ahead_yes {r : ByteArray} {b : Bool} {c : UInt8} {k : Nat} {n : Int} (hc : Sep c) (hk : k < r.size) (hb : bAt r k = c) (hn : isInt n) (h : L (r.extract 0 k) = Lib.itoa n) : numS r b c (-9223372036854775808) = ⟨n, r.extract (k + 1) r.size, b⟩ := by
  have hsz : r.size = (L r).length := (L_len r).symm
  have h1 : L (r.extract 0 k) = (L r).take k := ext_list r k
  have h2 : L (r.extract (k + 1) r.size) = (L r).drop (k + 1) := ext_drop r (k + 1)
  have h3 : L r = Lib.itoa n ++ c :: (L r).drop (k + 1) := by
    rw [← h, h1, ← hb, bAt_get (by omega), ← List.drop_eq_getElem_cons, List.take_append_drop]
  rw [numS_of hc h3 hn hn.1]
  congr 1
  exact ba_ext h2.symm
theorem ahead_cut {r : ByteArray} {c : UInt8} {k : Nat} {n : Int} {t : List UInt8} (hc : Sep c) (hb : bAt r k = c) (hne : ∀ j, j < k → bAt r j ≠ c) (h : L r = Lib.itoa n ++ c :: t) : L (r.extract 0 k) = Lib.itoa n := by
  obtain ⟨h1, h2, h3⟩ := first_not hc h
  have hk : k = (Lib.itoa n).length := by
    rcases Nat.lt_trichotomy k (Lib.itoa n).length with h4 | h4 | h4
    · exact absurd hb (h3 k h4)
    · exact h4
    · exact absurd h1 (hne _ h4)
  have h5 : L (r.extract 0 k) = (L r).take k := ext_list r k
  rw [h5, h, hk, List.take_left]
attribute [local irreducible] numS
set_option maxHeartbeats 4000000 in
set_option maxRecDepth 20000 in
theorem ahead_any (r : ByteArray) (b : Bool) (c : UInt8) (hr : r.size ≤ 1000000000) (hc : Sep c) : ObC 88 [.box 1000 0, .d (.val (.int .u8 c.toNat))] (rr r b) [] (fun x o => x = .d (.int (numS r b c (-9223372036854775808)).v) ∧ o = rr (numS r b c (-9223372036854775808)).r (numS r b c (-9223372036854775808)).b) := by
  refine ob_enter Tryz.func88 rfl (by decide) _ Tryz.ntmps88 (le_ok rfl) rfl (fun w Pr β κ hE => ?_)
  dsimp only [slotsV, Nat.zero_add, Nat.reduceAdd]
  repeat' (first | refine nx ?_ | (apply aq_block_y; decide) | (apply qr_move; refine r_move ?_) | (apply qr_assign; refine r_assign ?_) | (apply at_cond; first | refine c_t ?_ | refine c_f ?_ | (refine aw_cond rfl (fun hb => ?_) (fun hb => ?_) <;> ((try have hq := dX hb); (try (exfalso; omega))))) | (apply at_guard; first | refine g_go ?_ | refine g_nt ?_ | refine g_nf ?_ | refine g_nu ?_ | ((first | refine al_split_t rfl rfl (lt_ok rfl) (fun hb => ?_) (fun hb => ?_) | refine al_split_f rfl rfl (lt_ok rfl) (fun hb => ?_) (fun hb => ?_)) <;> ((try have hq := dX hb); (try (exfalso; omega))))) | (apply qr_pick; refine r_pick ?_) | (apply qr_lss; refine r_lss ?_) | (apply qr_geq; refine r_geq ?_) | (apply qr_neq; refine r_neq ?_) | (apply qr_add; refine r_add ?_) | (apply qr_not; refine r_not ?_) | (apply qr_len; refine r_len ?_) | (apply qr_index; refine r_index ?_) | (apply qr_extract; refine r_extract ?_) | (apply qr_slice; refine r_slice ?_) | (apply qr_load; refine r_load ?_) | (apply qr_faddr; refine r_faddr ?_) | (apply qr_nilck; refine r_nilck ?_) | (apply qr_store; refine r_store ?_))
  refine aw_lp (fun N sl ob => ∃ k : Nat, N = r.size - k ∧ k ≤ r.size ∧ k ≤ 21 ∧ (∀ j, j < k → bAt r j ≠ c) ∧ sl = [(5, .d (.int k)), (0, .box 1000 0), (1, .d (.val (.int .u8 c.toNat)))] ∧ ob = [(1000, .box 94 [.d (.str r), .d (.bool b)])]) (⟨0, rfl, Nat.zero_le _, by omega, fun j hj => by omega, rfl, rfl⟩) ?_
  rintro N sl ob ⟨k, rfl, hk1, hk2, hne, rfl, rfl⟩
  have hbc : ∀ i : Nat, bAt r i = c ↔ ((bAt r i).toNat : Int) = (c.toNat : Int) := fun i => ⟨fun h => by rw [h], fun h => UInt8.toNat_inj.1 (by omega)⟩
  by_cases h1 : k < r.size
  · have f1 : decide ((k : Int) < (r.size : Int)) = true := decide_eq_true (by omega)
    have g1 : decide ((r.size : Int) ≤ (k : Int)) = false := decide_eq_false (by omega)
    by_cases hcc : bAt r k = c
    · have f2 : (!decide (((bAt r k).toNat : Int) = (c.toNat : Int))) = false := by rw [hcc]; simp
      have hbk := back_any (r.extract 0 k) (by simp; omega)
      have hno : ∀ n ok, (∀ m, isInt m → L (r.extract 0 k) = Lib.itoa m → n = m ∧ ok = true) → ok = false → numS r b c (-9223372036854775808) = ⟨0, emp, true⟩ := fun n ok hm hok => ahead_no hc fun m t hmi h => by
        have := (hm m hmi (ahead_cut hc hcc hne h)).2
        rw [hok] at this
        cases this
      by_cases h2 : k < 21
      · have f3 : decide ((k : Int) < 21) = true := decide_eq_true (by omega)
        repeat' (first | (apply at_call; refine k_call (hbk) hE ?_; (rintro _ ⟨n, ok, rfl, hy, hm⟩; cases ok)) | (apply at_call; refine k_ocall [(1000, 1000)] (rfail_any _ _) hE ?_; rintro _ _ ⟨rfl, rfl⟩ <;> (intro _ _ h1 h2; simp only [renEqs, Nat.reduceBEq, renL_app, renL_ds, renL_und] at h1 h2; subst h1 h2)) | refine nx ?_ | (apply aq_block_y; decide) | (apply qr_move; refine r_move ?_) | (apply qr_assign; refine r_assign ?_) | (apply at_cond; first | refine c_t ?_ | refine c_f ?_ | (refine aw_cond rfl (fun hb => ?_) (fun hb => ?_) <;> ((try have hq := dX hb); (try (exfalso; omega))))) | (apply at_guard; first | refine g_go ?_ | refine g_nt ?_ | refine g_nf ?_ | refine g_nu ?_ | ((first | refine al_split_t rfl rfl (lt_ok rfl) (fun hb => ?_) (fun hb => ?_) | refine al_split_f rfl rfl (lt_ok rfl) (fun hb => ?_) (fun hb => ?_)) <;> ((try have hq := dX hb); (try (exfalso; omega))))) | (apply qr_pick; refine r_pick ?_) | (apply qr_lss; refine r_lss ?_) | (apply qr_geq; refine r_geq ?_) | (apply qr_neq; refine r_neq ?_) | (apply qr_add; refine r_add ?_) | (apply qr_not; refine r_not ?_) | (apply qr_len; refine r_len ?_) | (apply qr_index; refine r_index ?_) | (apply qr_extract; refine r_extract ?_) | (apply qr_slice; refine r_slice ?_) | (apply qr_load; refine r_load ?_) | (apply qr_faddr; refine r_faddr ?_) | (apply qr_nilck; refine r_nilck ?_) | (apply qr_store; refine r_store ?_))
        · have hA := hno n false hm rfl
          refine oret1 (rr emp true) (by rfl) rv (⟨by rw [hA], by rw [hA]⟩) sb okx
        · have hA := ahead_yes (b := b) hc h1 hcc (hy rfl).1 (hy rfl).2
          refine oret1 (rr (r.extract (k + 1) r.size) b) (by rfl) rv (⟨by rw [hA], by rw [hA]⟩) sb okx
      · have f3 : decide ((k : Int) < 21) = false := decide_eq_false (by omega)
        repeat' (first | (apply at_call; refine k_call (hbk) hE ?_; (rintro _ ⟨n, ok, rfl, hy, hm⟩; cases ok)) | (apply at_call; refine k_ocall [(1000, 1000)] (rfail_any _ _) hE ?_; rintro _ _ ⟨rfl, rfl⟩ <;> (intro _ _ h1 h2; simp only [renEqs, Nat.reduceBEq, renL_app, renL_ds, renL_und] at h1 h2; subst h1 h2)) | refine nx ?_ | (apply aq_block_y; decide) | (apply qr_move; refine r_move ?_) | (apply qr_assign; refine r_assign ?_) | (apply at_cond; first | refine c_t ?_ | refine c_f ?_ | (refine aw_cond rfl (fun hb => ?_) (fun hb => ?_) <;> ((try have hq := dX hb); (try (exfalso; omega))))) | (apply at_guard; first | refine g_go ?_ | refine g_nt ?_ | refine g_nf ?_ | refine g_nu ?_ | ((first | refine al_split_t rfl rfl (lt_ok rfl) (fun hb => ?_) (fun hb => ?_) | refine al_split_f rfl rfl (lt_ok rfl) (fun hb => ?_) (fun hb => ?_)) <;> ((try have hq := dX hb); (try (exfalso; omega))))) | (apply qr_pick; refine r_pick ?_) | (apply qr_lss; refine r_lss ?_) | (apply qr_geq; refine r_geq ?_) | (apply qr_neq; refine r_neq ?_) | (apply qr_add; refine r_add ?_) | (apply qr_not; refine r_not ?_) | (apply qr_len; refine r_len ?_) | (apply qr_index; refine r_index ?_) | (apply qr_extract; refine r_extract ?_) | (apply qr_slice; refine r_slice ?_) | (apply qr_load; refine r_load ?_) | (apply qr_faddr; refine r_faddr ?_) | (apply qr_nilck; refine r_nilck ?_) | (apply qr_store; refine r_store ?_))
        · have hA := hno n false hm rfl
          refine oret1 (rr emp true) (by rfl) rv (⟨by rw [hA], by rw [hA]⟩) sb okx
        · have hA := ahead_yes (b := b) hc h1 hcc (hy rfl).1 (hy rfl).2
          refine oret1 (rr (r.extract (k + 1) r.size) b) (by rfl) rv (⟨by rw [hA], by rw [hA]⟩) sb okx
    · have f2 : (!decide (((bAt r k).toNat : Int) = (c.toNat : Int))) = true := by
        rw [decide_eq_false fun h => hcc ((hbc k).2 h)]; rfl
      by_cases h2 : k < 21
      · have f3 : decide ((k : Int) < 21) = true := decide_eq_true (by omega)
        repeat' (first | refine nx ?_ | (apply aq_block_y; decide) | (apply qr_move; refine r_move ?_) | (apply qr_assign; refine r_assign ?_) | (apply at_cond; first | refine c_t ?_ | refine c_f ?_ | (refine aw_cond rfl (fun hb => ?_) (fun hb => ?_) <;> ((try have hq := dX hb); (try (exfalso; omega))))) | (apply at_guard; first | refine g_go ?_ | refine g_nt ?_ | refine g_nf ?_ | refine g_nu ?_ | ((first | refine al_split_t rfl rfl (lt_ok rfl) (fun hb => ?_) (fun hb => ?_) | refine al_split_f rfl rfl (lt_ok rfl) (fun hb => ?_) (fun hb => ?_)) <;> ((try have hq := dX hb); (try (exfalso; omega))))) | (apply qr_pick; refine r_pick ?_) | (apply qr_lss; refine r_lss ?_) | (apply qr_geq; refine r_geq ?_) | (apply qr_neq; refine r_neq ?_) | (apply qr_add; refine r_add ?_) | (apply qr_not; refine r_not ?_) | (apply qr_len; refine r_len ?_) | (apply qr_index; refine r_index ?_) | (apply qr_extract; refine r_extract ?_) | (apply qr_slice; refine r_slice ?_) | (apply qr_load; refine r_load ?_) | (apply qr_faddr; refine r_faddr ?_) | (apply qr_nilck; refine r_nilck ?_) | (apply qr_store; refine r_store ?_))
        refine aq_rd (⟨k + 1, rfl, by omega, by omega, fun j hj => (Nat.lt_succ_iff_lt_or_eq.1 hj).elim (hne j) (fun e => by rw [e]; exact hcc), rfl, rfl⟩) (by omega)
      · have f3 : decide ((k : Int) < 21) = false := decide_eq_false (by omega)
        have hA : numS r b c (-9223372036854775808) = ⟨0, emp, true⟩ := ahead_no hc fun m t hmi h => by
          obtain ⟨e1, e2, e3⟩ := first_not hc h
          have := itoa_length hmi
          exact hne _ (by omega) e1
        repeat' (first | (apply at_call; refine k_ocall [(1000, 1000)] (rfail_any _ _) hE ?_; rintro _ _ ⟨rfl, rfl⟩ <;> (intro _ _ h1 h2; simp only [renEqs, Nat.reduceBEq, renL_app, renL_ds, renL_und] at h1 h2; subst h1 h2)) | refine nx ?_ | (apply aq_block_y; decide) | (apply qr_move; refine r_move ?_) | (apply qr_assign; refine r_assign ?_) | (apply at_cond; first | refine c_t ?_ | refine c_f ?_ | (refine aw_cond rfl (fun hb => ?_) (fun hb => ?_) <;> ((try have hq := dX hb); (try (exfalso; omega))))) | (apply at_guard; first | refine g_go ?_ | refine g_nt ?_ | refine g_nf ?_ | refine g_nu ?_ | ((first | refine al_split_t rfl rfl (lt_ok rfl) (fun hb => ?_) (fun hb => ?_) | refine al_split_f rfl rfl (lt_ok rfl) (fun hb => ?_) (fun hb => ?_)) <;> ((try have hq := dX hb); (try (exfalso; omega))))) | (apply qr_pick; refine r_pick ?_) | (apply qr_lss; refine r_lss ?_) | (apply qr_geq; refine r_geq ?_) | (apply qr_neq; refine r_neq ?_) | (apply qr_add; refine r_add ?_) | (apply qr_not; refine r_not ?_) | (apply qr_len; refine r_len ?_) | (apply qr_index; refine r_index ?_) | (apply qr_extract; refine r_extract ?_) | (apply qr_slice; refine r_slice ?_) | (apply qr_load; refine r_load ?_) | (apply qr_faddr; refine r_faddr ?_) | (apply qr_nilck; refine r_nilck ?_) | (apply qr_store; refine r_store ?_))
        refine oret1 (rr emp true) (by rfl) rv (⟨by rw [hA], by rw [hA]⟩) sb okx
  · have f1 : decide ((k : Int) < (r.size : Int)) = false := decide_eq_false (by omega)
    have g1 : decide ((r.size : Int) ≤ (k : Int)) = true := decide_eq_true (by omega)
    have hA : numS r b c (-9223372036854775808) = ⟨0, emp, true⟩ := ahead_no hc fun m t hmi h => by
      obtain ⟨e1, e2, e3⟩ := first_not hc h
      exact hne _ (by omega) e1
    repeat' (first | (apply at_call; refine k_ocall [(1000, 1000)] (rfail_any _ _) hE ?_; rintro _ _ ⟨rfl, rfl⟩ <;> (intro _ _ h1 h2; simp only [renEqs, Nat.reduceBEq, renL_app, renL_ds, renL_und] at h1 h2; subst h1 h2)) | refine nx ?_ | (apply aq_block_y; decide) | (apply qr_move; refine r_move ?_) | (apply qr_assign; refine r_assign ?_) | (apply at_cond; first | refine c_t ?_ | refine c_f ?_ | (refine aw_cond rfl (fun hb => ?_) (fun hb => ?_) <;> ((try have hq := dX hb); (try (exfalso; omega))))) | (apply at_guard; first | refine g_go ?_ | refine g_nt ?_ | refine g_nf ?_ | refine g_nu ?_ | ((first | refine al_split_t rfl rfl (lt_ok rfl) (fun hb => ?_) (fun hb => ?_) | refine al_split_f rfl rfl (lt_ok rfl) (fun hb => ?_) (fun hb => ?_)) <;> ((try have hq := dX hb); (try (exfalso; omega))))) | (apply qr_pick; refine r_pick ?_) | (apply qr_lss; refine r_lss ?_) | (apply qr_geq; refine r_geq ?_) | (apply qr_neq; refine r_neq ?_) | (apply qr_add; refine r_add ?_) | (apply qr_not; refine r_not ?_) | (apply qr_len; refine r_len ?_) | (apply qr_index; refine r_index ?_) | (apply qr_extract; refine r_extract ?_) | (apply qr_slice; refine r_slice ?_) | (apply qr_load; refine r_load ?_) | (apply qr_faddr; refine r_faddr ?_) | (apply qr_nilck; refine r_nilck ?_) | (apply qr_store; refine r_store ?_))
    refine oret1 (rr emp true) (by rfl) rv (⟨by rw [hA], by rw [hA]⟩) sb okx
theorem numS_zero {r : ByteArray} {b : Bool} {c : UInt8} (hc : Sep c) : numS r b c 0 = if (numS r b c (-9223372036854775808)).v < 0 then ⟨0, emp, true⟩ else numS r b c (-9223372036854775808) := by
  rcases numS_to (r := r) (b := b) (c := c) (least := -9223372036854775808) with ⟨n, q, h1, h2, h3, h4⟩ | h1
  · rw [h1]
    split
    · rename_i hn
      have hn : n < 0 := hn
      rcases numS_to (r := r) (b := b) (c := c) (least := 0) with ⟨m, q', k1, k2, k3, k4⟩ | k1
      · exfalso
        have e1 := numS_of (b := b) (least := -9223372036854775808) hc k2 k3 (by unfold isInt at k3; omega)
        rw [h1] at e1
        injection e1 with e1
        omega
      · exact k1
    · rename_i hn
      have hn : ¬ n < 0 := hn
      have e1 := numS_of (b := b) (least := 0) hc h2 h3 (by omega)
      rw [e1]
  · rw [h1]
    rw [if_neg (by simp)]
    rcases numS_to (r := r) (b := b) (c := c) (least := 0) with ⟨m, q', k1, k2, k3, k4⟩ | k1
    · have e1 := numS_of (b := b) (least := -9223372036854775808) hc k2 k3 (by unfold isInt at k3; omega)
      rw [h1] at e1
      injection e1 with e1 e2 e3
      rw [B_L] at e2
      rw [k1, ← e1, ← e2, ← e3]
    · exact k1
theorem rnumber_any (r : ByteArray) (b : Bool) (c : UInt8) (hr : r.size ≤ 1000000000) (hc : Sep c) : ObC 76 [.box 1000 0, .d (.val (.int .u8 c.toNat))] (rr r b) [] (fun x o => x = .d (.int (numS r b c 0).v) ∧ o = rr (numS r b c 0).r (numS r b c 0).b) := by
  have hz := numS_zero (r := r) (b := b) hc
  refine ob_enter Tryz.func76 rfl (by decide) _ Tryz.ntmps76 (le_ok rfl) rfl (fun w Pr β κ hE => ?_)
  dsimp only [slotsV, Nat.zero_add, Nat.reduceAdd]
  by_cases h : (numS r b c (-9223372036854775808)).v < 0
  · rw [if_pos h] at hz
    repeat' (first | (apply at_call; refine k_ocall [(1000, 1000)] (ahead_any r b c hr hc) hE ?_; rintro _ _ ⟨rfl, rfl⟩ <;> (intro _ _ h1 h2; simp only [renEqs, Nat.reduceBEq, renL_app, renL_ds, renL_und] at h1 h2; subst h1 h2)) | (apply at_call; refine k_ocall [(1000, 1000)] (rfail_any _ _) hE ?_; rintro _ _ ⟨rfl, rfl⟩ <;> (intro _ _ h1 h2; simp only [renEqs, Nat.reduceBEq, renL_app, renL_ds, renL_und] at h1 h2; subst h1 h2)) | refine nx ?_ | (apply qr_move; refine r_move ?_) | (apply qr_assign; refine r_assign ?_) | (apply at_cond; first | refine c_t ?_ | refine c_f ?_ | (refine aw_cond rfl (fun hb => ?_) (fun hb => ?_) <;> ((try have hq := dX hb); (try (exfalso; omega))))) | (apply qr_lss; refine r_lss ?_))
    refine oret1 (rr emp true) (by rfl) rv (⟨by rw [hz], by rw [hz]⟩) sb okx
  · rw [if_neg h] at hz
    repeat' (first | (apply at_call; refine k_ocall [(1000, 1000)] (ahead_any r b c hr hc) hE ?_; rintro _ _ ⟨rfl, rfl⟩ <;> (intro _ _ h1 h2; simp only [renEqs, Nat.reduceBEq, renL_app, renL_ds, renL_und] at h1 h2; subst h1 h2)) | refine nx ?_ | (apply qr_move; refine r_move ?_) | (apply qr_assign; refine r_assign ?_) | (apply at_cond; first | refine c_t ?_ | refine c_f ?_ | (refine aw_cond rfl (fun hb => ?_) (fun hb => ?_) <;> ((try have hq := dX hb); (try (exfalso; omega))))) | (apply qr_lss; refine r_lss ?_))
    refine oret1 (rr ((numS r b c (-9223372036854775808)).r) ((numS r b c (-9223372036854775808)).b)) (by rfl) rv (⟨by rw [hz], by rw [hz]⟩) sb okx
theorem rnumR_any (r : ByteArray) (b : Bool) (hr : r.size ≤ 1000000000) : ObC 60 [.box 1000 0] (rr r b) [] (fun x o => x = .d (.int (numS r b 59 0).v) ∧ o = rr (numS r b 59 0).r (numS r b 59 0).b) := by
  refine ob_enter Tryz.func60 rfl (by decide) _ Tryz.ntmps60 (le_ok rfl) rfl (fun w Pr β κ hE => ?_)
  dsimp only [slotsV, Nat.zero_add, Nat.reduceAdd]
  repeat' (first | (apply at_call; refine k_ocall [(1000, 1000)] (rnumber_any r b 59 hr sep59) hE ?_; rintro _ _ ⟨rfl, rfl⟩ <;> (intro _ _ h1 h2; simp only [renEqs, Nat.reduceBEq, renL_app, renL_ds, renL_und] at h1 h2; subst h1 h2)) | refine nx ?_ | (apply qr_move; refine r_move ?_) | (apply qr_assign; refine r_assign ?_))
  refine oret1 (rr (numS r b 59 0).r (numS r b 59 0).b) (by rfl) rv (⟨rfl, rfl⟩) sb okx
/-- close: a byte, and whether it was there -/
theorem rclose_any (r : ByteArray) (b : Bool) (c : UInt8) (hb : b = true → r = emp) : ObC 78 [.box 1000 0, .d (.val (.int .u8 c.toNat))] (rr r b) [] (fun x o => x = .d (.bool (!(closeS r b ⟨#[c]⟩).2)) ∧ o = rr (closeS r b ⟨#[c]⟩).1 (closeS r b ⟨#[c]⟩).2) := by
  have hsz : r.size = (L r).length := (L_len r).symm
  refine ob_enter Tryz.func78 rfl (by decide) _ Tryz.ntmps78 (le_ok rfl) rfl (fun w Pr β κ hE => ?_)
  dsimp only [slotsV, Nat.zero_add, Nat.reduceAdd]
  by_cases h0 : r.size = 0
  · have f1 : decide ((r.size : Int) = 0) = true := decide_eq_true (by omega)
    have hc : closeS r b ⟨#[c]⟩ = (emp, true) := by
      rcases closeS_to (r := r) (b := b) (c := c) with ⟨q, _, h⟩ | h
      · rw [h] at hsz
        simp at hsz
        omega
      · exact h
    repeat' (first | (apply at_call; refine k_ocall [(1000, 1000)] (rfail_any _ _) hE ?_; rintro _ _ ⟨rfl, rfl⟩ <;> (intro _ _ h1 h2; simp only [renEqs, Nat.reduceBEq, renL_app, renL_ds, renL_und] at h1 h2; subst h1 h2)) | refine nx ?_ | (apply qr_move; refine r_move ?_) | (apply qr_assign; refine r_assign ?_) | (apply at_cond; first | refine c_t ?_ | refine c_f ?_ | (refine aw_cond rfl (fun hb => ?_) (fun hb => ?_) <;> ((try have hq := dX hb); (try (exfalso; omega))))) | (apply qr_eql; refine r_eql ?_) | (apply qr_neq; refine r_neq ?_) | (apply qr_len; refine r_len ?_) | (apply qr_index; refine r_index ?_) | (apply qr_slice; refine r_slice ?_) | (apply qr_load; refine r_load ?_) | (apply qr_faddr; refine r_faddr ?_) | (apply qr_nilck; refine r_nilck ?_) | (apply qr_store; refine r_store ?_))
    refine oret1 (rr emp true) (by rfl) rv (⟨by rw [hc]; rfl, by rw [hc]⟩) sb okx
  · have f1 : decide ((r.size : Int) = 0) = false := decide_eq_false (by omega)
    have hb2 : b = false := by
      cases b with
      | false => rfl
      | true => exact absurd (by rw [hb rfl]; rfl) h0
    subst hb2
    have hL : L r = bAt r 0 :: (L r).drop 1 := by
      rw [bAt_get (by omega)]
      have := List.drop_eq_getElem_cons (l := L r) (i := 0) (by omega)
      rwa [List.drop_zero] at this
    by_cases hcc : bAt r 0 = c
    · have f2 : (!decide (((bAt r 0).toNat : Int) = (c.toNat : Int))) = false := by rw [hcc]; simp
      have hc : closeS r false ⟨#[c]⟩ = (r.extract 1 r.size, false) := by
        rw [closeS_of (t := (L r).drop 1) (by rw [← hcc]; exact hL)]
        have h2 : L (r.extract 1 r.size) = (L r).drop 1 := ext_drop r 1
        rw [← h2, B_L]
      repeat' (first | refine nx ?_ | (apply qr_move; refine r_move ?_) | (apply qr_assign; refine r_assign ?_) | (apply at_cond; first | refine c_t ?_ | refine c_f ?_ | (refine aw_cond rfl (fun hb => ?_) (fun hb => ?_) <;> ((try have hq := dX hb); (try (exfalso; omega))))) | (apply qr_eql; refine r_eql ?_) | (apply qr_neq; refine r_neq ?_) | (apply qr_len; refine r_len ?_) | (apply qr_index; refine r_index ?_) | (apply qr_slice; refine r_slice ?_) | (apply qr_load; refine r_load ?_) | (apply qr_faddr; refine r_faddr ?_) | (apply qr_nilck; refine r_nilck ?_) | (apply qr_store; refine r_store ?_))
      refine oret1 (rr (r.extract 1 r.size) false) (by rfl) rv (⟨by rw [hc]; rfl, by rw [hc]⟩) sb okx
    · have f2 : (!decide (((bAt r 0).toNat : Int) = (c.toNat : Int))) = true := by
        rw [decide_eq_false fun h => hcc (UInt8.toNat_inj.1 (by omega))]; rfl
      have hc : closeS r false ⟨#[c]⟩ = (emp, true) := by
        rcases closeS_to (r := r) (b := false) (c := c) with ⟨q, _, h⟩ | h
        · rw [hL] at h
          injection h with h
          exact absurd h hcc
        · exact h
      repeat' (first | (apply at_call; refine k_ocall [(1000, 1000)] (rfail_any _ _) hE ?_; rintro _ _ ⟨rfl, rfl⟩ <;> (intro _ _ h1 h2; simp only [renEqs, Nat.reduceBEq, renL_app, renL_ds, renL_und] at h1 h2; subst h1 h2)) | refine nx ?_ | (apply qr_move; refine r_move ?_) | (apply qr_assign; refine r_assign ?_) | (apply at_cond; first | refine c_t ?_ | refine c_f ?_ | (refine aw_cond rfl (fun hb => ?_) (fun hb => ?_) <;> ((try have hq := dX hb); (try (exfalso; omega))))) | (apply qr_eql; refine r_eql ?_) | (apply qr_neq; refine r_neq ?_) | (apply qr_len; refine r_len ?_) | (apply qr_index; refine r_index ?_) | (apply qr_slice; refine r_slice ?_) | (apply qr_load; refine r_load ?_) | (apply qr_faddr; refine r_faddr ?_) | (apply qr_nilck; refine r_nilck ?_) | (apply qr_store; refine r_store ?_))
      refine oret1 (rr emp true) (by rfl) rv (⟨by rw [hc]; rfl, by rw [hc]⟩) sb okx
end Go.Proofs.YtfgibalcdjlnhaaGreatDoor
end
