/-
  The walks of package wire: what is written. Conditions: sizes.
-/
import Derived.Test.YtliagfabkkcohaaDoorWalkD
set_option linter.unusedSimpArgs false
set_option linter.unusedVariables false
namespace Go.Proofs.YtliagfabkkcohaaDoor
open Go.RowKit

def semi : ByteArray := ⟨#[59]⟩
def intW (n : Int) : ByteArray := itoaB n ++ ⟨#[59]⟩
def numW (n : Int) : ByteArray := if n < 0 then ⟨#[]⟩ else intW n
def textW (s : ByteArray) : ByteArray := itoaB s.size ++ ⟨#[58]⟩ ++ s ++ ⟨#[44]⟩
theorem itoa_len (n : Int) (h0 : -9223372036854775808 ≤ n) (h1 : n ≤ 9223372036854775807) : (itoaB n).size ≤ 20 := by
  have key : ∀ u : Nat, u < 10000000000000000000 → (Lib.decDigits u).length ≤ 19 := by
    intro u hu
    rw [Lib.decDigits_length]
    rcases Nat.lt_or_ge 19 (Lib.nDigits u) with h | h
    · exfalso
      have h2 : ∀ k u : Nat, u < 10 ^ (k + 1) → Lib.nDigits u ≤ k + 1 := by
        intro k
        induction k with
        | zero => intro u hu; rw [Lib.nDigits_small (by simpa using hu)]; exact Nat.le_refl _
        | succ k ih =>
          intro u hu
          by_cases h : u < 10
          · rw [Lib.nDigits_small h]; omega
          · rw [Lib.nDigits_big h]
            have := ih (u / 10) (by rw [Nat.div_lt_iff_lt_mul (by decide)]; rw [Nat.pow_succ] at hu; exact hu)
            omega
      have := h2 18 u (by omega)
      omega
    · exact h
  have : (itoaB n).size = (Lib.itoa n).length := List.size_toArray
  rw [this, Lib.itoa]
  split
  · have := key n.natAbs (by omega)
    rw [List.length_cons]
    omega
  · have := key n.toNat (by omega)
    omega
theorem winti_any (n : Int) (h0 : -9223372036854775808 ≤ n) (h1 : n ≤ 9223372036854775807) : PureC 13 [.int n] (· = .str (intW n)) := by
  have hz := itoa_len n h0 h1
  have hs : ByteArray.size ⟨#[59]⟩ = 1 := rfl
  refine pure_enter Tryd.func13 rfl (by decide) _ Tryd.ntmps13 (le_ok rfl) (fun w Pr hE => ?_)
  dsimp only [slotsOf, Nat.zero_add, Nat.reduceAdd]
  repeat' (first | (apply at_op (.call { callee := .value _, args := _, argTypes := _ }); refine al_call (itoa_any n h0 h1) rfl hE (lt_ok rfl) (by exact (ArgsD.cons (by first | exact ToD.d _ | exact ToD.row _ _ _ _ _ rfl | exact ToD.nil _) ArgsD.nil)) ?_; (all_goals (try first | omega | assumption)); rintro _ rfl) | apply aw_seq | apply aw_region | apply al_nil | apply aq_np | apply aq_then | apply aq_then_x | apply aq_then_r | apply aw_skip | apply aw_exit | apply aw_ret | (apply at_op (.move _); refine al_y (y_moveC (by constructor)) (lt_ok rfl) ?_) | (apply at_op (.assign _); refine al_y (y_assignC (by constructor)) (lt_ok rfl) ?_) | (apply at_op (.binOp .add _ _ _ _); first | refine al_y (y_add rfl rfl (by omega)) (lt_ok rfl) ?_ | refine al_y (y_sadd rfl rfl (by omega)) (lt_ok rfl) ?_))
  refine ret_one (by rfl) (by first | exact ToD.d _ | exact ToD.row _ _ _ _ _ rfl) ?_
  rfl
theorem wnum_any (n : Int) (h0 : -9223372036854775808 ≤ n) (h1 : n ≤ 9223372036854775807) : PureC 11 [.int n] (· = .str (numW n)) := by
  refine pure_enter Tryd.func11 rfl (by decide) _ Tryd.ntmps11 (le_ok rfl) (fun w Pr hE => ?_)
  dsimp only [slotsOf, Nat.zero_add, Nat.reduceAdd]
  by_cases hn : n < 0
  · skip
    repeat' (first | apply aw_seq | apply aw_region | apply al_nil | apply aq_np | apply aq_then | apply aq_then_x | apply aq_then_r | apply aw_skip | apply aw_exit | apply aw_ret | (apply at_op (.move _); refine al_y (y_moveC (by constructor)) (lt_ok rfl) ?_) | (apply at_op (.assign _); refine al_y (y_assignC (by constructor)) (lt_ok rfl) ?_) | (apply at_cond; first | refine aw_cond_t rfl (by assumption) ?_ | refine aw_cond_f rfl (by assumption) ?_ | refine aw_cond_t rfl (by first | with_reducible rfl | decide) ?_ | refine aw_cond_f rfl (by first | with_reducible rfl | decide) ?_ | (refine aw_cond rfl (fun hb => ?_) (fun hb => ?_) <;> ((first | have hq := of_decide_eq_true hb | have hq := of_decide_eq_false hb | have hq := of_decide_eq_false (not_t hb) | have hq := of_decide_eq_true (not_f hb) | skip); (try (exfalso; omega))))) | (apply at_op (.binOp .lss _ _ _ _); refine al_y (y_lss rfl rfl) (lt_ok rfl) ?_))
    refine ret_one (by rfl) (by first | exact ToD.d _ | exact ToD.row _ _ _ _ _ rfl) ?_
    simp [numW, hn]
  · skip
    repeat' (first | (apply at_op (.call { callee := .value _, args := _, argTypes := _ }); refine al_call (winti_any n h0 h1) rfl hE (lt_ok rfl) (by exact (ArgsD.cons (by first | exact ToD.d _ | exact ToD.row _ _ _ _ _ rfl | exact ToD.nil _) ArgsD.nil)) ?_; (all_goals (try first | omega | assumption)); rintro _ rfl) | apply aw_seq | apply aw_region | apply al_nil | apply aq_np | apply aq_then | apply aq_then_x | apply aq_then_r | apply aw_skip | apply aw_exit | apply aw_ret | (apply at_op (.move _); refine al_y (y_moveC (by constructor)) (lt_ok rfl) ?_) | (apply at_op (.assign _); refine al_y (y_assignC (by constructor)) (lt_ok rfl) ?_) | (apply at_cond; first | refine aw_cond_t rfl (by assumption) ?_ | refine aw_cond_f rfl (by assumption) ?_ | refine aw_cond_t rfl (by first | with_reducible rfl | decide) ?_ | refine aw_cond_f rfl (by first | with_reducible rfl | decide) ?_ | (refine aw_cond rfl (fun hb => ?_) (fun hb => ?_) <;> ((first | have hq := of_decide_eq_true hb | have hq := of_decide_eq_false hb | have hq := of_decide_eq_false (not_t hb) | have hq := of_decide_eq_true (not_f hb) | skip); (try (exfalso; omega))))) | (apply at_op (.binOp .lss _ _ _ _); refine al_y (y_lss rfl rfl) (lt_ok rfl) ?_))
    refine ret_one (by rfl) (by first | exact ToD.d _ | exact ToD.row _ _ _ _ _ rfl) ?_
    simp [numW, hn]
theorem wtext_any (s : ByteArray) (hs : s.size ≤ 1000000000) : PureC 15 [.str s] (· = .str (textW s)) := by
  have hz := itoa_len s.size (by omega) (by omega)
  have hs1 : ByteArray.size ⟨#[58]⟩ = 1 := rfl
  have hs2 : ByteArray.size ⟨#[44]⟩ = 1 := rfl
  have z1 : (itoaB s.size ++ ⟨#[58]⟩).size = (itoaB s.size).size + 1 := ByteArray.size_append
  have z2 : (itoaB s.size ++ ⟨#[58]⟩ ++ s).size = (itoaB s.size ++ ⟨#[58]⟩).size + s.size := ByteArray.size_append
  refine pure_enter Tryd.func15 rfl (by decide) _ Tryd.ntmps15 (le_ok rfl) (fun w Pr hE => ?_)
  dsimp only [slotsOf, Nat.zero_add, Nat.reduceAdd]
  repeat' (first | (apply at_op (.call { callee := .value _, args := _, argTypes := _ }); refine al_call (itoa_any s.size (by omega) (by omega)) rfl hE (lt_ok rfl) (by exact (ArgsD.cons (by first | exact ToD.d _ | exact ToD.row _ _ _ _ _ rfl | exact ToD.nil _) ArgsD.nil)) ?_; (all_goals (try first | omega | assumption)); rintro _ rfl) | apply aw_seq | apply aw_region | apply al_nil | apply aq_np | apply aq_then | apply aq_then_x | apply aq_then_r | apply aw_skip | apply aw_exit | apply aw_ret | (apply at_op (.move _); refine al_y (y_moveC (by constructor)) (lt_ok rfl) ?_) | (apply at_op (.assign _); refine al_y (y_assignC (by constructor)) (lt_ok rfl) ?_) | (apply at_op (.binOp .add _ _ _ _); first | refine al_y (y_add rfl rfl (by omega)) (lt_ok rfl) ?_ | refine al_y (y_sadd rfl rfl (by omega)) (lt_ok rfl) ?_) | (apply at_op (.call { callee := .builtin .len, args := _, argTypes := _ }); first | refine al_y (y_slen rfl rfl (by kernel_rfl)) (lt_ok rfl) ?_ | refine al_y (y_llen (by first | exact ToD.d _ | exact ToD.row _ _ _ _ _ rfl) rfl ⟨_, _, _, _, rfl⟩ (by first | (simp only [List.length_map, List.length_append, List.length_cons, List.length_nil]; rfl) | rfl)) (lt_ok rfl) ?_ | refine al_y (y_sllen rfl rfl ⟨_, _, _, _, rfl⟩) (lt_ok rfl) ?_))
  refine ret_one (by rfl) (by first | exact ToD.d _ | exact ToD.row _ _ _ _ _ rfl) ?_
  rfl
theorem intW_len (n : Int) (h : -9223372036854775808 ≤ n ∧ n ≤ 9223372036854775807) : (intW n).size ≤ 21 := by
  have h1 := itoa_len n h.1 h.2
  have h2 : (intW n).size = (itoaB n).size + 1 := ByteArray.size_append
  omega
theorem textW_len (s : ByteArray) (h : s.size ≤ 100000) : (textW s).size ≤ 100022 := by
  have h1 := itoa_len s.size (by omega) (by omega)
  have z1 : (itoaB s.size ++ ⟨#[58]⟩).size = (itoaB s.size).size + 1 := ByteArray.size_append
  have z2 : (itoaB s.size ++ ⟨#[58]⟩ ++ s).size = (itoaB s.size ++ ⟨#[58]⟩).size + s.size := ByteArray.size_append
  have z3 : (textW s).size = (itoaB s.size ++ ⟨#[58]⟩ ++ s).size + 1 := ByteArray.size_append
  omega
end Go.Proofs.YtliagfabkkcohaaDoor
