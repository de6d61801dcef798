/-
  Conditions: none.
-/
import Derived.Test.YtedoeogopmenpaaGreatDoorMaj
set_option maxHeartbeats 16000000
set_option maxRecDepth 20000
section
set_option linter.unusedSimpArgs false
set_option linter.unusedVariables false
namespace Go.Proofs.YtedoeogopmenpaaGreatDoor
open Go.RowKit
def numTo (s : ByteArray) : Nat → Int
 | 0 => 0
 | k + 1 => 10 * numTo s k + ((bAt s k).toNat - 48)
theorem digit_bd {c : UInt8} (h : digitB c = true) : 48 ≤ (c.toNat : Int) ∧ (c.toNat : Int) ≤ 57 := by simpa [digitB] using h
theorem pre_le (F : UInt8 → Bool) (s : ByteArray) : pre F s ≤ s.size := by
 have := (List.takeWhile_sublist (p := F) (l := s.data.toList)).length_le
 simpa [pre] using this
theorem pre_lt {F : UInt8 → Bool} {s : ByteArray} {j : Nat} (h : j < pre F s) : F (bAt s j) = true := by
 have hl := pre_le F s
 have h1 : j < s.data.toList.length := by simp; have : s.data.size = s.size := rfl; omega
 rw [bAt_eq s j h1]
 have h2 : (s.data.toList.takeWhile F)[j]'h = s.data.toList[j] := by
  have := List.takeWhile_prefix (l := s.data.toList) F
  exact List.IsPrefix.getElem this h
 have h3 := List.all_takeWhile (p := F) (l := s.data.toList)
 rw [List.all_eq_true] at h3
 exact h2 ▸ h3 _ (List.getElem_mem h)
theorem pre_stop {F : UInt8 → Bool} {s : ByteArray} (h : pre F s < s.size) : F (bAt s (pre F s)) = false := by
 have h1 : pre F s < s.data.toList.length := by simpa using h
 rw [bAt_eq s _ h1]
 have key : ∀ (l : List UInt8) (h : (l.takeWhile F).length < l.length), F (l[(l.takeWhile F).length]) = false := by
  intro l
  induction l with
  | nil => intro h; simp at h
  | cons x l ih =>
   intro h
   by_cases hx : F x = true
   ·simp only [List.takeWhile_cons, hx, if_true, List.length_cons, List.getElem_cons_succ] at h ⊢
    exact ih (by omega)
   ·simp [List.takeWhile_cons, hx]
 exact key _ h1
theorem num_bd {s : ByteArray} {k : Nat} (h : ∀ j, j < k → digitB (bAt s j) = true) : 0 ≤ numTo s k ∧ numTo s k < ((10 ^ k : Nat) : Int) := by
 induction k with
 | zero => simp [numTo]
 | succ k ih =>
  have h1 := ih fun j hj => h j (by omega)
  have h2 := digit_bd (h k (by omega))
  have e : (10 : Nat) ^ (k + 1) = 10 * 10 ^ k := by rw [Nat.pow_succ, Nat.mul_comm]
  rw [numTo, e]
  omega
theorem pow_le16 {k : Nat} (h : k ≤ 16) : (10 : Nat) ^ k ≤ 10000000000000000 := Nat.pow_le_pow_right (n := 10) (by omega) h
def numOk (s : ByteArray) : Bool := decide (0 < s.size) && decide (pre digitB s = s.size) && (decide (s.size = 1) || !decide ((bAt s 0).toNat = 48)) && decide (numTo s s.size ≤ 1000000000000000)
def numD (s : ByteArray) : D := if numOk s then .tup [.int (numTo s s.size), .bool true] else .tup [.int 0, .bool false]
theorem numTo_ge {s : ByteArray} {k : Nat} (h : ∀ j, j < k → digitB (bAt s j) = true) (h0 : ¬ (bAt s 0).toNat = 48) (hk : 0 < k) : ((10 ^ (k - 1) : Nat) : Int) ≤ numTo s k := by
 induction k with
 | zero => omega
 | succ k ih =>
  have h2 := digit_bd (h k (by omega))
  rcases Nat.eq_zero_or_pos k with rfl | hk'
  ·simp [numTo]
   omega
  ·have h1 := ih (fun j hj => h j (by omega)) hk'
   have e : (10 : Nat) ^ (k + 1 - 1) = 10 * 10 ^ (k - 1) := by
    obtain ⟨m, rfl⟩ : ∃ m, k = m + 1 := ⟨k - 1, by omega⟩
    simp only [Nat.add_sub_cancel]
    rw [Nat.pow_succ, Nat.mul_comm]
   rw [numTo, e]
   omega
theorem numOk_long {s : ByteArray} (h : 16 < s.size) : numOk s = false := by
 refine Bool.eq_false_iff.2 fun hn => ?_
 simp only [numOk, Bool.and_eq_true, Bool.or_eq_true, Bool.not_eq_true', decide_eq_true_eq, decide_eq_false_iff_not] at hn
 obtain ⟨⟨⟨h1, h2⟩, h3⟩, h4⟩ := hn
 have h0 : ¬ (bAt s 0).toNat = 48 := h3.resolve_left (by omega)
 have h5 := numTo_ge (k := s.size) (fun j hj => pre_lt (by omega)) h0 h1
 have h6 : (10 : Nat) ^ 16 ≤ 10 ^ (s.size - 1) := Nat.pow_le_pow_right (n := 10) (by omega) (by omega)
 have h7 : (10 : Nat) ^ 16 = 10000000000000000 := by decide
 omega
theorem one_zero {s : ByteArray} : s = ⟨#[48]⟩ ↔ s.size = 1 ∧ (bAt s 0).toNat = 48 := by
 constructor
 ·rintro rfl
  exact ⟨rfl, rfl⟩
 ·rintro ⟨h1, h2⟩
  obtain ⟨d⟩ := s
  have h3 : d.size = 1 := h1
  obtain ⟨x, rfl⟩ : ∃ x, d = #[x] := by
   obtain ⟨l⟩ := d
   match l, h3 with
   | [x], _ => exact ⟨x, rfl⟩
  simp [bAt] at h2
  have : x = 48 := UInt8.toNat_inj.1 (by simpa using h2)
  rw [this]
theorem numD_no {s : ByteArray} (h : numOk s = false) : numD s = .tup [.int 0, .bool false] := by simp [numD, h]
theorem number_any (s : ByteArray) (hs : s.size ≤ 9223372036854775807) : PureC 122 [.str s] (· = numD s) := by
 refine pure_enter Tryz.func122 rfl (by decide) _ Tryz.ntmps122 (le_ok rfl) (fun w Pr hE => ?_)
 dsimp only [slotsOf, Nat.zero_add, Nat.reduceAdd]
 by_cases h0 : s = ⟨#[]⟩
 ·have h1 : decide (s = ⟨#[]⟩) = true := decide_eq_true h0
  repeat' (first | refine nx ?_ | (apply aq_block_y; decide) | (apply qr_move; refine r_move ?_) | (apply qr_assign; refine r_assign ?_) | (apply at_cond; first | refine c_t ?_ | refine c_f ?_ | (refine aw_cond rfl (fun hb => ?_) (fun hb => ?_) <;> ((try have hq := dX hb); (try (exfalso; omega))))) | (apply at_guard; first | refine g_go ?_ | refine g_nt ?_ | refine g_nf ?_ | refine g_nu ?_ | ((first | refine al_split_t rfl rfl (lt_ok rfl) (fun hb => ?_) (fun hb => ?_) | refine al_split_f rfl rfl (lt_ok rfl) (fun hb => ?_) (fun hb => ?_)) <;> ((try have hq := dX hb); (try (exfalso; omega))))) | (apply qr_pick; refine r_pick ?_) | (apply qr_lss; refine r_lss ?_) | (apply qr_gtr; refine r_gtr ?_) | (apply qr_eql; refine r_eql ?_) | (apply qr_neq; refine r_neq ?_) | (apply qr_add; refine r_add ?_) | (apply qr_sub; refine r_sub ?_) | (apply qr_mul; refine r_mul ?_) | (apply qr_conv; refine r_conv ?_) | (apply qr_len; refine r_len ?_) | (apply qr_index; refine r_index ?_))
  refine ret_two (by rfl) (by first | exact ToD.d _ | exact ToD.row _ _ _ _ _ rfl) (by first | exact ToD.d _ | exact ToD.row _ _ _ _ _ rfl) ?_
  rw [h0]
  rfl
 have h1 : decide (s = ⟨#[]⟩) = false := decide_eq_false h0
 have hp := nonempty h0
 by_cases hd : pre digitB s = s.size
 rotate_left
 ·have h2 : (!decide ((pre digitB s : Int) = s.size)) = true := by simp; omega
  repeat' (first | (apply at_call; refine k_call (span_any s 101 digitB hs digit_any) hE ?_; rintro _ rfl) | refine nx ?_ | (apply aq_block_y; decide) | (apply qr_move; refine r_move ?_) | (apply qr_assign; refine r_assign ?_) | (apply at_cond; first | refine c_t ?_ | refine c_f ?_ | (refine aw_cond rfl (fun hb => ?_) (fun hb => ?_) <;> ((try have hq := dX hb); (try (exfalso; omega))))) | (apply at_guard; first | refine g_go ?_ | refine g_nt ?_ | refine g_nf ?_ | refine g_nu ?_ | ((first | refine al_split_t rfl rfl (lt_ok rfl) (fun hb => ?_) (fun hb => ?_) | refine al_split_f rfl rfl (lt_ok rfl) (fun hb => ?_) (fun hb => ?_)) <;> ((try have hq := dX hb); (try (exfalso; omega))))) | (apply qr_pick; refine r_pick ?_) | (apply qr_lss; refine r_lss ?_) | (apply qr_gtr; refine r_gtr ?_) | (apply qr_eql; refine r_eql ?_) | (apply qr_neq; refine r_neq ?_) | (apply qr_add; refine r_add ?_) | (apply qr_sub; refine r_sub ?_) | (apply qr_mul; refine r_mul ?_) | (apply qr_conv; refine r_conv ?_) | (apply qr_len; refine r_len ?_) | (apply qr_index; refine r_index ?_))
  refine ret_two (by rfl) (by first | exact ToD.d _ | exact ToD.row _ _ _ _ _ rfl) (by first | exact ToD.d _ | exact ToD.row _ _ _ _ _ rfl) ?_
  rw [numD_no (by simp [numOk, hd])]
 have h2 : (!decide ((pre digitB s : Int) = s.size)) = false := by simp; omega
 have hdig : ∀ j, j < s.size → digitB (bAt s j) = true := fun j hj => pre_lt (by omega)
 repeat' (first | (apply at_call; refine k_call (span_any s 101 digitB hs digit_any) hE ?_; rintro _ rfl) | refine nx ?_ | (apply aq_block_y; decide) | (apply qr_move; refine r_move ?_) | (apply qr_assign; refine r_assign ?_) | (apply at_cond; first | refine c_t ?_ | refine c_f ?_ | (refine aw_cond rfl (fun hb => ?_) (fun hb => ?_) <;> ((try have hq := dX hb); (try (exfalso; omega))))) | (apply at_guard; first | refine g_go ?_ | refine g_nt ?_ | refine g_nf ?_ | refine g_nu ?_ | ((first | refine al_split_t rfl rfl (lt_ok rfl) (fun hb => ?_) (fun hb => ?_) | refine al_split_f rfl rfl (lt_ok rfl) (fun hb => ?_) (fun hb => ?_)) <;> ((try have hq := dX hb); (try (exfalso; omega))))) | (apply qr_pick; refine r_pick ?_) | (apply qr_lss; refine r_lss ?_) | (apply qr_gtr; refine r_gtr ?_) | (apply qr_eql; refine r_eql ?_) | (apply qr_neq; refine r_neq ?_) | (apply qr_add; refine r_add ?_) | (apply qr_sub; refine r_sub ?_) | (apply qr_mul; refine r_mul ?_) | (apply qr_conv; refine r_conv ?_) | (apply qr_len; refine r_len ?_) | (apply qr_index; refine r_index ?_))
 all_goals try
  refine ret_two (by rfl) (by exact ToD.d _) (by exact ToD.d _) ?_
  first
   | rw [numD_no (numOk_long (by omega))]
   | (have h3 : ¬ s.size = 1 := fun h => ‹¬ s = ⟨#[48]⟩› (one_zero.2 ⟨h, by omega⟩)
      rw [numD_no (by simp [numOk, h3]; omega)])
 all_goals
  refine aw_lp (fun n sl ob => ∃ k : Nat, n = s.size - k ∧ k ≤ s.size ∧ sl = [(31, .d (.int k)), (30, .d (.int s.size)), (4, .d (.int (numTo s k))), (0, .d (.str s))] ∧ ob = []) (⟨0, rfl, by omega, rfl, rfl⟩) ?_
  rintro n sl ob ⟨k, rfl, hk, rfl, rfl⟩
  have hb1 := num_bd (s := s) (k := k) fun j hj => hdig j (by omega)
  have hb2 := pow_le16 (k := k) (by omega)
  by_cases hlt : k < s.size
  ·have hb3 := digit_bd (hdig k hlt)
   repeat' (first | refine nx ?_ | (apply aq_block_y; decide) | (apply qr_move; refine r_move ?_) | (apply qr_assign; refine r_assign ?_) | (apply at_cond; first | refine c_t ?_ | refine c_f ?_ | (refine aw_cond rfl (fun hb => ?_) (fun hb => ?_) <;> ((try have hq := dX hb); (try (exfalso; omega))))) | (apply at_guard; first | refine g_go ?_ | refine g_nt ?_ | refine g_nf ?_ | refine g_nu ?_ | ((first | refine al_split_t rfl rfl (lt_ok rfl) (fun hb => ?_) (fun hb => ?_) | refine al_split_f rfl rfl (lt_ok rfl) (fun hb => ?_) (fun hb => ?_)) <;> ((try have hq := dX hb); (try (exfalso; omega))))) | (apply qr_pick; refine r_pick ?_) | (apply qr_lss; refine r_lss ?_) | (apply qr_gtr; refine r_gtr ?_) | (apply qr_eql; refine r_eql ?_) | (apply qr_neq; refine r_neq ?_) | (apply qr_add; refine r_add ?_) | (apply qr_sub; refine r_sub ?_) | (apply qr_mul; refine r_mul ?_) | (apply qr_conv; refine r_conv ?_) | (apply qr_len; refine r_len ?_) | (apply qr_index; refine r_index ?_))
   refine aq_rd (⟨k + 1, rfl, by omega, rfl, rfl⟩) (by omega)
  ·obtain rfl : k = s.size := by omega
   repeat' (first | refine nx ?_ | (apply aq_block_y; decide) | (apply qr_move; refine r_move ?_) | (apply qr_assign; refine r_assign ?_) | (apply at_cond; first | refine c_t ?_ | refine c_f ?_ | (refine aw_cond rfl (fun hb => ?_) (fun hb => ?_) <;> ((try have hq := dX hb); (try (exfalso; omega))))) | (apply at_guard; first | refine g_go ?_ | refine g_nt ?_ | refine g_nf ?_ | refine g_nu ?_ | ((first | refine al_split_t rfl rfl (lt_ok rfl) (fun hb => ?_) (fun hb => ?_) | refine al_split_f rfl rfl (lt_ok rfl) (fun hb => ?_) (fun hb => ?_)) <;> ((try have hq := dX hb); (try (exfalso; omega))))) | (apply qr_pick; refine r_pick ?_) | (apply qr_lss; refine r_lss ?_) | (apply qr_gtr; refine r_gtr ?_) | (apply qr_eql; refine r_eql ?_) | (apply qr_neq; refine r_neq ?_) | (apply qr_add; refine r_add ?_) | (apply qr_sub; refine r_sub ?_) | (apply qr_mul; refine r_mul ?_) | (apply qr_conv; refine r_conv ?_) | (apply qr_len; refine r_len ?_) | (apply qr_index; refine r_index ?_))
   ·skip
    refine ret_two (by rfl) (by first | exact ToD.d _ | exact ToD.row _ _ _ _ _ rfl) (by first | exact ToD.d _ | exact ToD.row _ _ _ _ _ rfl) ?_
    rw [numD_no (by simp [numOk]; omega)]
   ·skip
    refine ret_two (by rfl) (by first | exact ToD.d _ | exact ToD.row _ _ _ _ _ rfl) (by first | exact ToD.d _ | exact ToD.row _ _ _ _ _ rfl) ?_
    have hok : numOk s = true := by
     have h5 : s.size = 1 ∨ ¬ (bAt s 0).toNat = 48 := by first | exact .inr (by omega) | exact .inl (one_zero.1 ‹s = ⟨#[48]⟩›).1
     simp [numOk, hp, hd, h5]
     omega
    simp [numD, hok]
end Go.Proofs.YtedoeogopmenpaaGreatDoor
end
section
set_option linter.unusedSimpArgs false
set_option linter.unusedVariables false
namespace Go.Proofs.YtedoeogopmenpaaGreatDoor
open Go.RowKit
theorem pre_all {F : UInt8 → Bool} {s : ByteArray} (h : ∀ j, j < s.size → F (bAt s j) = true) : pre F s = s.size := pre_at F s s.size (Nat.le_refl _) h (fun h => absurd h (Nat.lt_irrefl _))
theorem alnum_of {c : UInt8} (h : letterB c = true) : alnumB c = true := by simp [alnumB, h]
theorem numOk_yes {s : ByteArray} (h1 : 0 < s.size) (h2 : pre digitB s = s.size) (h3 : s.size = 1 ∨ ¬ (bAt s 0).toNat = 48) (h4 : numTo s s.size ≤ 1000000000000000) : numOk s = true := by
 simp [numOk, h1, h2, h3, h4]
end Go.Proofs.YtedoeogopmenpaaGreatDoor
end
section
set_option linter.unusedSimpArgs false
set_option linter.unusedVariables false
namespace Go.Proofs.YtedoeogopmenpaaGreatDoor
open Go.RowKit
structure Tok where
 k : Int
 s : ByteArray
 n : Int
 p : Int
 deriving DecidableEq
def Tok.cells (t : Tok) : List D := [.int t.k, .str t.s, .int t.n, .int t.p]
def Tok.zero : Tok := ⟨0, ⟨#[]⟩, 0, 0⟩
def hasP (s p : ByteArray) : Bool := Lib.hasPrefix s.data.toList p.data.toList
theorem hasprefix_any (s p : ByteArray) : PureC 123 [.str s, .str p] (· = .bool (hasP s p)) := by
 refine ⟨⟨_, Tryz.func123, by decide, rfl⟩, fun w Pr vs h1 h2 h3 h4 => ?_⟩
 match vs, h3 with
 | [v1, v2], _ =>
  have e1 := h4 0 v1 _ rfl rfl
  have e2 := h4 1 v2 _ rfl rfl
  cases e1
  cases e2
  refine (Tryz.strings_HasPrefix s p w).mono fun e w' ⟨he, hw⟩ => ?_
  subst hw
  exact ⟨_, _, he, rfl, .val _, Below.refl _ _⟩
def signOf (s : ByteArray) : Option ByteArray := signsL.find? (hasP s)
def nextV (s : ByteArray) : Tok × Int :=
 if letterB (bAt s 0) then (if wordB (s.extract 0 (pre alnumB s)) then (⟨0, s.extract 0 (pre alnumB s), 0, 0⟩, 0) else (Tok.zero, 11))
 else if digitB (bAt s 0) then (if numOk (s.extract 0 (pre digitB s)) then (⟨1, s.extract 0 (pre digitB s), numTo (s.extract 0 (pre digitB s)) (pre digitB s), 0⟩, 0) else (Tok.zero, 3))
 else match signOf s with
  | some x => (⟨2, x, 0, 0⟩, 0)
  | none => (Tok.zero, 10)
theorem find_first {α : Type} {f : α → Bool} {l : List α} {k : Nat} {x : α} (hx : l[k]? = some x) (h : f x = true) (hp : ∀ j y, j < k → l[j]? = some y → f y = false) : l.find? f = some x := by
 obtain ⟨hk, he⟩ := List.getElem?_eq_some_iff.1 hx
 rw [List.find?_eq_some_iff_getElem]
 refine ⟨h, k, hk, he, fun j hj => ?_⟩
 simp [hp j _ hj (List.getElem?_eq_getElem (by omega))]
theorem extract_size {s : ByteArray} {a b : Nat} (h : b ≤ s.size) : (s.extract a b).size = b - a := by simp; omega
theorem next_any (s : ByteArray) (h0 : 0 < s.size) (hs : s.size ≤ 9223372036854775807) : PureC 77 [.str s] (· = .tup [.agg (nextV s).1.cells, .int (nextV s).2]) := by
 refine pure_enter Tryz.func77 rfl (by decide) _ Tryz.ntmps77 (le_ok rfl) (fun w Pr hE => ?_)
 dsimp only [slotsOf, Nat.zero_add, Nat.reduceAdd]
 have hl1 := pre_le alnumB s
 have hl2 := pre_le digitB s
 have hz1 := extract_size (s := s) (a := 0) hl1
 have hz2 := extract_size (s := s) (a := 0) hl2
 cases hl : letterB (bAt s 0)
 ·cases hd : digitB (bAt s 0)
  ·skip
   repeat' (first | (apply at_call; refine k_call (letter_any _) hE ?_; rintro _ rfl) | (apply at_call; refine k_call (digit_any _) hE ?_; rintro _ rfl) | refine nx ?_ | (apply aq_block_y; decide) | (apply qr_move; refine r_move ?_) | (apply qr_assign; refine r_assign ?_) | (apply at_cond; first | refine c_t ?_ | refine c_f ?_ | (refine aw_cond rfl (fun hb => ?_) (fun hb => ?_) <;> ((try have hq := dX hb); (try (exfalso; omega))))) | (apply qr_lss; refine r_lss ?_) | (apply qr_add; refine r_add ?_) | (apply qr_not; refine r_not ?_) | (apply qr_index; refine r_index ?_) | (apply qr_extract; refine r_extract ?_) | (apply qr_slice; refine r_slice ?_) | (apply at_op (.load _ _); first | refine al_y (y_load1 rfl rfl rfl) (lt_ok rfl) ?_ | refine al_y (y_loadA rfl rfl (take_all rfl rfl) rfl) (lt_ok rfl) ?_ | refine al_y (y_loadA rfl rfl rfl rfl) (lt_ok rfl) ?_ | refine al_y (y_bload1 rfl rfl rfl rfl) (lt_ok rfl) ?_ | refine al_y (y_bloadA rfl rfl rfl (by first | (simp only [normV, normList, normMap, Tok.cells]; rfl) | rfl) rfl) (lt_ok rfl) ?_ | refine al_y (y_glob hE (by unfold laidG; first | exact List.Mem.head _ | exact .tail _ (.head _) | exact .tail _ (.tail _ (.head _))) rfl rfl) (lt_ok rfl) ?_) | (apply at_op (.alloc _); refine al_step (st_alloc rfl (by first | (simp only [normV, normList, normMap, Tok.cells]; rfl) | rfl) rfl (lt_ok rfl) rfl) rfl ?_) | (apply at_op (.store _ _ _); first | refine al_step (st_store rfl rfl (ev_d rfl) nofun (by first | (simp only [normV, normList, normMap, Tok.cells]; rfl) | rfl) (by simp [V.one, Value.oneCell', Tok.cells]) (.inl ⟨rfl, rfl⟩) rfl (le_ok rfl) (by first | (simp only [normV, normList, normMap, Tok.cells]; rfl) | rfl)) rfl ?_ | refine al_step (st_store rfl rfl (ev_d rfl) nofun (by first | (simp only [normV, normList, normMap, Tok.cells]; rfl) | rfl) (by simp [V.one, Value.oneCell', Tok.cells]) (.inr rfl) rfl (le_ok rfl) (by first | (simp only [normV, normList, normMap, Tok.cells]; rfl) | rfl)) rfl ?_ | refine al_step (st_store rfl rfl (ev_row rfl) nofun (by first | (simp only [normV, normList, normMap, Tok.cells]; rfl) | rfl) (by simp [V.one, Value.oneCell', Tok.cells]) (.inl ⟨rfl, rfl⟩) rfl (le_ok rfl) (by first | (simp only [normV, normList, normMap, Tok.cells]; rfl) | rfl)) rfl ?_ | refine al_step (st_store rfl rfl (ev_box rfl) nofun (by first | (simp only [normV, normList, normMap, Tok.cells]; rfl) | rfl) (by simp [V.one, Value.oneCell', Tok.cells]) (.inl ⟨rfl, rfl⟩) rfl (le_ok rfl) (by first | (simp only [normV, normList, normMap, Tok.cells]; rfl) | rfl)) rfl ?_) | (apply at_op (.build _ _); first | refine al_y (y_build rfl (by repeat (first | exact PartsD.nil | (apply PartsD.cons; first | exact ToD.d _ | exact ToD.row _ _ _ _ _ rfl))) (by first | (simp only [dfill, normV, normList, normMap, Tok.cells]; rfl) | (simp [dfill, putD, cellsD, zerosD, Value.cells, Tok.cells]; rfl))) (lt_ok rfl) ?_ | refine al_y (y_buildA rfl (by repeat (first | exact PartsV.nil _ | (apply PartsV.cons; constructor; rfl))) (by rfl) (by rfl)) (lt_ok rfl) ?_ | refine al_y (y_buildV rfl (by repeat (first | exact PartsV.nil _ | (apply PartsV.cons; constructor; rfl))) (by rfl)) (lt_ok rfl) ?_))
   refine aw_loop2 (fun n sl ob => ∃ k : Nat, n = 11 - k ∧ k ≤ 11 ∧ (∀ j x, j < k → signsL[j]? = some x → hasP s x = false) ∧ sl = [(44, .d (.int k)), (43, .d (.agg (signsL.map D.str))), (3, .d (.int 0)), (2, .box 2 0), (0, .d (.str s))] ∧ ob = [(2, .box 52 [.d (.int 0), .d (.str ⟨#[]⟩), .d (.int 0), .d (.int 0)])]) (_) _ _ (⟨0, rfl, by omega, by simp, rfl, rfl⟩) ?_ ?_ ?_
   ·(repeat (first | exact sub_nil | (apply sub_cons; focus (first | rfl | exact vint (by first | omega | (simp only [Tok.cells]; omega)) | (simp [look, Tok.cells]; done)))))
   ·(repeat (first | exact obs_nil | (apply obs_cons; focus (first | rfl | (simp [find, Tok.cells]; done)))))
   rintro n sl ob ⟨k, rfl, hk, hp, rfl, rfl⟩
   by_cases hlt : k < 11
   ·obtain ⟨x, hx⟩ : ∃ x, signsL[k]? = some x := ⟨_, List.getElem?_eq_getElem (show k < signsL.length from hlt)⟩
    have hx2 : (signsL.map D.str)[k]? = some (.str x) := by simp [hx]
    cases hh : hasP s x
    ·skip
     repeat' (first | (apply at_op (.index _ _ _); refine al_y (y_arr rfl rfl rfl rfl (by with_reducible rfl) hlt hx2) (lt_ok rfl) ?_) | (apply at_call; refine k_call (hasprefix_any s x) hE ?_; rintro _ rfl) | refine nx ?_ | (apply aq_block_y; decide) | (apply qr_move; refine r_move ?_) | (apply qr_assign; refine r_assign ?_) | (apply at_cond; first | refine c_t ?_ | refine c_f ?_ | (refine aw_cond rfl (fun hb => ?_) (fun hb => ?_) <;> ((try have hq := dX hb); (try (exfalso; omega))))) | (apply qr_lss; refine r_lss ?_) | (apply qr_add; refine r_add ?_) | (apply qr_not; refine r_not ?_) | (apply qr_index; refine r_index ?_) | (apply qr_extract; refine r_extract ?_) | (apply qr_slice; refine r_slice ?_) | (apply at_op (.load _ _); first | refine al_y (y_load1 rfl rfl rfl) (lt_ok rfl) ?_ | refine al_y (y_loadA rfl rfl (take_all rfl rfl) rfl) (lt_ok rfl) ?_ | refine al_y (y_loadA rfl rfl rfl rfl) (lt_ok rfl) ?_ | refine al_y (y_bload1 rfl rfl rfl rfl) (lt_ok rfl) ?_ | refine al_y (y_bloadA rfl rfl rfl (by first | (simp only [normV, normList, normMap, Tok.cells]; rfl) | rfl) rfl) (lt_ok rfl) ?_ | refine al_y (y_glob hE (by unfold laidG; first | exact List.Mem.head _ | exact .tail _ (.head _) | exact .tail _ (.tail _ (.head _))) rfl rfl) (lt_ok rfl) ?_) | (apply at_op (.alloc _); refine al_step (st_alloc rfl (by first | (simp only [normV, normList, normMap, Tok.cells]; rfl) | rfl) rfl (lt_ok rfl) rfl) rfl ?_) | (apply at_op (.store _ _ _); first | refine al_step (st_store rfl rfl (ev_d rfl) nofun (by first | (simp only [normV, normList, normMap, Tok.cells]; rfl) | rfl) (by simp [V.one, Value.oneCell', Tok.cells]) (.inl ⟨rfl, rfl⟩) rfl (le_ok rfl) (by first | (simp only [normV, normList, normMap, Tok.cells]; rfl) | rfl)) rfl ?_ | refine al_step (st_store rfl rfl (ev_d rfl) nofun (by first | (simp only [normV, normList, normMap, Tok.cells]; rfl) | rfl) (by simp [V.one, Value.oneCell', Tok.cells]) (.inr rfl) rfl (le_ok rfl) (by first | (simp only [normV, normList, normMap, Tok.cells]; rfl) | rfl)) rfl ?_ | refine al_step (st_store rfl rfl (ev_row rfl) nofun (by first | (simp only [normV, normList, normMap, Tok.cells]; rfl) | rfl) (by simp [V.one, Value.oneCell', Tok.cells]) (.inl ⟨rfl, rfl⟩) rfl (le_ok rfl) (by first | (simp only [normV, normList, normMap, Tok.cells]; rfl) | rfl)) rfl ?_ | refine al_step (st_store rfl rfl (ev_box rfl) nofun (by first | (simp only [normV, normList, normMap, Tok.cells]; rfl) | rfl) (by simp [V.one, Value.oneCell', Tok.cells]) (.inl ⟨rfl, rfl⟩) rfl (le_ok rfl) (by first | (simp only [normV, normList, normMap, Tok.cells]; rfl) | rfl)) rfl ?_) | (apply at_op (.build _ _); first | refine al_y (y_build rfl (by repeat (first | exact PartsD.nil | (apply PartsD.cons; first | exact ToD.d _ | exact ToD.row _ _ _ _ _ rfl))) (by first | (simp only [dfill, normV, normList, normMap, Tok.cells]; rfl) | (simp [dfill, putD, cellsD, zerosD, Value.cells, Tok.cells]; rfl))) (lt_ok rfl) ?_ | refine al_y (y_buildA rfl (by repeat (first | exact PartsV.nil _ | (apply PartsV.cons; constructor; rfl))) (by rfl) (by rfl)) (lt_ok rfl) ?_ | refine al_y (y_buildV rfl (by repeat (first | exact PartsV.nil _ | (apply PartsV.cons; constructor; rfl))) (by rfl)) (lt_ok rfl) ?_))
     refine aq_round _ _ _ (⟨k + 1, rfl, by omega, fun j y hj hy => (Nat.lt_succ_iff_lt_or_eq.1 hj).elim (fun h => hp j y h hy) (fun e => by subst e; rw [hx] at hy; cases hy; exact hh), rfl, rfl⟩) (by omega) ?_ ?_
     ·(repeat (first | exact sub_nil | (apply sub_cons; focus (first | rfl | exact vint (by first | omega | (simp only [Tok.cells]; omega)) | (simp [look, Tok.cells]; done)))))
     ·(repeat (first | exact obs_nil | (apply obs_cons; focus (first | rfl | (simp [find, Tok.cells]; done)))))
    ·skip
     repeat' (first | (apply at_op (.index _ _ _); refine al_y (y_arr rfl rfl rfl rfl (by with_reducible rfl) hlt hx2) (lt_ok rfl) ?_) | (apply at_call; refine k_call (hasprefix_any s x) hE ?_; rintro _ rfl) | refine nx ?_ | (apply aq_block_y; decide) | (apply qr_move; refine r_move ?_) | (apply qr_assign; refine r_assign ?_) | (apply at_cond; first | refine c_t ?_ | refine c_f ?_ | (refine aw_cond rfl (fun hb => ?_) (fun hb => ?_) <;> ((try have hq := dX hb); (try (exfalso; omega))))) | (apply qr_lss; refine r_lss ?_) | (apply qr_add; refine r_add ?_) | (apply qr_not; refine r_not ?_) | (apply qr_index; refine r_index ?_) | (apply qr_extract; refine r_extract ?_) | (apply qr_slice; refine r_slice ?_) | (apply at_op (.load _ _); first | refine al_y (y_load1 rfl rfl rfl) (lt_ok rfl) ?_ | refine al_y (y_loadA rfl rfl (take_all rfl rfl) rfl) (lt_ok rfl) ?_ | refine al_y (y_loadA rfl rfl rfl rfl) (lt_ok rfl) ?_ | refine al_y (y_bload1 rfl rfl rfl rfl) (lt_ok rfl) ?_ | refine al_y (y_bloadA rfl rfl rfl (by first | (simp only [normV, normList, normMap, Tok.cells]; rfl) | rfl) rfl) (lt_ok rfl) ?_ | refine al_y (y_glob hE (by unfold laidG; first | exact List.Mem.head _ | exact .tail _ (.head _) | exact .tail _ (.tail _ (.head _))) rfl rfl) (lt_ok rfl) ?_) | (apply at_op (.alloc _); refine al_step (st_alloc rfl (by first | (simp only [normV, normList, normMap, Tok.cells]; rfl) | rfl) rfl (lt_ok rfl) rfl) rfl ?_) | (apply at_op (.store _ _ _); first | refine al_step (st_store rfl rfl (ev_d rfl) nofun (by first | (simp only [normV, normList, normMap, Tok.cells]; rfl) | rfl) (by simp [V.one, Value.oneCell', Tok.cells]) (.inl ⟨rfl, rfl⟩) rfl (le_ok rfl) (by first | (simp only [normV, normList, normMap, Tok.cells]; rfl) | rfl)) rfl ?_ | refine al_step (st_store rfl rfl (ev_d rfl) nofun (by first | (simp only [normV, normList, normMap, Tok.cells]; rfl) | rfl) (by simp [V.one, Value.oneCell', Tok.cells]) (.inr rfl) rfl (le_ok rfl) (by first | (simp only [normV, normList, normMap, Tok.cells]; rfl) | rfl)) rfl ?_ | refine al_step (st_store rfl rfl (ev_row rfl) nofun (by first | (simp only [normV, normList, normMap, Tok.cells]; rfl) | rfl) (by simp [V.one, Value.oneCell', Tok.cells]) (.inl ⟨rfl, rfl⟩) rfl (le_ok rfl) (by first | (simp only [normV, normList, normMap, Tok.cells]; rfl) | rfl)) rfl ?_ | refine al_step (st_store rfl rfl (ev_box rfl) nofun (by first | (simp only [normV, normList, normMap, Tok.cells]; rfl) | rfl) (by simp [V.one, Value.oneCell', Tok.cells]) (.inl ⟨rfl, rfl⟩) rfl (le_ok rfl) (by first | (simp only [normV, normList, normMap, Tok.cells]; rfl) | rfl)) rfl ?_) | (apply at_op (.build _ _); first | refine al_y (y_build rfl (by repeat (first | exact PartsD.nil | (apply PartsD.cons; first | exact ToD.d _ | exact ToD.row _ _ _ _ _ rfl))) (by first | (simp only [dfill, normV, normList, normMap, Tok.cells]; rfl) | (simp [dfill, putD, cellsD, zerosD, Value.cells, Tok.cells]; rfl))) (lt_ok rfl) ?_ | refine al_y (y_buildA rfl (by repeat (first | exact PartsV.nil _ | (apply PartsV.cons; constructor; rfl))) (by rfl) (by rfl)) (lt_ok rfl) ?_ | refine al_y (y_buildV rfl (by repeat (first | exact PartsV.nil _ | (apply PartsV.cons; constructor; rfl))) (by rfl)) (lt_ok rfl) ?_))
     refine ret2x (by rfl) (by first | exact ResX.tmp _ _ (by first | exact ToD.d _ | exact ToD.row _ _ _ _ _ rfl) | exact ResX.cellA _ _ _ _ _ _ _ rfl rfl rfl (by first | (simp only [normV, normList, normMap, Tok.cells]; rfl) | rfl) rfl | exact ResX.cell1 _ _ _ _ _ _ rfl rfl rfl (by first | exact ToD.d _ | exact ToD.row _ _ _ _ _ rfl)) (by first | exact ResX.tmp _ _ (by first | exact ToD.d _ | exact ToD.row _ _ _ _ _ rfl) | exact ResX.cellA _ _ _ _ _ _ _ rfl rfl rfl (by first | (simp only [normV, normList, normMap, Tok.cells]; rfl) | rfl) rfl | exact ResX.cell1 _ _ _ _ _ _ rfl rfl rfl (by first | exact ToD.d _ | exact ToD.row _ _ _ _ _ rfl)) ?_
     have h3 : signOf s = some x := find_first hx hh hp
     simp only [nextV, hl, hd, h3]
     rfl
   ·obtain rfl : k = 11 := by omega
    have h3 : signOf s = none := by
     rw [signOf, List.find?_eq_none]
     intro x hx
     obtain ⟨j, hj, rfl⟩ := List.getElem_of_mem hx
     simp [hp j _ hj (List.getElem?_eq_getElem hj)]
    repeat' (first | refine nx ?_ | (apply aq_block_y; decide) | (apply qr_move; refine r_move ?_) | (apply qr_assign; refine r_assign ?_) | (apply at_cond; first | refine c_t ?_ | refine c_f ?_ | (refine aw_cond rfl (fun hb => ?_) (fun hb => ?_) <;> ((try have hq := dX hb); (try (exfalso; omega))))) | (apply qr_lss; refine r_lss ?_) | (apply qr_add; refine r_add ?_) | (apply qr_not; refine r_not ?_) | (apply qr_index; refine r_index ?_) | (apply qr_extract; refine r_extract ?_) | (apply qr_slice; refine r_slice ?_) | (apply at_op (.load _ _); first | refine al_y (y_load1 rfl rfl rfl) (lt_ok rfl) ?_ | refine al_y (y_loadA rfl rfl (take_all rfl rfl) rfl) (lt_ok rfl) ?_ | refine al_y (y_loadA rfl rfl rfl rfl) (lt_ok rfl) ?_ | refine al_y (y_bload1 rfl rfl rfl rfl) (lt_ok rfl) ?_ | refine al_y (y_bloadA rfl rfl rfl (by first | (simp only [normV, normList, normMap, Tok.cells]; rfl) | rfl) rfl) (lt_ok rfl) ?_ | refine al_y (y_glob hE (by unfold laidG; first | exact List.Mem.head _ | exact .tail _ (.head _) | exact .tail _ (.tail _ (.head _))) rfl rfl) (lt_ok rfl) ?_) | (apply at_op (.alloc _); refine al_step (st_alloc rfl (by first | (simp only [normV, normList, normMap, Tok.cells]; rfl) | rfl) rfl (lt_ok rfl) rfl) rfl ?_) | (apply at_op (.store _ _ _); first | refine al_step (st_store rfl rfl (ev_d rfl) nofun (by first | (simp only [normV, normList, normMap, Tok.cells]; rfl) | rfl) (by simp [V.one, Value.oneCell', Tok.cells]) (.inl ⟨rfl, rfl⟩) rfl (le_ok rfl) (by first | (simp only [normV, normList, normMap, Tok.cells]; rfl) | rfl)) rfl ?_ | refine al_step (st_store rfl rfl (ev_d rfl) nofun (by first | (simp only [normV, normList, normMap, Tok.cells]; rfl) | rfl) (by simp [V.one, Value.oneCell', Tok.cells]) (.inr rfl) rfl (le_ok rfl) (by first | (simp only [normV, normList, normMap, Tok.cells]; rfl) | rfl)) rfl ?_ | refine al_step (st_store rfl rfl (ev_row rfl) nofun (by first | (simp only [normV, normList, normMap, Tok.cells]; rfl) | rfl) (by simp [V.one, Value.oneCell', Tok.cells]) (.inl ⟨rfl, rfl⟩) rfl (le_ok rfl) (by first | (simp only [normV, normList, normMap, Tok.cells]; rfl) | rfl)) rfl ?_ | refine al_step (st_store rfl rfl (ev_box rfl) nofun (by first | (simp only [normV, normList, normMap, Tok.cells]; rfl) | rfl) (by simp [V.one, Value.oneCell', Tok.cells]) (.inl ⟨rfl, rfl⟩) rfl (le_ok rfl) (by first | (simp only [normV, normList, normMap, Tok.cells]; rfl) | rfl)) rfl ?_) | (apply at_op (.build _ _); first | refine al_y (y_build rfl (by repeat (first | exact PartsD.nil | (apply PartsD.cons; first | exact ToD.d _ | exact ToD.row _ _ _ _ _ rfl))) (by first | (simp only [dfill, normV, normList, normMap, Tok.cells]; rfl) | (simp [dfill, putD, cellsD, zerosD, Value.cells, Tok.cells]; rfl))) (lt_ok rfl) ?_ | refine al_y (y_buildA rfl (by repeat (first | exact PartsV.nil _ | (apply PartsV.cons; constructor; rfl))) (by rfl) (by rfl)) (lt_ok rfl) ?_ | refine al_y (y_buildV rfl (by repeat (first | exact PartsV.nil _ | (apply PartsV.cons; constructor; rfl))) (by rfl)) (lt_ok rfl) ?_))
    refine ret2x (by rfl) (by first | exact ResX.tmp _ _ (by first | exact ToD.d _ | exact ToD.row _ _ _ _ _ rfl) | exact ResX.cellA _ _ _ _ _ _ _ rfl rfl rfl (by first | (simp only [normV, normList, normMap, Tok.cells]; rfl) | rfl) rfl | exact ResX.cell1 _ _ _ _ _ _ rfl rfl rfl (by first | exact ToD.d _ | exact ToD.row _ _ _ _ _ rfl)) (by first | exact ResX.tmp _ _ (by first | exact ToD.d _ | exact ToD.row _ _ _ _ _ rfl) | exact ResX.cellA _ _ _ _ _ _ _ rfl rfl rfl (by first | (simp only [normV, normList, normMap, Tok.cells]; rfl) | rfl) rfl | exact ResX.cell1 _ _ _ _ _ _ rfl rfl rfl (by first | exact ToD.d _ | exact ToD.row _ _ _ _ _ rfl)) ?_
    simp only [nextV, hl, hd, h3]
    rfl
  ·cases hn : numOk (s.extract 0 (pre digitB s))
   ·have hn2 := numD_no hn
    repeat' (first | (apply at_call; refine k_call (letter_any _) hE ?_; rintro _ rfl) | (apply at_call; refine k_call (digit_any _) hE ?_; rintro _ rfl) | (apply at_call; refine k_call (span_any s 101 digitB hs digit_any) hE ?_; rintro _ rfl) | (apply at_call; refine k_call (number_any (s.extract 0 (pre digitB s)) (by omega)) hE ?_; rw [hn2]; rintro _ rfl) | refine nx ?_ | (apply aq_block_y; decide) | (apply qr_move; refine r_move ?_) | (apply qr_assign; refine r_assign ?_) | (apply at_cond; first | refine c_t ?_ | refine c_f ?_ | (refine aw_cond rfl (fun hb => ?_) (fun hb => ?_) <;> ((try have hq := dX hb); (try (exfalso; omega))))) | (apply qr_lss; refine r_lss ?_) | (apply qr_add; refine r_add ?_) | (apply qr_not; refine r_not ?_) | (apply qr_index; refine r_index ?_) | (apply qr_extract; refine r_extract ?_) | (apply qr_slice; refine r_slice ?_) | (apply at_op (.load _ _); first | refine al_y (y_load1 rfl rfl rfl) (lt_ok rfl) ?_ | refine al_y (y_loadA rfl rfl (take_all rfl rfl) rfl) (lt_ok rfl) ?_ | refine al_y (y_loadA rfl rfl rfl rfl) (lt_ok rfl) ?_ | refine al_y (y_bload1 rfl rfl rfl rfl) (lt_ok rfl) ?_ | refine al_y (y_bloadA rfl rfl rfl (by first | (simp only [normV, normList, normMap, Tok.cells]; rfl) | rfl) rfl) (lt_ok rfl) ?_ | refine al_y (y_glob hE (by unfold laidG; first | exact List.Mem.head _ | exact .tail _ (.head _) | exact .tail _ (.tail _ (.head _))) rfl rfl) (lt_ok rfl) ?_) | (apply at_op (.alloc _); refine al_step (st_alloc rfl (by first | (simp only [normV, normList, normMap, Tok.cells]; rfl) | rfl) rfl (lt_ok rfl) rfl) rfl ?_) | (apply at_op (.store _ _ _); first | refine al_step (st_store rfl rfl (ev_d rfl) nofun (by first | (simp only [normV, normList, normMap, Tok.cells]; rfl) | rfl) (by simp [V.one, Value.oneCell', Tok.cells]) (.inl ⟨rfl, rfl⟩) rfl (le_ok rfl) (by first | (simp only [normV, normList, normMap, Tok.cells]; rfl) | rfl)) rfl ?_ | refine al_step (st_store rfl rfl (ev_d rfl) nofun (by first | (simp only [normV, normList, normMap, Tok.cells]; rfl) | rfl) (by simp [V.one, Value.oneCell', Tok.cells]) (.inr rfl) rfl (le_ok rfl) (by first | (simp only [normV, normList, normMap, Tok.cells]; rfl) | rfl)) rfl ?_ | refine al_step (st_store rfl rfl (ev_row rfl) nofun (by first | (simp only [normV, normList, normMap, Tok.cells]; rfl) | rfl) (by simp [V.one, Value.oneCell', Tok.cells]) (.inl ⟨rfl, rfl⟩) rfl (le_ok rfl) (by first | (simp only [normV, normList, normMap, Tok.cells]; rfl) | rfl)) rfl ?_ | refine al_step (st_store rfl rfl (ev_box rfl) nofun (by first | (simp only [normV, normList, normMap, Tok.cells]; rfl) | rfl) (by simp [V.one, Value.oneCell', Tok.cells]) (.inl ⟨rfl, rfl⟩) rfl (le_ok rfl) (by first | (simp only [normV, normList, normMap, Tok.cells]; rfl) | rfl)) rfl ?_) | (apply at_op (.build _ _); first | refine al_y (y_build rfl (by repeat (first | exact PartsD.nil | (apply PartsD.cons; first | exact ToD.d _ | exact ToD.row _ _ _ _ _ rfl))) (by first | (simp only [dfill, normV, normList, normMap, Tok.cells]; rfl) | (simp [dfill, putD, cellsD, zerosD, Value.cells, Tok.cells]; rfl))) (lt_ok rfl) ?_ | refine al_y (y_buildA rfl (by repeat (first | exact PartsV.nil _ | (apply PartsV.cons; constructor; rfl))) (by rfl) (by rfl)) (lt_ok rfl) ?_ | refine al_y (y_buildV rfl (by repeat (first | exact PartsV.nil _ | (apply PartsV.cons; constructor; rfl))) (by rfl)) (lt_ok rfl) ?_))
    refine ret2x (by rfl) (by first | exact ResX.tmp _ _ (by first | exact ToD.d _ | exact ToD.row _ _ _ _ _ rfl) | exact ResX.cellA _ _ _ _ _ _ _ rfl rfl rfl (by first | (simp only [normV, normList, normMap, Tok.cells]; rfl) | rfl) rfl | exact ResX.cell1 _ _ _ _ _ _ rfl rfl rfl (by first | exact ToD.d _ | exact ToD.row _ _ _ _ _ rfl)) (by first | exact ResX.tmp _ _ (by first | exact ToD.d _ | exact ToD.row _ _ _ _ _ rfl) | exact ResX.cellA _ _ _ _ _ _ _ rfl rfl rfl (by first | (simp only [normV, normList, normMap, Tok.cells]; rfl) | rfl) rfl | exact ResX.cell1 _ _ _ _ _ _ rfl rfl rfl (by first | exact ToD.d _ | exact ToD.row _ _ _ _ _ rfl)) ?_
    simp only [nextV, hl, hd, hn]
    rfl
   ·have hn2 : numD (s.extract 0 (pre digitB s)) = .tup [.int (numTo (s.extract 0 (pre digitB s)) (s.extract 0 (pre digitB s)).size), .bool true] := by simp only [numD, hn, if_true]
    repeat' (first | (apply at_call; refine k_call (letter_any _) hE ?_; rintro _ rfl) | (apply at_call; refine k_call (digit_any _) hE ?_; rintro _ rfl) | (apply at_call; refine k_call (span_any s 101 digitB hs digit_any) hE ?_; rintro _ rfl) | (apply at_call; refine k_call (number_any (s.extract 0 (pre digitB s)) (by omega)) hE ?_; rw [hn2]; rintro _ rfl) | refine nx ?_ | (apply aq_block_y; decide) | (apply qr_move; refine r_move ?_) | (apply qr_assign; refine r_assign ?_) | (apply at_cond; first | refine c_t ?_ | refine c_f ?_ | (refine aw_cond rfl (fun hb => ?_) (fun hb => ?_) <;> ((try have hq := dX hb); (try (exfalso; omega))))) | (apply qr_lss; refine r_lss ?_) | (apply qr_add; refine r_add ?_) | (apply qr_not; refine r_not ?_) | (apply qr_index; refine r_index ?_) | (apply qr_extract; refine r_extract ?_) | (apply qr_slice; refine r_slice ?_) | (apply at_op (.load _ _); first | refine al_y (y_load1 rfl rfl rfl) (lt_ok rfl) ?_ | refine al_y (y_loadA rfl rfl (take_all rfl rfl) rfl) (lt_ok rfl) ?_ | refine al_y (y_loadA rfl rfl rfl rfl) (lt_ok rfl) ?_ | refine al_y (y_bload1 rfl rfl rfl rfl) (lt_ok rfl) ?_ | refine al_y (y_bloadA rfl rfl rfl (by first | (simp only [normV, normList, normMap, Tok.cells]; rfl) | rfl) rfl) (lt_ok rfl) ?_ | refine al_y (y_glob hE (by unfold laidG; first | exact List.Mem.head _ | exact .tail _ (.head _) | exact .tail _ (.tail _ (.head _))) rfl rfl) (lt_ok rfl) ?_) | (apply at_op (.alloc _); refine al_step (st_alloc rfl (by first | (simp only [normV, normList, normMap, Tok.cells]; rfl) | rfl) rfl (lt_ok rfl) rfl) rfl ?_) | (apply at_op (.store _ _ _); first | refine al_step (st_store rfl rfl (ev_d rfl) nofun (by first | (simp only [normV, normList, normMap, Tok.cells]; rfl) | rfl) (by simp [V.one, Value.oneCell', Tok.cells]) (.inl ⟨rfl, rfl⟩) rfl (le_ok rfl) (by first | (simp only [normV, normList, normMap, Tok.cells]; rfl) | rfl)) rfl ?_ | refine al_step (st_store rfl rfl (ev_d rfl) nofun (by first | (simp only [normV, normList, normMap, Tok.cells]; rfl) | rfl) (by simp [V.one, Value.oneCell', Tok.cells]) (.inr rfl) rfl (le_ok rfl) (by first | (simp only [normV, normList, normMap, Tok.cells]; rfl) | rfl)) rfl ?_ | refine al_step (st_store rfl rfl (ev_row rfl) nofun (by first | (simp only [normV, normList, normMap, Tok.cells]; rfl) | rfl) (by simp [V.one, Value.oneCell', Tok.cells]) (.inl ⟨rfl, rfl⟩) rfl (le_ok rfl) (by first | (simp only [normV, normList, normMap, Tok.cells]; rfl) | rfl)) rfl ?_ | refine al_step (st_store rfl rfl (ev_box rfl) nofun (by first | (simp only [normV, normList, normMap, Tok.cells]; rfl) | rfl) (by simp [V.one, Value.oneCell', Tok.cells]) (.inl ⟨rfl, rfl⟩) rfl (le_ok rfl) (by first | (simp only [normV, normList, normMap, Tok.cells]; rfl) | rfl)) rfl ?_) | (apply at_op (.build _ _); first | refine al_y (y_build rfl (by repeat (first | exact PartsD.nil | (apply PartsD.cons; first | exact ToD.d _ | exact ToD.row _ _ _ _ _ rfl))) (by first | (simp only [dfill, normV, normList, normMap, Tok.cells]; rfl) | (simp [dfill, putD, cellsD, zerosD, Value.cells, Tok.cells]; rfl))) (lt_ok rfl) ?_ | refine al_y (y_buildA rfl (by repeat (first | exact PartsV.nil _ | (apply PartsV.cons; constructor; rfl))) (by rfl) (by rfl)) (lt_ok rfl) ?_ | refine al_y (y_buildV rfl (by repeat (first | exact PartsV.nil _ | (apply PartsV.cons; constructor; rfl))) (by rfl)) (lt_ok rfl) ?_))
    refine ret2x (by rfl) (by first | exact ResX.tmp _ _ (by first | exact ToD.d _ | exact ToD.row _ _ _ _ _ rfl) | exact ResX.cellA _ _ _ _ _ _ _ rfl rfl rfl (by first | (simp only [normV, normList, normMap, Tok.cells]; rfl) | rfl) rfl | exact ResX.cell1 _ _ _ _ _ _ rfl rfl rfl (by first | exact ToD.d _ | exact ToD.row _ _ _ _ _ rfl)) (by first | exact ResX.tmp _ _ (by first | exact ToD.d _ | exact ToD.row _ _ _ _ _ rfl) | exact ResX.cellA _ _ _ _ _ _ _ rfl rfl rfl (by first | (simp only [normV, normList, normMap, Tok.cells]; rfl) | rfl) rfl | exact ResX.cell1 _ _ _ _ _ _ rfl rfl rfl (by first | exact ToD.d _ | exact ToD.row _ _ _ _ _ rfl)) ?_
    simp only [nextV, hl, hd, hn, hz2]
    rfl
 ·cases hw : wordB (s.extract 0 (pre alnumB s))
  ·have hw1 : (!wordB (s.extract 0 (pre alnumB s))) = true := by simp [hw]
   repeat' (first | (apply at_call; refine k_call (letter_any _) hE ?_; rintro _ rfl) | (apply at_call; refine k_call (span_any s 121 alnumB hs next1_any) hE ?_; rintro _ rfl) | (apply at_call; refine k_call (word_any (s.extract 0 (pre alnumB s)) (by omega)) hE ?_; rintro _ rfl) | refine nx ?_ | (apply aq_block_y; decide) | (apply qr_move; refine r_move ?_) | (apply qr_assign; refine r_assign ?_) | (apply at_cond; first | refine c_t ?_ | refine c_f ?_ | (refine aw_cond rfl (fun hb => ?_) (fun hb => ?_) <;> ((try have hq := dX hb); (try (exfalso; omega))))) | (apply qr_lss; refine r_lss ?_) | (apply qr_add; refine r_add ?_) | (apply qr_not; refine r_not ?_) | (apply qr_index; refine r_index ?_) | (apply qr_extract; refine r_extract ?_) | (apply qr_slice; refine r_slice ?_) | (apply at_op (.load _ _); first | refine al_y (y_load1 rfl rfl rfl) (lt_ok rfl) ?_ | refine al_y (y_loadA rfl rfl (take_all rfl rfl) rfl) (lt_ok rfl) ?_ | refine al_y (y_loadA rfl rfl rfl rfl) (lt_ok rfl) ?_ | refine al_y (y_bload1 rfl rfl rfl rfl) (lt_ok rfl) ?_ | refine al_y (y_bloadA rfl rfl rfl (by first | (simp only [normV, normList, normMap, Tok.cells]; rfl) | rfl) rfl) (lt_ok rfl) ?_ | refine al_y (y_glob hE (by unfold laidG; first | exact List.Mem.head _ | exact .tail _ (.head _) | exact .tail _ (.tail _ (.head _))) rfl rfl) (lt_ok rfl) ?_) | (apply at_op (.alloc _); refine al_step (st_alloc rfl (by first | (simp only [normV, normList, normMap, Tok.cells]; rfl) | rfl) rfl (lt_ok rfl) rfl) rfl ?_) | (apply at_op (.store _ _ _); first | refine al_step (st_store rfl rfl (ev_d rfl) nofun (by first | (simp only [normV, normList, normMap, Tok.cells]; rfl) | rfl) (by simp [V.one, Value.oneCell', Tok.cells]) (.inl ⟨rfl, rfl⟩) rfl (le_ok rfl) (by first | (simp only [normV, normList, normMap, Tok.cells]; rfl) | rfl)) rfl ?_ | refine al_step (st_store rfl rfl (ev_d rfl) nofun (by first | (simp only [normV, normList, normMap, Tok.cells]; rfl) | rfl) (by simp [V.one, Value.oneCell', Tok.cells]) (.inr rfl) rfl (le_ok rfl) (by first | (simp only [normV, normList, normMap, Tok.cells]; rfl) | rfl)) rfl ?_ | refine al_step (st_store rfl rfl (ev_row rfl) nofun (by first | (simp only [normV, normList, normMap, Tok.cells]; rfl) | rfl) (by simp [V.one, Value.oneCell', Tok.cells]) (.inl ⟨rfl, rfl⟩) rfl (le_ok rfl) (by first | (simp only [normV, normList, normMap, Tok.cells]; rfl) | rfl)) rfl ?_ | refine al_step (st_store rfl rfl (ev_box rfl) nofun (by first | (simp only [normV, normList, normMap, Tok.cells]; rfl) | rfl) (by simp [V.one, Value.oneCell', Tok.cells]) (.inl ⟨rfl, rfl⟩) rfl (le_ok rfl) (by first | (simp only [normV, normList, normMap, Tok.cells]; rfl) | rfl)) rfl ?_) | (apply at_op (.build _ _); first | refine al_y (y_build rfl (by repeat (first | exact PartsD.nil | (apply PartsD.cons; first | exact ToD.d _ | exact ToD.row _ _ _ _ _ rfl))) (by first | (simp only [dfill, normV, normList, normMap, Tok.cells]; rfl) | (simp [dfill, putD, cellsD, zerosD, Value.cells, Tok.cells]; rfl))) (lt_ok rfl) ?_ | refine al_y (y_buildA rfl (by repeat (first | exact PartsV.nil _ | (apply PartsV.cons; constructor; rfl))) (by rfl) (by rfl)) (lt_ok rfl) ?_ | refine al_y (y_buildV rfl (by repeat (first | exact PartsV.nil _ | (apply PartsV.cons; constructor; rfl))) (by rfl)) (lt_ok rfl) ?_))
   refine ret2x (by rfl) (by first | exact ResX.tmp _ _ (by first | exact ToD.d _ | exact ToD.row _ _ _ _ _ rfl) | exact ResX.cellA _ _ _ _ _ _ _ rfl rfl rfl (by first | (simp only [normV, normList, normMap, Tok.cells]; rfl) | rfl) rfl | exact ResX.cell1 _ _ _ _ _ _ rfl rfl rfl (by first | exact ToD.d _ | exact ToD.row _ _ _ _ _ rfl)) (by first | exact ResX.tmp _ _ (by first | exact ToD.d _ | exact ToD.row _ _ _ _ _ rfl) | exact ResX.cellA _ _ _ _ _ _ _ rfl rfl rfl (by first | (simp only [normV, normList, normMap, Tok.cells]; rfl) | rfl) rfl | exact ResX.cell1 _ _ _ _ _ _ rfl rfl rfl (by first | exact ToD.d _ | exact ToD.row _ _ _ _ _ rfl)) ?_
   simp only [nextV, hl, hw]
   rfl
  ·have hw1 : (!wordB (s.extract 0 (pre alnumB s))) = false := by simp [hw]
   repeat' (first | (apply at_call; refine k_call (letter_any _) hE ?_; rintro _ rfl) | (apply at_call; refine k_call (span_any s 121 alnumB hs next1_any) hE ?_; rintro _ rfl) | (apply at_call; refine k_call (word_any (s.extract 0 (pre alnumB s)) (by omega)) hE ?_; rintro _ rfl) | refine nx ?_ | (apply aq_block_y; decide) | (apply qr_move; refine r_move ?_) | (apply qr_assign; refine r_assign ?_) | (apply at_cond; first | refine c_t ?_ | refine c_f ?_ | (refine aw_cond rfl (fun hb => ?_) (fun hb => ?_) <;> ((try have hq := dX hb); (try (exfalso; omega))))) | (apply qr_lss; refine r_lss ?_) | (apply qr_add; refine r_add ?_) | (apply qr_not; refine r_not ?_) | (apply qr_index; refine r_index ?_) | (apply qr_extract; refine r_extract ?_) | (apply qr_slice; refine r_slice ?_) | (apply at_op (.load _ _); first | refine al_y (y_load1 rfl rfl rfl) (lt_ok rfl) ?_ | refine al_y (y_loadA rfl rfl (take_all rfl rfl) rfl) (lt_ok rfl) ?_ | refine al_y (y_loadA rfl rfl rfl rfl) (lt_ok rfl) ?_ | refine al_y (y_bload1 rfl rfl rfl rfl) (lt_ok rfl) ?_ | refine al_y (y_bloadA rfl rfl rfl (by first | (simp only [normV, normList, normMap, Tok.cells]; rfl) | rfl) rfl) (lt_ok rfl) ?_ | refine al_y (y_glob hE (by unfold laidG; first | exact List.Mem.head _ | exact .tail _ (.head _) | exact .tail _ (.tail _ (.head _))) rfl rfl) (lt_ok rfl) ?_) | (apply at_op (.alloc _); refine al_step (st_alloc rfl (by first | (simp only [normV, normList, normMap, Tok.cells]; rfl) | rfl) rfl (lt_ok rfl) rfl) rfl ?_) | (apply at_op (.store _ _ _); first | refine al_step (st_store rfl rfl (ev_d rfl) nofun (by first | (simp only [normV, normList, normMap, Tok.cells]; rfl) | rfl) (by simp [V.one, Value.oneCell', Tok.cells]) (.inl ⟨rfl, rfl⟩) rfl (le_ok rfl) (by first | (simp only [normV, normList, normMap, Tok.cells]; rfl) | rfl)) rfl ?_ | refine al_step (st_store rfl rfl (ev_d rfl) nofun (by first | (simp only [normV, normList, normMap, Tok.cells]; rfl) | rfl) (by simp [V.one, Value.oneCell', Tok.cells]) (.inr rfl) rfl (le_ok rfl) (by first | (simp only [normV, normList, normMap, Tok.cells]; rfl) | rfl)) rfl ?_ | refine al_step (st_store rfl rfl (ev_row rfl) nofun (by first | (simp only [normV, normList, normMap, Tok.cells]; rfl) | rfl) (by simp [V.one, Value.oneCell', Tok.cells]) (.inl ⟨rfl, rfl⟩) rfl (le_ok rfl) (by first | (simp only [normV, normList, normMap, Tok.cells]; rfl) | rfl)) rfl ?_ | refine al_step (st_store rfl rfl (ev_box rfl) nofun (by first | (simp only [normV, normList, normMap, Tok.cells]; rfl) | rfl) (by simp [V.one, Value.oneCell', Tok.cells]) (.inl ⟨rfl, rfl⟩) rfl (le_ok rfl) (by first | (simp only [normV, normList, normMap, Tok.cells]; rfl) | rfl)) rfl ?_) | (apply at_op (.build _ _); first | refine al_y (y_build rfl (by repeat (first | exact PartsD.nil | (apply PartsD.cons; first | exact ToD.d _ | exact ToD.row _ _ _ _ _ rfl))) (by first | (simp only [dfill, normV, normList, normMap, Tok.cells]; rfl) | (simp [dfill, putD, cellsD, zerosD, Value.cells, Tok.cells]; rfl))) (lt_ok rfl) ?_ | refine al_y (y_buildA rfl (by repeat (first | exact PartsV.nil _ | (apply PartsV.cons; constructor; rfl))) (by rfl) (by rfl)) (lt_ok rfl) ?_ | refine al_y (y_buildV rfl (by repeat (first | exact PartsV.nil _ | (apply PartsV.cons; constructor; rfl))) (by rfl)) (lt_ok rfl) ?_))
   refine ret2x (by rfl) (by first | exact ResX.tmp _ _ (by first | exact ToD.d _ | exact ToD.row _ _ _ _ _ rfl) | exact ResX.cellA _ _ _ _ _ _ _ rfl rfl rfl (by first | (simp only [normV, normList, normMap, Tok.cells]; rfl) | rfl) rfl | exact ResX.cell1 _ _ _ _ _ _ rfl rfl rfl (by first | exact ToD.d _ | exact ToD.row _ _ _ _ _ rfl)) (by first | exact ResX.tmp _ _ (by first | exact ToD.d _ | exact ToD.row _ _ _ _ _ rfl) | exact ResX.cellA _ _ _ _ _ _ _ rfl rfl rfl (by first | (simp only [normV, normList, normMap, Tok.cells]; rfl) | rfl) rfl | exact ResX.cell1 _ _ _ _ _ _ rfl rfl rfl (by first | exact ToD.d _ | exact ToD.row _ _ _ _ _ rfl)) ?_
   simp only [nextV, hl, hw]
   rfl
end Go.Proofs.YtedoeogopmenpaaGreatDoor
end
