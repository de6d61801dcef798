/-
  Conditions: none.
-/
import Derived.Test.YtedoeogopmenpaaGreatDoorMam
set_option maxHeartbeats 16000000
set_option maxRecDepth 20000
section
set_option linter.unusedSimpArgs false
set_option linter.unusedVariables false
namespace Go.Proofs.YtedoeogopmenpaaGreatDoor
open Go.RowKit
def singles : ByteArray := ⟨#[59, 44, 61, 60, 43, 45, 42, 47, 40, 41]⟩
def singleB (c : UInt8) : Bool := (List.range 10).any fun j => decide (c.toNat = (bAt singles j).toNat)
def signTo (s : ByteArray) (p : Nat) : Int :=
 if p + 1 < s.size ∧ (bAt s (p + 1)).toNat = 61 ∧ (bAt s p).toNat = 61 then 2 else if singleB (bAt s p) then 1 else 0
theorem sign_any (s : ByteArray) (p : Nat) (hp : p < s.size) (hs : s.size ≤ 1000000) : PureC 129 [.str s, .int p] (· = .int (signTo s p)) := by
 refine pure_enter Tryz.func129 rfl (by decide) _ Tryz.ntmps129 (le_ok rfl) (fun w Pr hE => ?_)
 dsimp only [slotsOf, Nat.zero_add, Nat.reduceAdd]
 by_cases h2 : p + 1 < s.size ∧ (bAt s (p + 1)).toNat = 61 ∧ (bAt s p).toNat = 61
 ·have e1 := decide_eq_true (show ((bAt s (p + 1)).toNat : Int) = 61 by omega)
  have e2 := decide_eq_true (show ((bAt s p).toNat : Int) = 61 by omega)
  have hp2 := h2.1
  repeat' (first | refine nx ?_ | (apply aq_block_y; decide) | (apply qr_move; refine r_move ?_) | (apply qr_assign; refine r_assign ?_) | (apply at_cond; first | refine c_t ?_ | refine c_f ?_ | (refine aw_cond rfl (fun hb => ?_) (fun hb => ?_) <;> ((try have hq := dX hb); (try (exfalso; omega))))) | (apply at_guard; first | refine g_go ?_ | refine g_nt ?_ | refine g_nf ?_ | refine g_nu ?_ | ((first | refine al_split_t rfl rfl (lt_ok rfl) (fun hb => ?_) (fun hb => ?_) | refine al_split_f rfl rfl (lt_ok rfl) (fun hb => ?_) (fun hb => ?_)) <;> ((try have hq := dX hb); (try (exfalso; omega))))) | (apply qr_pick; refine r_pick ?_) | (apply qr_lss; refine r_lss ?_) | (apply qr_eql; refine r_eql ?_) | (apply qr_add; refine r_add ?_) | (apply qr_len; refine r_len ?_) | (apply qr_index; refine r_index ?_))
  refine rt1 ?_
  simp [signTo, h2]
 ·skip
  repeat' (first | refine nx ?_ | (apply aq_block_y; decide) | (apply qr_move; refine r_move ?_) | (apply qr_assign; refine r_assign ?_) | (apply at_cond; first | refine c_t ?_ | refine c_f ?_ | (refine aw_cond rfl (fun hb => ?_) (fun hb => ?_) <;> ((try have hq := dX hb); (try (exfalso; omega))))) | (apply at_guard; first | refine g_go ?_ | refine g_nt ?_ | refine g_nf ?_ | refine g_nu ?_ | ((first | refine al_split_t rfl rfl (lt_ok rfl) (fun hb => ?_) (fun hb => ?_) | refine al_split_f rfl rfl (lt_ok rfl) (fun hb => ?_) (fun hb => ?_)) <;> ((try have hq := dX hb); (try (exfalso; omega))))) | (apply qr_pick; refine r_pick ?_) | (apply qr_lss; refine r_lss ?_) | (apply qr_eql; refine r_eql ?_) | (apply qr_add; refine r_add ?_) | (apply qr_len; refine r_len ?_) | (apply qr_index; refine r_index ?_))
  all_goals
   refine aw_loop2 (fun n sl ob => ∃ k : Nat, n = 10 - k ∧ k ≤ 10 ∧ (∀ j, j < k → (bAt s p).toNat ≠ (bAt singles j).toNat) ∧ sl = [(6, .d (.int k)), (5, .d (.str singles)), (0, .d (.str s)), (1, .d (.int p))] ∧ ob = []) (_) _ _ (⟨0, rfl, by omega, by simp, rfl, rfl⟩) ?_ ?_ ?_
   ·(repeat (first | exact sub_nil | (apply sub_cons; focus (first | rfl | exact vint (by first | omega | (simp only [Tok.cells]; omega)) | (simp [look, Tok.cells]; done)))))
   ·(repeat (first | exact obs_nil | (apply obs_cons; focus (first | rfl | (simp [find, Tok.cells]; done)))))
   rintro n sl ob ⟨k, rfl, hk, hno, rfl, rfl⟩
   by_cases hlt : k < 10
   ·have hz : singles.size = 10 := rfl
    by_cases he : (bAt s p).toNat = (bAt singles k).toNat
    ·have e1 := decide_eq_true (show ((bAt s p).toNat : Int) = (bAt singles k).toNat by omega)
     repeat' (first | refine nx ?_ | (apply aq_block_y; decide) | (apply qr_move; refine r_move ?_) | (apply qr_assign; refine r_assign ?_) | (apply at_cond; first | refine c_t ?_ | refine c_f ?_ | (refine aw_cond rfl (fun hb => ?_) (fun hb => ?_) <;> ((try have hq := dX hb); (try (exfalso; omega))))) | (apply at_guard; first | refine g_go ?_ | refine g_nt ?_ | refine g_nf ?_ | refine g_nu ?_ | ((first | refine al_split_t rfl rfl (lt_ok rfl) (fun hb => ?_) (fun hb => ?_) | refine al_split_f rfl rfl (lt_ok rfl) (fun hb => ?_) (fun hb => ?_)) <;> ((try have hq := dX hb); (try (exfalso; omega))))) | (apply qr_pick; refine r_pick ?_) | (apply qr_lss; refine r_lss ?_) | (apply qr_eql; refine r_eql ?_) | (apply qr_add; refine r_add ?_) | (apply qr_len; refine r_len ?_) | (apply qr_index; refine r_index ?_))
     refine aw_mix [(0, true), (1, true), (2, true), (3, true), (4, true), (5, true), (6, true)] [] (by kernel_rfl) (by kernel_rfl) (by kernel_rfl) (by decide) ?_
     simp only [planned, tailed, List.filterMap_cons, List.filterMap_nil, List.getElem?_cons_zero, List.getElem?_cons_succ, Option.map_some]
     repeat' (first | apply am_nil | refine m_skip ?_ | refine n_skip ?_ | (apply qm_move; refine m_move ?_) | (apply qm_eql; refine m_eql ?_) | (apply qm_index; refine m_index ?_) | (refine am_split rfl rfl (fun hb => ?_) (fun hb => ?_) <;> ((try have hq := dX hb); (try (exfalso; omega)))))
     repeat' (first | refine nx ?_ | (apply aq_block_y; decide) | (apply qr_move; refine r_move ?_) | (apply qr_assign; refine r_assign ?_) | (apply at_cond; first | refine c_t ?_ | refine c_f ?_ | (refine aw_cond rfl (fun hb => ?_) (fun hb => ?_) <;> ((try have hq := dX hb); (try (exfalso; omega))))) | (apply at_guard; first | refine g_go ?_ | refine g_nt ?_ | refine g_nf ?_ | refine g_nu ?_ | ((first | refine al_split_t rfl rfl (lt_ok rfl) (fun hb => ?_) (fun hb => ?_) | refine al_split_f rfl rfl (lt_ok rfl) (fun hb => ?_) (fun hb => ?_)) <;> ((try have hq := dX hb); (try (exfalso; omega))))) | (apply qr_pick; refine r_pick ?_) | (apply qr_lss; refine r_lss ?_) | (apply qr_eql; refine r_eql ?_) | (apply qr_add; refine r_add ?_) | (apply qr_len; refine r_len ?_) | (apply qr_index; refine r_index ?_))
     refine rt1 ?_
     have h3 : singleB (bAt s p) = true := List.any_eq_true.2 ⟨k, List.mem_range.2 hlt, decide_eq_true he⟩
     simp [signTo, h2, h3]
    ·have e1 := decide_eq_false (show ¬ ((bAt s p).toNat : Int) = (bAt singles k).toNat by omega)
     repeat' (first | refine nx ?_ | (apply aq_block_y; decide) | (apply qr_move; refine r_move ?_) | (apply qr_assign; refine r_assign ?_) | (apply at_cond; first | refine c_t ?_ | refine c_f ?_ | (refine aw_cond rfl (fun hb => ?_) (fun hb => ?_) <;> ((try have hq := dX hb); (try (exfalso; omega))))) | (apply at_guard; first | refine g_go ?_ | refine g_nt ?_ | refine g_nf ?_ | refine g_nu ?_ | ((first | refine al_split_t rfl rfl (lt_ok rfl) (fun hb => ?_) (fun hb => ?_) | refine al_split_f rfl rfl (lt_ok rfl) (fun hb => ?_) (fun hb => ?_)) <;> ((try have hq := dX hb); (try (exfalso; omega))))) | (apply qr_pick; refine r_pick ?_) | (apply qr_lss; refine r_lss ?_) | (apply qr_eql; refine r_eql ?_) | (apply qr_add; refine r_add ?_) | (apply qr_len; refine r_len ?_) | (apply qr_index; refine r_index ?_))
     refine aw_mix [(0, true), (1, true), (2, true), (3, true), (4, true), (5, true), (6, true)] [] (by kernel_rfl) (by kernel_rfl) (by kernel_rfl) (by decide) ?_
     simp only [planned, tailed, List.filterMap_cons, List.filterMap_nil, List.getElem?_cons_zero, List.getElem?_cons_succ, Option.map_some]
     repeat' (first | apply am_nil | refine m_skip ?_ | refine n_skip ?_ | (apply qm_move; refine m_move ?_) | (apply qm_eql; refine m_eql ?_) | (apply qm_index; refine m_index ?_) | (refine am_split rfl rfl (fun hb => ?_) (fun hb => ?_) <;> ((try have hq := dX hb); (try (exfalso; omega)))))
     repeat' (first | refine nx ?_ | (apply aq_block_y; decide) | (apply qr_move; refine r_move ?_) | (apply qr_assign; refine r_assign ?_) | (apply at_cond; first | refine c_t ?_ | refine c_f ?_ | (refine aw_cond rfl (fun hb => ?_) (fun hb => ?_) <;> ((try have hq := dX hb); (try (exfalso; omega))))) | (apply at_guard; first | refine g_go ?_ | refine g_nt ?_ | refine g_nf ?_ | refine g_nu ?_ | ((first | refine al_split_t rfl rfl (lt_ok rfl) (fun hb => ?_) (fun hb => ?_) | refine al_split_f rfl rfl (lt_ok rfl) (fun hb => ?_) (fun hb => ?_)) <;> ((try have hq := dX hb); (try (exfalso; omega))))) | (apply qr_pick; refine r_pick ?_) | (apply qr_lss; refine r_lss ?_) | (apply qr_eql; refine r_eql ?_) | (apply qr_add; refine r_add ?_) | (apply qr_len; refine r_len ?_) | (apply qr_index; refine r_index ?_))
     refine aq_round _ _ _ (⟨k + 1, rfl, by omega, fun j hj => (Nat.lt_succ_iff_lt_or_eq.1 hj).elim (hno j) (fun e => e ▸ he), rfl, rfl⟩) (by omega) ?_ ?_
     ·(repeat (first | exact sub_nil | (apply sub_cons; focus (first | rfl | exact vint (by first | omega | (simp only [Tok.cells]; omega)) | (simp [look, Tok.cells]; done)))))
     ·(repeat (first | exact obs_nil | (apply obs_cons; focus (first | rfl | (simp [find, Tok.cells]; done)))))
   ·obtain rfl : k = 10 := by omega
    repeat' (first | refine nx ?_ | (apply aq_block_y; decide) | (apply qr_move; refine r_move ?_) | (apply qr_assign; refine r_assign ?_) | (apply at_cond; first | refine c_t ?_ | refine c_f ?_ | (refine aw_cond rfl (fun hb => ?_) (fun hb => ?_) <;> ((try have hq := dX hb); (try (exfalso; omega))))) | (apply at_guard; first | refine g_go ?_ | refine g_nt ?_ | refine g_nf ?_ | refine g_nu ?_ | ((first | refine al_split_t rfl rfl (lt_ok rfl) (fun hb => ?_) (fun hb => ?_) | refine al_split_f rfl rfl (lt_ok rfl) (fun hb => ?_) (fun hb => ?_)) <;> ((try have hq := dX hb); (try (exfalso; omega))))) | (apply qr_pick; refine r_pick ?_) | (apply qr_lss; refine r_lss ?_) | (apply qr_eql; refine r_eql ?_) | (apply qr_add; refine r_add ?_) | (apply qr_len; refine r_len ?_) | (apply qr_index; refine r_index ?_))
    refine rt1 ?_
    have h3 : singleB (bAt s p) = false := by
     rw [singleB, List.any_eq_false]
     intro j hj
     simp [hno j (List.mem_range.1 hj)]
    simp [signTo, h2, h3]
theorem bAt_ext {s : ByteArray} {a b i : Nat} (h : a + i < b) (hb : b ≤ s.size) : bAt (s.extract a b) i = bAt s (a + i) := by
 have h1 : i < (s.extract a b).data.toList.length := by simp; omega
 have h2 : a + i < s.data.toList.length := by simp; omega
 rw [bAt_eq _ _ h1, bAt_eq _ _ h2]
 simp
theorem ext_ext {s : ByteArray} {a k : Nat} (h : a + k ≤ s.size) : (s.extract a s.size).extract 0 k = s.extract a (a + k) := by
 rw [ByteArray.extract_extract]
 congr 1
 omega
theorem pre_ext {F : UInt8 → Bool} {s : ByteArray} {p k : Nat} (hpk : p ≤ k) (hk : k ≤ s.size) (h1 : ∀ j, p ≤ j → j < k → F (bAt s j) = true) (h2 : k < s.size → F (bAt s k) = false) : pre F (s.extract p s.size) = k - p := by
 have hz : (s.extract p s.size).size = s.size - p := by simp
 refine pre_at F _ _ (by omega) (fun j hj => ?_) (fun hj => ?_)
 ·rw [bAt_ext (by omega) (Nat.le_refl _)]
  exact h1 _ (by omega) (by omega)
 ·rw [bAt_ext (by omega) (Nat.le_refl _), show p + (k - p) = k by omega]
  exact h2 (by omega)
def tokenV (s : ByteArray) (p : Nat) : Tok × Int :=
 let r := nextV (s.extract p s.size)
 if r.2 = 0 then ({ r.1 with p := p }, 0) else (Tok.zero, r.2)
theorem size_mk (l : List UInt8) : ByteArray.size ⟨⟨l⟩⟩ = l.length := rfl
theorem hasP_one (y : ByteArray) (a : UInt8) : hasP y ⟨#[a]⟩ = decide (0 < y.size ∧ bAt y 0 = a) := by
 obtain ⟨⟨l⟩⟩ := y
 cases l with
 | nil => rfl
 | cons c l => simp [hasP, Lib.hasPrefix, bAt, size_mk, List.isPrefixOf, Bool.beq_eq_decide_eq, eq_comm]
theorem hasP_two (y : ByteArray) (a b : UInt8) : hasP y ⟨#[a, b]⟩ = decide (1 < y.size ∧ bAt y 1 = b ∧ bAt y 0 = a) := by
 obtain ⟨⟨l⟩⟩ := y
 cases l with
 | nil => rfl
 | cons c l =>
  cases l with
  | nil => simp [hasP, Lib.hasPrefix, bAt, size_mk, List.isPrefixOf]
  | cons d l => simp [hasP, Lib.hasPrefix, bAt, size_mk, List.isPrefixOf, Bool.beq_eq_decide_eq, eq_comm, and_comm]
theorem signs_map : signsL = ⟨#[61, 61]⟩ :: (List.range 10).map fun j => ⟨#[bAt singles j]⟩ := by decide
theorem byte_eq (a b : UInt8) : a = b ↔ a.toNat = b.toNat := ⟨fun h => h ▸ rfl, fun h => UInt8.toNat_inj.1 h⟩
theorem signOf_len (s : ByteArray) (p : Nat) (hp : p < s.size) : (match signOf (s.extract p s.size) with | some x => (p + x.size ≤ s.size ∧ s.extract p (p + x.size) = x ∧ signTo s p = x.size ∧ 0 < x.size) | none => signTo s p = 0) := by
 have hz : (s.extract p s.size).size = s.size - p := by simp
 have hb0 : bAt (s.extract p s.size) 0 = bAt s p := by rw [bAt_ext (by omega) (Nat.le_refl _), Nat.add_zero]
 have key : ∀ x, hasP (s.extract p s.size) x = true → p + x.size ≤ s.size ∧ s.extract p (p + x.size) = x := by
  intro x hx
  obtain ⟨r, hr⟩ := List.isPrefixOf_iff_prefix.1 hx
  have h1 := congrArg List.length hr
  have h2 : x.data.toList.length = x.size := by simp
  have h3 : (s.extract p s.size).data.toList.length = s.size - p := by simp
  rw [List.length_append, h2, h3] at h1
  refine ⟨by omega, ?_⟩
  have h4 := ext_ext (s := s) (a := p) (k := x.size) (by omega)
  rw [← h4]
  apply ByteArray.ext
  apply Array.toList_inj.1
  rw [ByteArray.data_extract, Array.toList_extract, List.extract_eq_take_drop, List.drop_zero, Nat.sub_zero, ← hr, ← h2, List.take_left]
 rw [signOf, signs_map, List.find?_cons]
 by_cases h2 : p + 1 < s.size ∧ (bAt s (p + 1)).toNat = 61 ∧ (bAt s p).toNat = 61
 ·have h3 : hasP (s.extract p s.size) ⟨#[61, 61]⟩ = true := by
   rw [hasP_two]
   apply decide_eq_true
   refine ⟨by omega, ?_, ?_⟩
   ·rw [bAt_ext (by omega) (Nat.le_refl _), byte_eq]; exact h2.2.1
   ·rw [hb0, byte_eq]; exact h2.2.2
  rw [h3]
  obtain ⟨k1, k2⟩ := key _ h3
  exact ⟨k1, k2, by simp [signTo, h2]; rfl, by decide⟩
 ·have h3 : hasP (s.extract p s.size) ⟨#[61, 61]⟩ = false := by
   rw [hasP_two]
   apply decide_eq_false
   rintro ⟨q1, q2, q3⟩
   refine h2 ⟨by omega, ?_, ?_⟩
   ·rw [bAt_ext (by omega) (Nat.le_refl _), byte_eq] at q2; exact q2
   ·rw [hb0, byte_eq] at q3; exact q3
  rw [h3]
  dsimp only
  rw [List.find?_map]
  cases hf : (List.range 10).find? ((hasP (s.extract p s.size)) ∘ fun j => ⟨#[bAt singles j]⟩) with
  | none =>
   have h4 : singleB (bAt s p) = false := by
    rw [singleB, List.any_eq_false]
    intro j hj
    have h5 := List.find?_eq_none.1 hf j hj
    simp only [Function.comp_apply, hasP_one, decide_eq_true_eq, hz, hb0] at h5
    simp only [decide_eq_true_eq]
    intro h6
    exact h5 ⟨by omega, (byte_eq _ _).2 h6⟩
   simp [signTo, h2, h4]
  | some j =>
   have h5 := List.find?_some hf
   have h6 := List.mem_of_find?_eq_some hf
   have h7 := h5
   simp only [Function.comp_apply, hasP_one, decide_eq_true_eq, hz, hb0] at h7
   have h4 : singleB (bAt s p) = true := List.any_eq_true.2 ⟨j, h6, decide_eq_true ((byte_eq _ _).1 h7.2)⟩
   obtain ⟨k1, k2⟩ := key _ h5
   exact ⟨k1, k2, by simp [signTo, h2, h4]; rfl, Nat.one_pos⟩
theorem token_word {s : ByteArray} {p k : Nat} (hl : letterB (bAt s p) = true) (hpk : p < k) (hk : k ≤ s.size) (hpre : pre alnumB (s.extract p s.size) = k - p) : tokenV s p = if k - p ≤ 20 then (⟨0, s.extract p k, 0, p⟩, 0) else (Tok.zero, 11) := by
 have h0 : bAt (s.extract p s.size) 0 = bAt s p := by rw [bAt_ext (by omega) (Nat.le_refl _), Nat.add_zero]
 have e1 : (s.extract p s.size).extract 0 (k - p) = s.extract p k := by rw [ext_ext (by omega), show p + (k - p) = k by omega]
 have h2 : (s.extract p k).size = k - p := by simp; omega
 have h3 : pre alnumB (s.extract p k) = k - p := by
  rw [← e1]
  have h4 : (s.extract p s.size).size = s.size - p := by simp
  refine pre_at _ _ _ (by simp; omega) (fun j hj => ?_) (fun hj => absurd hj (by simp; omega))
  rw [bAt_ext (by omega) (by omega), Nat.zero_add]
  exact pre_lt (by omega)
 have h5 : bAt (s.extract p k) 0 = bAt s p := by rw [bAt_ext (by omega) hk, Nat.add_zero]
 have h6 : ¬ s.extract p k = ⟨#[]⟩ := fun e => by
  have := congrArg ByteArray.size e
  rw [h2] at this
  simp only [ByteArray.size, Array.size_empty] at this
  omega
 have h7 : wordB (s.extract p k) = decide (k - p ≤ 20) := by simp [wordB, h6, h5, hl, h2, h3]
 simp only [tokenV, nextV, h0, hl, hpre, e1, h7, if_true]
 by_cases h8 : k - p ≤ 20
 ·simp [h8]
 ·simp [h8]
theorem token_num {s : ByteArray} {p k : Nat} (hl : letterB (bAt s p) = false) (hd : digitB (bAt s p) = true) (hpk : p < k) (hk : k ≤ s.size) (hpre : pre digitB (s.extract p s.size) = k - p) : tokenV s p = if numOk (s.extract p k) then (⟨1, s.extract p k, numTo (s.extract p k) (s.extract p k).size, p⟩, 0) else (Tok.zero, 3) := by
 have h0 : bAt (s.extract p s.size) 0 = bAt s p := by rw [bAt_ext (by omega) (Nat.le_refl _), Nat.add_zero]
 have e1 : (s.extract p s.size).extract 0 (k - p) = s.extract p k := by rw [ext_ext (by omega), show p + (k - p) = k by omega]
 have h2 : (s.extract p k).size = k - p := by simp; omega
 simp only [tokenV, nextV, h0, hl, hd, hpre, e1, if_true, h2]
 cases h8 : numOk (s.extract p k) <;> simp
theorem token_sign {s : ByteArray} {p : Nat} (hl : letterB (bAt s p) = false) (hd : digitB (bAt s p) = false) (hp : p < s.size) : tokenV s p = if signTo s p = 0 then (Tok.zero, 10) else (⟨2, s.extract p (p + (signTo s p).toNat), 0, p⟩, 0) := by
 have h0 : bAt (s.extract p s.size) 0 = bAt s p := by rw [bAt_ext (by omega) (Nat.le_refl _), Nat.add_zero]
 have h1 := signOf_len s p hp
 simp only [tokenV, nextV, h0, hl, hd]
 cases hq : signOf (s.extract p s.size) with
 | none => rw [hq] at h1; simp [h1]
 | some x =>
  rw [hq] at h1
  obtain ⟨h2, h3, h4, h5⟩ := h1
  have h6 : ¬ (x.size : Int) = 0 := by omega
  simp only [h4, h6, Int.toNat_natCast, h3, if_true, if_false]
  rfl
theorem signTo_bd {s : ByteArray} {p : Nat} (hp : p < s.size) : 0 ≤ signTo s p ∧ signTo s p ≤ 2 ∧ p + (signTo s p).toNat ≤ s.size := by
 unfold signTo
 split
 ·omega
 ·split <;> omega
end Go.Proofs.YtedoeogopmenpaaGreatDoor
end
section
set_option linter.unusedSimpArgs false
set_option linter.unusedVariables false
namespace Go.Proofs.YtedoeogopmenpaaGreatDoor
open Go.RowKit
theorem token_any (s : ByteArray) (p : Nat) (hp : p < s.size) (hs : s.size ≤ 1000000) : PureC 84 [.str s, .int p] (· = .tup [.agg (tokenV s p).1.cells, .int (tokenV s p).2]) := by
 refine pure_enter Tryz.func84 rfl (by decide) _ Tryz.ntmps84 (le_ok rfl) (fun w Pr hE => ?_)
 dsimp only [slotsOf, Nat.zero_add, Nat.reduceAdd]
 cases hl : letterB (bAt s p)
 ·cases hd : digitB (bAt s p)
  ·have hsb := signTo_bd hp
   by_cases h1 : signTo s p = 0
   ·have h2 := decide_eq_true h1
    repeat' (first | (apply at_call; refine k_call (rletter_any _) hE ?_; rintro _ rfl) | (apply at_call; refine k_call (rdigit_any _) hE ?_; rintro _ rfl) | (apply at_call; refine k_call (sign_any s p hp hs) hE ?_; rintro _ rfl) | refine nx ?_ | (apply aq_block_y; decide) | (apply qr_move; refine r_move ?_) | (apply qr_assign; refine r_assign ?_) | (apply at_cond; first | refine c_t ?_ | refine c_f ?_ | (refine aw_cond rfl (fun hb => ?_) (fun hb => ?_) <;> ((try have hq := dX hb); (try (exfalso; omega))))) | (apply at_guard; first | refine g_go ?_ | refine g_nt ?_ | refine g_nf ?_ | refine g_nu ?_ | ((first | refine al_split_t rfl rfl (lt_ok rfl) (fun hb => ?_) (fun hb => ?_) | refine al_split_f rfl rfl (lt_ok rfl) (fun hb => ?_) (fun hb => ?_)) <;> ((try have hq := dX hb); (try (exfalso; omega))))) | (apply qr_pick; refine r_pick ?_) | (apply qr_lss; refine r_lss ?_) | (apply qr_gtr; refine r_gtr ?_) | (apply qr_eql; refine r_eql ?_) | (apply qr_add; refine r_add ?_) | (apply qr_sub; refine r_sub ?_) | (apply qr_not; refine r_not ?_) | (apply qr_len; refine r_len ?_) | (apply qr_index; refine r_index ?_) | (apply qr_extract; refine r_extract ?_) | (apply qr_slice; refine r_slice ?_) | (apply qr_alloc; refine r_alloc ?_) | (apply qr_store; refine r_store ?_) | (apply qr_build; refine r_build ?_))
    refine ret2x (by rfl) (by first | exact ResX.tmp _ _ (by first | exact ToD.d _ | exact ToD.row _ _ _ _ _ rfl) | exact ResX.cellA _ _ _ _ _ _ _ rfl rfl rfl (by first | (simp only [normV, normList, normMap]; rfl) | rfl) rfl | exact ResX.cell1 _ _ _ _ _ _ rfl rfl rfl (by first | exact ToD.d _ | exact ToD.row _ _ _ _ _ rfl)) (by first | exact ResX.tmp _ _ (by first | exact ToD.d _ | exact ToD.row _ _ _ _ _ rfl) | exact ResX.cellA _ _ _ _ _ _ _ rfl rfl rfl (by first | (simp only [normV, normList, normMap]; rfl) | rfl) rfl | exact ResX.cell1 _ _ _ _ _ _ rfl rfl rfl (by first | exact ToD.d _ | exact ToD.row _ _ _ _ _ rfl)) ?_
    rw [token_sign hl hd hp, if_pos h1]
    rfl
   ·have h2 := decide_eq_false h1
    repeat' (first | (apply at_call; refine k_call (rletter_any _) hE ?_; rintro _ rfl) | (apply at_call; refine k_call (rdigit_any _) hE ?_; rintro _ rfl) | (apply at_call; refine k_call (sign_any s p hp hs) hE ?_; rintro _ rfl) | refine nx ?_ | (apply aq_block_y; decide) | (apply qr_move; refine r_move ?_) | (apply qr_assign; refine r_assign ?_) | (apply at_cond; first | refine c_t ?_ | refine c_f ?_ | (refine aw_cond rfl (fun hb => ?_) (fun hb => ?_) <;> ((try have hq := dX hb); (try (exfalso; omega))))) | (apply at_guard; first | refine g_go ?_ | refine g_nt ?_ | refine g_nf ?_ | refine g_nu ?_ | ((first | refine al_split_t rfl rfl (lt_ok rfl) (fun hb => ?_) (fun hb => ?_) | refine al_split_f rfl rfl (lt_ok rfl) (fun hb => ?_) (fun hb => ?_)) <;> ((try have hq := dX hb); (try (exfalso; omega))))) | (apply qr_pick; refine r_pick ?_) | (apply qr_lss; refine r_lss ?_) | (apply qr_gtr; refine r_gtr ?_) | (apply qr_eql; refine r_eql ?_) | (apply qr_add; refine r_add ?_) | (apply qr_sub; refine r_sub ?_) | (apply qr_not; refine r_not ?_) | (apply qr_len; refine r_len ?_) | (apply qr_index; refine r_index ?_) | (apply qr_extract; refine r_extract ?_) | (apply qr_slice; refine r_slice ?_) | (apply qr_alloc; refine r_alloc ?_) | (apply qr_store; refine r_store ?_) | (apply qr_build; refine r_build ?_))
    refine ret2x (by rfl) (by first | exact ResX.tmp _ _ (by first | exact ToD.d _ | exact ToD.row _ _ _ _ _ rfl) | exact ResX.cellA _ _ _ _ _ _ _ rfl rfl rfl (by first | (simp only [normV, normList, normMap]; rfl) | rfl) rfl | exact ResX.cell1 _ _ _ _ _ _ rfl rfl rfl (by first | exact ToD.d _ | exact ToD.row _ _ _ _ _ rfl)) (by first | exact ResX.tmp _ _ (by first | exact ToD.d _ | exact ToD.row _ _ _ _ _ rfl) | exact ResX.cellA _ _ _ _ _ _ _ rfl rfl rfl (by first | (simp only [normV, normList, normMap]; rfl) | rfl) rfl | exact ResX.cell1 _ _ _ _ _ _ rfl rfl rfl (by first | exact ToD.d _ | exact ToD.row _ _ _ _ _ rfl)) ?_
    rw [token_sign hl hd hp, if_neg h1]
    rw [show ((p : Int) + signTo s p).toNat = p + (signTo s p).toNat by omega]
    rfl
  ·skip
   repeat' (first | (apply at_call; refine k_call (rletter_any _) hE ?_; rintro _ rfl) | (apply at_call; refine k_call (rdigit_any _) hE ?_; rintro _ rfl) | refine nx ?_ | (apply aq_block_y; decide) | (apply qr_move; refine r_move ?_) | (apply qr_assign; refine r_assign ?_) | (apply at_cond; first | refine c_t ?_ | refine c_f ?_ | (refine aw_cond rfl (fun hb => ?_) (fun hb => ?_) <;> ((try have hq := dX hb); (try (exfalso; omega))))) | (apply at_guard; first | refine g_go ?_ | refine g_nt ?_ | refine g_nf ?_ | refine g_nu ?_ | ((first | refine al_split_t rfl rfl (lt_ok rfl) (fun hb => ?_) (fun hb => ?_) | refine al_split_f rfl rfl (lt_ok rfl) (fun hb => ?_) (fun hb => ?_)) <;> ((try have hq := dX hb); (try (exfalso; omega))))) | (apply qr_pick; refine r_pick ?_) | (apply qr_lss; refine r_lss ?_) | (apply qr_gtr; refine r_gtr ?_) | (apply qr_eql; refine r_eql ?_) | (apply qr_add; refine r_add ?_) | (apply qr_sub; refine r_sub ?_) | (apply qr_not; refine r_not ?_) | (apply qr_len; refine r_len ?_) | (apply qr_index; refine r_index ?_) | (apply qr_extract; refine r_extract ?_) | (apply qr_slice; refine r_slice ?_) | (apply qr_alloc; refine r_alloc ?_) | (apply qr_store; refine r_store ?_) | (apply qr_build; refine r_build ?_))
   refine aw_lp (fun n sl ob => ∃ k : Nat, n = s.size - k ∧ p < k ∧ k ≤ s.size ∧ (∀ j, p ≤ j → j < k → digitB (bAt s j) = true) ∧ sl = [(6, .d (.int k)), (5, .d (.int 0)), (4, .box 4 0), (0, .d (.str s)), (1, .d (.int p))] ∧ ob = [(4, .box 52 [.d (.int 0), .d (.str ⟨#[]⟩), .d (.int 0), .d (.int 0)])]) (⟨p + 1, rfl, by omega, by omega, fun j hj1 hj2 => by rw [show j = p by omega]; exact hd, rfl, rfl⟩) ?_
   rintro n sl ob ⟨k, rfl, hpk, hk, hall, rfl, rfl⟩
   have hz : (s.extract p k).size = k - p := by simp; omega
   by_cases hk2 : k < s.size ∧ digitB (bAt s k) = true
   ·have hk3 := hk2.2
    have hk4 := hk2.1
    repeat' (first | (apply at_call; refine k_call (rdigit_any _) hE ?_; rintro _ rfl) | refine nx ?_ | (apply aq_block_y; decide) | (apply qr_move; refine r_move ?_) | (apply qr_assign; refine r_assign ?_) | (apply at_cond; first | refine c_t ?_ | refine c_f ?_ | (refine aw_cond rfl (fun hb => ?_) (fun hb => ?_) <;> ((try have hq := dX hb); (try (exfalso; omega))))) | (apply at_guard; first | refine g_go ?_ | refine g_nt ?_ | refine g_nf ?_ | refine g_nu ?_ | ((first | refine al_split_t rfl rfl (lt_ok rfl) (fun hb => ?_) (fun hb => ?_) | refine al_split_f rfl rfl (lt_ok rfl) (fun hb => ?_) (fun hb => ?_)) <;> ((try have hq := dX hb); (try (exfalso; omega))))) | (apply qr_pick; refine r_pick ?_) | (apply qr_lss; refine r_lss ?_) | (apply qr_gtr; refine r_gtr ?_) | (apply qr_eql; refine r_eql ?_) | (apply qr_add; refine r_add ?_) | (apply qr_sub; refine r_sub ?_) | (apply qr_not; refine r_not ?_) | (apply qr_len; refine r_len ?_) | (apply qr_index; refine r_index ?_) | (apply qr_extract; refine r_extract ?_) | (apply qr_slice; refine r_slice ?_) | (apply qr_alloc; refine r_alloc ?_) | (apply qr_store; refine r_store ?_) | (apply qr_build; refine r_build ?_))
    refine aq_rd (⟨k + 1, rfl, by omega, by omega, fun j hj1 hj => (Nat.lt_succ_iff_lt_or_eq.1 hj).elim (hall j hj1) (fun e => e ▸ hk3), rfl, rfl⟩) (by omega)
   ·have hpre := pre_ext (F := digitB) (Nat.le_of_lt hpk) hk hall (fun h => by simpa [h] using hk2)
    have hv := token_num hl hd hpk hk hpre
    cases hn : numOk (s.extract p k)
    ·rw [hn] at hv
     have hn2 := numD_no hn
     repeat' (first | (apply at_call; refine k_call (rdigit_any _) hE ?_; rintro _ rfl) | (apply at_call; refine k_call (rnumber_any (s.extract p k) (by omega)) hE ?_; rw [hn2]; rintro _ rfl) | refine nx ?_ | (apply aq_block_y; decide) | (apply qr_move; refine r_move ?_) | (apply qr_assign; refine r_assign ?_) | (apply at_cond; first | refine c_t ?_ | refine c_f ?_ | (refine aw_cond rfl (fun hb => ?_) (fun hb => ?_) <;> ((try have hq := dX hb); (try (exfalso; omega))))) | (apply at_guard; first | refine g_go ?_ | refine g_nt ?_ | refine g_nf ?_ | refine g_nu ?_ | ((first | refine al_split_t rfl rfl (lt_ok rfl) (fun hb => ?_) (fun hb => ?_) | refine al_split_f rfl rfl (lt_ok rfl) (fun hb => ?_) (fun hb => ?_)) <;> ((try have hq := dX hb); (try (exfalso; omega))))) | (apply qr_pick; refine r_pick ?_) | (apply qr_lss; refine r_lss ?_) | (apply qr_gtr; refine r_gtr ?_) | (apply qr_eql; refine r_eql ?_) | (apply qr_add; refine r_add ?_) | (apply qr_sub; refine r_sub ?_) | (apply qr_not; refine r_not ?_) | (apply qr_len; refine r_len ?_) | (apply qr_index; refine r_index ?_) | (apply qr_extract; refine r_extract ?_) | (apply qr_slice; refine r_slice ?_) | (apply qr_alloc; refine r_alloc ?_) | (apply qr_store; refine r_store ?_) | (apply qr_build; refine r_build ?_))
     all_goals (try (exfalso; apply hk2; exact ⟨by omega, by assumption⟩))
     all_goals
      refine ret2x (by rfl) (by first | exact ResX.tmp _ _ (by first | exact ToD.d _ | exact ToD.row _ _ _ _ _ rfl) | exact ResX.cellA _ _ _ _ _ _ _ rfl rfl rfl (by first | (simp only [normV, normList, normMap]; rfl) | rfl) rfl | exact ResX.cell1 _ _ _ _ _ _ rfl rfl rfl (by first | exact ToD.d _ | exact ToD.row _ _ _ _ _ rfl)) (by first | exact ResX.tmp _ _ (by first | exact ToD.d _ | exact ToD.row _ _ _ _ _ rfl) | exact ResX.cellA _ _ _ _ _ _ _ rfl rfl rfl (by first | (simp only [normV, normList, normMap]; rfl) | rfl) rfl | exact ResX.cell1 _ _ _ _ _ _ rfl rfl rfl (by first | exact ToD.d _ | exact ToD.row _ _ _ _ _ rfl)) ?_
      rw [hv]
      rfl
    ·rw [hn] at hv
     have hn2 : numD (s.extract p k) = .tup [.int (numTo (s.extract p k) (s.extract p k).size), .bool true] := by simp only [numD, hn, if_true]
     repeat' (first | (apply at_call; refine k_call (rdigit_any _) hE ?_; rintro _ rfl) | (apply at_call; refine k_call (rnumber_any (s.extract p k) (by omega)) hE ?_; rw [hn2]; rintro _ rfl) | refine nx ?_ | (apply aq_block_y; decide) | (apply qr_move; refine r_move ?_) | (apply qr_assign; refine r_assign ?_) | (apply at_cond; first | refine c_t ?_ | refine c_f ?_ | (refine aw_cond rfl (fun hb => ?_) (fun hb => ?_) <;> ((try have hq := dX hb); (try (exfalso; omega))))) | (apply at_guard; first | refine g_go ?_ | refine g_nt ?_ | refine g_nf ?_ | refine g_nu ?_ | ((first | refine al_split_t rfl rfl (lt_ok rfl) (fun hb => ?_) (fun hb => ?_) | refine al_split_f rfl rfl (lt_ok rfl) (fun hb => ?_) (fun hb => ?_)) <;> ((try have hq := dX hb); (try (exfalso; omega))))) | (apply qr_pick; refine r_pick ?_) | (apply qr_lss; refine r_lss ?_) | (apply qr_gtr; refine r_gtr ?_) | (apply qr_eql; refine r_eql ?_) | (apply qr_add; refine r_add ?_) | (apply qr_sub; refine r_sub ?_) | (apply qr_not; refine r_not ?_) | (apply qr_len; refine r_len ?_) | (apply qr_index; refine r_index ?_) | (apply qr_extract; refine r_extract ?_) | (apply qr_slice; refine r_slice ?_) | (apply qr_alloc; refine r_alloc ?_) | (apply qr_store; refine r_store ?_) | (apply qr_build; refine r_build ?_))
     all_goals (try (exfalso; apply hk2; exact ⟨by omega, by assumption⟩))
     all_goals
      refine ret2x (by rfl) (by first | exact ResX.tmp _ _ (by first | exact ToD.d _ | exact ToD.row _ _ _ _ _ rfl) | exact ResX.cellA _ _ _ _ _ _ _ rfl rfl rfl (by first | (simp only [normV, normList, normMap]; rfl) | rfl) rfl | exact ResX.cell1 _ _ _ _ _ _ rfl rfl rfl (by first | exact ToD.d _ | exact ToD.row _ _ _ _ _ rfl)) (by first | exact ResX.tmp _ _ (by first | exact ToD.d _ | exact ToD.row _ _ _ _ _ rfl) | exact ResX.cellA _ _ _ _ _ _ _ rfl rfl rfl (by first | (simp only [normV, normList, normMap]; rfl) | rfl) rfl | exact ResX.cell1 _ _ _ _ _ _ rfl rfl rfl (by first | exact ToD.d _ | exact ToD.row _ _ _ _ _ rfl)) ?_
      rw [hv]
      rfl
 ·skip
  repeat' (first | (apply at_call; refine k_call (rletter_any _) hE ?_; rintro _ rfl) | (apply at_call; refine k_call (rdigit_any _) hE ?_; rintro _ rfl) | refine nx ?_ | (apply aq_block_y; decide) | (apply qr_move; refine r_move ?_) | (apply qr_assign; refine r_assign ?_) | (apply at_cond; first | refine c_t ?_ | refine c_f ?_ | (refine aw_cond rfl (fun hb => ?_) (fun hb => ?_) <;> ((try have hq := dX hb); (try (exfalso; omega))))) | (apply at_guard; first | refine g_go ?_ | refine g_nt ?_ | refine g_nf ?_ | refine g_nu ?_ | ((first | refine al_split_t rfl rfl (lt_ok rfl) (fun hb => ?_) (fun hb => ?_) | refine al_split_f rfl rfl (lt_ok rfl) (fun hb => ?_) (fun hb => ?_)) <;> ((try have hq := dX hb); (try (exfalso; omega))))) | (apply qr_pick; refine r_pick ?_) | (apply qr_lss; refine r_lss ?_) | (apply qr_gtr; refine r_gtr ?_) | (apply qr_eql; refine r_eql ?_) | (apply qr_add; refine r_add ?_) | (apply qr_sub; refine r_sub ?_) | (apply qr_not; refine r_not ?_) | (apply qr_len; refine r_len ?_) | (apply qr_index; refine r_index ?_) | (apply qr_extract; refine r_extract ?_) | (apply qr_slice; refine r_slice ?_) | (apply qr_alloc; refine r_alloc ?_) | (apply qr_store; refine r_store ?_) | (apply qr_build; refine r_build ?_))
  refine aw_lp (fun n sl ob => ∃ k : Nat, n = s.size - k ∧ p < k ∧ k ≤ s.size ∧ (∀ j, p ≤ j → j < k → alnumB (bAt s j) = true) ∧ sl = [(6, .d (.int k)), (5, .d (.int 0)), (4, .box 4 0), (0, .d (.str s)), (1, .d (.int p))] ∧ ob = [(4, .box 52 [.d (.int 0), .d (.str ⟨#[]⟩), .d (.int 0), .d (.int 0)])]) (⟨p + 1, rfl, by omega, by omega, fun j hj1 hj2 => by rw [show j = p by omega]; exact alnum_of hl, rfl, rfl⟩) ?_
  rintro n sl ob ⟨k, rfl, hpk, hk, hall, rfl, rfl⟩
  by_cases hk2 : k < s.size ∧ alnumB (bAt s k) = true
  ·have hk3 := hk2.2
   have hk4 := hk2.1
   repeat' (first | (apply at_call; refine k_call (rletter_any _) hE ?_; rintro _ rfl) | (apply at_call; refine k_call (rdigit_any _) hE ?_; rintro _ rfl) | refine nx ?_ | (apply aq_block_y; decide) | (apply qr_move; refine r_move ?_) | (apply qr_assign; refine r_assign ?_) | (apply at_cond; first | refine c_t ?_ | refine c_f ?_ | (refine aw_cond rfl (fun hb => ?_) (fun hb => ?_) <;> ((try have hq := dX hb); (try (exfalso; omega))))) | (apply at_guard; first | refine g_go ?_ | refine g_nt ?_ | refine g_nf ?_ | refine g_nu ?_ | ((first | refine al_split_t rfl rfl (lt_ok rfl) (fun hb => ?_) (fun hb => ?_) | refine al_split_f rfl rfl (lt_ok rfl) (fun hb => ?_) (fun hb => ?_)) <;> ((try have hq := dX hb); (try (exfalso; omega))))) | (apply qr_pick; refine r_pick ?_) | (apply qr_lss; refine r_lss ?_) | (apply qr_gtr; refine r_gtr ?_) | (apply qr_eql; refine r_eql ?_) | (apply qr_add; refine r_add ?_) | (apply qr_sub; refine r_sub ?_) | (apply qr_not; refine r_not ?_) | (apply qr_len; refine r_len ?_) | (apply qr_index; refine r_index ?_) | (apply qr_extract; refine r_extract ?_) | (apply qr_slice; refine r_slice ?_) | (apply qr_alloc; refine r_alloc ?_) | (apply qr_store; refine r_store ?_) | (apply qr_build; refine r_build ?_))
   all_goals (try (exfalso; simp [alnumB, *] at hk3; done))
   all_goals
    refine aq_rd (⟨k + 1, rfl, by omega, by omega, fun j hj1 hj => (Nat.lt_succ_iff_lt_or_eq.1 hj).elim (hall j hj1) (fun e => e ▸ hk3), rfl, rfl⟩) (by omega)
  ·have hpre := pre_ext (F := alnumB) (Nat.le_of_lt hpk) hk hall (fun h => by simpa [h] using hk2)
   have hv := token_word hl hpk hk hpre
   by_cases h20 : k - p ≤ 20
   ·rw [if_pos h20] at hv
    repeat' (first | (apply at_call; refine k_call (rletter_any _) hE ?_; rintro _ rfl) | (apply at_call; refine k_call (rdigit_any _) hE ?_; rintro _ rfl) | refine nx ?_ | (apply aq_block_y; decide) | (apply qr_move; refine r_move ?_) | (apply qr_assign; refine r_assign ?_) | (apply at_cond; first | refine c_t ?_ | refine c_f ?_ | (refine aw_cond rfl (fun hb => ?_) (fun hb => ?_) <;> ((try have hq := dX hb); (try (exfalso; omega))))) | (apply at_guard; first | refine g_go ?_ | refine g_nt ?_ | refine g_nf ?_ | refine g_nu ?_ | ((first | refine al_split_t rfl rfl (lt_ok rfl) (fun hb => ?_) (fun hb => ?_) | refine al_split_f rfl rfl (lt_ok rfl) (fun hb => ?_) (fun hb => ?_)) <;> ((try have hq := dX hb); (try (exfalso; omega))))) | (apply qr_pick; refine r_pick ?_) | (apply qr_lss; refine r_lss ?_) | (apply qr_gtr; refine r_gtr ?_) | (apply qr_eql; refine r_eql ?_) | (apply qr_add; refine r_add ?_) | (apply qr_sub; refine r_sub ?_) | (apply qr_not; refine r_not ?_) | (apply qr_len; refine r_len ?_) | (apply qr_index; refine r_index ?_) | (apply qr_extract; refine r_extract ?_) | (apply qr_slice; refine r_slice ?_) | (apply qr_alloc; refine r_alloc ?_) | (apply qr_store; refine r_store ?_) | (apply qr_build; refine r_build ?_))
    all_goals (try (exfalso; apply hk2; refine ⟨by omega, ?_⟩; simp [alnumB, *]; done))
    all_goals
     refine ret2x (by rfl) (by first | exact ResX.tmp _ _ (by first | exact ToD.d _ | exact ToD.row _ _ _ _ _ rfl) | exact ResX.cellA _ _ _ _ _ _ _ rfl rfl rfl (by first | (simp only [normV, normList, normMap]; rfl) | rfl) rfl | exact ResX.cell1 _ _ _ _ _ _ rfl rfl rfl (by first | exact ToD.d _ | exact ToD.row _ _ _ _ _ rfl)) (by first | exact ResX.tmp _ _ (by first | exact ToD.d _ | exact ToD.row _ _ _ _ _ rfl) | exact ResX.cellA _ _ _ _ _ _ _ rfl rfl rfl (by first | (simp only [normV, normList, normMap]; rfl) | rfl) rfl | exact ResX.cell1 _ _ _ _ _ _ rfl rfl rfl (by first | exact ToD.d _ | exact ToD.row _ _ _ _ _ rfl)) ?_
     rw [hv]
     rfl
   ·rw [if_neg h20] at hv
    repeat' (first | (apply at_call; refine k_call (rletter_any _) hE ?_; rintro _ rfl) | (apply at_call; refine k_call (rdigit_any _) hE ?_; rintro _ rfl) | refine nx ?_ | (apply aq_block_y; decide) | (apply qr_move; refine r_move ?_) | (apply qr_assign; refine r_assign ?_) | (apply at_cond; first | refine c_t ?_ | refine c_f ?_ | (refine aw_cond rfl (fun hb => ?_) (fun hb => ?_) <;> ((try have hq := dX hb); (try (exfalso; omega))))) | (apply at_guard; first | refine g_go ?_ | refine g_nt ?_ | refine g_nf ?_ | refine g_nu ?_ | ((first | refine al_split_t rfl rfl (lt_ok rfl) (fun hb => ?_) (fun hb => ?_) | refine al_split_f rfl rfl (lt_ok rfl) (fun hb => ?_) (fun hb => ?_)) <;> ((try have hq := dX hb); (try (exfalso; omega))))) | (apply qr_pick; refine r_pick ?_) | (apply qr_lss; refine r_lss ?_) | (apply qr_gtr; refine r_gtr ?_) | (apply qr_eql; refine r_eql ?_) | (apply qr_add; refine r_add ?_) | (apply qr_sub; refine r_sub ?_) | (apply qr_not; refine r_not ?_) | (apply qr_len; refine r_len ?_) | (apply qr_index; refine r_index ?_) | (apply qr_extract; refine r_extract ?_) | (apply qr_slice; refine r_slice ?_) | (apply qr_alloc; refine r_alloc ?_) | (apply qr_store; refine r_store ?_) | (apply qr_build; refine r_build ?_))
    all_goals (try (exfalso; apply hk2; refine ⟨by omega, ?_⟩; simp [alnumB, *]; done))
    all_goals
     refine ret2x (by rfl) (by first | exact ResX.tmp _ _ (by first | exact ToD.d _ | exact ToD.row _ _ _ _ _ rfl) | exact ResX.cellA _ _ _ _ _ _ _ rfl rfl rfl (by first | (simp only [normV, normList, normMap]; rfl) | rfl) rfl | exact ResX.cell1 _ _ _ _ _ _ rfl rfl rfl (by first | exact ToD.d _ | exact ToD.row _ _ _ _ _ rfl)) (by first | exact ResX.tmp _ _ (by first | exact ToD.d _ | exact ToD.row _ _ _ _ _ rfl) | exact ResX.cellA _ _ _ _ _ _ _ rfl rfl rfl (by first | (simp only [normV, normList, normMap]; rfl) | rfl) rfl | exact ResX.cell1 _ _ _ _ _ _ rfl rfl rfl (by first | exact ToD.d _ | exact ToD.row _ _ _ _ _ rfl)) ?_
     rw [hv]
     rfl
end Go.Proofs.YtedoeogopmenpaaGreatDoor
end
