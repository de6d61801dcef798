/-
  What a number's text is, and that it is read back. Conditions: the number is an int.
-/
import Derived.Test.YtliagfabkkcohaaDoorWalkC
import Derived.Lib.AtoiAllCases
namespace Go.Proofs.YtliagfabkkcohaaDoor
open Go.RowKit

abbrev isInt (n : Int) : Prop := -9223372036854775808 ≤ n ∧ n ≤ 9223372036854775807
theorem dig_byte {u : Nat} (h : u < 10) : (UInt8.ofNat (48 + u)).toNat = 48 + u := by
  rw [UInt8.toNat_ofNat']
  omega
theorem decDigits_mem {u : Nat} {c : UInt8} (h : c ∈ Lib.decDigits u) : 48 ≤ c.toNat ∧ c.toNat ≤ 57 := by
  induction u using Nat.strongRecOn with
  | _ u ih =>
    rw [Lib.decDigits] at h
    split at h
    · rename_i hu
      rw [List.mem_singleton] at h
      subst h
      rw [dig_byte hu]
      omega
    · rcases List.mem_append.1 h with h | h
      · exact ih (u / 10) (by omega) h
      · rw [List.mem_singleton] at h
        subst h
        rw [dig_byte (by omega)]
        omega
theorem decDigits_ne (u : Nat) : Lib.decDigits u ≠ [] := by
  rw [Lib.decDigits]
  split <;> simp
theorem parse_step {acc u : Nat} {r : List UInt8} (hu : u < 10) (h : acc * 10 + u < 18446744073709551616) : Lib.parseUint10 acc (UInt8.ofNat (48 + u) :: r) = Lib.parseUint10 (acc * 10 + u) r := by
  rw [Lib.parseUint10, dig_byte hu, if_pos (by omega), if_neg (by omega), if_neg (by omega)]
  congr 1
  omega
theorem parse_dec {u : Nat} (h : u < 18446744073709551616) : ∀ r, Lib.parseUint10 0 (Lib.decDigits u ++ r) = Lib.parseUint10 u r := by
  induction u using Nat.strongRecOn with
  | _ u ih =>
    intro r
    rw [Lib.decDigits]
    split
    · rename_i hu
      rw [List.singleton_append, parse_step hu (by omega)]
      congr 1
      omega
    · rw [List.append_assoc, ih (u / 10) (by omega) (by omega), List.singleton_append, parse_step (by omega) (by omega)]
      congr 1
      omega
theorem atoi_itoa {n : Int} (h : isInt n) : Lib.atoiAll (Lib.itoa n) = .ok n := by
  unfold Lib.itoa
  split
  · have h1 := parse_dec (u := n.natAbs) (by omega) []
    rw [List.append_nil] at h1
    rw [Lib.atoiAll_minus, Lib.parseMag, if_neg (decDigits_ne _), h1]
    simp only [Lib.parseUint10, Lib.signed]
    rw [if_neg (by omega)]
    congr 1
    omega
  · have h1 := parse_dec (u := n.toNat) (by omega) []
    rw [List.append_nil] at h1
    have h2 := decDigits_ne n.toNat
    cases hd : Lib.decDigits n.toNat with
    | nil => exact absurd hd h2
    | cons c t =>
      have hc := decDigits_mem (u := n.toNat) (c := c) (by rw [hd]; simp)
      rw [Lib.atoiAll_plain c t (by omega) (by omega), Lib.parseMag, if_neg (by simp), ← hd, h1]
      simp only [Lib.parseUint10, Lib.signless]
      rw [if_neg (by omega)]
      congr 1
      omega
/-- a byte that stands in no number -/
def Sep (c : UInt8) : Prop := ¬ c.toNat = 45 ∧ ¬ (48 ≤ c.toNat ∧ c.toNat ≤ 57)
theorem itoa_mem {n : Int} {c : UInt8} (h : c ∈ Lib.itoa n) : c.toNat = 45 ∨ (48 ≤ c.toNat ∧ c.toNat ≤ 57) := by
  unfold Lib.itoa at h
  split at h
  · rcases List.mem_cons.1 h with rfl | h
    · exact .inl rfl
    · exact .inr (decDigits_mem h)
  · exact .inr (decDigits_mem h)
theorem sep_not {n : Int} {c : UInt8} (hc : Sep c) : c ∉ Lib.itoa n := fun h => by
  rcases itoa_mem h with h | h
  · exact hc.1 h
  · exact hc.2 h
theorem index_first {a t : List UInt8} {c : UInt8} (h : c ∉ a) : Lib.indexByte (a ++ c :: t) c = a.length := by
  induction a with
  | nil => simp [Lib.indexByte]
  | cons b a ih =>
    have hb : (b == c) = false := by
      have : b ≠ c := fun e => h (e ▸ List.mem_cons_self)
      simpa using this
    have := ih (fun hm => h (List.mem_cons_of_mem _ hm))
    simp only [List.cons_append, Lib.indexByte, hb, this, List.length_cons]
    rw [if_neg (by simp), if_neg (by simp)]
    omega
theorem index_some {l : List UInt8} {c : UInt8} (h : 0 ≤ Lib.indexByte l c) : ∃ a t, l = a ++ c :: t ∧ (a.length : Int) = Lib.indexByte l c := by
  induction l with
  | nil => simp [Lib.indexByte] at h
  | cons b l ih =>
    simp only [Lib.indexByte] at h ⊢
    by_cases hb : (b == c) = true
    · rw [if_pos hb]
      have : b = c := by simpa using hb
      subst this
      exact ⟨[], l, rfl, rfl⟩
    · rw [if_neg hb] at h ⊢
      by_cases hm : (Lib.indexByte l c == -1) = true
      · rw [if_pos hm] at h
        omega
      · rw [if_neg hm] at h ⊢
        have h1 := (indexByte_lt l c).1
        have h2 : ¬ Lib.indexByte l c = -1 := by simpa using hm
        obtain ⟨a, t, e1, e2⟩ := ih (by omega)
        refine ⟨b :: a, t, by rw [e1]; rfl, ?_⟩
        rw [List.length_cons]
        omega
theorem headV_list (r : ByteArray) : (headV r).data.toList = r.data.toList.take 21 := by
  simp only [headV, ByteArray.data_extract, Array.toList_extract, List.extract_eq_take_drop, List.drop_zero, Nat.sub_zero]
  rcases Nat.le_total r.size 21 with h | h
  · rw [Nat.min_eq_left h, List.take_of_length_le (by simp), List.take_of_length_le (by simpa using h)]
  · rw [Nat.min_eq_right h]
theorem ext_list (r : ByteArray) (k : Nat) : (r.extract 0 k).data.toList = r.data.toList.take k := by
  simp only [ByteArray.data_extract, Array.toList_extract, List.extract_eq_take_drop, List.drop_zero, Nat.sub_zero]
theorem ext_drop (r : ByteArray) (k : Nat) : (r.extract k r.size).data.toList = r.data.toList.drop k := by
  simp only [ByteArray.data_extract, Array.toList_extract, List.extract_eq_take_drop]
  rw [List.take_of_length_le (by simp)]
theorem ba_ext {a b : ByteArray} (h : a.data.toList = b.data.toList) : a = b := by
  apply ByteArray.ext
  exact Array.toList_inj.1 h
theorem itoaB_list (n : Int) : (itoaB n).data.toList = Lib.itoa n := rfl
theorem itoa_length {n : Int} (h : isInt n) : (Lib.itoa n).length ≤ 20 := by
  have key : ∀ u : Nat, u < 10000000000000000000 → (Lib.decDigits u).length ≤ 19 := by
    intro u hu
    rw [Lib.decDigits_length]
    have h2 : ∀ k u : Nat, u < 10 ^ (k + 1) → Lib.nDigits u ≤ k + 1 := by
      intro k
      induction k with
      | zero => intro u hu; rw [Lib.nDigits_small (by simpa using hu)]; exact Nat.le_refl _
      | succ k ih =>
        intro u hu
        by_cases h : u < 10
        · rw [Lib.nDigits_small h]; omega
        · rw [Lib.nDigits_big h]
          have := ih (u / 10) (by rw [Nat.div_lt_iff_lt_mul (by decide)]; rw [Nat.pow_succ] at hu; exact hu)
          omega
    exact h2 18 u (by omega)
  unfold Lib.itoa
  split
  · have := key n.natAbs (by omega)
    rw [List.length_cons]
    omega
  · have := key n.toNat (by omega)
    omega
theorem numIs_of {r : ByteArray} {c : UInt8} {least n : Int} {t : List UInt8} (hc : Sep c) (h : r.data.toList = Lib.itoa n ++ c :: t) (hn : isInt n) (hl : least ≤ n) : numIs r c least n ∧ behind r c = ⟨t.toArray⟩ := by
  have hz := itoa_length hn
  have e1 : r.data.toList.take 21 = Lib.itoa n ++ c :: (t.take (20 - (Lib.itoa n).length)) := by
    rw [h, List.take_append, List.take_of_length_le (by omega)]
    congr 1
    rw [show 21 - (Lib.itoa n).length = (20 - (Lib.itoa n).length) + 1 by omega, List.take_succ_cons]
  have e2 : atV r c = (Lib.itoa n).length := by
    unfold atV
    rw [headV_list, e1]
    exact index_first (sep_not hc)
  have e3 : numV r c = itoaB n := by
    apply ba_ext
    rw [ext_list, headV_list, e1, e2, Int.toNat_natCast, List.take_left' rfl, itoaB_list]
  refine ⟨⟨by omega, ?_, e3.symm, hl⟩, ?_⟩
  · rw [e3, itoaB_list]
    exact atoi_itoa hn
  · apply ba_ext
    unfold behind
    rw [ext_drop, h, e2, show (((Lib.itoa n).length : Int) + 1).toNat = (Lib.itoa n).length + 1 by omega, List.drop_append, List.drop_of_length_le (by omega)]
    simp
theorem numIs_to {r : ByteArray} {c : UInt8} {least n : Int} (h : numIs r c least n) : ∃ t, r.data.toList = Lib.itoa n ++ c :: t ∧ behind r c = ⟨t.toArray⟩ := by
  obtain ⟨h1, h2, h3, h4⟩ := h
  obtain ⟨a, t, e1, e2⟩ := index_some (l := (headV r).data.toList) (c := c) h1
  have e3 : (numV r c).data.toList = a := by
    rw [ext_list, e1, show (atV r c).toNat = a.length by unfold atV; omega, List.take_left' rfl]
  rw [← h3, itoaB_list] at e3
  rw [headV_list] at e1
  have e4 : r.data.toList = a ++ c :: (t ++ r.data.toList.drop 21) := by
    have h5 : r.data.toList.take 21 ++ r.data.toList.drop 21 = a ++ c :: t ++ r.data.toList.drop 21 := by rw [e1]
    rw [List.take_append_drop] at h5
    rw [List.append_assoc] at h5
    exact h5
  refine ⟨t ++ r.data.toList.drop 21, by rw [e3]; exact e4, ?_⟩
  apply ba_ext
  unfold behind
  rw [ext_drop, show (atV r c + 1).toNat = a.length + 1 by unfold atV; omega]
  conv => lhs; rw [e4]
  rw [List.drop_append, List.drop_of_length_le (by omega)]
  simp
theorem numIs_int {r : ByteArray} {c : UInt8} {least n : Int} (h : numIs r c least n) : isInt n := atoiAll_bd h.2.1
end Go.Proofs.YtliagfabkkcohaaDoor
