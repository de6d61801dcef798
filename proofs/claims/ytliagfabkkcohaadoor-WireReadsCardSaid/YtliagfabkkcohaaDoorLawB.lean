/-
  What a reader reads of what was written, and what it says of a text that it reads. Conditions: none.
-/
import Derived.Test.YtliagfabkkcohaaDoorLawA
import Derived.Test.YtliagfabkkcohaaDoorWalkE
namespace Go.Proofs.YtliagfabkkcohaaDoor
open Go.RowKit

abbrev L (r : ByteArray) : List UInt8 := r.data.toList
abbrev B (l : List UInt8) : ByteArray := ⟨l.toArray⟩
theorem L_B (l : List UInt8) : L (B l) = l := rfl
theorem B_L (r : ByteArray) : B (L r) = r := ba_ext rfl
theorem L_app (a b : ByteArray) : L (a ++ b) = L a ++ L b := by simp [L, ByteArray.data_append]
theorem L_len (a : ByteArray) : (L a).length = a.size := Array.length_toList
theorem numS_of {r : ByteArray} {b : Bool} {c : UInt8} {least n : Int} {t : List UInt8} (hc : Sep c) (h : L r = Lib.itoa n ++ c :: t) (hn : isInt n) (hl : least ≤ n) : numS r b c least = ⟨n, B t, b⟩ := by
  obtain ⟨h1, h2⟩ := numIs_of hc h hn hl
  simp only [numS, numR_some h1, h2]
theorem numS_to {r : ByteArray} {b : Bool} {c : UInt8} {least : Int} : (∃ n q, numS r b c least = ⟨n, q, b⟩ ∧ L r = Lib.itoa n ++ c :: L q ∧ isInt n ∧ least ≤ n) ∨ numS r b c least = ⟨0, emp, true⟩ := by
  cases h : numR r c least with
  | none => right; simp only [numS, h]
  | some n =>
    have h1 := numR_is h
    obtain ⟨t, h2, h3⟩ := numIs_to h1
    exact .inl ⟨n, behind r c, by simp only [numS, h], by rw [h3]; exact h2, numIs_int h1, h1.2.2.2⟩
theorem sep59 : Sep 59 := by unfold Sep; decide
theorem sep58 : Sep 58 := by unfold Sep; decide
theorem sep91 : Sep 91 := by unfold Sep; decide
theorem closeS_of {r : ByteArray} {b : Bool} {c : UInt8} {t : List UInt8} (h : L r = c :: t) : closeS r b ⟨#[c]⟩ = (B t, b) := by
  have h1 : r.data.toList = c :: t := h
  have h2 : Lib.hasPrefix (c :: t) [c] = true := by simp [Lib.hasPrefix]
  have h3 : Lib.trimPrefix (c :: t) [c] = t := by simp [Lib.trimPrefix, Lib.hasPrefix]
  simp only [closeS, h1, h2, h3, if_true]
theorem closeS_to {r : ByteArray} {b : Bool} {c : UInt8} : (∃ q, closeS r b ⟨#[c]⟩ = (q, b) ∧ L r = c :: L q) ∨ closeS r b ⟨#[c]⟩ = (emp, true) := by
  cases h : L r with
  | nil =>
    right
    have h1 : r.data.toList = [] := h
    have h2 : Lib.hasPrefix [] [c] = false := by simp [Lib.hasPrefix]
    simp [closeS, h1, h2]
  | cons d t =>
    by_cases hd : d = c
    · subst hd
      exact .inl ⟨B t, closeS_of h, rfl⟩
    · right
      have h1 : r.data.toList = d :: t := h
      have h2 : Lib.hasPrefix (d :: t) [c] = false := by
        have : (c == d) = false := by simpa using fun e : c = d => hd e.symm
        simp [Lib.hasPrefix, List.isPrefixOf, this]
      simp [closeS, h1, h2]
theorem intW_L (n : Int) : L (intW n) = Lib.itoa n ++ [59] := by rw [intW, L_app]; rfl
theorem textW_L (s : ByteArray) : L (textW s) = Lib.itoa s.size ++ 58 :: (L s ++ [44]) := by
  rw [textW, L_app, L_app, L_app]
  simp only [List.append_assoc]
  rfl
theorem int_of {n least : Int} {r : ByteArray} {b : Bool} {t : List UInt8} (h : L r = L (intW n) ++ t) (hn : isInt n) (hl : least ≤ n) : numS r b 59 least = ⟨n, B t, b⟩ := by
  refine numS_of sep59 ?_ hn hl
  rw [h, intW_L]
  simp
theorem int_to {r q : ByteArray} {n least : Int} (h : numS r false 59 least = ⟨n, q, false⟩) : L r = L (intW n) ++ L q ∧ isInt n ∧ least ≤ n := by
  rcases numS_to (r := r) (b := false) (c := 59) (least := least) with ⟨m, p, h1, h2, h3, h4⟩ | h1
  · rw [h] at h1
    cases h1
    refine ⟨?_, h3, h4⟩
    rw [h2, intW_L]
    simp
  · rw [h] at h1
    cases h1
theorem text_of {s : ByteArray} {r : ByteArray} {t : List UInt8} (h : L r = L (textW s) ++ t) (hs : s.size ≤ 9223372036854775807) : textS r false = ⟨s, B t, false⟩ := by
  have h1 : numS r false 58 0 = ⟨s.size, B (L s ++ 44 :: t), false⟩ := by
    refine numS_of sep58 ?_ ⟨by omega, by omega⟩ (by omega)
    rw [h, textW_L]
    simp
  have hz : (B (L s ++ 44 :: t)).size = s.size + (t.length + 1) := by
    have : (B (L s ++ 44 :: t)).size = (L s ++ 44 :: t).length := List.size_toArray
    rw [this, List.length_append, L_len, List.length_cons]
  have h2 : (B (L s ++ 44 :: t)).extract 0 (s.size : Int).toNat = s := by
    apply ba_ext
    rw [ext_list, Int.toNat_natCast, ← L_len s]
    exact List.take_left' rfl
  have h3 : L ((B (L s ++ 44 :: t)).extract (s.size : Int).toNat (B (L s ++ 44 :: t)).size) = 44 :: t := by
    rw [L, ext_drop, Int.toNat_natCast, ← L_len s]
    exact List.drop_left' rfl
  have h4 := closeS_of (b := false) h3
  unfold textS
  simp only [h1, h2, h4]
  rw [if_neg (by omega)]
  rfl
theorem text_to {r q s : ByteArray} (h : textS r false = ⟨s, q, false⟩) : L r = L (textW s) ++ L q ∧ (s.size : Int) ≤ 9223372036854775807 := by
  unfold textS at h
  rcases numS_to (r := r) (b := false) (c := 58) (least := 0) with ⟨n, p, h1, h2, h3, h4⟩ | h1
  · simp only [h1] at h
    split at h
    · cases h
    · rename_i hn
      rcases closeS_to (r := p.extract n.toNat p.size) (b := false) (c := 44) with ⟨q2, h5, h6⟩ | h5
      · simp only [h5] at h
        injection h with e1 e2 e3
        have e1' : p.extract 0 n.toNat = s := e1
        subst e1' e2
        have hz : (p.extract 0 n.toNat).size = n.toNat := by simp only [ByteArray.size_extract]; omega
        have hn2 : ((p.extract 0 n.toNat).size : Int) = n := by omega
        have h7 : L p = L (p.extract 0 n.toNat) ++ 44 :: L q2 := by
          have h8 : L (p.extract n.toNat p.size) = (L p).drop n.toNat := ext_drop p n.toNat
          have h9 : L (p.extract 0 n.toNat) = (L p).take n.toNat := ext_list p n.toNat
          rw [h9, ← h6, h8, List.take_append_drop]
        refine ⟨?_, by omega⟩
        rw [h2, textW_L, hn2, h7]
        simp
      · simp only [h5] at h
        injection h with _ _ e3
        cases e3
  · simp only [h1] at h
    split at h
    · cases h
    · rcases closeS_to (r := emp.extract (0 : Int).toNat emp.size) (b := true) (c := 44) with ⟨q2, h5, h6⟩ | h5
      · simp only [h5] at h
        injection h with _ _ e3
        cases e3
      · simp only [h5] at h
        injection h with _ _ e3
        cases e3
end Go.Proofs.YtliagfabkkcohaaDoor
