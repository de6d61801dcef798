/-
  What a number's text is, and that it is read back. Conditions: the number is an int.
  The walks of package wire: lists that a reader reads. Conditions: none.
  The walks of package wire: what is written. Conditions: sizes.
  What a reader reads of what was written, and what it says of a text that it reads. Conditions: none.
  The plain laws of package wire: a reader that has failed has nothing left. Conditions: none.
  A disk: what it is; bytes put into a string; small functions. Conditions: none.
-/
import Derived.Lib.AtoiAllCases
import Derived.DeepKeys4
import Derived.WideKeyMaps2
import Derived.Handy
import Derived.Lib.LazyBuf
import Derived.Test.YtfgibalcdjlnhaaGreatDoorMam
section
namespace Go.Proofs.YtfgibalcdjlnhaaGreatDoor
open Go.RowKit

abbrev isInt (n : Int) : Prop := -9223372036854775808 ≤ n ∧ n ≤ 9223372036854775807
theorem dig_byte {u : Nat} (h : u < 10) : (UInt8.ofNat (48 + u)).toNat = 48 + u := by
  rw [UInt8.toNat_ofNat']
  omega
theorem decDigits_mem {u : Nat} {c : UInt8} (h : c ∈ Lib.decDigits u) : 48 ≤ c.toNat ∧ c.toNat ≤ 57 := by
  induction u using Nat.strongRecOn with
  | _ u ih =>
    rw [Lib.decDigits] at h
    split at h
    · rename_i hu
      rw [List.mem_singleton] at h
      subst h
      rw [dig_byte hu]
      omega
    · rcases List.mem_append.1 h with h | h
      · exact ih (u / 10) (by omega) h
      · rw [List.mem_singleton] at h
        subst h
        rw [dig_byte (by omega)]
        omega
theorem decDigits_ne (u : Nat) : Lib.decDigits u ≠ [] := by
  rw [Lib.decDigits]
  split <;> simp
theorem parse_step {acc u : Nat} {r : List UInt8} (hu : u < 10) (h : acc * 10 + u < 18446744073709551616) : Lib.parseUint10 acc (UInt8.ofNat (48 + u) :: r) = Lib.parseUint10 (acc * 10 + u) r := by
  rw [Lib.parseUint10, dig_byte hu, if_pos (by omega), if_neg (by omega), if_neg (by omega)]
  congr 1
  omega
theorem parse_dec {u : Nat} (h : u < 18446744073709551616) : ∀ r, Lib.parseUint10 0 (Lib.decDigits u ++ r) = Lib.parseUint10 u r := by
  induction u using Nat.strongRecOn with
  | _ u ih =>
    intro r
    rw [Lib.decDigits]
    split
    · rename_i hu
      rw [List.singleton_append, parse_step hu (by omega)]
      congr 1
      omega
    · rw [List.append_assoc, ih (u / 10) (by omega) (by omega), List.singleton_append, parse_step (by omega) (by omega)]
      congr 1
      omega
theorem atoi_itoa {n : Int} (h : isInt n) : Lib.atoiAll (Lib.itoa n) = .ok n := by
  unfold Lib.itoa
  split
  · have h1 := parse_dec (u := n.natAbs) (by omega) []
    rw [List.append_nil] at h1
    rw [Lib.atoiAll_minus, Lib.parseMag, if_neg (decDigits_ne _), h1]
    simp only [Lib.parseUint10, Lib.signed]
    rw [if_neg (by omega)]
    congr 1
    omega
  · have h1 := parse_dec (u := n.toNat) (by omega) []
    rw [List.append_nil] at h1
    have h2 := decDigits_ne n.toNat
    cases hd : Lib.decDigits n.toNat with
    | nil => exact absurd hd h2
    | cons c t =>
      have hc := decDigits_mem (u := n.toNat) (c := c) (by rw [hd]; simp)
      rw [Lib.atoiAll_plain c t (by omega) (by omega), Lib.parseMag, if_neg (by simp), ← hd, h1]
      simp only [Lib.parseUint10, Lib.signless]
      rw [if_neg (by omega)]
      congr 1
      omega
/-- a byte that stands in no number -/
def Sep (c : UInt8) : Prop := ¬ c.toNat = 45 ∧ ¬ (48 ≤ c.toNat ∧ c.toNat ≤ 57)
theorem itoa_mem {n : Int} {c : UInt8} (h : c ∈ Lib.itoa n) : c.toNat = 45 ∨ (48 ≤ c.toNat ∧ c.toNat ≤ 57) := by
  unfold Lib.itoa at h
  split at h
  · rcases List.mem_cons.1 h with rfl | h
    · exact .inl rfl
    · exact .inr (decDigits_mem h)
  · exact .inr (decDigits_mem h)
theorem sep_not {n : Int} {c : UInt8} (hc : Sep c) : c ∉ Lib.itoa n := fun h => by
  rcases itoa_mem h with h | h
  · exact hc.1 h
  · exact hc.2 h
theorem index_first {a t : List UInt8} {c : UInt8} (h : c ∉ a) : Lib.indexByte (a ++ c :: t) c = a.length := by
  induction a with
  | nil => simp [Lib.indexByte]
  | cons b a ih =>
    have hb : (b == c) = false := by
      have : b ≠ c := fun e => h (e ▸ List.mem_cons_self)
      simpa using this
    have := ih (fun hm => h (List.mem_cons_of_mem _ hm))
    simp only [List.cons_append, Lib.indexByte, hb, this, List.length_cons]
    rw [if_neg (by simp), if_neg (by simp)]
    omega
theorem index_some {l : List UInt8} {c : UInt8} (h : 0 ≤ Lib.indexByte l c) : ∃ a t, l = a ++ c :: t ∧ (a.length : Int) = Lib.indexByte l c := by
  induction l with
  | nil => simp [Lib.indexByte] at h
  | cons b l ih =>
    simp only [Lib.indexByte] at h ⊢
    by_cases hb : (b == c) = true
    · rw [if_pos hb]
      have : b = c := by simpa using hb
      subst this
      exact ⟨[], l, rfl, rfl⟩
    · rw [if_neg hb] at h ⊢
      by_cases hm : (Lib.indexByte l c == -1) = true
      · rw [if_pos hm] at h
        omega
      · rw [if_neg hm] at h ⊢
        have h1 := (indexByte_lt l c).1
        have h2 : ¬ Lib.indexByte l c = -1 := by simpa using hm
        obtain ⟨a, t, e1, e2⟩ := ih (by omega)
        refine ⟨b :: a, t, by rw [e1]; rfl, ?_⟩
        rw [List.length_cons]
        omega
theorem headV_list (r : ByteArray) : (headV r).data.toList = r.data.toList.take 21 := by
  simp only [headV, ByteArray.data_extract, Array.toList_extract, List.extract_eq_take_drop, List.drop_zero, Nat.sub_zero]
  rcases Nat.le_total r.size 21 with h | h
  · rw [Nat.min_eq_left h, List.take_of_length_le (by simp), List.take_of_length_le (by simpa using h)]
  · rw [Nat.min_eq_right h]
theorem ext_list (r : ByteArray) (k : Nat) : (r.extract 0 k).data.toList = r.data.toList.take k := by
  simp only [ByteArray.data_extract, Array.toList_extract, List.extract_eq_take_drop, List.drop_zero, Nat.sub_zero]
theorem ext_drop (r : ByteArray) (k : Nat) : (r.extract k r.size).data.toList = r.data.toList.drop k := by
  simp only [ByteArray.data_extract, Array.toList_extract, List.extract_eq_take_drop]
  rw [List.take_of_length_le (by simp)]
theorem ba_ext {a b : ByteArray} (h : a.data.toList = b.data.toList) : a = b := by
  apply ByteArray.ext
  exact Array.toList_inj.1 h
theorem itoaB_list (n : Int) : (itoaB n).data.toList = Lib.itoa n := rfl
theorem itoa_length {n : Int} (h : isInt n) : (Lib.itoa n).length ≤ 20 := by
  have key : ∀ u : Nat, u < 10000000000000000000 → (Lib.decDigits u).length ≤ 19 := by
    intro u hu
    rw [Lib.decDigits_length]
    have h2 : ∀ k u : Nat, u < 10 ^ (k + 1) → Lib.nDigits u ≤ k + 1 := by
      intro k
      induction k with
      | zero => intro u hu; rw [Lib.nDigits_small (by simpa using hu)]; exact Nat.le_refl _
      | succ k ih =>
        intro u hu
        by_cases h : u < 10
        · rw [Lib.nDigits_small h]; omega
        · rw [Lib.nDigits_big h]
          have := ih (u / 10) (by rw [Nat.div_lt_iff_lt_mul (by decide)]; rw [Nat.pow_succ] at hu; exact hu)
          omega
    exact h2 18 u (by omega)
  unfold Lib.itoa
  split
  · have := key n.natAbs (by omega)
    rw [List.length_cons]
    omega
  · have := key n.toNat (by omega)
    omega
theorem numIs_of {r : ByteArray} {c : UInt8} {least n : Int} {t : List UInt8} (hc : Sep c) (h : r.data.toList = Lib.itoa n ++ c :: t) (hn : isInt n) (hl : least ≤ n) : numIs r c least n ∧ behind r c = ⟨t.toArray⟩ := by
  have hz := itoa_length hn
  have e1 : r.data.toList.take 21 = Lib.itoa n ++ c :: (t.take (20 - (Lib.itoa n).length)) := by
    rw [h, List.take_append, List.take_of_length_le (by omega)]
    congr 1
    rw [show 21 - (Lib.itoa n).length = (20 - (Lib.itoa n).length) + 1 by omega, List.take_succ_cons]
  have e2 : atV r c = (Lib.itoa n).length := by
    unfold atV
    rw [headV_list, e1]
    exact index_first (sep_not hc)
  have e3 : numV r c = itoaB n := by
    apply ba_ext
    rw [ext_list, headV_list, e1, e2, Int.toNat_natCast, List.take_left' rfl, itoaB_list]
  refine ⟨⟨by omega, ?_, e3.symm, hl⟩, ?_⟩
  · rw [e3, itoaB_list]
    exact atoi_itoa hn
  · apply ba_ext
    unfold behind
    rw [ext_drop, h, e2, show (((Lib.itoa n).length : Int) + 1).toNat = (Lib.itoa n).length + 1 by omega, List.drop_append, List.drop_of_length_le (by omega)]
    simp
theorem numIs_to {r : ByteArray} {c : UInt8} {least n : Int} (h : numIs r c least n) : ∃ t, r.data.toList = Lib.itoa n ++ c :: t ∧ behind r c = ⟨t.toArray⟩ := by
  obtain ⟨h1, h2, h3, h4⟩ := h
  obtain ⟨a, t, e1, e2⟩ := index_some (l := (headV r).data.toList) (c := c) h1
  have e3 : (numV r c).data.toList = a := by
    rw [ext_list, e1, show (atV r c).toNat = a.length by unfold atV; omega, List.take_left' rfl]
  rw [← h3, itoaB_list] at e3
  rw [headV_list] at e1
  have e4 : r.data.toList = a ++ c :: (t ++ r.data.toList.drop 21) := by
    have h5 : r.data.toList.take 21 ++ r.data.toList.drop 21 = a ++ c :: t ++ r.data.toList.drop 21 := by rw [e1]
    rw [List.take_append_drop] at h5
    rw [List.append_assoc] at h5
    exact h5
  refine ⟨t ++ r.data.toList.drop 21, by rw [e3]; exact e4, ?_⟩
  apply ba_ext
  unfold behind
  rw [ext_drop, show (atV r c + 1).toNat = a.length + 1 by unfold atV; omega]
  conv => lhs; rw [e4]
  rw [List.drop_append, List.drop_of_length_le (by omega)]
  simp
theorem numIs_int {r : ByteArray} {c : UInt8} {least n : Int} (h : numIs r c least n) : isInt n := atoiAll_bd h.2.1
end Go.Proofs.YtfgibalcdjlnhaaGreatDoor
end
section
namespace Go.Proofs.YtfgibalcdjlnhaaGreatDoor
open Go.RowKit


/-- values, one after the other -/
noncomputable def itemsL {α : Type} (one : ByteArray → Bool → RS α) : Nat → ByteArray → Bool → List α → RS (List α)
  | 0, r, b, out => ⟨out, r, b⟩
  | k + 1, r, b, out => if b then ⟨out, r, b⟩ else itemsL one k (one r b).r (one r b).b (out ++ [(one r b).v])
noncomputable def itemsS {α : Type} (one : ByteArray → Bool → RS α) (r : ByteArray) (b : Bool) : RS (List α) :=
  let q := numS r b 91 0
  let l := itemsL one q.v.toNat q.r q.b []
  let c := closeS l.r l.b ⟨#[93]⟩
  ⟨if c.2 then [] else l.v, c.1, c.2⟩
noncomputable abbrev oneInt (r : ByteArray) (b : Bool) : RS Int := numS r b 59 (-9223372036854775808)
noncomputable abbrev oneText (r : ByteArray) (b : Bool) : RS ByteArray := textS r b
attribute [local irreducible] numS closeS textS
end Go.Proofs.YtfgibalcdjlnhaaGreatDoor
end
section
set_option linter.unusedSimpArgs false
set_option linter.unusedVariables false
namespace Go.Proofs.YtfgibalcdjlnhaaGreatDoor
open Go.RowKit


def semi : ByteArray := ⟨#[59]⟩
def intW (n : Int) : ByteArray := itoaB n ++ ⟨#[59]⟩
def numW (n : Int) : ByteArray := if n < 0 then ⟨#[]⟩ else intW n
def textW (s : ByteArray) : ByteArray := itoaB s.size ++ ⟨#[58]⟩ ++ s ++ ⟨#[44]⟩
theorem itoa_len (n : Int) (h0 : -9223372036854775808 ≤ n) (h1 : n ≤ 9223372036854775807) : (itoaB n).size ≤ 20 := by
  have key : ∀ u : Nat, u < 10000000000000000000 → (Lib.decDigits u).length ≤ 19 := by
    intro u hu
    rw [Lib.decDigits_length]
    rcases Nat.lt_or_ge 19 (Lib.nDigits u) with h | h
    · exfalso
      have h2 : ∀ k u : Nat, u < 10 ^ (k + 1) → Lib.nDigits u ≤ k + 1 := by
        intro k
        induction k with
        | zero => intro u hu; rw [Lib.nDigits_small (by simpa using hu)]; exact Nat.le_refl _
        | succ k ih =>
          intro u hu
          by_cases h : u < 10
          · rw [Lib.nDigits_small h]; omega
          · rw [Lib.nDigits_big h]
            have := ih (u / 10) (by rw [Nat.div_lt_iff_lt_mul (by decide)]; rw [Nat.pow_succ] at hu; exact hu)
            omega
      have := h2 18 u (by omega)
      omega
    · exact h
  have : (itoaB n).size = (Lib.itoa n).length := List.size_toArray
  rw [this, Lib.itoa]
  split
  · have := key n.natAbs (by omega)
    rw [List.length_cons]
    omega
  · have := key n.toNat (by omega)
    omega
theorem winti_any (n : Int) (h0 : -9223372036854775808 ≤ n) (h1 : n ≤ 9223372036854775807) : PureC 80 [.int n] (· = .str (intW n)) := by
  have hz := itoa_len n h0 h1
  have hs : ByteArray.size ⟨#[59]⟩ = 1 := rfl
  refine pure_enter Tryz.func80 rfl (by decide) _ Tryz.ntmps80 (le_ok rfl) (fun w Pr hE => ?_)
  dsimp only [slotsOf, Nat.zero_add, Nat.reduceAdd]
  repeat' (first | (apply at_call; refine k_call (itoa_any n h0 h1) hE ?_; rintro _ rfl) | refine nx ?_ | (apply qr_move; refine r_move ?_) | (apply qr_assign; refine r_assign ?_) | (apply qr_add; refine r_add ?_))
  refine ret_one (by rfl) (by first | exact ToD.d _ | exact ToD.row _ _ _ _ _ rfl) ?_
  rfl
theorem wnum_any (n : Int) (h0 : -9223372036854775808 ≤ n) (h1 : n ≤ 9223372036854775807) : PureC 62 [.int n] (· = .str (numW n)) := by
  refine pure_enter Tryz.func62 rfl (by decide) _ Tryz.ntmps62 (le_ok rfl) (fun w Pr hE => ?_)
  dsimp only [slotsOf, Nat.zero_add, Nat.reduceAdd]
  by_cases hn : n < 0
  · skip
    repeat' (first | refine nx ?_ | (apply qr_move; refine r_move ?_) | (apply qr_assign; refine r_assign ?_) | (apply at_cond; first | refine c_t ?_ | refine c_f ?_ | (refine aw_cond rfl (fun hb => ?_) (fun hb => ?_) <;> ((try have hq := dX hb); (try (exfalso; omega))))) | (apply qr_lss; refine r_lss ?_))
    refine ret_one (by rfl) (by first | exact ToD.d _ | exact ToD.row _ _ _ _ _ rfl) ?_
    simp [numW, hn]
  · skip
    repeat' (first | (apply at_call; refine k_call (winti_any n h0 h1) hE ?_; rintro _ rfl) | refine nx ?_ | (apply qr_move; refine r_move ?_) | (apply qr_assign; refine r_assign ?_) | (apply at_cond; first | refine c_t ?_ | refine c_f ?_ | (refine aw_cond rfl (fun hb => ?_) (fun hb => ?_) <;> ((try have hq := dX hb); (try (exfalso; omega))))) | (apply qr_lss; refine r_lss ?_))
    refine ret_one (by rfl) (by first | exact ToD.d _ | exact ToD.row _ _ _ _ _ rfl) ?_
    simp [numW, hn]
theorem wtext_any (s : ByteArray) (hs : s.size ≤ 1000000000) : PureC 61 [.str s] (· = .str (textW s)) := by
  have hz := itoa_len s.size (by omega) (by omega)
  have hs1 : ByteArray.size ⟨#[58]⟩ = 1 := rfl
  have hs2 : ByteArray.size ⟨#[44]⟩ = 1 := rfl
  have z1 : (itoaB s.size ++ ⟨#[58]⟩).size = (itoaB s.size).size + 1 := ByteArray.size_append
  have z2 : (itoaB s.size ++ ⟨#[58]⟩ ++ s).size = (itoaB s.size ++ ⟨#[58]⟩).size + s.size := ByteArray.size_append
  refine pure_enter Tryz.func61 rfl (by decide) _ Tryz.ntmps61 (le_ok rfl) (fun w Pr hE => ?_)
  dsimp only [slotsOf, Nat.zero_add, Nat.reduceAdd]
  repeat' (first | (apply at_call; refine k_call (itoa_any s.size (by omega) (by omega)) hE ?_; rintro _ rfl) | refine nx ?_ | (apply qr_move; refine r_move ?_) | (apply qr_assign; refine r_assign ?_) | (apply qr_add; refine r_add ?_) | (apply qr_len; refine r_len ?_))
  refine ret_one (by rfl) (by first | exact ToD.d _ | exact ToD.row _ _ _ _ _ rfl) ?_
  rfl
end Go.Proofs.YtfgibalcdjlnhaaGreatDoor
end
section
namespace Go.Proofs.YtfgibalcdjlnhaaGreatDoor
open Go.RowKit

abbrev L (r : ByteArray) : List UInt8 := r.data.toList
abbrev B (l : List UInt8) : ByteArray := ⟨l.toArray⟩
theorem L_B (l : List UInt8) : L (B l) = l := rfl
theorem B_L (r : ByteArray) : B (L r) = r := ba_ext rfl
theorem L_app (a b : ByteArray) : L (a ++ b) = L a ++ L b := by simp [L, ByteArray.data_append]
theorem L_len (a : ByteArray) : (L a).length = a.size := Array.length_toList
theorem numS_of {r : ByteArray} {b : Bool} {c : UInt8} {least n : Int} {t : List UInt8} (hc : Sep c) (h : L r = Lib.itoa n ++ c :: t) (hn : isInt n) (hl : least ≤ n) : numS r b c least = ⟨n, B t, b⟩ := by
  obtain ⟨h1, h2⟩ := numIs_of hc h hn hl
  simp only [numS, numR_some h1, h2]
theorem numS_to {r : ByteArray} {b : Bool} {c : UInt8} {least : Int} : (∃ n q, numS r b c least = ⟨n, q, b⟩ ∧ L r = Lib.itoa n ++ c :: L q ∧ isInt n ∧ least ≤ n) ∨ numS r b c least = ⟨0, emp, true⟩ := by
  cases h : numR r c least with
  | none => right; simp only [numS, h]
  | some n =>
    have h1 := numR_is h
    obtain ⟨t, h2, h3⟩ := numIs_to h1
    exact .inl ⟨n, behind r c, by simp only [numS, h], by rw [h3]; exact h2, numIs_int h1, h1.2.2.2⟩
theorem sep59 : Sep 59 := by unfold Sep; decide
theorem sep58 : Sep 58 := by unfold Sep; decide
theorem closeS_of {r : ByteArray} {b : Bool} {c : UInt8} {t : List UInt8} (h : L r = c :: t) : closeS r b ⟨#[c]⟩ = (B t, b) := by
  have h1 : r.data.toList = c :: t := h
  have h2 : Lib.hasPrefix (c :: t) [c] = true := by simp [Lib.hasPrefix]
  have h3 : Lib.trimPrefix (c :: t) [c] = t := by simp [Lib.trimPrefix, Lib.hasPrefix]
  simp only [closeS, h1, h2, h3, if_true]
theorem closeS_to {r : ByteArray} {b : Bool} {c : UInt8} : (∃ q, closeS r b ⟨#[c]⟩ = (q, b) ∧ L r = c :: L q) ∨ closeS r b ⟨#[c]⟩ = (emp, true) := by
  cases h : L r with
  | nil =>
    right
    have h1 : r.data.toList = [] := h
    have h2 : Lib.hasPrefix [] [c] = false := by simp [Lib.hasPrefix]
    simp [closeS, h1, h2]
  | cons d t =>
    by_cases hd : d = c
    · subst hd
      exact .inl ⟨B t, closeS_of h, rfl⟩
    · right
      have h1 : r.data.toList = d :: t := h
      have h2 : Lib.hasPrefix (d :: t) [c] = false := by
        have : (c == d) = false := by simpa using fun e : c = d => hd e.symm
        simp [Lib.hasPrefix, List.isPrefixOf, this]
      simp [closeS, h1, h2]
theorem intW_L (n : Int) : L (intW n) = Lib.itoa n ++ [59] := by rw [intW, L_app]; rfl
theorem textW_L (s : ByteArray) : L (textW s) = Lib.itoa s.size ++ 58 :: (L s ++ [44]) := by
  rw [textW, L_app, L_app, L_app]
  simp only [List.append_assoc]
  rfl
theorem int_of {n least : Int} {r : ByteArray} {b : Bool} {t : List UInt8} (h : L r = L (intW n) ++ t) (hn : isInt n) (hl : least ≤ n) : numS r b 59 least = ⟨n, B t, b⟩ := by
  refine numS_of sep59 ?_ hn hl
  rw [h, intW_L]
  simp
theorem int_to {r q : ByteArray} {n least : Int} (h : numS r false 59 least = ⟨n, q, false⟩) : L r = L (intW n) ++ L q ∧ isInt n ∧ least ≤ n := by
  rcases numS_to (r := r) (b := false) (c := 59) (least := least) with ⟨m, p, h1, h2, h3, h4⟩ | h1
  · rw [h] at h1
    cases h1
    refine ⟨?_, h3, h4⟩
    rw [h2, intW_L]
    simp
  · rw [h] at h1
    cases h1
theorem text_of {s : ByteArray} {r : ByteArray} {t : List UInt8} (h : L r = L (textW s) ++ t) (hs : s.size ≤ 9223372036854775807) : textS r false = ⟨s, B t, false⟩ := by
  have h1 : numS r false 58 0 = ⟨s.size, B (L s ++ 44 :: t), false⟩ := by
    refine numS_of sep58 ?_ ⟨by omega, by omega⟩ (by omega)
    rw [h, textW_L]
    simp
  have hz : (B (L s ++ 44 :: t)).size = s.size + (t.length + 1) := by
    have : (B (L s ++ 44 :: t)).size = (L s ++ 44 :: t).length := List.size_toArray
    rw [this, List.length_append, L_len, List.length_cons]
  have h2 : (B (L s ++ 44 :: t)).extract 0 (s.size : Int).toNat = s := by
    apply ba_ext
    rw [ext_list, Int.toNat_natCast, ← L_len s]
    exact List.take_left' rfl
  have h3 : L ((B (L s ++ 44 :: t)).extract (s.size : Int).toNat (B (L s ++ 44 :: t)).size) = 44 :: t := by
    rw [L, ext_drop, Int.toNat_natCast, ← L_len s]
    exact List.drop_left' rfl
  have h4 := closeS_of (b := false) h3
  unfold textS
  simp only [h1, h2, h4]
  rw [if_neg (by omega)]
  rfl
theorem text_to {r q s : ByteArray} (h : textS r false = ⟨s, q, false⟩) : L r = L (textW s) ++ L q ∧ (s.size : Int) ≤ 9223372036854775807 := by
  unfold textS at h
  rcases numS_to (r := r) (b := false) (c := 58) (least := 0) with ⟨n, p, h1, h2, h3, h4⟩ | h1
  · simp only [h1] at h
    split at h
    · cases h
    · rename_i hn
      rcases closeS_to (r := p.extract n.toNat p.size) (b := false) (c := 44) with ⟨q2, h5, h6⟩ | h5
      · simp only [h5] at h
        injection h with e1 e2 e3
        have e1' : p.extract 0 n.toNat = s := e1
        subst e1' e2
        have hz : (p.extract 0 n.toNat).size = n.toNat := by simp only [ByteArray.size_extract]; omega
        have hn2 : ((p.extract 0 n.toNat).size : Int) = n := by omega
        have h7 : L p = L (p.extract 0 n.toNat) ++ 44 :: L q2 := by
          have h8 : L (p.extract n.toNat p.size) = (L p).drop n.toNat := ext_drop p n.toNat
          have h9 : L (p.extract 0 n.toNat) = (L p).take n.toNat := ext_list p n.toNat
          rw [h9, ← h6, h8, List.take_append_drop]
        refine ⟨?_, by omega⟩
        rw [h2, textW_L, hn2, h7]
        simp
      · simp only [h5] at h
        injection h with _ _ e3
        cases e3
  · simp only [h1] at h
    split at h
    · cases h
    · rcases closeS_to (r := emp.extract (0 : Int).toNat emp.size) (b := true) (c := 44) with ⟨q2, h5, h6⟩ | h5
      · simp only [h5] at h
        injection h with _ _ e3
        cases e3
      · simp only [h5] at h
        injection h with _ _ e3
        cases e3
end Go.Proofs.YtfgibalcdjlnhaaGreatDoor
end
section
namespace Go.Proofs.YtfgibalcdjlnhaaGreatDoor

theorem emp_of {r : ByteArray} (h : r.size = 0) : r = emp := by
  apply ba_ext
  have : r.data.toList.length = 0 := by rw [Array.length_toList]; exact h
  rw [List.eq_nil_of_length_eq_zero this]
  rfl
theorem numS_bad {r : ByteArray} {b : Bool} {c : UInt8} {least : Int} (h : b = true → r = emp) (hb : (numS r b c least).b = true) : (numS r b c least).r = emp := by
  rcases numS_size r b c least with h1 | h1
  · rw [h1.1] at hb
    have h2 := h1.2
    rw [h hb, emp_size] at h2
    omega
  · rw [h1]
theorem closeS_bad {r : ByteArray} {b : Bool} {c : UInt8} (h : b = true → r = emp) (hb : (closeS r b ⟨#[c]⟩).2 = true) : (closeS r b ⟨#[c]⟩).1 = emp := by
  rcases closeS_to (r := r) (b := b) (c := c) with ⟨q, h1, h2⟩ | h1
  · rw [h1] at hb
    rw [h hb] at h2
    cases h2
  · rw [h1]
theorem textS_bad {r : ByteArray} {b : Bool} (h : b = true → r = emp) (hb : (textS r b).b = true) : (textS r b).r = emp := by
  have h1 := fun h2 => numS_bad (r := r) (b := b) (c := 58) (least := 0) h h2
  unfold textS at hb ⊢
  dsimp only at hb ⊢
  split at hb
  · rename_i hc
    rw [if_pos hc]
  · rename_i hc
    rw [if_neg hc]
    refine closeS_bad (fun h2 => ?_) hb
    refine emp_of ?_
    rw [ByteArray.size_extract, h1 h2, emp_size]
    omega
end Go.Proofs.YtfgibalcdjlnhaaGreatDoor
end
section
set_option linter.unusedSimpArgs false
set_option linter.unusedVariables false
namespace Go.Proofs.YtfgibalcdjlnhaaGreatDoor
open Go.RowKit Go.ChangeMaps Go.WideMaps

theorem laidOut' : laidOutB Tryz.prog = true := by kernel_rfl
/-- A file: what it is now, what is durable. -/
structure Fl where
  now : ByteArray
  last : ByteArray
abbrev nofile : Fl := ⟨⟨#[]⟩, ⟨#[]⟩⟩
abbrev Fl.d (x : Fl) : D := .agg [.str x.now, .str x.last]
/-- A sector: its file and its number. -/
abbrev Sec := Int × Int
def intV (n : Int) : Value := .int .i64 n
def secV (p : Sec) : Value := .agg #[.int .i64 p.1, .int .i64 p.2]
def secC (p : Sec) : List D := [.int p.1, .int p.2]
theorem secV_inj {p q : Sec} (h : secV p = secV q) : p = q := by
  obtain ⟨a, b⟩ := p
  obtain ⟨c, d⟩ := q
  simp only [secV, Value.agg.injEq, Array.mk.injEq, List.cons.injEq, Value.int.injEq, true_and, and_true] at h
  rw [h.1, h.2]
theorem intV_inj {a b : Int} (h : intV a = intV b) : a = b := by
  simpa [intV] using h
def i64 (n : Int) : Prop := -9223372036854775808 ≤ n ∧ n ≤ 9223372036854775807
theorem wf_i64 {n : Int} (h : i64 n) : (Lit.int .i64 n).wf = true := by
  have := h.1
  have := h.2
  simp [Lit.wf, IntKind.min, IntKind.max, IntKind.signed, IntKind.bits]
  omega
theorem infoFile : (Tryz.prog.info? 78).map (fun i => (i.zero, i.size, i.bytes)) = some (some (.agg #[.string ⟨#[]⟩, .string ⟨#[]⟩]), 2, 32) := by kernel_rfl
theorem infoBool : (Tryz.prog.info? 4).map (fun i => (i.zero, i.size, i.bytes)) = some (some (.bool false), 1, 1) := by kernel_rfl
theorem fileM : MapT 56 3 78 nofile.d (.agg #[.string ⟨#[]⟩, .string ⟨#[]⟩]) where
  u := Tryz.underlying56
  K := Maps.int_keyed Tryz.underlying3
  zero := fun w => by
    obtain ⟨i0, hi, hz0, _⟩ := info_parts infoFile
    simp [zeroValue, typeInfo, hi, hz0]
  zr := fun _ _ => .agg [.string ⟨#[]⟩, .string ⟨#[]⟩] _ rfl (fun i v d h1 h2 => by
    match i with
    | 0 => cases h1; cases h2; exact .val _
    | 1 => cases h1; cases h2; exact .val _)
theorem sector_law : KeyLaw Tryz.prog 76 := deep_law_laid laidOut' (m := 3) (by decide) (by decide +kernel) (by kernel_rfl) (by kernel_rfl)
theorem setM : MapT 57 76 4 (D.bool false) (.bool false) where
  u := Tryz.underlying57
  K := Maps.Keyed.of_law sector_law
  zero := fun w => by
    obtain ⟨i0, hi, hz0, _⟩ := info_parts infoBool
    simp [zeroValue, typeInfo, hi, hz0]
  zr := fun _ _ => .val _
theorem int_key {n : Int} (h : i64 n) : KeyOk 56 (intV n) := by
  refine KeyOk.of fileM (lit := .int .i64 n) ?_
  unfold keyOf
  rw [Tryz.underlying3]
  simp [intV, mapKey, wf_i64 h]
theorem sec_key {p : Sec} (h1 : i64 p.1) (h2 : i64 p.2) : KeyOk 57 (secV p) := by
  obtain ⟨n, hn⟩ : ∃ n, Tryz.prog.types.size = n + 1 := ⟨Tryz.prog.types.size - 1, by decide +kernel⟩
  have hc : Tryz.prog.cellsOf 76 = 2 := by kernel_rfl
  have hci : Tryz.prog.cellsOf 3 = 1 := by kernel_rfl
  have hl : Tryz.prog.keyLits (Tryz.prog.types.size + 1) 76 (secV p).cells.toList = some [.int .i64 p.1, .int .i64 p.2] := by
    rw [hn]
    simp [Program.keyLits, Tryz.underlying76, hc, secV, Value.cells, hci, wf_i64 h1, wf_i64 h2]
  have hk : Tryz.prog.keyType 76 = true := by kernel_rfl
  have hf : (secV p).formed Tryz.prog 76 = true := by
    simp only [secV, Value.formed, Tryz.underlying76, hc]
    rfl
  refine KeyOk.of setM (lit := .string (keyBytes [.int .i64 p.1, .int .i64 p.2])) ?_
  unfold keyOf
  rw [Tryz.underlying76]
  simp only [hk, hf, hl, Bool.and_self, if_true, Option.map_some]
/-- What the map of files shows. -/
structure FRep (l : List ME) (F : Int → Fl) : Prop where
  of : ∀ q ∈ l, ∃ n, q.2.1 = intV n ∧ q.2.2 = (F n).d ∧ 0 ≤ n ∧ n < 16
  all : ∀ n, (∀ q ∈ l, q.2.1 ≠ intV n) → F n = nofile
/-- What the set of pending sectors shows. -/
structure SRep (l : List ME) (Q : List Sec) : Prop where
  of : ∀ q ∈ l, ∃ p ∈ Q, q.2.1 = secV p ∧ q.2.2 = .bool true
  all : ∀ p ∈ Q, ∃ q ∈ l, q.2.1 = secV p
theorem mem_split {l : List ME} (k : Value) : (∃ (j n : Nat) (d : D), l[j]? = some (n, k, d)) ∨ ∀ q ∈ l, q.2.1 ≠ k := by
  by_cases h : ∃ q ∈ l, q.2.1 = k
  · obtain ⟨⟨n, k', d⟩, hq, rfl⟩ := h
    obtain ⟨j, hj⟩ := List.mem_iff_getElem?.1 hq
    exact .inl ⟨j, n, d, hj⟩
  · exact .inr fun q hq e => h ⟨q, hq, e⟩
theorem FRep.hit {l : List ME} {F : Int → Fl} (h : FRep l F) (n : Int) : ∃ b, Hit l (intV n) nofile.d (F n).d b := by
  rcases mem_split (l := l) (intV n) with ⟨j, i, d, hj⟩ | hn
  · obtain ⟨m, h1, h2, _⟩ := h.of _ (List.mem_of_getElem? hj)
    have : m = n := (intV_inj h1).symm
    subst this
    have h2 : d = (F m).d := h2
    subst h2
    exact ⟨true, .yes j i _ hj⟩
  · have := h.all n hn
    rw [this]
    exact ⟨false, .no hn⟩
theorem SRep.yes {l : List ME} {Q : List Sec} (h : SRep l Q) {p : Sec} (hp : p ∈ Q) : ∃ b, Hit l (secV p) (.bool false) (.bool true) b := by
  obtain ⟨⟨n, k, d⟩, hq, e⟩ := h.all p hp
  obtain ⟨p', _, h1, h2⟩ := h.of _ hq
  have e : k = secV p := e
  have h2 : d = .bool true := h2
  subst e h2
  obtain ⟨j, hj⟩ := List.mem_iff_getElem?.1 hq
  exact ⟨true, .yes j n _ hj⟩
theorem SRep.none {l : List ME} {Q : List Sec} (h : SRep l Q) {p : Sec} (hp : p ∉ Q) : ∀ q ∈ l, q.2.1 ≠ secV p := fun q hq e => by
  obtain ⟨p', hp', h1, _⟩ := h.of q hq
  exact hp (secV_inj (e.symm.trans h1) ▸ hp')
def upd (F : Int → Fl) (f : Int) (x : Fl) : Int → Fl := fun n => if n = f then x else F n
theorem upd_same (F : Int → Fl) (f : Int) (x : Fl) : upd F f x f = x := by simp [upd]
theorem upd_ne (F : Int → Fl) {f n : Int} (x : Fl) (h : n ≠ f) : upd F f x n = F n := by simp [upd, h]
theorem set_get {α : Type} {l : List α} {j : Nat} {x q : α} (h : q ∈ l.set j x) : q = x ∨ ∃ i, i ≠ j ∧ l[i]? = some q := by
  obtain ⟨i, hi⟩ := List.mem_iff_getElem?.1 h
  by_cases e : i = j
  · subst e
    have hlt : i < l.length := by have := (List.getElem?_eq_some_iff.1 hi).1; simpa using this
    rw [List.getElem?_set_self hlt] at hi
    cases hi
    exact .inl rfl
  · rw [List.getElem?_set_ne (Ne.symm e)] at hi
    exact .inr ⟨i, e, hi⟩
theorem FRep.put {l : List ME} {F : Int → Fl} {c : Nat} (h : FRep l F) (hm : MapOk 56 c l) {f : Int} (hf : 0 ≤ f ∧ f < 16) (x : Fl) : ∃ c' l', Put c l (intV f) x.d c' l' ∧ FRep l' (upd F f x) := by
  rcases mem_split (l := l) (intV f) with ⟨j, i, d, hj⟩ | hn
  · refine ⟨_, _, .old j i d hj, fun q hq => ?_, fun n hn => ?_⟩
    · rcases set_get hq with rfl | ⟨t, ht, htq⟩
      · exact ⟨f, rfl, by rw [upd_same], hf⟩
      · obtain ⟨m, h1, h2, h3⟩ := h.of q (List.mem_of_getElem? htq)
        have hmf : m ≠ f := by
          rintro rfl
          exact ht (nodup_one (f := fun q : ME => q.2.1) hm.keys htq hj h1)
        exact ⟨m, h1, by rw [upd_ne F x hmf]; exact h2, h3⟩
    · have hlt := (List.getElem?_eq_some_iff.1 hj).1
      have hnf : n ≠ f := by
        rintro rfl
        exact hn _ (List.mem_of_getElem? (List.getElem?_set_self hlt)) rfl
      rw [upd_ne F x hnf]
      refine h.all n fun q hq e => ?_
      obtain ⟨t, ht⟩ := List.mem_iff_getElem?.1 hq
      by_cases htj : t = j
      · subst htj
        rw [hj] at ht
        cases ht
        exact hnf (intV_inj e).symm
      · exact hn q (List.mem_of_getElem? (by rw [List.getElem?_set_ne (Ne.symm htj)]; exact ht)) e
  · refine ⟨_, _, .new hn, fun q hq => ?_, fun n hnn => ?_⟩
    · rcases List.mem_append.1 hq with hq0 | hq
      · obtain ⟨m, h1, h2, h3⟩ := h.of q hq0
        have hmf : m ≠ f := by
          rintro rfl
          exact hn q hq0 h1
        exact ⟨m, h1, by rw [upd_ne F x hmf]; exact h2, h3⟩
      · simp at hq
        subst hq
        exact ⟨f, rfl, by rw [upd_same], hf⟩
    · have hnf : n ≠ f := by
        rintro rfl
        exact hnn (c, intV n, x.d) (by simp) rfl
      rw [upd_ne F x hnf]
      exact h.all n fun q hq => hnn q (List.mem_append_left _ hq)
theorem SRep.put {l : List ME} {Q : List Sec} (h : SRep l Q) (p : Sec) (c : Nat) : SRep ((l ++ [(c, secV p, D.bool false)]).set l.length (c, secV p, D.bool true)) (Q ++ [p]) := by
  rw [List.set_append_right _ _ (Nat.le_refl _), Nat.sub_self]
  simp only [List.set_cons_zero]
  refine ⟨fun q hq => ?_, fun p' hp => ?_⟩
  · rcases List.mem_append.1 hq with hq | hq
    · obtain ⟨p', h1, h2⟩ := h.of q hq
      exact ⟨p', List.mem_append_left _ h1, h2⟩
    · simp at hq
      subst hq
      exact ⟨p, by simp, rfl, rfl⟩
  · rcases List.mem_append.1 hp with hp | hp
    · obtain ⟨q, h1, h2⟩ := h.all p' hp
      exact ⟨q, List.mem_append_left _ h1, h2⟩
    · simp at hp
      subst hp
      exact ⟨_, List.mem_append_right _ (List.mem_singleton.2 rfl), rfl⟩
section
variable {E : Entry} {sl : Slots} {ob : Objs}
/-- what holds of a map's entries -/
theorem aw_mapok {t : TypeId} {c : Nat} {l : List ME} {z : Code} {Q : Exit → Act → World → Prop} (i : Nat) (hf : find ob i = some (.map t c l)) (h : MapOk t c l → AW E z Q sl ob) : AW E z Q sl ob := ⟨fun a w ⟨Pr, β, κ, hg⟩ => by
  obtain ⟨_, _, _, _, _, ⟨_, hok⟩, _⟩ := hg.objs i _ hf
  exact (h hok).run a w ⟨Pr, β, κ, hg⟩⟩
end
/-- A disk. -/
structure DS where
  F : Int → Fl
  Q : List Sec
  lost : Int
  down : Bool
  armed : Int
  keep : List Int
/-- what a queue may hold -/
structure QOk (Q : List Sec) : Prop where
  nodup : Q.Nodup
  file : ∀ p ∈ Q, 0 ≤ p.1 ∧ p.1 < 16
  num : ∀ p ∈ Q, 0 ≤ p.2 ∧ p.2 ≤ 262144
/-- what a disk may hold -/
structure DS.Ok (st : DS) : Prop where
  now : ∀ f, (st.F f).now.size ≤ 16777216
  last : ∀ f, (st.F f).last.size ≤ 16777216
  out : ∀ f, ¬ (0 ≤ f ∧ f < 16) → st.F f = nofile
  nodup : st.Q.Nodup
  file : ∀ p ∈ st.Q, 0 ≤ p.1 ∧ p.1 < 16
  num : ∀ p ∈ st.Q, 0 ≤ p.2 ∧ p.2 ≤ 262144
  lost0 : 0 ≤ st.lost ∧ st.lost ≤ 9223372036854775807
  armed0 : 0 ≤ st.armed ∧ st.armed ≤ 9223372036854775807
  keepl : st.keep.length ≤ 1000000
abbrev keepD (l : List Int) : D := .list 1 (l.map fun n => [D.int n])
abbrev dskBox (m r s k : Nat) (st : DS) : O := .box 60 [.mp m, .row r k, .mp s, .d (.int st.lost), .d (.bool st.down), .d (.int st.armed), .d (keepD st.keep)]
abbrev dsk (b m r s k cm cs : Nat) (lm ls : List ME) (st : DS) : Objs := [(b, dskBox m r s k st), (m, .map 56 cm lm), (r, .vec 76 2 k (st.Q.map secC)), (s, .map 57 cs ls)]
structure DkOk (lm ls : List ME) (st : DS) : Prop where
  f : FRep lm st.F
  s : SRep ls st.Q
  ok : st.Ok
theorem nodup_nats : ∀ (n : Nat) (l : List Nat), l.Nodup → (∀ x ∈ l, x < n) → l.length ≤ n
  | 0, l, _, h => by
    cases l with
    | nil => simp
    | cons x l => exact absurd (h x (by simp)) (Nat.not_lt_zero _)
  | n + 1, l, hn, h => by
    by_cases hm : n ∈ l
    · have h1 := nodup_nats n (l.erase n) (hn.erase n) (fun x hx => by
        have h2 := h x (List.mem_of_mem_erase hx)
        have h3 : x ≠ n := fun e => by
          rw [e] at hx
          exact (List.Nodup.not_mem_erase hn) hx
        omega)
      have := List.length_erase_of_mem hm
      omega
    · have := nodup_nats n l hn (fun x hx => by
        have h2 := h x hx
        have h3 : x ≠ n := fun e => hm (e ▸ hx)
        omega)
      omega
theorem QOk.len {Q : List Sec} (h : QOk Q) : Q.length ≤ 4194320 := by
  have h1 : (Q.map fun p => (p.1 * 262145 + p.2).toNat).Nodup := by
    refine (List.pairwise_map).2 ?_
    refine List.Pairwise.imp_of_mem ?_ h.nodup
    intro a b ha hb hne e
    obtain ⟨a1, a2⟩ := h.file a ha
    obtain ⟨a3, a4⟩ := h.num a ha
    obtain ⟨b1, b2⟩ := h.file b hb
    obtain ⟨b3, b4⟩ := h.num b hb
    apply hne
    have e1 : a.1 * 262145 + a.2 = b.1 * 262145 + b.2 := by omega
    have e2 : a.1 = b.1 := by omega
    have e3 : a.2 = b.2 := by omega
    exact Prod.ext e2 e3
  have := nodup_nats 4194320 _ h1 (fun x hx => by
    obtain ⟨p, hp, rfl⟩ := List.mem_map.1 hx
    have := h.file p hp
    have := h.num p hp
    omega)
  simpa using this
theorem DS.Ok.q {st : DS} (h : st.Ok) : QOk st.Q := ⟨h.nodup, h.file, h.num⟩
theorem DS.Ok.len {st : DS} (h : st.Ok) : st.Q.length ≤ 4194320 := h.q.len
/-- bytes that are put into bytes -/
def splice (l : List UInt8) (o : Nat) (m : List UInt8) : List UInt8 := l.take o ++ m ++ l.drop (o + m.length)
theorem splice_len {l : List UInt8} {o : Nat} {m : List UInt8} (h : o + m.length ≤ l.length) : (splice l o m).length = l.length := by simp [splice]; omega
def putB (s : ByteArray) (at_ : Nat) (t : ByteArray) : ByteArray := if t.size = 0 then s else ⟨(splice (splice (List.replicate (max s.size (at_ + t.size)) 0) 0 s.data.toList) at_ t.data.toList).toArray⟩
def bytesV (l : List UInt8) : List V := l.map fun u => .d (.val (.int .u8 u.toNat))
theorem put_bytes (l : List UInt8) (o : Nat) (s : ByteArray) : Go.Proofs.YtfgibalcdjlnhaaGreatDoor.put (bytesV l) o (byteV s) = bytesV (splice l o s.data.toList) := by
  simp [Go.Proofs.YtfgibalcdjlnhaaGreatDoor.put, bytesV, byteV, splice]
theorem bytes_zero (n : Nat) : List.replicate n (V.d (.val (.int .u8 0))) = bytesV (List.replicate n 0) := by simp [bytesV]
theorem putB_size {s : ByteArray} {at_ : Nat} {t : ByteArray} : (putB s at_ t).size = if t.size = 0 then s.size else max s.size (at_ + t.size) := by
  unfold putB
  by_cases h : t.size = 0
  · rw [if_pos h, if_pos h]
  · rw [if_neg h, if_neg h]
    have h1 := Lib.size_eq s
    have h2 := Lib.size_eq t
    show (splice _ _ _).toArray.size = _
    have h3 : (splice (List.replicate (max s.size (at_ + t.size)) 0) 0 s.data.toList).length = max s.size (at_ + t.size) := by
      rw [splice_len] <;> simp <;> omega
    rw [List.size_toArray, splice_len (by rw [h3]; omega), h3]
attribute [local irreducible] splice
set_option maxHeartbeats 4000000 in
set_option maxRecDepth 20000 in
theorem put_any (s : ByteArray) (at_ : Nat) (t : ByteArray) (hs : s.size ≤ 16777216) (ht : at_ + t.size ≤ 16777216) : PureC 44 [.str s, .int at_, .str t] (· = .str (putB s at_ t)) := by
  by_cases h0 : t.size = 0
  · have e0 : t = ⟨#[]⟩ := by
      have h1 := Lib.size_eq t
      cases t with
      | mk d =>
        have h2 : d.toList.length = 0 := by
          have h3 : (⟨d⟩ : ByteArray).data.toList.length = d.toList.length := rfl
          omega
        have : d.toList = [] := List.eq_nil_of_length_eq_zero h2
        have : d = #[] := by simpa using this
        rw [this]
    have hq : decide (t = ⟨#[]⟩) = true := decide_eq_true e0
    refine pure_enter Tryz.func44 rfl (by decide) _ Tryz.ntmps44 (le_ok rfl) (fun w Pr hE => ?_)
    dsimp only [slotsOf, Nat.zero_add, Nat.reduceAdd]
    repeat' (first | refine nx ?_ | (apply qr_move; refine r_move ?_) | (apply qr_assign; refine r_assign ?_) | (apply at_cond; first | refine c_t ?_ | refine c_f ?_ | (refine aw_cond rfl (fun hb => ?_) (fun hb => ?_) <;> ((try have hq := dX hb); (try (exfalso; omega))))) | (apply qr_eql; refine r_eql ?_) | (apply qr_add; refine r_add ?_) | (apply qr_conv; refine r_conv ?_) | (apply qr_max; refine r_max ?_) | (apply qr_len; refine r_len ?_) | (apply qr_slice; refine r_slice ?_) | (apply qr_mkb; refine r_mkb ?_))
    refine ret_one (by rfl) (by first | exact ToD.d _ | exact ToD.row _ _ _ _ _ rfl) ?_
    simp [putB, h0]
  · have hq : decide (t = (⟨#[]⟩ : ByteArray)) = false := decide_eq_false fun e => h0 (by rw [e]; rfl)
    have hm : max (s.size : Int) ((at_ : Int) + (t.size : Int)) = ((max s.size (at_ + t.size) : Nat) : Int) := by omega
    have hm1 : max s.size (at_ + t.size) ≤ 16777216 := by omega
    have hm2 : s.size ≤ max s.size (at_ + t.size) := by omega
    have hm3 : at_ + t.size ≤ max s.size (at_ + t.size) := by omega
    generalize hN : max s.size (at_ + t.size) = n at hm hm1 hm2 hm3
    have l1 := Lib.size_eq s
    have l2 := Lib.size_eq t
    have s1 : (splice (List.replicate n 0) 0 s.data.toList).length = n := by rw [splice_len] <;> simp <;> omega
    refine pure_enter Tryz.func44 rfl (by decide) _ Tryz.ntmps44 (le_ok rfl) (fun w Pr hE => ?_)
    dsimp only [slotsOf, Nat.zero_add, Nat.reduceAdd]
    repeat' (first | (apply at_op (.makeSlice _ _ _); refine al_step (st_mkb rfl rfl rfl rfl hm hm (by omega) (by omega) (bytes_zero n) (lt_ok rfl) rfl) rfl ?_) | (apply at_op (.call { callee := .builtin .copy, args := _, argTypes := _ }); refine al_step (st_copystr rfl rfl rfl rfl rfl (by omega) (by simp [bytesV, s1] <;> omega) (put_bytes _ _ _) (lt_ok rfl)) rfl ?_) | (apply at_op (.slice _ _ _ _ _); refine al_y (y_sub_sl rfl rfl (low_some rfl rfl) (by omega)) (lt_ok rfl) ?_) | refine nx ?_ | (apply qr_move; refine r_move ?_) | (apply qr_assign; refine r_assign ?_) | (apply at_cond; first | refine c_t ?_ | refine c_f ?_ | (refine aw_cond rfl (fun hb => ?_) (fun hb => ?_) <;> ((try have hq := dX hb); (try (exfalso; omega))))) | (apply qr_eql; refine r_eql ?_) | (apply qr_add; refine r_add ?_) | (apply qr_conv; refine r_conv ?_) | (apply qr_max; refine r_max ?_) | (apply qr_len; refine r_len ?_) | (apply qr_slice; refine r_slice ?_) | (apply qr_mkb; refine r_mkb ?_))
    refine al_freeze 18 27 ((splice (splice (List.replicate n 0) 0 s.data.toList) (0 + at_) t.data.toList).map fun u => D.val (.int .u8 u.toNat)) (e := 5) (by rw [List.map_map]; exact find_eq _ _ _) rfl (by rw [List.length_map, splice_len] <;> omega) ?_
    apply at_op (.convert _ _ _)
    refine al_y (y_tostr (l := (splice (splice (List.replicate n 0) 0 s.data.toList) (0 + at_) t.data.toList).map fun u => (u.toNat : Int)) (ToD.d _) (by simp) rfl Tryz.underlying5 Tryz.underlying9 (Lib.Lz.strOfNums_map _)) (lt_ok rfl) ?_
    repeat' (first | refine nx ?_ | (apply qr_move; refine r_move ?_) | (apply qr_assign; refine r_assign ?_) | (apply at_cond; first | refine c_t ?_ | refine c_f ?_ | (refine aw_cond rfl (fun hb => ?_) (fun hb => ?_) <;> ((try have hq := dX hb); (try (exfalso; omega))))) | (apply qr_eql; refine r_eql ?_) | (apply qr_add; refine r_add ?_) | (apply qr_conv; refine r_conv ?_) | (apply qr_max; refine r_max ?_) | (apply qr_len; refine r_len ?_) | (apply qr_slice; refine r_slice ?_) | (apply qr_mkb; refine r_mkb ?_))
    refine ret_one (by rfl) (by first | exact ToD.d _ | exact ToD.row _ _ _ _ _ rfl) ?_
    simp only [putB, if_neg h0, hN, Nat.zero_add]
end Go.Proofs.YtfgibalcdjlnhaaGreatDoor
end
