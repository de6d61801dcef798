/-
  Conditions: none.
-/
import Derived.Test.YtaodngiigdbgeaaGreatDoorMaa
import Derived.Test.YtaodngiigdbgeaaGreatDoorMal
import Derived.Test.YtaodngiigdbgeaaGreatDoorMam
import Derived.Test.YtaodngiigdbgeaaGreatDoorMap
import Derived.Test.YtaodngiigdbgeaaGreatDoorMaq
set_option maxHeartbeats 16000000
set_option maxRecDepth 20000
set_option linter.unusedSimpArgs false
set_option linter.unusedVariables false
namespace Go.Proofs.YtaodngiigdbgeaaGreatDoor
section
open Go.RowKit
def singles : ByteArray := ⟨#[59, 44, 61, 60, 43, 45, 42, 47, 40, 41]⟩
def singleB (c : UInt8) : Bool := (List.range 10).any fun j => decide (c.toNat = (bAt singles j).toNat)
def signTo (s : ByteArray) (p : Nat) : Int :=
 if p + 1 < s.size ∧ (bAt s (p + 1)).toNat = 61 ∧ (bAt s p).toNat = 61 then 2 else if singleB (bAt s p) then 1 else 0
theorem eE {s : ByteArray} {a b i : Nat} (h : a + i < b) (hb : b ≤ s.size) : bAt (s.extract a b) i = bAt s (a + i) := by
 have h1 : i < (s.extract a b).data.toList.length := by simp; omega
 have h2 : a + i < s.data.toList.length := by simp; omega
 rw [kY _ _ h1, kY _ _ h2]
 simp
theorem aBo {s : ByteArray} {a k : Nat} (h : a + k ≤ s.size) : (s.extract a s.size).extract 0 k = s.extract a (a + k) := by
 rw [ByteArray.extract_extract]
 congr 1
 omega
theorem aCe {F : UInt8 → Bool} {s : ByteArray} {p k : Nat} (hpk : p ≤ k) (hk : k ≤ s.size) (h1 : ∀ j, p ≤ j → j < k → F (bAt s j) = true) (h2 : k < s.size → F (bAt s k) = false) : pre F (s.extract p s.size) = k - p := by
 have hz : (s.extract p s.size).size = s.size - p := by simp
 refine aCd F _ _ zb (fun j hj => ?_) (fun hj => ?_)
 ·rw [eE zb (Nat.le_refl _)]
  exact h1 _ zb zb
 ·rw [eE zb (Nat.le_refl _), show p + (k - p) = k by omega]
  exact h2 zb
def tokenV (s : ByteArray) (p : Nat) : Tok × Int :=
 let r := nextV (s.extract p s.size)
 if r.2 = 0 then ({ r.1 with p := p }, 0) else (Tok.zero, r.2)
theorem aCu (l : List UInt8) : ByteArray.size ⟨⟨l⟩⟩ = l.length := rfl
theorem aEe (y : ByteArray) (a : UInt8) : hasP y ⟨#[a]⟩ = decide (0 < y.size ∧ bAt y 0 = a) := by
 obtain ⟨⟨l⟩⟩ := y
 cases l with
 | nil => rfl
 | cons c l => simp [hasP, Lib.hasPrefix, bAt, aCu, List.isPrefixOf, Bool.beq_eq_decide_eq, eq_comm]
theorem aEf (y : ByteArray) (a b : UInt8) : hasP y ⟨#[a, b]⟩ = decide (1 < y.size ∧ bAt y 1 = b ∧ bAt y 0 = a) := by
 obtain ⟨⟨l⟩⟩ := y
 cases l with
 | nil => rfl
 | cons c l =>
  cases l with
  | nil => simp [hasP, Lib.hasPrefix, bAt, aCu, List.isPrefixOf]
  | cons d l => simp [hasP, Lib.hasPrefix, bAt, aCu, List.isPrefixOf, Bool.beq_eq_decide_eq, eq_comm, and_comm]
theorem aMa : signsL = ⟨#[61, 61]⟩ :: (List.range 10).map fun j => ⟨#[bAt singles j]⟩ := by decide
theorem kL (a b : UInt8) : a = b ↔ a.toNat = b.toNat := ⟨fun h => h ▸ rfl, fun h => UInt8.toNat_inj.1 h⟩
theorem aHu (s : ByteArray) (p : Nat) (hp : p < s.size) : (match signOf (s.extract p s.size) with | some x => (p + x.size ≤ s.size ∧ s.extract p (p + x.size) = x ∧ signTo s p = x.size ∧ 0 < x.size) | none => signTo s p = 0) := by
 have hz : (s.extract p s.size).size = s.size - p := by simp
 have hb0 : bAt (s.extract p s.size) 0 = bAt s p := by rw [eE zb (Nat.le_refl _), Nat.add_zero]
 have key : ∀ x, hasP (s.extract p s.size) x = true → p + x.size ≤ s.size ∧ s.extract p (p + x.size) = x := by
  intro x hx
  obtain ⟨r, hr⟩ := List.isPrefixOf_iff_prefix.1 hx
  have h1 := congrArg List.length hr
  have h2 : x.data.toList.length = x.size := by simp
  have h3 : (s.extract p s.size).data.toList.length = s.size - p := by simp
  rw [List.length_append, h2, h3] at h1
  refine ⟨by omega, ?_⟩
  have h4 := aBo (s := s) (a := p) (k := x.size) zb
  rw [← h4]
  apply ByteArray.ext
  apply Array.toList_inj.1
  rw [ByteArray.data_extract, Array.toList_extract, List.extract_eq_take_drop, List.drop_zero, Nat.sub_zero, ← hr, ← h2, List.take_left]
 rw [signOf, aMa, List.find?_cons]
 by_cases h2 : p + 1 < s.size ∧ (bAt s (p + 1)).toNat = 61 ∧ (bAt s p).toNat = 61
 ·have h3 : hasP (s.extract p s.size) ⟨#[61, 61]⟩ = true := by
   rw [aEf]
   apply decide_eq_true
   refine ⟨by omega, ?_, ?_⟩
   ·rw [eE zb (Nat.le_refl _), kL]; exact h2.2.1
   ·rw [hb0, kL]; exact h2.2.2
  rw [h3]
  obtain ⟨k1, k2⟩ := key _ h3
  exact ⟨k1, k2, by simp [signTo, h2]; rfl, by decide⟩
 ·have h3 : hasP (s.extract p s.size) ⟨#[61, 61]⟩ = false := by
   rw [aEf]
   apply decide_eq_false
   rintro ⟨q1, q2, q3⟩
   refine h2 ⟨by omega, ?_, ?_⟩
   ·rw [eE zb (Nat.le_refl _), kL] at q2; exact q2
   ·rw [hb0, kL] at q3; exact q3
  rw [h3]
  dsimp only
  rw [List.find?_map]
  cases hf : (List.range 10).find? ((hasP (s.extract p s.size)) ∘ fun j => ⟨#[bAt singles j]⟩) with
  | none =>
   have h4 : singleB (bAt s p) = false := by
    rw [singleB, List.any_eq_false]
    intro j hj
    have h5 := List.find?_eq_none.1 hf j hj
    simp only [Function.comp_apply, aEe, decide_eq_true_eq, hz, hb0] at h5
    simp only [decide_eq_true_eq]
    intro h6
    exact h5 ⟨by omega, (kL _ _).2 h6⟩
   simp [signTo, h2, h4]
  | some j =>
   have h5 := List.find?_some hf
   have h6 := List.mem_of_find?_eq_some hf
   have h7 := h5
   simp only [Function.comp_apply, aEe, decide_eq_true_eq, hz, hb0] at h7
   have h4 : singleB (bAt s p) = true := List.any_eq_true.2 ⟨j, h6, decide_eq_true ((kL _ _).1 h7.2)⟩
   obtain ⟨k1, k2⟩ := key _ h5
   exact ⟨k1, k2, by simp [signTo, h2, h4]; rfl, Nat.one_pos⟩
theorem mE {s : ByteArray} {p k : Nat} (hl : letterB (bAt s p) = true) (hpk : p < k) (hk : k ≤ s.size) (hpre : pre alnumB (s.extract p s.size) = k - p) : tokenV s p = if k - p ≤ 20 then (⟨0, s.extract p k, 0, p⟩, 0) else (Tok.zero, 11) := by
 have h0 : bAt (s.extract p s.size) 0 = bAt s p := by rw [eE zb (Nat.le_refl _), Nat.add_zero]
 have e1 : (s.extract p s.size).extract 0 (k - p) = s.extract p k := by rw [aBo zb, show p + (k - p) = k by omega]
 have h2 : (s.extract p k).size = k - p := by simp; omega
 have h3 : pre alnumB (s.extract p k) = k - p := by
  rw [← e1]
  have h4 : (s.extract p s.size).size = s.size - p := by simp
  refine aCd _ _ _ jv (fun j hj => ?_) (fun hj => absurd hj jv)
  rw [eE zb zb, Nat.zero_add]
  exact tX zb
 have h5 : bAt (s.extract p k) 0 = bAt s p := by rw [eE zb hk, Nat.add_zero]
 have h6 : ¬ s.extract p k = ⟨#[]⟩ := fun e => by
  have := congrArg ByteArray.size e
  rw [h2] at this
  simp only [ByteArray.size, Array.size_empty] at this
  omega
 have h7 : wordB (s.extract p k) = decide (k - p ≤ 20) := by simp [wordB, h6, h5, hl, h2, h3]
 simp only [tokenV, nextV, h0, hl, hpre, e1, h7, if_true]
 by_cases h8 : k - p ≤ 20
 ·simp [h8]
 ·simp [h8]
theorem nZ {s : ByteArray} {p k : Nat} (hl : letterB (bAt s p) = false) (hd : digitB (bAt s p) = true) (hpk : p < k) (hk : k ≤ s.size) (hpre : pre digitB (s.extract p s.size) = k - p) : tokenV s p = if numOk (s.extract p k) then (⟨1, s.extract p k, numTo (s.extract p k) (s.extract p k).size, p⟩, 0) else (Tok.zero, 3) := by
 have h0 : bAt (s.extract p s.size) 0 = bAt s p := by rw [eE zb (Nat.le_refl _), Nat.add_zero]
 have e1 : (s.extract p s.size).extract 0 (k - p) = s.extract p k := by rw [aBo zb, show p + (k - p) = k by omega]
 have h2 : (s.extract p k).size = k - p := by simp; omega
 simp only [tokenV, nextV, h0, hl, hd, hpre, e1, if_true, h2]
 cases h8 : numOk (s.extract p k) <;> simp
theorem mD {s : ByteArray} {p : Nat} (hl : letterB (bAt s p) = false) (hd : digitB (bAt s p) = false) (hp : p < s.size) : tokenV s p = if signTo s p = 0 then (Tok.zero, 10) else (⟨2, s.extract p (p + (signTo s p).toNat), 0, p⟩, 0) := by
 have h0 : bAt (s.extract p s.size) 0 = bAt s p := by rw [eE zb (Nat.le_refl _), Nat.add_zero]
 have h1 := aHu s p hp
 simp only [tokenV, nextV, h0, hl, hd]
 cases hq : signOf (s.extract p s.size) with
 | none => rw [hq] at h1; simp [h1]
 | some x =>
  rw [hq] at h1
  obtain ⟨h2, h3, h4, h5⟩ := h1
  have h6 : ¬ (x.size : Int) = 0 := by omega
  simp only [h4, h6, Int.toNat_natCast, h3, if_true, if_false]
  rfl
theorem aAr {s : ByteArray} {p : Nat} (hp : p < s.size) : 0 ≤ signTo s p ∧ signTo s p ≤ 2 ∧ p + (signTo s p).toNat ≤ s.size := by
 unfold signTo
 split
 ·omega
 ·split <;> omega
end
section
open Go.RowKit
end
section
open Go.RowKit
def endTok (p : Nat) : Tok := ⟨3, ⟨#[]⟩, 0, p⟩
def skip (s : ByteArray) (p : Nat) : Nat := p + pre isBlank (s.extract p s.size)
def lexF (s : ByteArray) : Nat → Nat → List Tok → List Tok × Int × Int
 | 0, _, _ => ([], 0, 0)
 | n + 1, p, out =>
  if skip s p = s.size then (out ++ [endTok s.size], 0, 0)
  else if (tokenV s (skip s p)).2 = 0 then lexF s n (skip s p + (tokenV s (skip s p)).1.s.size) (out ++ [(tokenV s (skip s p)).1])
  else ([], skip s p, (tokenV s (skip s p)).2)
def lexV (s : ByteArray) : List Tok × Int × Int := if s.size > 4000 then ([], 0, 6) else lexF s (s.size + 1) 0 []
def lexD (r : List Tok × Int × Int) : D := .tup [.list 4 (r.1.map Tok.cells), .int r.2.1, .int r.2.2]
theorem fP {s : ByteArray} {p : Nat} (h : p ≤ s.size) : p ≤ skip s p ∧ skip s p ≤ s.size := by
 have h1 := oI isBlank (s.extract p s.size)
 have h2 : (s.extract p s.size).size = s.size - p := by simp
 unfold skip
 omega
theorem kX {s : ByteArray} {p : Nat} (hp : p < s.size) (he : (tokenV s p).2 = 0) : 0 < (tokenV s p).1.s.size ∧ p + (tokenV s p).1.s.size ≤ s.size := by
 have hz : (s.extract p s.size).size = s.size - p := by simp
 have h0 : bAt (s.extract p s.size) 0 = bAt s p := by rw [eE zb (Nat.le_refl _), Nat.add_zero]
 have hpos : ∀ F : UInt8 → Bool, F (bAt s p) = true → 0 < pre F (s.extract p s.size) := by
  intro F hF
  rcases Nat.eq_zero_or_pos (pre F (s.extract p s.size)) with h | h
  ·exfalso
   have h1 := sM (F := F) (s := s.extract p s.size) zb
   rw [h, h0, hF] at h1
   cases h1
  ·exact h
 have hle : ∀ F : UInt8 → Bool, pre F (s.extract p s.size) ≤ s.size - p := fun F => by have := oI F (s.extract p s.size); omega
 cases hl : letterB (bAt s p)
 ·cases hd : digitB (bAt s p)
  ·rw [mD hl hd hp] at he ⊢
   have h1 := aAr hp
   by_cases h2 : signTo s p = 0
   ·rw [if_pos h2] at he; cases he
   ·rw [if_neg h2]
    simp only [ByteArray.size_extract]
    omega
  ·have h1 := hpos digitB hd
   have h2 := hle digitB
   rw [nZ (k := p + pre digitB (s.extract p s.size)) hl hd zb zb zb] at he ⊢
   split
   ·simp only [ByteArray.size_extract]
    omega
   ·rename_i h3
    rw [if_neg h3] at he
    cases he
 ·have h1 := hpos alnumB (wJ hl)
  have h2 := hle alnumB
  rw [mE (k := p + pre alnumB (s.extract p s.size)) hl zb zb zb] at he ⊢
  split
  ·simp only [ByteArray.size_extract]
   omega
  ·rename_i h3
   rw [if_neg h3] at he
   cases he
theorem aKz {s : ByteArray} {n m p : Nat} {out : List Tok} (hn : s.size - p < n) (hm : s.size - p < m) (hp : p ≤ s.size) : lexF s n p out = lexF s m p out := by
 induction n generalizing m p out with
 | zero => omega
 | succ n ih =>
  cases m with
  | zero => omega
  | succ m =>
   have h1 := fP hp
   simp only [lexF]
   split
   ·rfl
   ·split
    ·rename_i h2 h3
     have h4 := kX (s := s) (p := skip s p) zb h3
     exact ih zb zb zb
    ·rfl
theorem aOy {s : ByteArray} {p : Nat} : (tokenV s p) = (if (nextV (s.extract p s.size)).2 = 0 then ({ (nextV (s.extract p s.size)).1 with p := p }, 0) else (Tok.zero, (nextV (s.extract p s.size)).2)) := rfl
theorem aLa {s : ByteArray} {p : Nat} {toks : List Tok} {t : Tok} (hp : p ≤ s.size) (hend : ¬ skip s p = s.size) (hV : tokenV s (skip s p) = (t, 0)) : lexF s (s.size - p + 1) p toks = lexF s (s.size - (skip s p + t.s.size) + 1) (skip s p + t.s.size) (toks ++ [t]) := by
 have h1 := fP hp
 have h2 := kX (s := s) (p := skip s p) zb (by rw [hV])
 rw [hV] at h2
 simp only at h2
 rw [lexF, if_neg hend, hV, if_pos rfl]
 show lexF s (s.size - p) (skip s p + t.s.size) (toks ++ [t]) = _
 exact aKz zb zb zb
theorem aOo {s : ByteArray} {p : Nat} {toks : List Tok} {t : Tok} {e : Int} (hend : ¬ skip s p = s.size) (hV : tokenV s (skip s p) = (t, e)) (he : ¬ e = 0) : lexF s (s.size - p + 1) p toks = ([], (skip s p : Int), e) := by
 rw [lexF, if_neg hend, hV, if_neg he]
theorem uC {s : ByteArray} {p : Nat} (hp : p < s.size) (h : isBlank (bAt s p) = false) : skip s p = p := by
 have h1 := aCe (F := isBlank) (Nat.le_refl p) (Nat.le_of_lt hp) (fun j h1 h2 => by omega) (fun _ => h)
 unfold skip
 omega
theorem kI {s : ByteArray} {p : Nat} (hp : p ≤ s.size) : (∀ j, p ≤ j → j < skip s p → isBlank (bAt s j) = true) ∧ (skip s p < s.size → isBlank (bAt s (skip s p)) = false) := by
 have hz : (s.extract p s.size).size = s.size - p := by simp
 have hl := oI isBlank (s.extract p s.size)
 have e : skip s p = p + pre isBlank (s.extract p s.size) := rfl
 rw [e]
 refine ⟨fun j h1 h2 => ?_, fun h => ?_⟩
 ·have h3 := tX (F := isBlank) (s := s.extract p s.size) (j := j - p) zb
  rw [eE zb (Nat.le_refl _), show p + (j - p) = j by omega] at h3
  exact h3
 ·have h3 := sM (F := isBlank) (s := s.extract p s.size) zb
  rw [eE zb (Nat.le_refl _)] at h3
  exact h3
theorem tA {s : ByteArray} {p k : Nat} (hpk : p ≤ k) (hk : k ≤ s.size) (h1 : ∀ j, p ≤ j → j < k → isBlank (bAt s j) = true) (h2 : k < s.size → isBlank (bAt s k) = false) : skip s p = k := by
 have h3 := aCe (F := isBlank) hpk hk h1 h2
 unfold skip
 omega
theorem aMb {s : ByteArray} {p : Nat} (hp : p < s.size) (h : isBlank (bAt s p) = true) : skip s p = skip s (p + 1) := by
 obtain ⟨h1, h2⟩ := kI (s := s) (p := p + 1) zb
 have h3 := fP (s := s) (p := p + 1) zb
 refine tA zb h3.2 (fun j h4 h5 => ?_) h2
 by_cases h6 : j = p
 ·rw [h6]; exact h
 ·exact h1 j zb h5
theorem aQs (s : ByteArray) (p : Nat) : skip s p = p + pre isBlank (s.extract p s.size) := rfl
attribute [local irreducible] nextV tokenV lexV pre ByteArray.extract lexF skip
theorem aTm (s : ByteArray) (hs : s.size ≤ 1000000) : PureC 220 [.str s] (· = lexD (lexV s)) := by
 refine aE Tryz.func220 rfl zg _ Tryz.ntmps220 (aC rfl) (fun w Pr hE => ?_)
 dsimp only [slotsOf, Nat.zero_add, Nat.reduceAdd]
 by_cases hbig : 4000 < s.size
 ·skip
  repeat' (first | refine qz ?_ | refine vr ?_ | refine xj ?_ | refine xo ?_ | (refine sQ ?_ ?_ <;> intro hb hq <;> try omega) | (apply aB (.load _ _); first | refine aK (eP rfl rfl rfl) (aA rfl) ?_ | refine aK (bZ rfl rfl (dJ rfl rfl) rfl) (aA rfl) ?_ | refine aK (bZ rfl rfl rfl rfl) (aA rfl) ?_ | refine aK (dA rfl rfl rfl rfl) (aA rfl) ?_ | refine aK (dB rfl rfl rfl zy rfl) (aA rfl) ?_ | refine aK (gB hE zc rfl rfl) (aA rfl) ?_) | (apply dH; refine eO ?_) | (apply aB (.alloc _); refine aD (eI rfl zy rfl (aA rfl) rfl) rfl ?_) | (apply aB (.store _ _ _); first | refine aD (aN rfl rfl (dR rfl) nofun zy zl (.inl ⟨rfl, rfl⟩) rfl (aC rfl) zy) rfl ?_ | refine aD (aN rfl rfl (dR rfl) nofun zy zl (.inr rfl) rfl (aC rfl) zy) rfl ?_ | refine aD (aN rfl rfl (dM rfl) nofun zy zl (.inl ⟨rfl, rfl⟩) rfl (aC rfl) zy) rfl ?_ | refine aD (aN rfl rfl (hU rfl) nofun zy zl (.inl ⟨rfl, rfl⟩) rfl (aC rfl) zy) rfl ?_) | (apply aB (.build _ _); first | refine aK (eH rfl zd zi) (aA rfl) ?_ | refine aK (fE rfl zh (by rfl) (by rfl)) (aA rfl) ?_ | refine aK (fF rfl zh (by rfl)) (aA rfl) ?_) | (apply aB (.buildSlice _ _ _); first | refine aD (oN rfl zx zy rfl (aC rfl) (aA rfl)) rfl ?_ | refine aD (rE rfl zd jp zy zg zg (aA rfl)) rfl ?_) | (apply aB (.call { callee := .builtin .append, args := _, argTypes := _ }); refine aD (cY rfl rfl zx rfl rfl jm zg zf zf (aA rfl)) rfl ?_))
  refine uB (by rfl) (ToD.nil 4) (ToD.d _) (ToD.d _) ?_
  unfold lexV
  rw [if_pos hbig]
  rfl
 have hlex : lexV s = lexF s (s.size + 1) 0 [] := by unfold lexV; rw [if_neg hbig]
 repeat' (first | refine qz ?_ | refine vr ?_ | refine xj ?_ | refine xo ?_ | (refine sQ ?_ ?_ <;> intro hb hq <;> try omega) | (apply aB (.load _ _); first | refine aK (eP rfl rfl rfl) (aA rfl) ?_ | refine aK (bZ rfl rfl (dJ rfl rfl) rfl) (aA rfl) ?_ | refine aK (bZ rfl rfl rfl rfl) (aA rfl) ?_ | refine aK (dA rfl rfl rfl rfl) (aA rfl) ?_ | refine aK (dB rfl rfl rfl zy rfl) (aA rfl) ?_ | refine aK (gB hE zc rfl rfl) (aA rfl) ?_) | (apply dH; refine eO ?_) | (apply aB (.alloc _); refine aD (eI rfl zy rfl (aA rfl) rfl) rfl ?_) | (apply aB (.store _ _ _); first | refine aD (aN rfl rfl (dR rfl) nofun zy zl (.inl ⟨rfl, rfl⟩) rfl (aC rfl) zy) rfl ?_ | refine aD (aN rfl rfl (dR rfl) nofun zy zl (.inr rfl) rfl (aC rfl) zy) rfl ?_ | refine aD (aN rfl rfl (dM rfl) nofun zy zl (.inl ⟨rfl, rfl⟩) rfl (aC rfl) zy) rfl ?_ | refine aD (aN rfl rfl (hU rfl) nofun zy zl (.inl ⟨rfl, rfl⟩) rfl (aC rfl) zy) rfl ?_) | (apply aB (.build _ _); first | refine aK (eH rfl zd zi) (aA rfl) ?_ | refine aK (fE rfl zh (by rfl) (by rfl)) (aA rfl) ?_ | refine aK (fF rfl zh (by rfl)) (aA rfl) ?_) | (apply aB (.buildSlice _ _ _); first | refine aD (oN rfl zx zy rfl (aC rfl) (aA rfl)) rfl ?_ | refine aD (rE rfl zd jp zy zg zg (aA rfl)) rfl ?_) | (apply aB (.call { callee := .builtin .append, args := _, argTypes := _ }); refine aD (cY rfl rfl zx rfl rfl jm zg zf zf (aA rfl)) rfl ?_))
 refine fJ 5 5 265 4 rfl rfl (aA rfl) ?_
 refine rP (fun n sl ob => ∃ (p k : Nat) (toks : List Tok), n = s.size - p ∧ p ≤ s.size ∧ toks.length ≤ p ∧ lexV s = lexF s (s.size - p + 1) p toks ∧ sl = [(6, .d (.int p)), (5, .row 5 k), (4, .d (.int 0)), (3, .d (.int 0)), (0, .d (.str s))] ∧ ob = [(5, .row 265 4 k (toks.map Tok.cells))]) (_) _ _ (⟨0, 0, [], rfl, by omega, by simp, hlex, rfl, rfl⟩) ?_ ?_ ?_
 ·(repeat (first | exact kO | (apply iV; focus (first | rfl | exact yZ jc | (simp [look, Tok.cells]; done)))))
 ·(repeat (first | exact cU | (apply bY; focus (first | rfl | (simp [find, Tok.cells]; done)))))
 rintro n sl ob ⟨p, k, toks, rfl, hp, htl, hlx, rfl, rfl⟩
 have hsk := fP hp
 have hz : (s.extract p s.size).size = s.size - p := by simp
 have hpl := oI isBlank (s.extract p s.size)
 have hskd := aQs s p
 by_cases hend : skip s p = s.size
 ·have hend2 : p + pre isBlank (s.extract p s.size) = s.size := hskd ▸ hend
  have e1 := decide_eq_true (show (p : Int) + (pre isBlank (s.extract p s.size) : Nat) = s.size by omega)
  repeat' (first | refine kQ (iU (s.extract p s.size) 262 isBlank zb tL) hE ?_ | refine qz ?_ | refine vr ?_ | refine xj ?_ | refine xo ?_ | (refine sQ ?_ ?_ <;> intro hb hq <;> try omega) | (apply aB (.load _ _); first | refine aK (eP rfl rfl rfl) (aA rfl) ?_ | refine aK (bZ rfl rfl (dJ rfl rfl) rfl) (aA rfl) ?_ | refine aK (bZ rfl rfl rfl rfl) (aA rfl) ?_ | refine aK (dA rfl rfl rfl rfl) (aA rfl) ?_ | refine aK (dB rfl rfl rfl zy rfl) (aA rfl) ?_ | refine aK (gB hE zc rfl rfl) (aA rfl) ?_) | (apply dH; refine eO ?_) | (apply aB (.alloc _); refine aD (eI rfl zy rfl (aA rfl) rfl) rfl ?_) | (apply aB (.store _ _ _); first | refine aD (aN rfl rfl (dR rfl) nofun zy zl (.inl ⟨rfl, rfl⟩) rfl (aC rfl) zy) rfl ?_ | refine aD (aN rfl rfl (dR rfl) nofun zy zl (.inr rfl) rfl (aC rfl) zy) rfl ?_ | refine aD (aN rfl rfl (dM rfl) nofun zy zl (.inl ⟨rfl, rfl⟩) rfl (aC rfl) zy) rfl ?_ | refine aD (aN rfl rfl (hU rfl) nofun zy zl (.inl ⟨rfl, rfl⟩) rfl (aC rfl) zy) rfl ?_) | (apply aB (.build _ _); first | refine aK (eH rfl zd zi) (aA rfl) ?_ | refine aK (fE rfl zh (by rfl) (by rfl)) (aA rfl) ?_ | refine aK (fF rfl zh (by rfl)) (aA rfl) ?_) | (apply aB (.buildSlice _ _ _); first | refine aD (oN rfl zx zy rfl (aC rfl) (aA rfl)) rfl ?_ | refine aD (rE rfl zd jp zy zg zg (aA rfl)) rfl ?_) | (apply aB (.call { callee := .builtin .append, args := _, argTypes := _ }); refine aD (cY rfl rfl zx rfl rfl jm zg zf zf (aA rfl)) rfl ?_))
  refine uB (by rfl) zx zx zx ?_
  rw [hlx, lexF, if_pos hend]
  simp [lexD, endTok, Tok.cells]
  omega
 ·have e1 := decide_eq_false (show ¬ (p : Int) + (pre isBlank (s.extract p s.size) : Nat) = s.size by omega)
  have hz2 : (s.extract (p + pre isBlank (s.extract p s.size)) s.size).size = s.size - (p + pre isBlank (s.extract p s.size)) := by simp
  rcases hT : nextV (s.extract (p + pre isBlank (s.extract p s.size)) s.size) with ⟨t, e⟩
  have hV : tokenV s (skip s p) = (if e = 0 then ({ t with p := skip s p }, 0) else (Tok.zero, e)) := by rw [aOy, hskd, hT]
  by_cases he : e = 0
  ·subst he
   rw [if_pos rfl] at hV
   have hsz := kX (s := s) (p := skip s p) zb (by rw [hV])
   rw [hV] at hsz
   simp only at hsz
   repeat' (first | refine kQ (iU (s.extract p s.size) 262 isBlank zb tL) hE ?_ | (apply aF; refine bP (aEx (s.extract (p + pre isBlank (s.extract p s.size)) s.size) zb zb) hE ?_; rw [hT]; rintro _ rfl) | refine qz ?_ | refine vr ?_ | refine xj ?_ | refine xo ?_ | (refine sQ ?_ ?_ <;> intro hb hq <;> try omega) | (apply aB (.load _ _); first | refine aK (eP rfl rfl rfl) (aA rfl) ?_ | refine aK (bZ rfl rfl (dJ rfl rfl) rfl) (aA rfl) ?_ | refine aK (bZ rfl rfl rfl rfl) (aA rfl) ?_ | refine aK (dA rfl rfl rfl rfl) (aA rfl) ?_ | refine aK (dB rfl rfl rfl zy rfl) (aA rfl) ?_ | refine aK (gB hE zc rfl rfl) (aA rfl) ?_) | (apply dH; refine eO ?_) | (apply aB (.alloc _); refine aD (eI rfl zy rfl (aA rfl) rfl) rfl ?_) | (apply aB (.store _ _ _); first | refine aD (aN rfl rfl (dR rfl) nofun zy zl (.inl ⟨rfl, rfl⟩) rfl (aC rfl) zy) rfl ?_ | refine aD (aN rfl rfl (dR rfl) nofun zy zl (.inr rfl) rfl (aC rfl) zy) rfl ?_ | refine aD (aN rfl rfl (dM rfl) nofun zy zl (.inl ⟨rfl, rfl⟩) rfl (aC rfl) zy) rfl ?_ | refine aD (aN rfl rfl (hU rfl) nofun zy zl (.inl ⟨rfl, rfl⟩) rfl (aC rfl) zy) rfl ?_) | (apply aB (.build _ _); first | refine aK (eH rfl zd zi) (aA rfl) ?_ | refine aK (fE rfl zh (by rfl) (by rfl)) (aA rfl) ?_ | refine aK (fF rfl zh (by rfl)) (aA rfl) ?_) | (apply aB (.buildSlice _ _ _); first | refine aD (oN rfl zx zy rfl (aC rfl) (aA rfl)) rfl ?_ | refine aD (rE rfl zd jp zy zg zg (aA rfl)) rfl ?_) | (apply aB (.call { callee := .builtin .append, args := _, argTypes := _ }); refine aD (cY rfl rfl zx rfl rfl jm zg zf zf (aA rfl)) rfl ?_))
   have hsk2 : (skip s p : Int) = p + (pre isBlank (s.extract p s.size) : Nat) := by omega
   rw [hsk2] at hV
   refine rL _ _ _ (⟨skip s p + t.s.size, k + 1, toks ++ [⟨t.k, t.s, t.n, p + (pre isBlank (s.extract p s.size) : Nat)⟩], rfl, by omega, by simp; omega, hlx.trans (aLa hp hend hV), rfl, rfl⟩) zb ?_ ?_
   ·(repeat (first | exact kO | (apply iV; focus (first | rfl | exact yZ jc | (simp [look, Tok.cells]; done)))))
   ·(repeat (first | exact cU | (apply bY; focus (first | rfl | (simp [find, Tok.cells]; done)))))
  ·rw [if_neg he] at hV
   have e2 := decide_eq_false he
   have e3 : (!decide (e = 0)) = true := by simp [e2]
   repeat' (first | refine kQ (iU (s.extract p s.size) 262 isBlank zb tL) hE ?_ | (apply aF; refine bP (aEx (s.extract (p + pre isBlank (s.extract p s.size)) s.size) zb zb) hE ?_; rw [hT]; rintro _ rfl) | refine qz ?_ | refine vr ?_ | refine xj ?_ | refine xo ?_ | (refine sQ ?_ ?_ <;> intro hb hq <;> try omega) | (apply aB (.load _ _); first | refine aK (eP rfl rfl rfl) (aA rfl) ?_ | refine aK (bZ rfl rfl (dJ rfl rfl) rfl) (aA rfl) ?_ | refine aK (bZ rfl rfl rfl rfl) (aA rfl) ?_ | refine aK (dA rfl rfl rfl rfl) (aA rfl) ?_ | refine aK (dB rfl rfl rfl zy rfl) (aA rfl) ?_ | refine aK (gB hE zc rfl rfl) (aA rfl) ?_) | (apply dH; refine eO ?_) | (apply aB (.alloc _); refine aD (eI rfl zy rfl (aA rfl) rfl) rfl ?_) | (apply aB (.store _ _ _); first | refine aD (aN rfl rfl (dR rfl) nofun zy zl (.inl ⟨rfl, rfl⟩) rfl (aC rfl) zy) rfl ?_ | refine aD (aN rfl rfl (dR rfl) nofun zy zl (.inr rfl) rfl (aC rfl) zy) rfl ?_ | refine aD (aN rfl rfl (dM rfl) nofun zy zl (.inl ⟨rfl, rfl⟩) rfl (aC rfl) zy) rfl ?_ | refine aD (aN rfl rfl (hU rfl) nofun zy zl (.inl ⟨rfl, rfl⟩) rfl (aC rfl) zy) rfl ?_) | (apply aB (.build _ _); first | refine aK (eH rfl zd zi) (aA rfl) ?_ | refine aK (fE rfl zh (by rfl) (by rfl)) (aA rfl) ?_ | refine aK (fF rfl zh (by rfl)) (aA rfl) ?_) | (apply aB (.buildSlice _ _ _); first | refine aD (oN rfl zx zy rfl (aC rfl) (aA rfl)) rfl ?_ | refine aD (rE rfl zd jp zy zg zg (aA rfl)) rfl ?_) | (apply aB (.call { callee := .builtin .append, args := _, argTypes := _ }); refine aD (cY rfl rfl zx rfl rfl jm zg zf zf (aA rfl)) rfl ?_))
   refine uB (by rfl) (ToD.nil 4) (ToD.d _) (ToD.d _) ?_
   rw [hlx, aOo hend hV he, hskd]
   rfl
end
section
open Go.RowKit
abbrev tokC (t : Tok) : List D := [.int t.k, .str t.s, .int t.n, .int t.p]
abbrev strsD (l : List ByteArray) : D := .list 1 (l.map fun s => [D.str s])
abbrev stopV (p e : Int) : Value := .iface 253 (.agg #[.int .i64 p, .int .i64 e])
def Out {α : Type} (R : Rd α) (val : α → V) (st : List Tok → Objs) : V → Objs → Prop := fun x o => ∃ a t, R = .ok a t ∧ x = val a ∧ o = st t
def Bads {α : Type} (R : Rd α) : Value → Prop := fun v => ∃ p e, R = .bad p e ∧ v = stopV p e
section
variable {α : Type} {f : FuncId} {args : List V} {ob : Objs} {new : List Nat} {R : Rd α} {val : α → V} {st : List Tok → Objs} {a : α} {t : List Tok} {p e : Int}
theorem aHi (h : ObP f args ob new (Out R val st) (Bads R)) (hR : R = .ok a t) : ObC f args ob new (fun x o => x = val a ∧ o = st t) := by
 subst hR
 refine (h.ob fun v => ?_).mono fun x o => ?_
 ·rintro ⟨_, _, h, _⟩
  cases h
 ·rintro ⟨_, _, h, h1, h2⟩
  cases h
  exact ⟨h1, h2⟩
theorem aJe (h : ObP f args ob new (Out R val st) (Bads R)) (hR : R = .bad p e) : ObP f args ob new (fun _ _ => False) (fun v => v = stopV p e) := by
 subst hR
 refine h.mono (fun x o => ?_) (fun v => ?_)
 ·rintro ⟨_, _, h, _⟩
  cases h
 ·rintro ⟨_, _, h, h1⟩
  cases h
  exact h1
theorem aHf (h : ObC f args ob new (fun x o => x = val a ∧ o = st t)) (hR : R = .ok a t) : ObP f args ob new (Out R val st) (Bads R) := (h.mono fun _ _ ⟨h1, h2⟩ => ⟨a, t, hR, h1, h2⟩).pan
theorem rQ (h : ObP f args ob new (fun _ _ => False) (fun v => v = stopV p e)) (hR : R = .bad p e) : ObP f args ob new (Out R val st) (Bads R) := h.mono (fun _ _ h => h.elim) (fun _ h => ⟨p, e, hR, h⟩)
end
def atN (L l : List Tok) : Nat := L.length - l.length
abbrev psB (L : List Tok) (k : Int) : O := .box 251 [.d (.list 4 (L.map Tok.cells)), .d (.int k)]
abbrev psr (L l : List Tok) : Objs := [(1000, psB L (atN L l))]
structure Rdy (L l : List Tok) : Prop where
 suf : Suf L l
 ends : Ends L
 len : L.length ≤ 100000
section
variable {L l t : List Tok}
theorem Rdy.to (h : Rdy L l) (k : Suf l t) : Rdy L t := ⟨h.suf.trans k, h.ends, h.len⟩
theorem Rdy.e (h : Rdy L l) : Ends l := h.ends.suf h.suf
theorem Rdy.at (h : Rdy L l) : atN L l < L.length ∧ L[atN L l]? = some (nxt l) := by
 have h1 := h.e.pos
 obtain ⟨m, h2, _⟩ := h.suf
 have h3 : atN L l = m.length := by rw [atN, h2]; simp
 have h4 : L.length = m.length + l.length := by rw [h2]; simp
 refine ⟨by omega, ?_⟩
 rw [h3, h2, List.getElem?_append_right (Nat.le_refl _), Nat.sub_self]
 cases l with
 | nil => simp at h1
 | cons x r => rfl
theorem Rdy.get (h : Rdy L l) : (L.map Tok.cells)[atN L l]? = some (tokC (nxt l)) := by
 rw [List.getElem?_map, h.at.2]
 rfl
theorem Rdy.step (h : Rdy L l) : ((atN L l : Nat) : Int) + 1 = (atN L (l.drop 1) : Nat) := by
 have h1 := h.e.pos
 have h2 := eJ h.suf
 unfold atN
 rw [List.length_drop]
 omega
theorem Rdy.le (h : Rdy L l) : atN L l ≤ 100000 := by
 have := h.len
 unfold atN
 omega
end
theorem iM {L l : List Tok} (h : Rdy L l) : ObC 227 [.box 1000 0] (psr L l) [] (fun x o => x = .d (.agg (tokC (nxt l))) ∧ o = psr L l) := by
 have hget := h.get
 have hlt := h.at.1
 refine aI Tryz.func227 rfl zg _ Tryz.ntmps227 (aC rfl) rfl (fun w Pr β κ hE => ?_)
 dsimp only [slotsV, Nat.zero_add, Nat.reduceAdd]
 repeat' (first | refine vh ?_ | refine vl ?_ | refine xf ?_ | fail)
 refine cC (psr L l) [(0, true), (1, true), (2, true), (3, true), (4, true), (5, true), (6, true), (7, true), (8, true), (9, true)] [10] zp zp zp zg zw ?_
 simp only [planned, tailed, List.filterMap_cons, List.filterMap_nil, List.getElem?_cons_zero, List.getElem?_cons_succ, Option.map_some]
 repeat' (first | apply aZ | refine vt ?_ | (apply aR (.indexAddr _ _ _); refine bS zj (cT zx rfl rfl zq hget) (aA rfl) ?_) | (apply bG; refine bQ ?_) | (apply dL; refine gC ?_) | (apply aU; refine bA ?_) | (apply aV; refine bE ?_) | (apply lS; refine oG ?_) | (refine mQ ?_ ?_ <;> intro hb hq <;> try omega))
 repeat' (first | refine vh ?_ | refine vl ?_ | refine xf ?_ | fail)
 refine aP (psr L l) (by rfl) rv (⟨rfl, rfl⟩) sb okx
theorem pis {L l : List Tok} (h : Rdy L l) (s : ByteArray) : ObC 266 [.box 1000 0, .d (.str s)] (psr L l) [] (fun x o => x = .d (.bool (isT l s)) ∧ o = psr L l) := by
 by_cases hk : (nxt l).k = 3
 ·have q1 : (!decide ((nxt l).k = 3)) = false := by simp [hk]
  have hT : isT l s = false := by simp [isT, hk]
  rw [hT]
  refine aI Tryz.func266 rfl zg _ Tryz.ntmps266 (aC rfl) rfl (fun w Pr β κ hE => ?_)
  dsimp only [slotsV, Nat.zero_add, Nat.reduceAdd]
  repeat' (first | refine oQ [(1000, 1000)] (iM h) hE ?_ | refine vf ?_ | refine vr ?_ | refine vw ?_ | (refine wQ ?_ ?_ <;> intro hb hq <;> try omega) | (apply jV; refine lE ?_))
  refine aP (psr L l) (by rfl) rv (⟨rfl, rfl⟩) sb okx
 ·have q1 : (!decide ((nxt l).k = 3)) = true := by simp [hk]
  have hT : isT l s = decide ((nxt l).s = s) := by simp [isT, hk]
  rw [hT]
  refine aI Tryz.func266 rfl zg _ Tryz.ntmps266 (aC rfl) rfl (fun w Pr β κ hE => ?_)
  dsimp only [slotsV, Nat.zero_add, Nat.reduceAdd]
  repeat' (first | refine oQ [(1000, 1000)] (iM h) hE ?_ | refine vf ?_ | refine vr ?_ | refine vw ?_ | (refine wQ ?_ ?_ <;> intro hb hq <;> try omega) | (apply jV; refine lE ?_))
  refine aP (psr L l) (by rfl) rv (⟨rfl, rfl⟩) sb okx
theorem lR {L l : List Tok} (h : Rdy L l) (s : ByteArray) (hT : isT l s = true) : ObC 264 [.box 1000 0, .d (.str s)] (psr L l) [] (fun x o => x = .d (.bool true) ∧ o = psr L (l.drop 1)) := by
 have q1 : (!isT l s) = false := by simp [hT]
 have hle := h.le
 refine aI Tryz.func264 rfl zg _ Tryz.ntmps264 (aC rfl) rfl (fun w Pr β κ hE => ?_)
 dsimp only [slotsV, Nat.zero_add, Nat.reduceAdd]
 repeat' (first | refine oQ [(1000, 1000)] (pis h s) hE ?_ | refine nx ?_ | refine nb ?_ | refine vb ?_ | refine vo ?_ | refine vq ?_ | (refine sQ ?_ ?_ <;> intro hb hq <;> try omega))
 rw [h.step]
 refine aP (psr L (l.drop 1)) (by rfl) rv (⟨rfl, rfl⟩) sb okx
theorem dP {L l : List Tok} (h : Rdy L l) (s : ByteArray) (hT : isT l s = false) : ObC 264 [.box 1000 0, .d (.str s)] (psr L l) [] (fun x o => x = .d (.bool false) ∧ o = psr L l) := by
 have q1 : (!isT l s) = true := by simp [hT]
 refine aI Tryz.func264 rfl zg _ Tryz.ntmps264 (aC rfl) rfl (fun w Pr β κ hE => ?_)
 dsimp only [slotsV, Nat.zero_add, Nat.reduceAdd]
 repeat' (first | refine oQ [(1000, 1000)] (pis h s) hE ?_ | refine nx ?_ | refine nb ?_ | refine vb ?_ | refine vo ?_ | refine vq ?_ | (refine sQ ?_ ?_ <;> intro hb hq <;> try omega))
 refine aP (psr L l) (by rfl) rv (⟨rfl, rfl⟩) sb okx
theorem fY {L l : List Tok} (e : Int) : ObC 226 [.box 1000 0, .d (.bool true), .d (.int e)] (psr L l) [] (fun x o => x = .tup [] ∧ o = psr L l) := by
 refine aI Tryz.func226 rfl zg _ Tryz.ntmps226 (aC rfl) rfl (fun w Pr β κ hE => ?_)
 dsimp only [slotsV, Nat.zero_add, Nat.reduceAdd]
 repeat' (first | refine nb ?_ | refine vh ?_ | (refine sQ ?_ ?_ <;> intro hb hq <;> try omega) | (apply jV; refine lE ?_) | (apply fD; refine gF ?_))
 try refine qW ?_
 refine xP (psr L l) (by rfl) (⟨rfl, rfl⟩) sb okx
theorem aMf (p e : Int) : (Value.iface 253 (.agg (valsD [D.int p, D.int e]).toArray)) = stopV p e := rfl
theorem iF {L l : List Tok} (h : Rdy L l) (e : Int) : ObP 226 [.box 1000 0, .d (.bool false), .d (.int e)] (psr L l) [] (fun _ _ => False) (fun v => v = stopV (nxt l).p e) := by
 refine bV Tryz.func226 rfl zg _ Tryz.ntmps226 (aC rfl) rfl (fun w Pr β κ hE => ?_)
 dsimp only [slotsV, Nat.zero_add, Nat.reduceAdd]
 repeat' (first | refine oQ [(1000, 1000)] (iM h) hE ?_ | (apply aB (.makeInterface _ _); refine aK (aVf rfl rfl Tryz.underlying253 rfl (aMf _ _)) (aA rfl) ?_) | (apply aB (.panic _); refine aMs (u := .tmp 0) rfl ?_) | refine nb ?_ | refine vh ?_ | apply bU | (refine sQ ?_ ?_ <;> intro hb hq <;> try omega) | (apply jV; refine lE ?_) | (apply fD; refine gF ?_))
 refine aVi ?_
 repeat (first | with_reducible refine aW ?_ | with_reducible refine bF ?_)
 exact aT rfl
theorem kA {L l : List Tok} (h : Rdy L l) (s : ByteArray) : ObP 221 [.box 1000 0, .d (.list 1 [[.str s]])] (psr L l) [] (Out (want l s) (fun _ => .tup []) (psr L)) (Bads (want l s)) := by
 cases hT : isT l s
 ·refine rQ (p := (nxt l).p) (e := 12) ?_ (by simp [want, hT])
  refine bV Tryz.func221 rfl zg _ Tryz.ntmps221 (aC rfl) rfl (fun w Pr β κ hE => ?_)
  dsimp only [slotsV, Nat.zero_add, Nat.reduceAdd]
  repeat' (first | refine qq ?_ | apply bU | (refine sQ ?_ ?_ <;> intro hb hq <;> try omega))
  refine bB (fun N sl ob => N = 0 ∧ sl = [(8, .d (.int 0)), (7, .d (.int 1)), (6, .d (.list 1 [[.str s]])), (0, .box 1000 0)] ∧ ob = psr L l) (⟨rfl, rfl, rfl⟩) ?_
  rintro N sl ob ⟨rfl, rfl, rfl⟩
  repeat' (first | refine oQ [(1000, 1000)] (dP h s hT) hE ?_ | (apply aF; refine bM [(1000, 1000)] (iF h 12) hE (fun v hv => by subst hv; (repeat (first | with_reducible refine aW ?_ | with_reducible refine bF ?_)); first | exact aT ⟨_, _, hR, rfl⟩ | exact aT ⟨_, _, rfl, rfl⟩ | exact aT rfl) (fun _ _ h => h.elim)) | refine qq ?_ | apply bU | (refine sQ ?_ ?_ <;> intro hb hq <;> try omega))
 ·refine aHf (a := ()) (t := l.drop 1) ?_ (by simp [want, hT])
  have h' := h.to (cD hT)
  refine aI Tryz.func221 rfl zg _ Tryz.ntmps221 (aC rfl) rfl (fun w Pr β κ hE => ?_)
  dsimp only [slotsV, Nat.zero_add, Nat.reduceAdd]
  repeat' (first | refine qq ?_ | apply bU | (refine sQ ?_ ?_ <;> intro hb hq <;> try omega))
  refine bB (fun N sl ob => ∃ i : Nat, N = 1 - i ∧ ((i = 0 ∧ ob = psr L l) ∨ (i = 1 ∧ ob = psr L (l.drop 1))) ∧ sl = [(8, .d (.int i)), (7, .d (.int 1)), (6, .d (.list 1 [[.str s]])), (0, .box 1000 0)]) (⟨0, rfl, .inl ⟨rfl, rfl⟩, rfl⟩) ?_
  rintro N sl ob ⟨i, rfl, ⟨rfl, rfl⟩ | ⟨rfl, rfl⟩, rfl⟩
  ·skip
   repeat' (first | refine oQ [(1000, 1000)] (lR h s hT) hE ?_ | refine oQ [(1000, 1000)] (fY 12) hE ?_ | refine qq ?_ | apply bU | (refine sQ ?_ ?_ <;> intro hb hq <;> try omega))
   refine bK (⟨1, rfl, .inr ⟨rfl, rfl⟩, rfl⟩) zb
  ·skip
   repeat' (first | refine qq ?_ | apply bU | (refine sQ ?_ ?_ <;> intro hb hq <;> try omega))
   try refine qW ?_
   refine xP (psr L (l.drop 1)) (by rfl) (⟨rfl, rfl⟩) sb okx
end
end Go.Proofs.YtaodngiigdbgeaaGreatDoor
