/-
  Conditions: none.
-/
import Derived.Lib.Join
import Derived.Test.YtaodngiigdbgeaaGreatDoorMaa
import Derived.Test.YtaodngiigdbgeaaGreatDoorMai
import Derived.Test.YtaodngiigdbgeaaGreatDoorMal
import Derived.Test.YtaodngiigdbgeaaGreatDoorMan
import Derived.Test.YtaodngiigdbgeaaGreatDoorMar
import Derived.Test.YtaodngiigdbgeaaGreatDoorMau
set_option maxHeartbeats 16000000
set_option maxRecDepth 20000
set_option linter.unusedSimpArgs false
set_option linter.unusedVariables false
namespace Go.Proofs.YtaodngiigdbgeaaGreatDoor
section
inductive LexOk (s : ByteArray) : Nat → List Tok → Prop where
 | stop (p : Nat) (hp : p ≤ s.size) (h : skip s p = s.size) : LexOk s p [endTok s.size]
 | tok (p : Nat) (t : Tok) (l : List Tok) (hp : p ≤ s.size) (h : ¬ skip s p = s.size) (ht : tokenV s (skip s p) = (t, 0)) (hl : LexOk s (skip s p + t.s.size) l) : LexOk s p (t :: l)
inductive LexErr (s : ByteArray) : Nat → Nat → Int → Prop where
 | here (p : Nat) (t : Tok) (e : Int) (hp : p ≤ s.size) (h : ¬ skip s p = s.size) (ht : tokenV s (skip s p) = (t, e)) (he : ¬ e = 0) : LexErr s p (skip s p) e
 | tok (p a : Nat) (t : Tok) (e : Int) (hp : p ≤ s.size) (h : ¬ skip s p = s.size) (ht : tokenV s (skip s p) = (t, 0)) (hl : LexErr s (skip s p + t.s.size) a e) : LexErr s p a e
theorem aKy {s : ByteArray} (n p : Nat) (out : List Tok) (hn : s.size - p < n) (hp : p ≤ s.size) :
  (∃ l, LexOk s p l ∧ lexF s n p out = (out ++ l, 0, 0)) ∨ (∃ a e, LexErr s p a e ∧ ¬ e = 0 ∧ lexF s n p out = ([], (a : Int), e)) := by
 induction n generalizing p out with
 | zero => omega
 | succ n ih =>
  have h1 := fP hp
  rw [lexF]
  by_cases h : skip s p = s.size
  ·rw [if_pos h]
   exact .inl ⟨_, .stop p hp h, rfl⟩
  ·rw [if_neg h]
   rcases hT : tokenV s (skip s p) with ⟨t, e⟩
   by_cases he : e = 0
   ·subst he
    rw [if_pos rfl]
    have h2 := kX (s := s) (p := skip s p) zb (by rw [hT])
    rw [hT] at h2
    simp only at h2
    rcases ih (skip s p + t.s.size) (out ++ [t]) zb zb with ⟨l, h3, h4⟩ | ⟨a, e, h3, h4, h5⟩
    ·refine .inl ⟨t :: l, .tok p t l hp h hT h3, ?_⟩
     rw [h4, List.append_assoc]
     rfl
    ·exact .inr ⟨a, e, .tok p a t e hp h hT h3, h4, h5⟩
   ·rw [if_neg he]
    exact .inr ⟨_, e, .here p t e hp h hT he, he, rfl⟩
theorem aLb {s : ByteArray} (hs : s.size ≤ 4000) :
  (∃ l, LexOk s 0 l ∧ lexV s = (l, 0, 0)) ∨ (∃ a e, LexErr s 0 a e ∧ ¬ e = 0 ∧ lexV s = ([], (a : Int), e)) := by
 unfold lexV
 rw [if_neg zb]
 simpa using aKy (s := s) (s.size + 1) 0 [] zb zb
theorem fH {s : ByteArray} {p : Nat} {t : Tok} (hp : p < s.size) (h : tokenV s p = (t, 0)) :
  t.p = p ∧ 0 < t.s.size ∧ p + t.s.size ≤ s.size ∧ t.s = s.extract p (p + t.s.size) ∧
  ((t.k = 0 ∧ letterB (bAt s p) = true ∧ t.s.size = pre alnumB (s.extract p s.size) ∧ t.s.size ≤ 20 ∧ t.n = 0) ∨
   (t.k = 1 ∧ letterB (bAt s p) = false ∧ digitB (bAt s p) = true ∧ t.s.size = pre digitB (s.extract p s.size) ∧ numOk t.s = true ∧ t.n = numTo t.s t.s.size) ∨
   (t.k = 2 ∧ letterB (bAt s p) = false ∧ digitB (bAt s p) = false ∧ (t.s.size : Int) = signTo s p ∧ t.n = 0)) := by
 have hsz := kX (s := s) (p := p) hp (by rw [h])
 rw [h] at hsz
 simp only at hsz
 have hz : (s.extract p s.size).size = s.size - p := by simp
 have h0 : bAt (s.extract p s.size) 0 = bAt s p := by rw [eE zb (Nat.le_refl _), Nat.add_zero]
 have hpos : ∀ F : UInt8 → Bool, F (bAt s p) = true → 0 < pre F (s.extract p s.size) := by
  intro F hF
  rcases Nat.eq_zero_or_pos (pre F (s.extract p s.size)) with h | h
  ·exfalso
   have h1 := sM (F := F) (s := s.extract p s.size) zb
   rw [h, h0, hF] at h1
   cases h1
  ·exact h
 have hle : ∀ F : UInt8 → Bool, pre F (s.extract p s.size) ≤ s.size - p := fun F => by have := oI F (s.extract p s.size); omega
 have hes : ∀ a b, b ≤ s.size → (s.extract a b).size = b - a := fun a b hb => iJ hb
 cases hl : letterB (bAt s p)
 ·cases hd : digitB (bAt s p)
  ·rw [mD hl hd hp] at h
   have h1 := aAr hp
   by_cases h2 : signTo s p = 0
   ·rw [if_pos h2] at h; cases h
   ·rw [if_neg h2] at h
    cases h
    have h3 := hes p (p + (signTo s p).toNat) zb
    refine ⟨rfl, hsz.1, hsz.2, ?_, .inr (.inr ⟨rfl, rfl, rfl, ?_, rfl⟩)⟩
    ·simp only [h3]
     congr 1
     omega
    ·simp only [h3]
     omega
  ·have h1 := hpos digitB hd
   have h2 := hle digitB
   rw [nZ (k := p + pre digitB (s.extract p s.size)) hl hd zb zb zb] at h
   split at h
   ·rename_i hn
    cases h
    have h3 := hes p (p + pre digitB (s.extract p s.size)) zb
    refine ⟨rfl, hsz.1, hsz.2, ?_, .inr (.inl ⟨rfl, rfl, rfl, ?_, hn, rfl⟩)⟩
    ·simp only [h3]
     congr 1
     omega
    ·simp only [h3]
     omega
   ·cases h
 ·have h1 := hpos alnumB (wJ hl)
  have h2 := hle alnumB
  rw [mE (k := p + pre alnumB (s.extract p s.size)) hl zb zb zb] at h
  split at h
  ·rename_i hn
   cases h
   have h3 := hes p (p + pre alnumB (s.extract p s.size)) zb
   refine ⟨rfl, hsz.1, hsz.2, ?_, .inl ⟨rfl, rfl, ?_, ?_, rfl⟩⟩
   ·simp only [h3]
    congr 1
    omega
   ·simp only [h3]
    omega
   ·simp only [h3]
    omega
  ·cases h
end
section
theorem aFx (s : ByteArray) : skip s s.size = s.size := by have := fP (s := s) (p := s.size) (Nat.le_refl _); omega
theorem aKg {s t : ByteArray} (hz : s.size = t.size) (h : ∀ j, j < s.size → bAt s j = bAt t j) : s = t := by
 apply ByteArray.ext
 apply Array.ext
 ·exact hz
 ·intro i h1 h2
  have h3 := h i h1
  rw [kY s i (by simpa using h1), kY t i (by simpa using h2)] at h3
  simpa using h3
structure Agr (s t : ByteArray) (p q m : Nat) : Prop where
 hs : p + m ≤ s.size
 ht : q + m ≤ t.size
 h : ∀ j, j < m → bAt t (q + j) = bAt s (p + j)
theorem Agr.ext {s t : ByteArray} {p q m : Nat} (h : Agr s t p q m) : t.extract q (q + m) = s.extract p (p + m) := by
 have h1 := h.hs
 have h2 := h.ht
 have e1 : (t.extract q (q + m)).size = m := by rw [iJ h2]; omega
 have e2 : (s.extract p (p + m)).size = m := by rw [iJ h1]; omega
 refine aKg zb fun j hj => ?_
 rw [e1] at hj
 rw [eE zb h2, eE zb h1]
 exact h.h j hj
theorem Agr.part {s t : ByteArray} {p q m : Nat} (h : Agr s t p q m) {i k : Nat} (hk : i + k ≤ m) : Agr s t (p + i) (q + i) k := by
 have h1 := h.hs
 have h2 := h.ht
 refine ⟨by omega, by omega, fun j hj => ?_⟩
 rw [Nat.add_assoc, Nat.add_assoc]
 exact h.h _ zb
theorem Agr.first {s t : ByteArray} {p q m : Nat} (h : Agr s t p q m) (hm : 0 < m) : bAt t q = bAt s p := h.h 0 hm
theorem qH {F : UInt8 → Bool} {s t : ByteArray} {p q m : Nat} (h : Agr s t p q m) (hr : pre F (s.extract p s.size) = m) (hf : q + m < t.size → F (bAt t (q + m)) = false) : pre F (t.extract q t.size) = q + m - q := by
 have h1 := h.hs
 have hz : (s.extract p s.size).size = s.size - p := by simp
 refine aCe zb h.ht (fun j h2 h3 => ?_) hf
 rw [show j = q + (j - q) by omega, h.h _ zb, ← eE (a := p) (b := s.size) zb (Nat.le_refl _)]
 exact tX zb
theorem aFs {F : UInt8 → Bool} {s : ByteArray} {p m : Nat} (hr : pre F (s.extract p s.size) = m) (h : p + m < s.size) : F (bAt s (p + m)) = false := by
 have hz : (s.extract p s.size).size = s.size - p := by simp
 have h3 := sM (F := F) (s := s.extract p s.size) zb
 rw [hr, eE zb (Nat.le_refl _)] at h3
 exact h3
theorem zI {c : UInt8} (h : isBlank c = true) : (c.toNat : Int) = 32 ∨ (c.toNat : Int) = 9 ∨ (c.toNat : Int) = 10 := by
 simp only [isBlank, Bool.or_eq_true, decide_eq_true_eq] at h
 omega
theorem jH {c : UInt8} (h : isBlank c = true) : alnumB c = false ∧ digitB c = false ∧ letterB c = false ∧ ¬ c.toNat = 61 := by
 have h1 := zI h
 have h2 : letterB c = false := by
  simp only [letterB, Bool.and_eq_false_iff, decide_eq_false_iff_not]
  omega
 have h3 : digitB c = false := by
  simp only [digitB, Bool.and_eq_false_iff, decide_eq_false_iff_not]
  omega
 refine ⟨by simp [alnumB, h2, h3], h3, h2, by omega⟩
def Foll (s t : ByteArray) (p q m : Nat) : Prop := q + m < t.size → isBlank (bAt t (q + m)) = true ∨ (p + m < s.size ∧ bAt t (q + m) = bAt s (p + m))
theorem Foll.run {F : UInt8 → Bool} {s t : ByteArray} {p q m : Nat} (h : Foll s t p q m) (hF : ∀ c, isBlank c = true → F c = false) (hr : pre F (s.extract p s.size) = m) : q + m < t.size → F (bAt t (q + m)) = false := fun h1 => by
 rcases h h1 with h2 | ⟨h2, h3⟩
 ·exact hF _ h2
 ·rw [h3]
  exact aFs hr h2
theorem yH {s : ByteArray} {p : Nat} (h : p + 1 < s.size) (h1 : (bAt s (p + 1)).toNat = 61) (h2 : (bAt s p).toNat = 61) : signTo s p = 2 := by
 unfold signTo
 rw [if_pos ⟨h, h1, h2⟩]
theorem oM {s : ByteArray} {p : Nat} (h : ¬ (p + 1 < s.size ∧ (bAt s (p + 1)).toNat = 61 ∧ (bAt s p).toNat = 61)) : signTo s p = if singleB (bAt s p) then 1 else 0 := by
 unfold signTo
 rw [if_neg h]
theorem aHv {s t : ByteArray} {p q m : Nat} (hm : (m : Int) = signTo s p) (hm0 : 0 < m) (ha : Agr s t p q m) (hf : Foll s t p q m) : signTo t q = m := by
 have h1 := ha.hs
 have h2 := ha.ht
 have h0 := ha.first hm0
 by_cases hc : p + 1 < s.size ∧ (bAt s (p + 1)).toNat = 61 ∧ (bAt s p).toNat = 61
 ·have h3 := yH hc.1 hc.2.1 hc.2.2
  have h4 : m = 2 := by omega
  subst h4
  rw [yH zb (by rw [ha.h 1 zb]; exact hc.2.1) (by rw [h0]; exact hc.2.2)]
  rfl
 ·rw [oM hc] at hm
  have hs : singleB (bAt s p) = true ∧ m = 1 := by
   by_cases h : singleB (bAt s p) = true
   ·rw [if_pos h] at hm; exact ⟨h, by omega⟩
   ·rw [if_neg h] at hm; omega
  obtain ⟨h3, rfl⟩ := hs
  rw [oM (fun h => ?_), h0, h3]
  ·rfl
  ·rcases hf h.1 with h4 | ⟨h4, h5⟩
   ·exact (jH h4).2.2.2 h.2.1
   ·exact hc ⟨h4, by rw [← h5]; exact h.2.1, by rw [← h0]; exact h.2.2⟩
theorem nY {s t : ByteArray} {p q : Nat} {x : Tok} (hp : p < s.size) (h : tokenV s p = (x, 0)) (ha : Agr s t p q x.s.size) (hf : Foll s t p q x.s.size) : tokenV t q = ({ x with p := q }, 0) := by
 obtain ⟨_, h2, h3, h4, h5⟩ := fH hp h
 have h0 := ha.first h2
 have h6 := ha.ext
 have h7 := ha.ht
 rw [← h4] at h6
 rcases h5 with ⟨k0, k1, k2, k3, k4⟩ | ⟨k0, k1, k2, k3, k4, k5⟩ | ⟨k0, k1, k2, k3, k4⟩
 ·rw [mE (k := q + x.s.size) (by rw [h0]; exact k1) zb h7 (qH ha k2.symm (hf.run (fun c hc => (jH hc).1) k2.symm)), if_pos zb, h6]
  obtain ⟨a, b, c, d⟩ := x
  simp only at k0 k4
  subst k0
  subst k4
  rfl
 ·rw [nZ (k := q + x.s.size) (by rw [h0]; exact k1) (by rw [h0]; exact k2) zb h7 (qH ha k3.symm (hf.run (fun c hc => (jH hc).2.1) k3.symm)), h6, if_pos k4]
  obtain ⟨a, b, c, d⟩ := x
  simp only at k0 k5
  subst k0
  subst k5
  rfl
 ·have h8 := aHv k3 h2 ha hf
  rw [mD (by rw [h0]; exact k1) (by rw [h0]; exact k2) zb, if_neg zb, h8, Int.toNat_natCast, h6]
  obtain ⟨a, b, c, d⟩ := x
  simp only at k0 k4
  subst k0
  subst k4
  rfl
structure Seg (s t : ByteArray) (a : Nat) : Prop where
 agr : Agr s t 0 a s.size
 fol : a + s.size < t.size → isBlank (bAt t (a + s.size)) = true
theorem Seg.foll {s t : ByteArray} {a p m : Nat} (h : Seg s t a) (hm : p + m ≤ s.size) : Foll s t p (a + p) m := fun h1 => by
 by_cases h2 : p + m = s.size
 ·rw [show a + p + m = a + s.size by omega] at h1 ⊢
  exact .inl (h.fol h1)
 ·refine .inr ⟨by omega, ?_⟩
  have := h.agr.h (p + m) zb
  rw [Nat.zero_add] at this
  rw [← this, Nat.add_assoc]
theorem Seg.at {s t : ByteArray} {a p m : Nat} (h : Seg s t a) (hm : p + m ≤ s.size) : Agr s t p (a + p) m := by
 have := h.agr.part hm
 rwa [Nat.zero_add] at this
theorem Seg.byte {s t : ByteArray} {a p : Nat} (h : Seg s t a) (hp : p < s.size) : bAt t (a + p) = bAt s p := (h.at (p := p) (m := 1) zb).first zb
theorem Seg.tok {s t : ByteArray} {a p : Nat} {x : Tok} (h : Seg s t a) (hp : p < s.size) (ht : tokenV s p = (x, 0)) : tokenV t (a + p) = ({ x with p := ((a + p : Nat) : Int) }, 0) := by
 obtain ⟨_, _, h3, _⟩ := fH hp ht
 exact nY hp ht (h.at h3) (h.foll h3)
theorem Seg.err {s t : ByteArray} {a p : Nat} {x : Tok} {e : Int} (h : Seg s t a) (hp : p < s.size) (ht : tokenV s p = (x, e)) (he : ¬ e = 0) : tokenV t (a + p) = (x, e) := by
 have hz : (s.extract p s.size).size = s.size - p := by simp
 have h0 := h.byte hp
 have hat := h.agr.ht
 have hpos : ∀ F : UInt8 → Bool, F (bAt s p) = true → 0 < pre F (s.extract p s.size) := by
  intro F hF
  rcases Nat.eq_zero_or_pos (pre F (s.extract p s.size)) with h | h
  ·exfalso
   have h1 := aFs h zb
   rw [Nat.add_zero, hF] at h1
   cases h1
  ·exact h
 have hle : ∀ F : UInt8 → Bool, pre F (s.extract p s.size) ≤ s.size - p := fun F => by have := oI F (s.extract p s.size); omega
 cases hl : letterB (bAt s p)
 ·cases hd : digitB (bAt s p)
  ·rw [mD hl hd hp] at ht
   by_cases h2 : signTo s p = 0
   ·rw [if_pos h2] at ht
    have hsg : singleB (bAt s p) = false := by
     unfold signTo at h2
     split at h2
     ·cases h2
     ·split at h2
      ·cases h2
      ·simp_all
    have h3 : signTo t (a + p) = 0 := by
     have hne : ¬ (bAt s p).toNat = 61 := fun h61 => by
      have : bAt s p = 61 := by rw [kL]; exact h61
      rw [this] at hsg
      revert hsg
      decide
     rw [oM (by rw [h0]; exact fun h => hne h.2.2), h0, hsg]
     rfl
    rw [mD (by rw [h0]; exact hl) (by rw [h0]; exact hd) zb, if_pos h3]
    exact ht
   ·rw [if_neg h2] at ht
    cases ht
    exact absurd rfl he
  ·have h1 := hpos digitB hd
   have h2 := hle digitB
   have h3 := h.at (p := p) (m := pre digitB (s.extract p s.size)) zb
   have h4 := h.foll (p := p) (m := pre digitB (s.extract p s.size)) zb
   rw [nZ (k := p + pre digitB (s.extract p s.size)) hl hd zb zb zb] at ht
   rw [nZ (k := a + p + pre digitB (s.extract p s.size)) (by rw [h0]; exact hl) (by rw [h0]; exact hd) zb h3.ht (qH h3 rfl (h4.run (fun c hc => (jH hc).2.1) rfl)), h3.ext]
   split at ht
   ·cases ht
    exact absurd rfl he
   ·rename_i h5
    rw [if_neg h5]
    exact ht
 ·have h1 := hpos alnumB (wJ hl)
  have h2 := hle alnumB
  have h3 := h.at (p := p) (m := pre alnumB (s.extract p s.size)) zb
  have h4 := h.foll (p := p) (m := pre alnumB (s.extract p s.size)) zb
  rw [mE (k := p + pre alnumB (s.extract p s.size)) hl zb zb zb] at ht
  rw [mE (k := a + p + pre alnumB (s.extract p s.size)) (by rw [h0]; exact hl) zb h3.ht (qH h3 rfl (h4.run (fun c hc => (jH hc).1) rfl)), h3.ext]
  split at ht
  ·cases ht
   exact absurd rfl he
  ·rename_i h5
   rw [if_neg zb]
   exact ht
theorem Seg.skp {s t : ByteArray} {a p : Nat} (h : Seg s t a) (hp : p ≤ s.size) (hk : skip s p < s.size) : skip t (a + p) = a + skip s p := by
 have h1 := fP hp
 have h2 := h.agr.ht
 obtain ⟨h3, h4⟩ := kI hp
 refine tA zb zb (fun j h5 h6 => ?_) (fun _ => ?_)
 ·rw [show j = a + (j - a) by omega, h.byte zb]
  exact h3 _ zb zb
 ·rw [h.byte hk]
  exact h4 hk
theorem aMc {t : ByteArray} {p q : Nat} (hpq : p ≤ q) (hq : q ≤ t.size) (h : ∀ j, p ≤ j → j < q → isBlank (bAt t j) = true) : skip t p = skip t q := by
 have h1 := fP hq
 obtain ⟨h3, h4⟩ := kI hq
 refine tA zb h1.2 (fun j h5 h6 => ?_) h4
 by_cases h7 : j < q
 ·exact h j h5 h7
 ·exact h3 j zb h6
theorem Seg.skpEnd {s t : ByteArray} {a p : Nat} (h : Seg s t a) (hp : p ≤ s.size) (hk : skip s p = s.size) : skip t (a + p) = skip t (a + s.size) := by
 have h2 := h.agr.ht
 obtain ⟨h3, h4⟩ := kI hp
 refine aMc zb zb (fun j h5 h6 => ?_)
 rw [show j = a + (j - a) by omega, h.byte zb]
 exact h3 _ zb zb
theorem LexOk.from {s : ByteArray} {p q : Nat} {l : List Tok} (h : LexOk s q l) (hp : p ≤ s.size) (hk : skip s p = skip s q) : LexOk s p l := by
 cases h with
 | stop _ _ h1 => exact .stop p hp (hk.trans h1)
 | tok _ t r _ h1 h2 h3 => exact .tok p t r hp (by rw [hk]; exact h1) (by rw [hk]; exact h2) (by rw [hk]; exact h3)
theorem LexErr.from {s : ByteArray} {p q a : Nat} {e : Int} (h : LexErr s q a e) (hp : p ≤ s.size) (hk : skip s p = skip s q) : LexErr s p a e := by
 cases h with
 | here _ t _ _ h1 h2 h3 => rw [← hk]; exact .here p t e hp (by rw [hk]; exact h1) (by rw [hk]; exact h2) h3
 | tok _ _ t _ _ h1 h2 h3 => exact .tok p a t e hp (by rw [hk]; exact h1) (by rw [hk]; exact h2) (by rw [hk]; exact h3)
def Tok.move (a : Nat) (t : Tok) : Tok := { t with p := t.p + a }
theorem LexOk.last {s : ByteArray} {p : Nat} {l : List Tok} (h : LexOk s p l) : ∃ m, l = m ++ [endTok s.size] := by
 induction h with
 | stop => exact ⟨[], rfl⟩
 | tok p t l hp h ht hl ih =>
  obtain ⟨m, rfl⟩ := ih
  exact ⟨t :: m, rfl⟩
theorem Seg.ok {s t : ByteArray} {a p : Nat} {l : List Tok} (h : Seg s t a) (hl : LexOk s p l) :
  (∀ r, LexOk t (a + s.size) r → LexOk t (a + p) ((l.take (l.length - 1)).map (Tok.move a) ++ r)) ∧ (∀ b e, LexErr t (a + s.size) b e → LexErr t (a + p) b e) := by
 have hat := h.agr.ht
 induction hl with
 | stop p hp h1 =>
  have h2 := h.skpEnd hp h1
  exact ⟨fun r hr => by simpa using hr.from zb h2, fun b e he => he.from zb h2⟩
 | tok p x l hp h1 h2 h3 ih =>
  have h4 := fP hp
  have h5 := h.skp hp zb
  have h6 := h.tok zb h2
  obtain ⟨q1, q2, q3, _⟩ := fH zb h2
  obtain ⟨m, rfl⟩ := h3.last
  have h7 : (x :: (m ++ [endTok s.size])).take ((x :: (m ++ [endTok s.size])).length - 1) = x :: m := by simp
  have h8 : (m ++ [endTok s.size]).take ((m ++ [endTok s.size]).length - 1) = m := by simp
  rw [h8, ← Nat.add_assoc] at ih
  rw [h7]
  have h9 : ({ x with p := ((a + skip s p : Nat) : Int) } : Tok) = Tok.move a x := by
   unfold Tok.move
   rw [q1]
   have hq : ((a + skip s p : Nat) : Int) = (skip s p : Int) + (a : Int) := by omega
   rw [hq]
  rw [h9] at h6
  refine ⟨fun r hr => ?_, fun b e he => ?_⟩
  ·refine .tok (a + p) (Tok.move a x) _ zb zb (by rw [h5]; exact h6) ?_
   rw [h5]
   exact ih.1 r hr
  ·refine .tok (a + p) b (Tok.move a x) e zb zb (by rw [h5]; exact h6) ?_
   rw [h5]
   exact ih.2 b e he
theorem Seg.bad {s t : ByteArray} {a p b : Nat} {e : Int} (h : Seg s t a) (hl : LexErr s p b e) : LexErr t (a + p) (a + b) e := by
 have hat := h.agr.ht
 induction hl with
 | here p x e hp h1 h2 h3 =>
  have h4 := fP hp
  have h5 := h.skp hp zb
  rw [← h5]
  exact .here (a + p) x e zb zb (by rw [h5]; exact h.err zb h2 h3) h3
 | tok p b x e hp h1 h2 h3 ih =>
  have h4 := fP hp
  have h5 := h.skp hp zb
  refine .tok (a + p) (a + b) _ e zb zb (by rw [h5]; exact h.tok zb h2) ?_
  rw [h5, Nat.add_assoc]
  exact ih
end
section
open Go.RowKit
def jn (ws : List ByteArray) : ByteArray := ⟨(Lib.join (ws.map (·.data.toList)) [32]).toArray⟩
def blank1 : ByteArray := ⟨#[32]⟩
def wordsOf (l : List Tok) : List ByteArray := (l.filter fun t => !decide (t.k = 3)).map (·.s)
def textV (l : List Tok) : ByteArray := jn (wordsOf l)
end
section
theorem aOp (s : ByteArray) (n p : Nat) (out : List Tok) : (lexF s n p out).1.length ≤ out.length + n := by
 induction n generalizing p out with
 | zero => simp [lexF]
 | succ n ih =>
  rw [lexF]
  split
  ·simp
  ·split
   ·have := ih (skip s p + (tokenV s (skip s p)).1.s.size) (out ++ [(tokenV s (skip s p)).1])
    simp only [List.length_append, List.length_cons, List.length_nil] at this
    omega
   ·simp
theorem aOq (s : ByteArray) : (lexV s).1.length ≤ s.size + 1 := by
 unfold lexV
 split
 ·simp
 ·have := aOp s (s.size + 1) 0 []
  simpa using this
theorem LexErr.le {s : ByteArray} {p a : Nat} {e : Int} (h : LexErr s p a e) : p ≤ a ∧ a < s.size := by
 induction h with
 | here p t e hp h ht he => have := fP hp; omega
 | tok p a t e hp h ht hl ih => have := fP hp; omega
theorem LexErr.what {s : ByteArray} {p a : Nat} {e : Int} (h : LexErr s p a e) : ∃ x, tokenV s a = (x, e) ∧ ¬ e = 0 ∧ isBlank (bAt s a) = false := by
 induction h with
 | here p t e hp h ht he =>
  have h1 := fP hp
  exact ⟨t, ht, he, (kI hp).2 zb⟩
 | tok p a t e hp h ht hl ih => exact ih
theorem LexErr.before {s : ByteArray} {p a : Nat} {e : Int} (h : LexErr s p a e) : ∃ l, LexOk (s.extract 0 a) p l := by
 have hl := h.le
 have hz : (s.extract 0 a).size = a := by rw [iJ zb]; omega
 have hb : ∀ j, j < a → bAt (s.extract 0 a) j = bAt s j := fun j hj => by rw [eE zb zb, Nat.zero_add]
 clear hl
 induction h with
 | here p t e hp h ht he =>
  have h1 := fP hp
  obtain ⟨h2, _⟩ := kI hp
  refine ⟨_, .stop p zb ?_⟩
  rw [hz]
  exact tA h1.1 zb (fun j h3 h4 => by rw [hb j h4]; exact h2 j h3 h4) (fun h => by omega)
 | tok p a t e hp h ht hl ih =>
  have h1 := fP hp
  have h2 := hl.le
  obtain ⟨l, h3⟩ := ih hz hb
  obtain ⟨_, q2, q3, _⟩ := fH zb ht
  obtain ⟨h4, h5⟩ := kI hp
  have h6 : skip (s.extract 0 a) p = skip s p := tA h1.1 zb (fun j h7 h8 => by rw [hb j zb]; exact h4 j h7 h8) (fun _ => by rw [hb _ zb]; exact h5 zb)
  have h7 : tokenV (s.extract 0 a) (skip s p) = (t, 0) := by
   obtain ⟨q1, _⟩ := fH zb ht
   rw [nY (t := s.extract 0 a) (q := skip s p) zb ht ⟨q3, by omega, fun j hj => hb _ zb⟩ (fun h8 => .inr ⟨by omega, hb _ zb⟩), ← q1]
  exact ⟨t :: l, .tok p t l zb zb (by rw [h6]; exact h7) (by rw [h6]; exact h3)⟩
theorem LexErr.behind {s : ByteArray} {p a : Nat} {e : Int} (h : LexErr s p a e) : LexErr (s.extract a s.size) 0 0 e := by
 obtain ⟨x, h1, h2, h3⟩ := h.what
 have hl := h.le
 have hz : (s.extract a s.size).size = s.size - a := by simp
 have hs : Seg (s.extract a s.size) s a := ⟨⟨by omega, by omega, fun j hj => by rw [Nat.zero_add, eE zb (Nat.le_refl _)]⟩, fun h => by omega⟩
 have h4 : skip (s.extract a s.size) 0 = 0 := uC zb (by rw [eE zb (Nat.le_refl _)]; exact h3)
 rcases hT : tokenV (s.extract a s.size) 0 with ⟨y, f⟩
 have h5 : f = e := by
  by_cases hf : f = 0
  ·subst hf
   have h6 := hs.tok (p := 0) zb hT
   rw [Nat.add_zero, h1] at h6
   cases h6
   exact absurd rfl h2
  ·have h6 := hs.err (p := 0) zb hT hf
   rw [Nat.add_zero, h1] at h6
   cases h6
   rfl
 subst h5
 have h7 : LexErr (s.extract a s.size) 0 (skip (s.extract a s.size) 0) f := .here 0 y f (Nat.zero_le _) zb (by rw [h4]; exact hT) h2
 rw [h4] at h7
 exact h7
def Tk (t : Tok) : Prop := tokenV t.s 0 = ({ t with p := 0 }, 0) ∧ 0 < t.s.size ∧ ¬ t.k = 3
theorem tk_of {s : ByteArray} {p : Nat} {t : Tok} (hp : p < s.size) (h : tokenV s p = (t, 0)) : Tk t := by
 obtain ⟨_, h2, h3, h4, h5⟩ := fH hp h
 refine ⟨nY hp h ⟨h3, by omega, fun j hj => ?_⟩ (fun h6 => by omega), h2, ?_⟩
 ·rw [Nat.zero_add]
  have : bAt t.s j = bAt (s.extract p (p + t.s.size)) j := by rw [← h4]
  rw [this, eE zb h3]
 ·rcases h5 with ⟨k, _⟩ | ⟨k, _⟩ | ⟨k, _⟩ <;> rw [k] <;> decide
theorem aGx (ws : List ByteArray) : (jn ws).size = (Lib.join (ws.map (·.data.toList)) [32]).length := by
 unfold jn
 exact List.size_toArray
theorem jn_le (x : ByteArray) (ws : List ByteArray) : (jn (x :: ws)).size ≤ x.size + 1 + (jn ws).size := by
 rw [aGx, aGx]
 have hx : x.data.toList.length = x.size := by simp
 cases ws with
 | nil => simp only [List.map_cons, List.map_nil, Lib.join_one, hx]; omega
 | cons y r =>
  simp only [List.map_cons, Lib.join_cons, Lib.joinTail, List.length_append, List.flatten_cons, List.length_cons, List.length_nil, hx]
  omega
theorem LexOk.all {s : ByteArray} {p : Nat} {l : List Tok} (h : LexOk s p l) : ∃ m, l = m ++ [endTok s.size] ∧ (∀ t ∈ m, Tk t) ∧ (jn (m.map (·.s))).size ≤ 2 * (s.size - p) := by
 induction h with
 | stop p hp h => exact ⟨[], rfl, by simp, by rw [aGx]; simp [Lib.join_nil]⟩
 | tok p t l hp h ht hl ih =>
  obtain ⟨m, rfl, h1, h2⟩ := ih
  have h3 := fP hp
  obtain ⟨_, q2, q3, _⟩ := fH zb ht
  refine ⟨t :: m, rfl, fun x hx => ?_, ?_⟩
  ·rcases List.mem_cons.1 hx with rfl | hx
   ·exact tk_of zb ht
   ·exact h1 x hx
  ·have h4 := jn_le t.s (m.map (·.s))
   rw [List.map_cons]
   omega
theorem aWb (x y : ByteArray) (r : List ByteArray) : jn (x :: y :: r) = x ++ (blank1 ++ jn (y :: r)) := by
 apply ByteArray.ext
 apply Array.toList_inj.1
 simp [jn, Lib.join_cons, Lib.joinTail, blank1, ByteArray.data_append]
theorem aWa (x : ByteArray) : jn [x] = x := by
 apply ByteArray.ext
 apply Array.toList_inj.1
 simp [jn, Lib.join_one]
theorem aDo {a b : ByteArray} {j : Nat} (h : j < a.size) : bAt (a ++ b) j = bAt a j := by
 rw [kY _ _ jv, kY _ _ (by simpa using h)]
 simp [ByteArray.data_append, h]
theorem nL {a b : ByteArray} {j : Nat} (h : j < b.size) : bAt (a ++ b) (a.size + j) = bAt b j := by
 rw [kY _ _ jv, kY _ _ (by simpa using h)]
 simp [ByteArray.data_append]
def lay : Nat → List Tok → List Tok
 | _, [] => []
 | q, t :: r => { t with p := (q : Int) } :: lay (q + t.s.size + 1) r
theorem aDa {t : Tok} (h : Tk t) : isBlank (bAt t.s 0) = false := by
 cases hb : isBlank (bAt t.s 0) with
 | false => rfl
 | true =>
  have h1 := jH hb
  have h2 := h.1
  obtain ⟨_, _, _, _, h3⟩ := fH (s := t.s) (p := 0) h.2.1 h2
  rcases h3 with ⟨_, k, _⟩ | ⟨_, _, k, _⟩ | ⟨_, _, _, k, _⟩
  ·rw [h1.2.2.1] at k; cases k
  ·rw [h1.2.1] at k; cases k
  ·have hk : signTo t.s 0 = 0 := by
    rw [oM (fun h => h1.2.2.2 h.2.2)]
    rw [if_neg]
    have h4 := zI hb
    have : (bAt t.s 0) = 32 ∨ (bAt t.s 0) = 9 ∨ (bAt t.s 0) = 10 := by
     rw [kL, kL, kL]
     have e1 : (32 : UInt8).toNat = 32 := rfl
     have e2 : (9 : UInt8).toNat = 9 := rfl
     have e3 : (10 : UInt8).toNat = 10 := rfl
     omega
    rcases this with h5 | h5 | h5 <;> rw [h5] <;> decide
   rw [hk] at k
   have := h.2.1
   simp only at k
   omega
theorem aWc (l : List Tok) (hl : ∀ t ∈ l, Tk t) (a : ByteArray) : LexOk (a ++ jn (l.map (·.s))) a.size (lay a.size l ++ [endTok (a ++ jn (l.map (·.s))).size]) := by
 induction l generalizing a with
 | nil =>
  have e : a ++ jn (([] : List Tok).map (·.s)) = a := by
   apply ByteArray.ext
   simp [jn, Lib.join_nil, ByteArray.data_append]
  rw [e]
  exact .stop _ (Nat.le_refl _) (aFx a)
 | cons t r ih =>
  have ht := hl t (by simp)
  have hs := ht.2.1
  have hnb := aDa ht
  cases r with
  | nil =>
   simp only [List.map_cons, List.map_nil, aWa]
   have hz : (a ++ t.s).size = a.size + t.s.size := ByteArray.size_append
   have h0 : bAt (a ++ t.s) a.size = bAt t.s 0 := nL (j := 0) hs
   have h1 : skip (a ++ t.s) a.size = a.size := uC zb (by rw [h0]; exact hnb)
   have h2 : tokenV (a ++ t.s) a.size = ({ t with p := (a.size : Int) }, 0) := nY (x := { t with p := 0 }) hs ht.1 ⟨by simp, by simp, fun j hj => by rw [Nat.zero_add]; exact nL hj⟩ (fun h => by simp at h)
   refine .tok _ _ _ zb zb (by rw [h1]; exact h2) ?_
   rw [h1]
   simp only [lay, List.nil_append]
   rw [← hz]
   exact .stop _ (Nat.le_refl _) (aFx _)
  | cons u r =>
   have h3 := ih (fun x hx => hl x (by simp [hx])) (a ++ t.s ++ blank1)
   have e : a ++ jn ((t :: u :: r).map (·.s)) = a ++ t.s ++ blank1 ++ jn ((u :: r).map (·.s)) := by
    simp only [List.map_cons, aWb, ByteArray.append_assoc]
   rw [e]
   generalize hX : a ++ t.s ++ blank1 ++ jn ((u :: r).map (·.s)) = X at h3 ⊢
   have hb1 : blank1.size = 1 := rfl
   have hz : X.size = a.size + t.s.size + 1 + (jn ((u :: r).map (·.s))).size := by rw [← hX]; simp [hb1]
   have e2 : X = a ++ (t.s ++ (blank1 ++ jn ((u :: r).map (·.s)))) := by rw [← hX]; simp only [ByteArray.append_assoc]
   have e3 : (a ++ t.s ++ blank1).size = a.size + t.s.size + 1 := by simp [hb1]
   have hby : ∀ j, j < t.s.size → bAt X (a.size + j) = bAt t.s j := fun j hj => by
    rw [e2, nL jv, aDo hj]
   have hbl : bAt X (a.size + t.s.size) = 32 := by
    rw [e2, nL (by simp [hb1]; omega)]
    have := nL (a := t.s) (b := blank1 ++ jn ((u :: r).map (·.s))) (j := 0) (by simp [hb1]; omega)
    rw [Nat.add_zero] at this
    rw [this, aDo zg]
    rfl
   have h1 : skip X a.size = a.size := uC zb (by rw [← Nat.add_zero a.size, hby 0 hs]; exact hnb)
   have h2 : tokenV X a.size = ({ t with p := (a.size : Int) }, 0) := nY (x := { t with p := 0 }) hs ht.1 ⟨by simp, by simp; omega, fun j hj => by rw [Nat.zero_add]; exact hby j hj⟩ (fun h => .inl (by simp only; rw [hbl]; rfl))
   refine .tok _ _ _ zb zb (by rw [h1]; exact h2) ?_
   rw [h1]
   rw [e3] at h3
   refine h3.from (by simp only; omega) ?_
   rw [aMb (by simp only; omega) (by simp only; rw [hbl]; rfl)]
theorem aIr : ∀ (q : Nat) (l : List Tok), (lay q l).length = l.length
 | _, [] => rfl
 | q, t :: r => by simp [lay, aIr _ r]
theorem vO {α : Type} (f : Tok → α) (hf : ∀ t (q : Int), f { t with p := q } = f t) : ∀ (q : Nat) (l : List Tok), (lay q l).map f = l.map f
 | _, [] => rfl
 | q, t :: r => by simp [lay, hf, vO f hf _ r]
theorem uU {l : List Tok} (n : Nat) (h : ∀ t ∈ l, ¬ t.k = 3) : wordsOf (l ++ [endTok n]) = l.map (·.s) := by
 have : (l ++ [endTok n]).filter (fun t => !decide (t.k = 3)) = l := by
  rw [List.filter_append, List.filter_eq_self.2 (fun t ht => by simp [h t ht])]
  exact List.append_nil l
 rw [wordsOf, this]
theorem aEn {s : ByteArray} {p : Nat} {l : List Tok} {B : Nat} (h : LexOk s p l) (hB : s.size ≤ B) : ∀ t ∈ l, t.s.size ≤ B := by
 induction h with
 | stop p hp h =>
  intro x hx
  obtain rfl := List.mem_singleton.1 hx
  exact Nat.zero_le _
 | tok p t l hp h ht hl ih =>
  have h3 := fP hp
  obtain ⟨_, _, q3, _⟩ := fH zb ht
  intro x hx
  rcases List.mem_cons.1 hx with rfl | hx
  ·omega
  ·exact ih x hx
theorem back {c : ByteArray} {l : List Tok} (h : LexOk c 0 l) : ∃ m, LexOk (textV l) 0 m ∧ textV m = textV l ∧ (textV l).size ≤ 2 * c.size ∧ m.length = l.length ∧
  ∀ i (h1 : i < l.length) (h2 : i < m.length), l[i].k = m[i].k ∧ l[i].s = m[i].s ∧ l[i].n = m[i].n := by
 obtain ⟨r, rfl, h1, h2⟩ := h.all
 have h3 : textV (r ++ [endTok c.size]) = jn (r.map (·.s)) := by rw [textV, uU _ (fun t ht => (h1 t ht).2.2)]
 have h4 := aWc r h1 ⟨#[]⟩
 have e : (⟨#[]⟩ : ByteArray) ++ jn (r.map (·.s)) = jn (r.map (·.s)) := by
  apply ByteArray.ext
  simp [ByteArray.data_append]
 rw [e] at h4
 rw [h3]
 refine ⟨_, h4, ?_, by omega, by simp [aIr], ?_⟩
 ·have h5 : ∀ t ∈ lay (ByteArray.size ⟨#[]⟩) r, ¬ t.k = 3 := by
   intro t ht
   have : t.k ∈ (lay (ByteArray.size ⟨#[]⟩) r).map (·.k) := List.mem_map_of_mem ht
   rw [vO (·.k) (fun _ _ => rfl)] at this
   obtain ⟨u, hu, he⟩ := List.mem_map.1 this
   rw [← he]
   exact (h1 u hu).2.2
  rw [textV, uU _ h5, vO (·.s) (fun _ _ => rfl)]
 ·have hm : ∀ {α : Type} (f : Tok → α), (∀ t (q : Int), f { t with p := q } = f t) → ∀ i (h1 : i < (r ++ [endTok c.size]).length) (h2 : i < (lay (ByteArray.size ⟨#[]⟩) r ++ [endTok (jn (r.map (·.s))).size]).length), f (r ++ [endTok c.size])[i] = f (lay (ByteArray.size ⟨#[]⟩) r ++ [endTok (jn (r.map (·.s))).size])[i] := by
   intro α f hf i h5 h6
   have h7 : (r ++ [endTok c.size]).map f = (lay (ByteArray.size ⟨#[]⟩) r ++ [endTok (jn (r.map (·.s))).size]).map f := by
    rw [List.map_append, List.map_append, vO f hf]
    congr 1
    simp only [List.map_cons, List.map_nil, endTok]
    rw [← hf ⟨3, ⟨#[]⟩, 0, c.size⟩ ((jn (r.map (·.s))).size : Int)]
   have h8 := congrArg (fun x => x[i]?) h7
   simp only [List.getElem?_map, List.getElem?_eq_getElem h5, List.getElem?_eq_getElem h6, Option.map_some, Option.some.injEq] at h8
   exact h8
  exact fun i h5 h6 => ⟨hm (·.k) (fun _ _ => rfl) i h5 h6, hm (·.s) (fun _ _ => rfl) i h5 h6, hm (·.n) (fun _ _ => rfl) i h5 h6⟩
end
section
open Go.RowKit
theorem aLi {s : ByteArray} (h : numOk s = true) : 0 ≤ numTo s s.size ∧ numTo s s.size ≤ 1000000000000000 := by
 simp only [numOk, Bool.and_eq_true, Bool.or_eq_true, decide_eq_true_eq] at h
 obtain ⟨⟨⟨h1, h2⟩, h3⟩, h4⟩ := h
 have := aPc (s := s) (k := s.size) fun j hj => tX zb
 exact ⟨this.1, h4⟩
theorem aUy {t : Tok} (h : Tk t) (hk : t.k = 1) : 0 ≤ t.n ∧ t.n ≤ 1000000000000000 := by
 obtain ⟨h1, h2, h3⟩ := h
 obtain ⟨_, _, _, _, h4⟩ := fH h2 h1
 rcases h4 with ⟨k, _⟩ | ⟨_, _, _, _, k, hn⟩ | ⟨k, _⟩
 ·simp only at k; omega
 ·simp only at k hn
  rw [hn]
  exact aLi k
 ·simp only at k; omega
theorem aLc {s : ByteArray} {L : List Tok} {p : Int} (h : lexV s = (L, p, 0)) : s.size ≤ 4000 ∧ LexOk s 0 L ∧ p = 0 ∧ Ends L ∧ L.length ≤ 4001 ∧ Texts L ∧ NumsIn L := by
 by_cases hs : s.size ≤ 4000
 ·rcases aLb hs with ⟨m, h1, h2⟩ | ⟨a, e, h1, h2, h3⟩
  ·rw [h] at h2
   obtain ⟨rfl, rfl, _⟩ : L = m ∧ p = 0 ∧ (0 : Int) = 0 := by simpa using h2
   have hlen := aOq s
   rw [h] at hlen
   obtain ⟨q, rfl, h4, _⟩ := h1.all
   refine ⟨hs, h1, rfl, ⟨q, _, rfl, rfl, fun x hx => (h4 x hx).2.2⟩, by simp only at hlen; omega, fun t ht => ?_, fun t ht hk => ?_⟩
   ·have := aEn h1 hs t ht
    omega
   ·rcases List.mem_append.1 ht with ht | ht
    ·exact aUy (h4 t ht) hk
    ·simp only [List.mem_singleton] at ht
     subst ht
     cases hk
  ·rw [h] at h3
   simp only [Prod.mk.injEq] at h3
   exact absurd h3.2.2.symm h2
 ·unfold lexV at h
  rw [if_pos zb] at h
  cases h
theorem Ends.rdy {L : List Tok} (h : Ends L) (hl : L.length ≤ 4001) : Rdy L L := ⟨.refl _, h, by omega⟩
def parseV (s : ByteArray) : By × Int × Int := match lexV s with
 | (L, p, e) => if e = 0 then (match bylawsP L with
  | .ok x _ => (x, 0, 0)
  | .bad q c => (By.zero, q, c)) else (By.zero, p, e)
def allP (l : List Tok) : Rd Ex := (readE l).then fun e t => if (nxt t).k = 3 then (if e.levels ≤ 12 then .ok e t else .bad (nxt t).p 6) else .bad (nxt t).p 12
def parseEV (s : ByteArray) : Ex × Int × Int := match lexV s with
 | (L, p, e) => if e = 0 then (match allP L with
  | .ok x _ => (x, 0, 0)
  | .bad q c => (Ex.zero, q, c)) else (Ex.zero, p, e)
end
section
open Go.RowKit
abbrev intB (n : Int) : O := .box 3 [.d (.int n)]
abbrev errB (n : Int) : O := .box 36 [.d (.int n)]
theorem anyT : ∃ ms, Tryz.prog.underlying 20 = some (.interface ms) := ⟨_, Tryz.underlying20⟩
theorem aGl (p c a b : Int) : ObC 155 [.d (.val (stopV p c)), .box 1003 0, .box 1004 0] [(1003, intB a), (1004, errB b)] [] (fun x o => x = .d (.bool true) ∧ o = [(1003, intB p), (1004, errB c)]) := by
 refine aI Tryz.func155 rfl zg _ Tryz.ntmps155 (aC rfl) rfl (fun w Pr β κ hE => ?_)
 dsimp only [slotsV, Nat.zero_add, Nat.reduceAdd]
 repeat' (first | (apply aB (.typeAssert _ _ _ _); refine aK (aRl rfl Tryz.underlying253 rfl) (aA rfl) ?_) | (apply aB (.binOp .neq _ _ _ _); refine aK (aVg rfl anyT) (aA rfl) ?_) | refine nx ?_ | refine xa ?_ | refine xc ?_ | refine cQ ?_ | (refine sQ ?_ ?_ <;> intro hb hq <;> try omega) | (refine wQ ?_ ?_ <;> intro hb hq <;> try omega))
 refine cC ([(7, .box 253 [.d (.int p), .d (.int c)])]) [(0, true), (1, true), (2, true), (3, true), (4, true), (5, true), (6, true), (7, false)] [8, 9] zp zp zp zg zw ?_
 simp only [planned, tailed, List.filterMap_cons, List.filterMap_nil, List.getElem?_cons_zero, List.getElem?_cons_succ, Option.map_some]
 repeat' (first | apply aZ | refine vt ?_ | (apply aR (.store _ _ _); refine dU zj rfl rfl rfl (dR rfl) nofun zk zo (.inl ⟨rfl, rfl⟩) rfl (aC rfl) zk ?_) | (apply bG; refine bQ ?_) | (apply aU; refine bA ?_) | (apply aV; refine bE ?_) | (apply lS; refine oG ?_) | (refine mQ ?_ ?_ <;> intro hb hq <;> try omega))
 repeat' (first | refine nx ?_ | refine vq ?_ | refine xc ?_ | refine xf ?_ | refine cQ ?_ | (refine sQ ?_ ?_ <;> intro hb hq <;> try omega) | (refine wQ ?_ ?_ <;> intro hb hq <;> try omega) | (apply iG; refine jN ?_))
 refine aP ([(1003, intB p), (1004, errB c)]) (by rfl) rv (⟨rfl, rfl⟩) sb okx
theorem aMg : ∀ w, (zeroValue 253).run Tryz.prog w = .ok (.agg #[.int .i64 0, .int .i64 0]) w := fun w => Tryz.zeroValue253 w
theorem aKj (a b : Int) : ObC 155 [.d (.val .nilIface), .box 1003 0, .box 1004 0] [(1003, intB a), (1004, errB b)] [] (fun x o => x = .d (.bool false) ∧ o = [(1003, intB a), (1004, errB b)]) := by
 refine aI Tryz.func155 rfl zg _ Tryz.ntmps155 (aC rfl) rfl (fun w Pr β κ hE => ?_)
 dsimp only [slotsV, Nat.zero_add, Nat.reduceAdd]
 repeat' (first | (apply aB (.typeAssert _ _ _ _); refine aK (aGe rfl Tryz.underlying253 rfl aMg) (aA rfl) ?_) | (apply aB (.binOp .neq _ _ _ _); refine aK (aVh rfl anyT) (aA rfl) ?_) | refine nx ?_ | refine xa ?_ | refine xc ?_ | refine cQ ?_ | (refine sQ ?_ ?_ <;> intro hb hq <;> try omega) | (refine wQ ?_ ?_ <;> intro hb hq <;> try omega))
 refine aP ([(1003, intB a), (1004, errB b)]) (by rfl) rv (⟨rfl, rfl⟩) sb okx
theorem aPk (s : ByteArray) (hs : s.size ≤ 1000000) : ObC 153 [.d (.str s)] [] [16] (fun x o => x = .tup [.box 16 0, .d (.int (lexV s).2.1), .d (.int (lexV s).2.2)] ∧ o = [(16, psB (lexV s).1 0)]) := by
 have hlex := aTm s hs
 generalize lexV s = r at hlex ⊢
 obtain ⟨L, p, e⟩ := r
 unfold lexD at hlex
 dsimp only at hlex ⊢
 refine aI Tryz.func153 rfl zg _ Tryz.ntmps153 (aC rfl) rfl (fun w Pr β κ hE => ?_)
 dsimp only [slotsV, Nat.zero_add, Nat.reduceAdd]
 repeat' (first | refine kQ (hlex) hE ?_ | refine vj ?_ | refine vv ?_ | (apply iG; refine jN ?_) | (apply fD; refine gF ?_))
 refine oret3 ([(16, psB L 0)]) (by rfl) rv rv rv (⟨rfl, rfl⟩) sb okx
theorem aBn {a : Act} {t : Nat} {T : TypeId} {p : String} {af : Array Edge} {w : World} : (execOp a.eval ⟨some t, .call { callee := .builtin .recover, args := #[], argTypes := #[] }, T, p, af, none⟩).run Tryz.prog w = .ok .recover w := by
 simp [execOp, resolve, invoke, builtin]
theorem uN {t : Nat} {T : TypeId} {p : String} {af : Array Edge} {o1 : Oper} (hg : o1.guard = none) {Q : Exit → Act → List Frame → World → Prop} {a : Act} {c₀ : Frame} {cs cs' : List Frame} {w : World} {v : Value} (hr : (recoverD (c₀ :: cs) = some (v, cs')) ∨ (recoverD (c₀ :: cs) = none ∧ v = .nilIface ∧ cs' = c₀ :: cs))
  (h : o1.wp Tryz.prog (a.put (some t) v) w (fun a' w' => Q .normal a' cs' w') (fun e a' w' => Q e a' cs' w')) : wpOpsS Tryz.prog #[⟨some t, .call { callee := .builtin .recover, args := #[], argTypes := #[] }, T, p, af, none⟩, o1] Q (List.range 2) a (c₀ :: cs) w := by
 have hw1 : ∀ ys, Region.wanted o1 ys = true := fun ys => by simp [Region.wanted, hg]
 have h2 : wpOpsS Tryz.prog #[⟨some t, .call { callee := .builtin .recover, args := #[], argTypes := #[] }, T, p, af, none⟩, o1] Q [1] (a.put (some t) v) cs' w := by
  unfold wpOpsS
  simp only [show (#[⟨some t, .call { callee := .builtin .recover, args := #[], argTypes := #[] }, T, p, af, none⟩, o1] : Array Oper)[1]? = some o1 from rfl, hw1, if_true]
  unfold Oper.wp at h
  generalize (execOp (a.put (some t) v).eval o1).run Tryz.prog w = r at h
  split
  ·exact (h : False).elim
  ·exact h
 show wpOpsS _ _ _ [0, 1] _ _ _
 unfold wpOpsS
 simp only [show (#[⟨some t, .call { callee := .builtin .recover, args := #[], argTypes := #[] }, T, p, af, none⟩, o1] : Array Oper)[0]? = some ⟨some t, .call { callee := .builtin .recover, args := #[], argTypes := #[] }, T, p, af, none⟩ from rfl, aBn]
 rw [if_pos (by rfl)]
 rcases hr with hr | ⟨hr, rfl, rfl⟩
 ·rw [hr]
  exact h2
 ·rw [hr]
  exact h2
def modeP (p c : Int) (b : Bool) : FrameMode := .panicking [{ v := stopV p c, recovered := b }]
theorem yW (p c : Int) : settle (modeP p c true) = .returning := rfl
abbrev byZ : O := zeroBy
theorem aUd {xs zs : List V} {n : List V} (h : n = zs) (hl : xs.length = zs.length) : put xs 0 n = zs := by
 subst h
 simp only [put, List.take_zero, List.nil_append, Nat.zero_add]
 rw [List.drop_of_length_le zb, List.append_nil]
theorem aHj (p c a b : Int) (xs : List V) (hxs : xs.length = ((.d (.str ⟨#[]⟩) :: .d (.val (.slice none 0 0)) :: (fillV [] ++ [.d (.int 0), .d (.int 0), .d (.int 0)]))).length) : ObD 154 [.box 1003 0, .box 1004 0, .box 1002 0] [(1003, intB a), (1004, errB b), (1002, .box 56 xs)] (modeP p c false) (modeP p c true) (fun o => o = [(1003, intB p), (1004, errB c), (1002, .box 56 ((.d (.str ⟨#[]⟩) :: .d (.val (.slice none 0 0)) :: (fillV [] ++ [.d (.int 0), .d (.int 0), .d (.int 0)]))))]) := by
 refine ⟨⟨_, Tryz.func154, by decide, rfl⟩, fun w Pr vs β κ h1 h2 h3 h4 h5 h6 => ?_⟩
 refine callsD_of_wpS Tryz.func154 rfl fun c₀ cs hu => ?_
 have hG := Good.start (N := 6) (args := [.box 1003 0, .box 1004 0, .box 1002 0]) zg rfl h1 h3 h4 h5 h6
 have hE : Fine ⟨w, Pr, 6, [(1003, intB a), (1004, errB b), (1002, .box 56 xs)], β, κ, []⟩ := ⟨h2, h1⟩
 rw [Tryz.ntmps154]
 have hrec : recoverD (c₀ :: cs) = some (stopV p c, { c₀ with mode := modeP p c true } :: cs) := by
  simp only [recoverD, hu]
  rfl
 refine wpS_seq (wpS_region (uN rfl (.inl hrec) ?_))
 have hG2 := hG.put (d := 3) (aA rfl) (v := stopV p c) (x := .d (.val (stopV p c))) (.d _ _ (.val _))
 refine aFy [(1003, 1003), (1004, 1004)] (aGl p c a b) rfl hE (aA rfl) (.cons (.same _ _ rfl) (.cons (.same _ _ rfl) (.cons (.same _ _ rfl) .nil))) ⟨bY rfl (bY rfl cU), rfl, rfl, rfl, rfl⟩ _ _ ⟨_, _, _, hG2⟩ _ _ (fun a' w' hI => ?_)
 refine wpS_of_wp (AW.run ?_ _ _ hI)
 refine gI rfl rfl ?_
 repeat' (first | (apply aB (.store _ _ _); refine aD (aN rfl rfl (dR rfl) nofun rfl (by simp [V.one, Value.oneCell', fillV, cellsV, cellsD]) (.inr rfl) rfl (by rw [hxs]; exact aC rfl) (aUd rfl hxs)) rfl ?_) | refine nx ?_ | refine cQ ?_ | (refine sQ ?_ ?_ <;> intro hb hq <;> try omega) | (apply dY; refine fG ?_) | (apply fD; refine gF ?_))
 refine aIf (.inr rfl) [(1003, intB p), (1004, errB c), (1002, .box 56 ((.d (.str ⟨#[]⟩) :: .d (.val (.slice none 0 0)) :: (fillV [] ++ [.d (.int 0), .d (.int 0), .d (.int 0)]))))] rfl rfl zw (by rfl)
theorem aLk (a b : Int) (X : O) (hX : X.within [1003, 1004, 1002] = true) : ObD 154 [.box 1003 0, .box 1004 0, .box 1002 0] [(1003, intB a), (1004, errB b), (1002, X)] .returning .returning (fun o => o = [(1003, intB a), (1004, errB b), (1002, X)]) := by
 refine ⟨⟨_, Tryz.func154, by decide, rfl⟩, fun w Pr vs β κ h1 h2 h3 h4 h5 h6 => ?_⟩
 refine callsD_of_wpS Tryz.func154 rfl fun c₀ cs hu => ?_
 have hG := Good.start (N := 6) (args := [.box 1003 0, .box 1004 0, .box 1002 0]) zg rfl h1 h3 h4 h5 h6
 have hE : Fine ⟨w, Pr, 6, [(1003, intB a), (1004, errB b), (1002, X)], β, κ, []⟩ := ⟨h2, h1⟩
 rw [Tryz.ntmps154]
 have hc0 : c₀ = { c₀ with mode := .returning } := by cases c₀; simp_all
 have hrec : recoverD (c₀ :: cs) = none := by
  simp only [recoverD, hu]
 refine wpS_seq (wpS_region (uN rfl (.inr ⟨hrec, rfl, rfl⟩) ?_))
 have hG2 := hG.put (d := 3) (aA rfl) (v := .nilIface) (x := .d (.val .nilIface)) (.d _ _ (.val _))
 refine aFy [(1003, 1003), (1004, 1004)] (aKj a b) rfl hE (aA rfl) (.cons (.same _ _ rfl) (.cons (.same _ _ rfl) (.cons (.same _ _ rfl) .nil))) ⟨bY rfl (bY rfl cU), rfl, rfl, rfl, rfl⟩ _ _ ⟨_, _, _, hG2⟩ _ _ (fun a' w' hI => ?_)
 refine wpS_of_wp (AW.run ?_ _ _ hI)
 rw [show (c₀ :: cs : List Frame) = { c₀ with mode := .returning } :: cs by rw [← hc0]]
 refine gH rfl rfl (lC ?_)
 refine aIf (.inr rfl) [(1003, intB a), (1004, errB b), (1002, X)] rfl rfl zw (by simp [okOut, V.within, V.withinL, keys, mem, iD, O.within]; exact hX)
end
end Go.Proofs.YtaodngiigdbgeaaGreatDoor
