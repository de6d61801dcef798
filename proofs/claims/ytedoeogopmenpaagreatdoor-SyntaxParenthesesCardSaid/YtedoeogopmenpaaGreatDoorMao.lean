/-
  Conditions: none.
-/
import Derived.Lib.Join
import Derived.Test.YtedoeogopmenpaaGreatDoorMan
set_option maxHeartbeats 16000000
set_option maxRecDepth 20000
section
namespace Go.Proofs.YtedoeogopmenpaaGreatDoor
theorem skip_end (s : ByteArray) : skip s s.size = s.size := by have := skip_le (s := s) (p := s.size) (Nat.le_refl _); omega
theorem bytes_ext {s t : ByteArray} (hz : s.size = t.size) (h : ∀ j, j < s.size → bAt s j = bAt t j) : s = t := by
 apply ByteArray.ext
 apply Array.ext
 ·exact hz
 ·intro i h1 h2
  have h3 := h i h1
  rw [bAt_eq s i (by simpa using h1), bAt_eq t i (by simpa using h2)] at h3
  simpa using h3
structure Agr (s t : ByteArray) (p q m : Nat) : Prop where
 hs : p + m ≤ s.size
 ht : q + m ≤ t.size
 h : ∀ j, j < m → bAt t (q + j) = bAt s (p + j)
theorem Agr.ext {s t : ByteArray} {p q m : Nat} (h : Agr s t p q m) : t.extract q (q + m) = s.extract p (p + m) := by
 have h1 := h.hs
 have h2 := h.ht
 have e1 : (t.extract q (q + m)).size = m := by rw [extract_size h2]; omega
 have e2 : (s.extract p (p + m)).size = m := by rw [extract_size h1]; omega
 refine bytes_ext (by omega) fun j hj => ?_
 rw [e1] at hj
 rw [bAt_ext (by omega) h2, bAt_ext (by omega) h1]
 exact h.h j hj
theorem Agr.part {s t : ByteArray} {p q m : Nat} (h : Agr s t p q m) {i k : Nat} (hk : i + k ≤ m) : Agr s t (p + i) (q + i) k := by
 have h1 := h.hs
 have h2 := h.ht
 refine ⟨by omega, by omega, fun j hj => ?_⟩
 rw [Nat.add_assoc, Nat.add_assoc]
 exact h.h _ (by omega)
theorem Agr.first {s t : ByteArray} {p q m : Nat} (h : Agr s t p q m) (hm : 0 < m) : bAt t q = bAt s p := h.h 0 hm
theorem run_shift {F : UInt8 → Bool} {s t : ByteArray} {p q m : Nat} (h : Agr s t p q m) (hr : pre F (s.extract p s.size) = m) (hf : q + m < t.size → F (bAt t (q + m)) = false) : pre F (t.extract q t.size) = q + m - q := by
 have h1 := h.hs
 have hz : (s.extract p s.size).size = s.size - p := by simp
 refine pre_ext (by omega) h.ht (fun j h2 h3 => ?_) hf
 rw [show j = q + (j - q) by omega, h.h _ (by omega), ← bAt_ext (a := p) (b := s.size) (by omega) (Nat.le_refl _)]
 exact pre_lt (by omega)
theorem run_next {F : UInt8 → Bool} {s : ByteArray} {p m : Nat} (hr : pre F (s.extract p s.size) = m) (h : p + m < s.size) : F (bAt s (p + m)) = false := by
 have hz : (s.extract p s.size).size = s.size - p := by simp
 have h3 := pre_stop (F := F) (s := s.extract p s.size) (by omega)
 rw [hr, bAt_ext (by omega) (Nat.le_refl _)] at h3
 exact h3
theorem blank_nat {c : UInt8} (h : isBlank c = true) : (c.toNat : Int) = 32 ∨ (c.toNat : Int) = 9 ∨ (c.toNat : Int) = 10 := by
 simp only [isBlank, Bool.or_eq_true, decide_eq_true_eq] at h
 omega
theorem blank_alnum {c : UInt8} (h : isBlank c = true) : alnumB c = false ∧ digitB c = false ∧ letterB c = false ∧ ¬ c.toNat = 61 := by
 have h1 := blank_nat h
 have h2 : letterB c = false := by
  simp only [letterB, Bool.and_eq_false_iff, decide_eq_false_iff_not]
  omega
 have h3 : digitB c = false := by
  simp only [digitB, Bool.and_eq_false_iff, decide_eq_false_iff_not]
  omega
 refine ⟨by simp [alnumB, h2, h3], h3, h2, by omega⟩
def Foll (s t : ByteArray) (p q m : Nat) : Prop := q + m < t.size → isBlank (bAt t (q + m)) = true ∨ (p + m < s.size ∧ bAt t (q + m) = bAt s (p + m))
theorem Foll.run {F : UInt8 → Bool} {s t : ByteArray} {p q m : Nat} (h : Foll s t p q m) (hF : ∀ c, isBlank c = true → F c = false) (hr : pre F (s.extract p s.size) = m) : q + m < t.size → F (bAt t (q + m)) = false := fun h1 => by
 rcases h h1 with h2 | ⟨h2, h3⟩
 ·exact hF _ h2
 ·rw [h3]
  exact run_next hr h2
theorem signTo_two {s : ByteArray} {p : Nat} (h : p + 1 < s.size) (h1 : (bAt s (p + 1)).toNat = 61) (h2 : (bAt s p).toNat = 61) : signTo s p = 2 := by
 unfold signTo
 rw [if_pos ⟨h, h1, h2⟩]
theorem signTo_one {s : ByteArray} {p : Nat} (h : ¬ (p + 1 < s.size ∧ (bAt s (p + 1)).toNat = 61 ∧ (bAt s p).toNat = 61)) : signTo s p = if singleB (bAt s p) then 1 else 0 := by
 unfold signTo
 rw [if_neg h]
theorem sign_shift {s t : ByteArray} {p q m : Nat} (hm : (m : Int) = signTo s p) (hm0 : 0 < m) (ha : Agr s t p q m) (hf : Foll s t p q m) : signTo t q = m := by
 have h1 := ha.hs
 have h2 := ha.ht
 have h0 := ha.first hm0
 by_cases hc : p + 1 < s.size ∧ (bAt s (p + 1)).toNat = 61 ∧ (bAt s p).toNat = 61
 ·have h3 := signTo_two hc.1 hc.2.1 hc.2.2
  have h4 : m = 2 := by omega
  subst h4
  rw [signTo_two (by omega) (by rw [ha.h 1 (by omega)]; exact hc.2.1) (by rw [h0]; exact hc.2.2)]
  rfl
 ·rw [signTo_one hc] at hm
  have hs : singleB (bAt s p) = true ∧ m = 1 := by
   by_cases h : singleB (bAt s p) = true
   ·rw [if_pos h] at hm; exact ⟨h, by omega⟩
   ·rw [if_neg h] at hm; omega
  obtain ⟨h3, rfl⟩ := hs
  rw [signTo_one (fun h => ?_), h0, h3]
  ·rfl
  ·rcases hf h.1 with h4 | ⟨h4, h5⟩
   ·exact (blank_alnum h4).2.2.2 h.2.1
   ·exact hc ⟨h4, by rw [← h5]; exact h.2.1, by rw [← h0]; exact h.2.2⟩
theorem tok_shift {s t : ByteArray} {p q : Nat} {x : Tok} (hp : p < s.size) (h : tokenV s p = (x, 0)) (ha : Agr s t p q x.s.size) (hf : Foll s t p q x.s.size) : tokenV t q = ({ x with p := q }, 0) := by
 obtain ⟨_, h2, h3, h4, h5⟩ := tokenV_form hp h
 have h0 := ha.first h2
 have h6 := ha.ext
 have h7 := ha.ht
 rw [← h4] at h6
 rcases h5 with ⟨k0, k1, k2, k3, k4⟩ | ⟨k0, k1, k2, k3, k4, k5⟩ | ⟨k0, k1, k2, k3, k4⟩
 ·rw [token_word (k := q + x.s.size) (by rw [h0]; exact k1) (by omega) h7 (run_shift ha k2.symm (hf.run (fun c hc => (blank_alnum hc).1) k2.symm)), if_pos (by omega), h6]
  obtain ⟨a, b, c, d⟩ := x
  simp only at k0 k4
  subst k0
  subst k4
  rfl
 ·rw [token_num (k := q + x.s.size) (by rw [h0]; exact k1) (by rw [h0]; exact k2) (by omega) h7 (run_shift ha k3.symm (hf.run (fun c hc => (blank_alnum hc).2.1) k3.symm)), h6, if_pos k4]
  obtain ⟨a, b, c, d⟩ := x
  simp only at k0 k5
  subst k0
  subst k5
  rfl
 ·have h8 := sign_shift k3 h2 ha hf
  rw [token_sign (by rw [h0]; exact k1) (by rw [h0]; exact k2) (by omega), if_neg (by omega), h8, Int.toNat_natCast, h6]
  obtain ⟨a, b, c, d⟩ := x
  simp only at k0 k4
  subst k0
  subst k4
  rfl
structure Seg (s t : ByteArray) (a : Nat) : Prop where
 agr : Agr s t 0 a s.size
 fol : a + s.size < t.size → isBlank (bAt t (a + s.size)) = true
theorem Seg.foll {s t : ByteArray} {a p m : Nat} (h : Seg s t a) (hm : p + m ≤ s.size) : Foll s t p (a + p) m := fun h1 => by
 by_cases h2 : p + m = s.size
 ·rw [show a + p + m = a + s.size by omega] at h1 ⊢
  exact .inl (h.fol h1)
 ·refine .inr ⟨by omega, ?_⟩
  have := h.agr.h (p + m) (by omega)
  rw [Nat.zero_add] at this
  rw [← this, Nat.add_assoc]
theorem Seg.at {s t : ByteArray} {a p m : Nat} (h : Seg s t a) (hm : p + m ≤ s.size) : Agr s t p (a + p) m := by
 have := h.agr.part hm
 rwa [Nat.zero_add] at this
theorem Seg.byte {s t : ByteArray} {a p : Nat} (h : Seg s t a) (hp : p < s.size) : bAt t (a + p) = bAt s p := (h.at (p := p) (m := 1) (by omega)).first (by omega)
theorem Seg.tok {s t : ByteArray} {a p : Nat} {x : Tok} (h : Seg s t a) (hp : p < s.size) (ht : tokenV s p = (x, 0)) : tokenV t (a + p) = ({ x with p := ((a + p : Nat) : Int) }, 0) := by
 obtain ⟨_, _, h3, _⟩ := tokenV_form hp ht
 exact tok_shift hp ht (h.at h3) (h.foll h3)
theorem Seg.err {s t : ByteArray} {a p : Nat} {x : Tok} {e : Int} (h : Seg s t a) (hp : p < s.size) (ht : tokenV s p = (x, e)) (he : ¬ e = 0) : tokenV t (a + p) = (x, e) := by
 have hz : (s.extract p s.size).size = s.size - p := by simp
 have h0 := h.byte hp
 have hat := h.agr.ht
 have hpos : ∀ F : UInt8 → Bool, F (bAt s p) = true → 0 < pre F (s.extract p s.size) := by
  intro F hF
  rcases Nat.eq_zero_or_pos (pre F (s.extract p s.size)) with h | h
  ·exfalso
   have h1 := run_next h (by omega)
   rw [Nat.add_zero, hF] at h1
   cases h1
  ·exact h
 have hle : ∀ F : UInt8 → Bool, pre F (s.extract p s.size) ≤ s.size - p := fun F => by have := pre_le F (s.extract p s.size); omega
 cases hl : letterB (bAt s p)
 ·cases hd : digitB (bAt s p)
  ·rw [token_sign hl hd hp] at ht
   by_cases h2 : signTo s p = 0
   ·rw [if_pos h2] at ht
    have hsg : singleB (bAt s p) = false := by
     unfold signTo at h2
     split at h2
     ·cases h2
     ·split at h2
      ·cases h2
      ·simp_all
    have h3 : signTo t (a + p) = 0 := by
     have hne : ¬ (bAt s p).toNat = 61 := fun h61 => by
      have : bAt s p = 61 := by rw [byte_eq]; exact h61
      rw [this] at hsg
      revert hsg
      decide
     rw [signTo_one (by rw [h0]; exact fun h => hne h.2.2), h0, hsg]
     rfl
    rw [token_sign (by rw [h0]; exact hl) (by rw [h0]; exact hd) (by omega), if_pos h3]
    exact ht
   ·rw [if_neg h2] at ht
    cases ht
    exact absurd rfl he
  ·have h1 := hpos digitB hd
   have h2 := hle digitB
   have h3 := h.at (p := p) (m := pre digitB (s.extract p s.size)) (by omega)
   have h4 := h.foll (p := p) (m := pre digitB (s.extract p s.size)) (by omega)
   rw [token_num (k := p + pre digitB (s.extract p s.size)) hl hd (by omega) (by omega) (by omega)] at ht
   rw [token_num (k := a + p + pre digitB (s.extract p s.size)) (by rw [h0]; exact hl) (by rw [h0]; exact hd) (by omega) h3.ht (run_shift h3 rfl (h4.run (fun c hc => (blank_alnum hc).2.1) rfl)), h3.ext]
   split at ht
   ·cases ht
    exact absurd rfl he
   ·rename_i h5
    rw [if_neg h5]
    exact ht
 ·have h1 := hpos alnumB (alnum_of hl)
  have h2 := hle alnumB
  have h3 := h.at (p := p) (m := pre alnumB (s.extract p s.size)) (by omega)
  have h4 := h.foll (p := p) (m := pre alnumB (s.extract p s.size)) (by omega)
  rw [token_word (k := p + pre alnumB (s.extract p s.size)) hl (by omega) (by omega) (by omega)] at ht
  rw [token_word (k := a + p + pre alnumB (s.extract p s.size)) (by rw [h0]; exact hl) (by omega) h3.ht (run_shift h3 rfl (h4.run (fun c hc => (blank_alnum hc).1) rfl)), h3.ext]
  split at ht
  ·cases ht
   exact absurd rfl he
  ·rename_i h5
   rw [if_neg (by omega)]
   exact ht
theorem Seg.skp {s t : ByteArray} {a p : Nat} (h : Seg s t a) (hp : p ≤ s.size) (hk : skip s p < s.size) : skip t (a + p) = a + skip s p := by
 have h1 := skip_le hp
 have h2 := h.agr.ht
 obtain ⟨h3, h4⟩ := skip_fact hp
 refine skip_is (by omega) (by omega) (fun j h5 h6 => ?_) (fun _ => ?_)
 ·rw [show j = a + (j - a) by omega, h.byte (by omega)]
  exact h3 _ (by omega) (by omega)
 ·rw [h.byte hk]
  exact h4 hk
theorem skip_over {t : ByteArray} {p q : Nat} (hpq : p ≤ q) (hq : q ≤ t.size) (h : ∀ j, p ≤ j → j < q → isBlank (bAt t j) = true) : skip t p = skip t q := by
 have h1 := skip_le hq
 obtain ⟨h3, h4⟩ := skip_fact hq
 refine skip_is (by omega) h1.2 (fun j h5 h6 => ?_) h4
 by_cases h7 : j < q
 ·exact h j h5 h7
 ·exact h3 j (by omega) h6
theorem Seg.skpEnd {s t : ByteArray} {a p : Nat} (h : Seg s t a) (hp : p ≤ s.size) (hk : skip s p = s.size) : skip t (a + p) = skip t (a + s.size) := by
 have h2 := h.agr.ht
 obtain ⟨h3, h4⟩ := skip_fact hp
 refine skip_over (by omega) (by omega) (fun j h5 h6 => ?_)
 rw [show j = a + (j - a) by omega, h.byte (by omega)]
 exact h3 _ (by omega) (by omega)
theorem LexOk.from {s : ByteArray} {p q : Nat} {l : List Tok} (h : LexOk s q l) (hp : p ≤ s.size) (hk : skip s p = skip s q) : LexOk s p l := by
 cases h with
 | stop _ _ h1 => exact .stop p hp (hk.trans h1)
 | tok _ t r _ h1 h2 h3 => exact .tok p t r hp (by rw [hk]; exact h1) (by rw [hk]; exact h2) (by rw [hk]; exact h3)
theorem LexErr.from {s : ByteArray} {p q a : Nat} {e : Int} (h : LexErr s q a e) (hp : p ≤ s.size) (hk : skip s p = skip s q) : LexErr s p a e := by
 cases h with
 | here _ t _ _ h1 h2 h3 => rw [← hk]; exact .here p t e hp (by rw [hk]; exact h1) (by rw [hk]; exact h2) h3
 | tok _ _ t _ _ h1 h2 h3 => exact .tok p a t e hp (by rw [hk]; exact h1) (by rw [hk]; exact h2) (by rw [hk]; exact h3)
def Tok.move (a : Nat) (t : Tok) : Tok := { t with p := t.p + a }
theorem LexOk.last {s : ByteArray} {p : Nat} {l : List Tok} (h : LexOk s p l) : ∃ m, l = m ++ [endTok s.size] := by
 induction h with
 | stop => exact ⟨[], rfl⟩
 | tok p t l hp h ht hl ih =>
  obtain ⟨m, rfl⟩ := ih
  exact ⟨t :: m, rfl⟩
theorem Seg.ok {s t : ByteArray} {a p : Nat} {l : List Tok} (h : Seg s t a) (hl : LexOk s p l) :
  (∀ r, LexOk t (a + s.size) r → LexOk t (a + p) ((l.take (l.length - 1)).map (Tok.move a) ++ r)) ∧ (∀ b e, LexErr t (a + s.size) b e → LexErr t (a + p) b e) := by
 have hat := h.agr.ht
 induction hl with
 | stop p hp h1 =>
  have h2 := h.skpEnd hp h1
  exact ⟨fun r hr => by simpa using hr.from (by omega) h2, fun b e he => he.from (by omega) h2⟩
 | tok p x l hp h1 h2 h3 ih =>
  have h4 := skip_le hp
  have h5 := h.skp hp (by omega)
  have h6 := h.tok (by omega) h2
  obtain ⟨q1, q2, q3, _⟩ := tokenV_form (by omega) h2
  obtain ⟨m, rfl⟩ := h3.last
  have h7 : (x :: (m ++ [endTok s.size])).take ((x :: (m ++ [endTok s.size])).length - 1) = x :: m := by simp
  have h8 : (m ++ [endTok s.size]).take ((m ++ [endTok s.size]).length - 1) = m := by simp
  rw [h8, ← Nat.add_assoc] at ih
  rw [h7]
  have h9 : ({ x with p := ((a + skip s p : Nat) : Int) } : Tok) = Tok.move a x := by
   unfold Tok.move
   rw [q1]
   have hq : ((a + skip s p : Nat) : Int) = (skip s p : Int) + (a : Int) := by omega
   rw [hq]
  rw [h9] at h6
  refine ⟨fun r hr => ?_, fun b e he => ?_⟩
  ·refine .tok (a + p) (Tok.move a x) _ (by omega) (by omega) (by rw [h5]; exact h6) ?_
   rw [h5]
   exact ih.1 r hr
  ·refine .tok (a + p) b (Tok.move a x) e (by omega) (by omega) (by rw [h5]; exact h6) ?_
   rw [h5]
   exact ih.2 b e he
theorem Seg.bad {s t : ByteArray} {a p b : Nat} {e : Int} (h : Seg s t a) (hl : LexErr s p b e) : LexErr t (a + p) (a + b) e := by
 have hat := h.agr.ht
 induction hl with
 | here p x e hp h1 h2 h3 =>
  have h4 := skip_le hp
  have h5 := h.skp hp (by omega)
  rw [← h5]
  exact .here (a + p) x e (by omega) (by omega) (by rw [h5]; exact h.err (by omega) h2 h3) h3
 | tok p b x e hp h1 h2 h3 ih =>
  have h4 := skip_le hp
  have h5 := h.skp hp (by omega)
  refine .tok (a + p) (a + b) _ e (by omega) (by omega) (by rw [h5]; exact h.tok (by omega) h2) ?_
  rw [h5, Nat.add_assoc]
  exact ih
end Go.Proofs.YtedoeogopmenpaaGreatDoor
end
section
set_option linter.unusedSimpArgs false
set_option linter.unusedVariables false
namespace Go.Proofs.YtedoeogopmenpaaGreatDoor
open Go.RowKit
def jn (ws : List ByteArray) : ByteArray := ⟨(Lib.join (ws.map (·.data.toList)) [32]).toArray⟩
def blank1 : ByteArray := ⟨#[32]⟩
def wordsOf (l : List Tok) : List ByteArray := (l.filter fun t => !decide (t.k = 3)).map (·.s)
def textV (l : List Tok) : ByteArray := jn (wordsOf l)
theorem join_snoc (xs : List (List UInt8)) (x sep : List UInt8) : Lib.join (xs ++ [x]) sep = if xs = [] then x else Lib.join xs sep ++ sep ++ x := by
 cases xs with
 | nil => simp [Lib.join_one]
 | cons y r => simp [Lib.join_cons, Lib.joinTail]
theorem jn_snoc (ws : List ByteArray) (x : ByteArray) : jn (ws ++ [x]) = if ws = [] then x else jn ws ++ blank1 ++ x := by
 unfold jn
 rw [List.map_append, List.map_cons, List.map_nil, join_snoc]
 by_cases h : ws = []
 ·subst h
  simp
 ·have h2 : ¬ ws.map (·.data.toList) = [] := by simpa using h
  rw [if_neg h2, if_neg h]
  apply ByteArray.ext
  apply Array.toList_inj.1
  simp [blank1, ByteArray.data_append]
theorem jn_size {ws : List ByteArray} {B : Nat} (h : ∀ x ∈ ws, x.size ≤ B) : (jn ws).size ≤ ws.length * (B + 1) := by
 generalize hn : ws.length = n
 induction n generalizing ws with
 | zero =>
  rw [List.eq_nil_of_length_eq_zero hn]
  simp [jn, Lib.join_nil, ByteArray.size]
 | succ n ih =>
  rcases List.eq_nil_or_concat ws with rfl | ⟨ws, x, rfl⟩
  ·cases hn
  rw [List.concat_eq_append] at *
  have hn2 : ws.length = n := by simpa using hn
  have h1 := ih (fun y hy => h y (by simp [hy])) hn2
  rw [← hn]
  rw [← hn2] at h1
  have h2 := h x (by simp)
  rw [jn_snoc, List.length_append, Nat.add_mul]
  split
  ·simp only [List.length_cons, List.length_nil]
   omega
  ·simp only [ByteArray.size_append, List.length_cons, List.length_nil]
   have : blank1.size = 1 := rfl
   omega
theorem join_any (ws : List ByteArray) (hn : ws.length ≤ 140737488355328) (hs : (jn ws).size ≤ 140737488355328) : PureC 54 [.list 1 (ws.map fun s => [.str s]), .str blank1] (· = .str (jn ws)) := by
 refine ⟨⟨_, Tryz.func54, by decide, rfl⟩, fun w Pr vs h1 h2 h3 h4 => ?_⟩
 match vs, h3 with
 | [v1, v2], _ =>
  have e1 := h4 0 v1 _ rfl rfl
  have e2 := h4 1 v2 _ rfl rfl
  cases e2
  have hempty : ∀ a c, ws = [] → Calls Tryz.prog 54 #[.slice a 0 c, .string blank1] w (PostR w Pr (· = .str (jn ws))) := by
   intro a c hw
   subst hw
   refine (Tryz.strings_Join_none a c blank1 w).mono fun e w' ⟨he, hw⟩ => ?_
   subst hw
   exact ⟨_, _, he, rfl, .val _, Below.refl _ _⟩
  generalize hl : (ws.map fun s => [D.str s]) = l at e1
  cases e1 with
  | nil A c s hm => exact hempty _ _ (by simpa using hl)
  | list b o n c s l u hn2 hsz hc hm hr hd =>
   subst hn2
   by_cases hw : ws = []
   ·have h0 : l = [] := by rw [← hl, hw]; rfl
    subst h0
    exact hempty _ _ hw
   ·subst hl
    have hcell : ∀ (j : Nat) x, ws[j]? = some x → w.cell? ⟨b, o + j, none⟩ = some (.string x) ∧ Pr b (o + j) := by
     intro j x hx
     have h5 : (ws.map fun s => [D.str s])[j]? = some [D.str x] := by simp [hx]
     obtain ⟨h6, h7⟩ := hr j 0 _ (D.str x) h5 rfl
     have h8 := hd j 0 _ (D.str x) h5 rfl
     generalize u j 0 = z at h6 h8
     cases h8
     rw [show o + j * 1 + 0 = o + j by omega] at h6 h7
     exact ⟨h6, h7⟩
    have hb : b < w.heap.size := by
     obtain ⟨x, hx⟩ : ∃ x, ws[0]? = some x := ⟨_, List.getElem?_eq_getElem (List.length_pos_iff.2 hw)⟩
     exact h1 _ _ (hcell 0 x hx).2
    have hlen : (ws.map fun s => [D.str s]).length = ws.length := by simp
    rw [hlen] at hc ⊢
    refine (Tryz.strings_Join b o c ws blank1 w (fun j x hx => (hcell j x hx).1) hb hn hc hs).mono fun e w' ⟨he, hbel⟩ => ?_
    exact ⟨_, _, he, rfl, .val _, hbel⟩
theorem words_succ (l : List Tok) (k : Nat) (h : k < l.length) : wordsOf (l.take (k + 1)) = wordsOf (l.take k) ++ (if l[k].k = 3 then [] else [l[k].s]) := by
 rw [List.take_succ_eq_append_getElem h]
 unfold wordsOf
 rw [List.filter_append, List.map_append]
 congr 1
 by_cases h1 : l[k].k = 3 <;> simp [h1]
theorem words_len (l : List Tok) : (wordsOf l).length ≤ l.length := by
 unfold wordsOf
 rw [List.length_map]
 exact List.length_filter_le _ _
theorem words_mem {l : List Tok} {B : Nat} (h : ∀ t ∈ l, t.s.size ≤ B) : ∀ x ∈ wordsOf l, x.size ≤ B := by
 intro x hx
 obtain ⟨t, ht, rfl⟩ := List.mem_map.1 hx
 exact h t (List.mem_filter.1 ht).1
theorem text_any (l : List Tok) (hl : l.length ≤ 5000) (hb : ∀ t ∈ l, t.s.size ≤ 5000) : PureC 32 [.list 4 (l.map Tok.cells)] (· = .str (textV l)) := by
 refine pure_enter Tryz.func32 rfl (by decide) _ Tryz.ntmps32 (le_ok rfl) (fun w Pr hE => ?_)
 dsimp only [slotsOf, Nat.zero_add, Nat.reduceAdd]
 have hwl := words_len l
 have hsz := jn_size (words_mem hb)
 have hsz2 : (wordsOf l).length * (5000 + 1) ≤ 5000 * 5001 := Nat.mul_le_mul (by omega) (Nat.le_refl _)
 repeat' (first | refine nx ?_ | (apply aq_block_y; decide) | (apply qr_move; refine r_move ?_) | (apply qr_assign; refine r_assign ?_) | (apply at_cond; first | refine c_t ?_ | refine c_f ?_ | (refine aw_cond rfl (fun hb => ?_) (fun hb => ?_) <;> ((try have hq := dX hb); (try (exfalso; omega))))) | (apply qr_lss; refine r_lss ?_) | (apply qr_neq; refine r_neq ?_) | (apply qr_add; refine r_add ?_) | (apply qr_len; refine r_len ?_) | (apply qr_ix; refine r_ix ?_) | (apply at_op (.load _ _); first | refine al_y (y_load1 rfl rfl rfl) (lt_ok rfl) ?_ | refine al_y (y_loadA rfl rfl (take_all rfl rfl) rfl) (lt_ok rfl) ?_ | refine al_y (y_loadA rfl rfl rfl rfl) (lt_ok rfl) ?_ | refine al_y (y_bload1 rfl rfl rfl rfl) (lt_ok rfl) ?_ | refine al_y (y_bloadA rfl rfl rfl (by first | (simp only [normV, normList, normMap, Tok.cells]; rfl) | rfl) rfl) (lt_ok rfl) ?_ | refine al_y (y_glob hE (by unfold laidG; first | exact List.Mem.head _ | exact .tail _ (.head _) | exact .tail _ (.tail _ (.head _))) rfl rfl) (lt_ok rfl) ?_) | (apply qr_faddr; refine r_faddr ?_) | (apply at_op (.alloc _); refine al_step (st_alloc rfl (by first | (simp only [normV, normList, normMap, Tok.cells]; rfl) | rfl) rfl (lt_ok rfl) rfl) rfl ?_) | (apply at_op (.store _ _ _); first | refine al_step (st_store rfl rfl (ev_d rfl) nofun (by first | (simp only [normV, normList, normMap, Tok.cells]; rfl) | rfl) (by simp [V.one, Value.oneCell', Tok.cells]) (.inl ⟨rfl, rfl⟩) rfl (le_ok rfl) (by first | (simp only [normV, normList, normMap, Tok.cells]; rfl) | rfl)) rfl ?_ | refine al_step (st_store rfl rfl (ev_d rfl) nofun (by first | (simp only [normV, normList, normMap, Tok.cells]; rfl) | rfl) (by simp [V.one, Value.oneCell', Tok.cells]) (.inr rfl) rfl (le_ok rfl) (by first | (simp only [normV, normList, normMap, Tok.cells]; rfl) | rfl)) rfl ?_ | refine al_step (st_store rfl rfl (ev_row rfl) nofun (by first | (simp only [normV, normList, normMap, Tok.cells]; rfl) | rfl) (by simp [V.one, Value.oneCell', Tok.cells]) (.inl ⟨rfl, rfl⟩) rfl (le_ok rfl) (by first | (simp only [normV, normList, normMap, Tok.cells]; rfl) | rfl)) rfl ?_ | refine al_step (st_store rfl rfl (ev_box rfl) nofun (by first | (simp only [normV, normList, normMap, Tok.cells]; rfl) | rfl) (by simp [V.one, Value.oneCell', Tok.cells]) (.inl ⟨rfl, rfl⟩) rfl (le_ok rfl) (by first | (simp only [normV, normList, normMap, Tok.cells]; rfl) | rfl)) rfl ?_) | (apply at_op (.buildSlice _ _ _); first | refine al_step (st_lit1 rfl (by first | exact ToD.d _ | exact ToD.row _ _ _ _ _ rfl) (by first | (simp only [normV, normList, normMap, Tok.cells]; rfl) | rfl) rfl (le_ok rfl) (lt_ok rfl)) rfl ?_ | refine al_step (st_lit rfl (by repeat (first | exact PartsD.nil | (apply PartsD.cons; first | exact ToD.d _ | exact ToD.row _ _ _ _ _ rfl))) (by simp [dfill, putD, cellsD, zerosD, Value.cells, Tok.cells]; rfl) (by first | (simp only [normV, normList, normMap, Tok.cells]; rfl) | rfl) (by decide) (by decide) (lt_ok rfl)) rfl ?_) | (apply at_op (.call { callee := .builtin .append, args := _, argTypes := _ }); refine al_step (st_append rfl rfl (by first | exact ToD.d _ | exact ToD.row _ _ _ _ _ rfl) rfl rfl (by simp [D.one, Value.oneCell', Tok.cells]) (by decide) (by first | (simp only [List.length_map, List.length_append, List.length_cons, List.length_nil]; omega) | omega) (by first | (simp only [List.length_map, List.length_append, List.length_cons, List.length_nil]; omega) | omega) (lt_ok rfl)) rfl ?_))
 refine aw_adopt 3 3 9 1 rfl rfl (lt_ok rfl) ?_
 refine aw_loop2 (fun n sl ob => ∃ k v : Nat, n = l.length - k ∧ k ≤ l.length ∧ sl = [(8, .d (.int k)), (7, .d (.int l.length)), (6, .d (.list 4 (l.map Tok.cells))), (3, .row 3 v), (2, .d (.str ⟨#[]⟩))] ∧ ob = [(3, .row 9 1 v ((wordsOf (l.take k)).map fun s => [D.str s]))]) (_) _ _ (⟨0, 0, rfl, by omega, rfl, rfl⟩) ?_ ?_ ?_
 ·(repeat (first | exact sub_nil | (apply sub_cons; focus (first | rfl | exact vint (by first | omega | (simp only [Tok.cells]; omega)) | (simp [look, Tok.cells]; done)))))
 ·(repeat (first | exact obs_nil | (apply obs_cons; focus (first | rfl | (simp [find, Tok.cells]; done)))))
 rintro n sl ob ⟨k, v, rfl, hk, rfl, rfl⟩
 have hwk := words_len (l.take k)
 have htk : (l.take k).length = k := by simp; omega
 by_cases hlt : k < l.length
 ·have hws := words_succ l k hlt
  by_cases h3 : l[k].k = 3
  ·have e1 : (!decide (l[k].k = 3)) = false := by simp [h3]
   rw [if_pos h3, List.append_nil] at hws
   repeat' (first | refine nx ?_ | (apply aq_block_y; decide) | (apply qr_move; refine r_move ?_) | (apply qr_assign; refine r_assign ?_) | (apply at_cond; first | refine c_t ?_ | refine c_f ?_ | (refine aw_cond rfl (fun hb => ?_) (fun hb => ?_) <;> ((try have hq := dX hb); (try (exfalso; omega))))) | (apply qr_lss; refine r_lss ?_) | (apply qr_neq; refine r_neq ?_) | (apply qr_add; refine r_add ?_) | (apply qr_len; refine r_len ?_) | (apply qr_ix; refine r_ix ?_) | (apply at_op (.load _ _); first | refine al_y (y_load1 rfl rfl rfl) (lt_ok rfl) ?_ | refine al_y (y_loadA rfl rfl (take_all rfl rfl) rfl) (lt_ok rfl) ?_ | refine al_y (y_loadA rfl rfl rfl rfl) (lt_ok rfl) ?_ | refine al_y (y_bload1 rfl rfl rfl rfl) (lt_ok rfl) ?_ | refine al_y (y_bloadA rfl rfl rfl (by first | (simp only [normV, normList, normMap, Tok.cells]; rfl) | rfl) rfl) (lt_ok rfl) ?_ | refine al_y (y_glob hE (by unfold laidG; first | exact List.Mem.head _ | exact .tail _ (.head _) | exact .tail _ (.tail _ (.head _))) rfl rfl) (lt_ok rfl) ?_) | (apply qr_faddr; refine r_faddr ?_) | (apply at_op (.alloc _); refine al_step (st_alloc rfl (by first | (simp only [normV, normList, normMap, Tok.cells]; rfl) | rfl) rfl (lt_ok rfl) rfl) rfl ?_) | (apply at_op (.store _ _ _); first | refine al_step (st_store rfl rfl (ev_d rfl) nofun (by first | (simp only [normV, normList, normMap, Tok.cells]; rfl) | rfl) (by simp [V.one, Value.oneCell', Tok.cells]) (.inl ⟨rfl, rfl⟩) rfl (le_ok rfl) (by first | (simp only [normV, normList, normMap, Tok.cells]; rfl) | rfl)) rfl ?_ | refine al_step (st_store rfl rfl (ev_d rfl) nofun (by first | (simp only [normV, normList, normMap, Tok.cells]; rfl) | rfl) (by simp [V.one, Value.oneCell', Tok.cells]) (.inr rfl) rfl (le_ok rfl) (by first | (simp only [normV, normList, normMap, Tok.cells]; rfl) | rfl)) rfl ?_ | refine al_step (st_store rfl rfl (ev_row rfl) nofun (by first | (simp only [normV, normList, normMap, Tok.cells]; rfl) | rfl) (by simp [V.one, Value.oneCell', Tok.cells]) (.inl ⟨rfl, rfl⟩) rfl (le_ok rfl) (by first | (simp only [normV, normList, normMap, Tok.cells]; rfl) | rfl)) rfl ?_ | refine al_step (st_store rfl rfl (ev_box rfl) nofun (by first | (simp only [normV, normList, normMap, Tok.cells]; rfl) | rfl) (by simp [V.one, Value.oneCell', Tok.cells]) (.inl ⟨rfl, rfl⟩) rfl (le_ok rfl) (by first | (simp only [normV, normList, normMap, Tok.cells]; rfl) | rfl)) rfl ?_) | (apply at_op (.buildSlice _ _ _); first | refine al_step (st_lit1 rfl (by first | exact ToD.d _ | exact ToD.row _ _ _ _ _ rfl) (by first | (simp only [normV, normList, normMap, Tok.cells]; rfl) | rfl) rfl (le_ok rfl) (lt_ok rfl)) rfl ?_ | refine al_step (st_lit rfl (by repeat (first | exact PartsD.nil | (apply PartsD.cons; first | exact ToD.d _ | exact ToD.row _ _ _ _ _ rfl))) (by simp [dfill, putD, cellsD, zerosD, Value.cells, Tok.cells]; rfl) (by first | (simp only [normV, normList, normMap, Tok.cells]; rfl) | rfl) (by decide) (by decide) (lt_ok rfl)) rfl ?_) | (apply at_op (.call { callee := .builtin .append, args := _, argTypes := _ }); refine al_step (st_append rfl rfl (by first | exact ToD.d _ | exact ToD.row _ _ _ _ _ rfl) rfl rfl (by simp [D.one, Value.oneCell', Tok.cells]) (by decide) (by first | (simp only [List.length_map, List.length_append, List.length_cons, List.length_nil]; omega) | omega) (by first | (simp only [List.length_map, List.length_append, List.length_cons, List.length_nil]; omega) | omega) (lt_ok rfl)) rfl ?_))
   refine aq_round _ _ _ (⟨k + 1, v, rfl, by omega, rfl, by rw [hws]⟩) (by omega) ?_ ?_
   ·(repeat (first | exact sub_nil | (apply sub_cons; focus (first | rfl | exact vint (by first | omega | (simp only [Tok.cells]; omega)) | (simp [look, Tok.cells]; done)))))
   ·(repeat (first | exact obs_nil | (apply obs_cons; focus (first | rfl | (simp [find, Tok.cells]; done)))))
  ·have e1 : (!decide (l[k].k = 3)) = true := by simp [h3]
   rw [if_neg h3] at hws
   repeat' (first | refine nx ?_ | (apply aq_block_y; decide) | (apply qr_move; refine r_move ?_) | (apply qr_assign; refine r_assign ?_) | (apply at_cond; first | refine c_t ?_ | refine c_f ?_ | (refine aw_cond rfl (fun hb => ?_) (fun hb => ?_) <;> ((try have hq := dX hb); (try (exfalso; omega))))) | (apply qr_lss; refine r_lss ?_) | (apply qr_neq; refine r_neq ?_) | (apply qr_add; refine r_add ?_) | (apply qr_len; refine r_len ?_) | (apply qr_ix; refine r_ix ?_) | (apply at_op (.load _ _); first | refine al_y (y_load1 rfl rfl rfl) (lt_ok rfl) ?_ | refine al_y (y_loadA rfl rfl (take_all rfl rfl) rfl) (lt_ok rfl) ?_ | refine al_y (y_loadA rfl rfl rfl rfl) (lt_ok rfl) ?_ | refine al_y (y_bload1 rfl rfl rfl rfl) (lt_ok rfl) ?_ | refine al_y (y_bloadA rfl rfl rfl (by first | (simp only [normV, normList, normMap, Tok.cells]; rfl) | rfl) rfl) (lt_ok rfl) ?_ | refine al_y (y_glob hE (by unfold laidG; first | exact List.Mem.head _ | exact .tail _ (.head _) | exact .tail _ (.tail _ (.head _))) rfl rfl) (lt_ok rfl) ?_) | (apply qr_faddr; refine r_faddr ?_) | (apply at_op (.alloc _); refine al_step (st_alloc rfl (by first | (simp only [normV, normList, normMap, Tok.cells]; rfl) | rfl) rfl (lt_ok rfl) rfl) rfl ?_) | (apply at_op (.store _ _ _); first | refine al_step (st_store rfl rfl (ev_d rfl) nofun (by first | (simp only [normV, normList, normMap, Tok.cells]; rfl) | rfl) (by simp [V.one, Value.oneCell', Tok.cells]) (.inl ⟨rfl, rfl⟩) rfl (le_ok rfl) (by first | (simp only [normV, normList, normMap, Tok.cells]; rfl) | rfl)) rfl ?_ | refine al_step (st_store rfl rfl (ev_d rfl) nofun (by first | (simp only [normV, normList, normMap, Tok.cells]; rfl) | rfl) (by simp [V.one, Value.oneCell', Tok.cells]) (.inr rfl) rfl (le_ok rfl) (by first | (simp only [normV, normList, normMap, Tok.cells]; rfl) | rfl)) rfl ?_ | refine al_step (st_store rfl rfl (ev_row rfl) nofun (by first | (simp only [normV, normList, normMap, Tok.cells]; rfl) | rfl) (by simp [V.one, Value.oneCell', Tok.cells]) (.inl ⟨rfl, rfl⟩) rfl (le_ok rfl) (by first | (simp only [normV, normList, normMap, Tok.cells]; rfl) | rfl)) rfl ?_ | refine al_step (st_store rfl rfl (ev_box rfl) nofun (by first | (simp only [normV, normList, normMap, Tok.cells]; rfl) | rfl) (by simp [V.one, Value.oneCell', Tok.cells]) (.inl ⟨rfl, rfl⟩) rfl (le_ok rfl) (by first | (simp only [normV, normList, normMap, Tok.cells]; rfl) | rfl)) rfl ?_) | (apply at_op (.buildSlice _ _ _); first | refine al_step (st_lit1 rfl (by first | exact ToD.d _ | exact ToD.row _ _ _ _ _ rfl) (by first | (simp only [normV, normList, normMap, Tok.cells]; rfl) | rfl) rfl (le_ok rfl) (lt_ok rfl)) rfl ?_ | refine al_step (st_lit rfl (by repeat (first | exact PartsD.nil | (apply PartsD.cons; first | exact ToD.d _ | exact ToD.row _ _ _ _ _ rfl))) (by simp [dfill, putD, cellsD, zerosD, Value.cells, Tok.cells]; rfl) (by first | (simp only [normV, normList, normMap, Tok.cells]; rfl) | rfl) (by decide) (by decide) (lt_ok rfl)) rfl ?_) | (apply at_op (.call { callee := .builtin .append, args := _, argTypes := _ }); refine al_step (st_append rfl rfl (by first | exact ToD.d _ | exact ToD.row _ _ _ _ _ rfl) rfl rfl (by simp [D.one, Value.oneCell', Tok.cells]) (by decide) (by first | (simp only [List.length_map, List.length_append, List.length_cons, List.length_nil]; omega) | omega) (by first | (simp only [List.length_map, List.length_append, List.length_cons, List.length_nil]; omega) | omega) (lt_ok rfl)) rfl ?_))
   refine aq_round _ _ _ (⟨k + 1, v + 1, rfl, by omega, rfl, by rw [hws, List.map_append]⟩) (by omega) ?_ ?_
   ·(repeat (first | exact sub_nil | (apply sub_cons; focus (first | rfl | exact vint (by first | omega | (simp only [Tok.cells]; omega)) | (simp [look, Tok.cells]; done)))))
   ·(repeat (first | exact obs_nil | (apply obs_cons; focus (first | rfl | (simp [find, Tok.cells]; done)))))
 ·obtain rfl : k = l.length := by omega
  rw [List.take_length] at *
  repeat' (first | (apply at_call; refine k_call (join_any (wordsOf l) (by omega) (by omega)) hE ?_; rintro _ rfl) | refine nx ?_ | (apply aq_block_y; decide) | (apply qr_move; refine r_move ?_) | (apply qr_assign; refine r_assign ?_) | (apply at_cond; first | refine c_t ?_ | refine c_f ?_ | (refine aw_cond rfl (fun hb => ?_) (fun hb => ?_) <;> ((try have hq := dX hb); (try (exfalso; omega))))) | (apply qr_lss; refine r_lss ?_) | (apply qr_neq; refine r_neq ?_) | (apply qr_add; refine r_add ?_) | (apply qr_len; refine r_len ?_) | (apply qr_ix; refine r_ix ?_) | (apply at_op (.load _ _); first | refine al_y (y_load1 rfl rfl rfl) (lt_ok rfl) ?_ | refine al_y (y_loadA rfl rfl (take_all rfl rfl) rfl) (lt_ok rfl) ?_ | refine al_y (y_loadA rfl rfl rfl rfl) (lt_ok rfl) ?_ | refine al_y (y_bload1 rfl rfl rfl rfl) (lt_ok rfl) ?_ | refine al_y (y_bloadA rfl rfl rfl (by first | (simp only [normV, normList, normMap, Tok.cells]; rfl) | rfl) rfl) (lt_ok rfl) ?_ | refine al_y (y_glob hE (by unfold laidG; first | exact List.Mem.head _ | exact .tail _ (.head _) | exact .tail _ (.tail _ (.head _))) rfl rfl) (lt_ok rfl) ?_) | (apply qr_faddr; refine r_faddr ?_) | (apply at_op (.alloc _); refine al_step (st_alloc rfl (by first | (simp only [normV, normList, normMap, Tok.cells]; rfl) | rfl) rfl (lt_ok rfl) rfl) rfl ?_) | (apply at_op (.store _ _ _); first | refine al_step (st_store rfl rfl (ev_d rfl) nofun (by first | (simp only [normV, normList, normMap, Tok.cells]; rfl) | rfl) (by simp [V.one, Value.oneCell', Tok.cells]) (.inl ⟨rfl, rfl⟩) rfl (le_ok rfl) (by first | (simp only [normV, normList, normMap, Tok.cells]; rfl) | rfl)) rfl ?_ | refine al_step (st_store rfl rfl (ev_d rfl) nofun (by first | (simp only [normV, normList, normMap, Tok.cells]; rfl) | rfl) (by simp [V.one, Value.oneCell', Tok.cells]) (.inr rfl) rfl (le_ok rfl) (by first | (simp only [normV, normList, normMap, Tok.cells]; rfl) | rfl)) rfl ?_ | refine al_step (st_store rfl rfl (ev_row rfl) nofun (by first | (simp only [normV, normList, normMap, Tok.cells]; rfl) | rfl) (by simp [V.one, Value.oneCell', Tok.cells]) (.inl ⟨rfl, rfl⟩) rfl (le_ok rfl) (by first | (simp only [normV, normList, normMap, Tok.cells]; rfl) | rfl)) rfl ?_ | refine al_step (st_store rfl rfl (ev_box rfl) nofun (by first | (simp only [normV, normList, normMap, Tok.cells]; rfl) | rfl) (by simp [V.one, Value.oneCell', Tok.cells]) (.inl ⟨rfl, rfl⟩) rfl (le_ok rfl) (by first | (simp only [normV, normList, normMap, Tok.cells]; rfl) | rfl)) rfl ?_) | (apply at_op (.buildSlice _ _ _); first | refine al_step (st_lit1 rfl (by first | exact ToD.d _ | exact ToD.row _ _ _ _ _ rfl) (by first | (simp only [normV, normList, normMap, Tok.cells]; rfl) | rfl) rfl (le_ok rfl) (lt_ok rfl)) rfl ?_ | refine al_step (st_lit rfl (by repeat (first | exact PartsD.nil | (apply PartsD.cons; first | exact ToD.d _ | exact ToD.row _ _ _ _ _ rfl))) (by simp [dfill, putD, cellsD, zerosD, Value.cells, Tok.cells]; rfl) (by first | (simp only [normV, normList, normMap, Tok.cells]; rfl) | rfl) (by decide) (by decide) (lt_ok rfl)) rfl ?_) | (apply at_op (.call { callee := .builtin .append, args := _, argTypes := _ }); refine al_step (st_append rfl rfl (by first | exact ToD.d _ | exact ToD.row _ _ _ _ _ rfl) rfl rfl (by simp [D.one, Value.oneCell', Tok.cells]) (by decide) (by first | (simp only [List.length_map, List.length_append, List.length_cons, List.length_nil]; omega) | omega) (by first | (simp only [List.length_map, List.length_append, List.length_cons, List.length_nil]; omega) | omega) (lt_ok rfl)) rfl ?_))
  refine rt1 ?_
  rfl
end Go.Proofs.YtedoeogopmenpaaGreatDoor
end
section
namespace Go.Proofs.YtedoeogopmenpaaGreatDoor
theorem lexF_len (s : ByteArray) (n p : Nat) (out : List Tok) : (lexF s n p out).1.length ≤ out.length + n := by
 induction n generalizing p out with
 | zero => simp [lexF]
 | succ n ih =>
  rw [lexF]
  split
  ·simp
  ·split
   ·have := ih (skip s p + (tokenV s (skip s p)).1.s.size) (out ++ [(tokenV s (skip s p)).1])
    simp only [List.length_append, List.length_cons, List.length_nil] at this
    omega
   ·simp
theorem lexV_len (s : ByteArray) : (lexV s).1.length ≤ s.size + 1 := by
 unfold lexV
 split
 ·simp
 ·have := lexF_len s (s.size + 1) 0 []
  simpa using this
theorem LexErr.le {s : ByteArray} {p a : Nat} {e : Int} (h : LexErr s p a e) : p ≤ a ∧ a < s.size := by
 induction h with
 | here p t e hp h ht he => have := skip_le hp; omega
 | tok p a t e hp h ht hl ih => have := skip_le hp; omega
theorem LexErr.what {s : ByteArray} {p a : Nat} {e : Int} (h : LexErr s p a e) : ∃ x, tokenV s a = (x, e) ∧ ¬ e = 0 ∧ isBlank (bAt s a) = false := by
 induction h with
 | here p t e hp h ht he =>
  have h1 := skip_le hp
  exact ⟨t, ht, he, (skip_fact hp).2 (by omega)⟩
 | tok p a t e hp h ht hl ih => exact ih
theorem LexErr.before {s : ByteArray} {p a : Nat} {e : Int} (h : LexErr s p a e) : ∃ l, LexOk (s.extract 0 a) p l := by
 have hl := h.le
 have hz : (s.extract 0 a).size = a := by rw [extract_size (by omega)]; omega
 have hb : ∀ j, j < a → bAt (s.extract 0 a) j = bAt s j := fun j hj => by rw [bAt_ext (by omega) (by omega), Nat.zero_add]
 clear hl
 induction h with
 | here p t e hp h ht he =>
  have h1 := skip_le hp
  obtain ⟨h2, _⟩ := skip_fact hp
  refine ⟨_, .stop p (by omega) ?_⟩
  rw [hz]
  exact skip_is h1.1 (by omega) (fun j h3 h4 => by rw [hb j h4]; exact h2 j h3 h4) (fun h => by omega)
 | tok p a t e hp h ht hl ih =>
  have h1 := skip_le hp
  have h2 := hl.le
  obtain ⟨l, h3⟩ := ih hz hb
  obtain ⟨_, q2, q3, _⟩ := tokenV_form (by omega) ht
  obtain ⟨h4, h5⟩ := skip_fact hp
  have h6 : skip (s.extract 0 a) p = skip s p := skip_is h1.1 (by omega) (fun j h7 h8 => by rw [hb j (by omega)]; exact h4 j h7 h8) (fun _ => by rw [hb _ (by omega)]; exact h5 (by omega))
  have h7 : tokenV (s.extract 0 a) (skip s p) = (t, 0) := by
   obtain ⟨q1, _⟩ := tokenV_form (by omega) ht
   rw [tok_shift (t := s.extract 0 a) (q := skip s p) (by omega) ht ⟨q3, by omega, fun j hj => hb _ (by omega)⟩ (fun h8 => .inr ⟨by omega, hb _ (by omega)⟩), ← q1]
  exact ⟨t :: l, .tok p t l (by omega) (by omega) (by rw [h6]; exact h7) (by rw [h6]; exact h3)⟩
theorem LexErr.behind {s : ByteArray} {p a : Nat} {e : Int} (h : LexErr s p a e) : LexErr (s.extract a s.size) 0 0 e := by
 obtain ⟨x, h1, h2, h3⟩ := h.what
 have hl := h.le
 have hz : (s.extract a s.size).size = s.size - a := by simp
 have hs : Seg (s.extract a s.size) s a := ⟨⟨by omega, by omega, fun j hj => by rw [Nat.zero_add, bAt_ext (by omega) (Nat.le_refl _)]⟩, fun h => by omega⟩
 have h4 : skip (s.extract a s.size) 0 = 0 := skip_stop (by omega) (by rw [bAt_ext (by omega) (Nat.le_refl _)]; exact h3)
 rcases hT : tokenV (s.extract a s.size) 0 with ⟨y, f⟩
 have h5 : f = e := by
  by_cases hf : f = 0
  ·subst hf
   have h6 := hs.tok (p := 0) (by omega) hT
   rw [Nat.add_zero, h1] at h6
   cases h6
   exact absurd rfl h2
  ·have h6 := hs.err (p := 0) (by omega) hT hf
   rw [Nat.add_zero, h1] at h6
   cases h6
   rfl
 subst h5
 have h7 : LexErr (s.extract a s.size) 0 (skip (s.extract a s.size) 0) f := .here 0 y f (Nat.zero_le _) (by omega) (by rw [h4]; exact hT) h2
 rw [h4] at h7
 exact h7
def Tk (t : Tok) : Prop := tokenV t.s 0 = ({ t with p := 0 }, 0) ∧ 0 < t.s.size ∧ ¬ t.k = 3
theorem tk_of {s : ByteArray} {p : Nat} {t : Tok} (hp : p < s.size) (h : tokenV s p = (t, 0)) : Tk t := by
 obtain ⟨_, h2, h3, h4, h5⟩ := tokenV_form hp h
 refine ⟨tok_shift hp h ⟨h3, by omega, fun j hj => ?_⟩ (fun h6 => by omega), h2, ?_⟩
 ·rw [Nat.zero_add]
  have : bAt t.s j = bAt (s.extract p (p + t.s.size)) j := by rw [← h4]
  rw [this, bAt_ext (by omega) h3]
 ·rcases h5 with ⟨k, _⟩ | ⟨k, _⟩ | ⟨k, _⟩ <;> rw [k] <;> decide
theorem jn_len (ws : List ByteArray) : (jn ws).size = (Lib.join (ws.map (·.data.toList)) [32]).length := by
 unfold jn
 exact List.size_toArray
theorem jn_le (x : ByteArray) (ws : List ByteArray) : (jn (x :: ws)).size ≤ x.size + 1 + (jn ws).size := by
 rw [jn_len, jn_len]
 have hx : x.data.toList.length = x.size := by simp
 cases ws with
 | nil => simp only [List.map_cons, List.map_nil, Lib.join_one, hx]; omega
 | cons y r =>
  simp only [List.map_cons, Lib.join_cons, Lib.joinTail, List.length_append, List.flatten_cons, List.length_cons, List.length_nil, hx]
  omega
theorem LexOk.all {s : ByteArray} {p : Nat} {l : List Tok} (h : LexOk s p l) : ∃ m, l = m ++ [endTok s.size] ∧ (∀ t ∈ m, Tk t) ∧ (jn (m.map (·.s))).size ≤ 2 * (s.size - p) := by
 induction h with
 | stop p hp h => exact ⟨[], rfl, by simp, by rw [jn_len]; simp [Lib.join_nil]⟩
 | tok p t l hp h ht hl ih =>
  obtain ⟨m, rfl, h1, h2⟩ := ih
  have h3 := skip_le hp
  obtain ⟨_, q2, q3, _⟩ := tokenV_form (by omega) ht
  refine ⟨t :: m, rfl, fun x hx => ?_, ?_⟩
  ·rcases List.mem_cons.1 hx with rfl | hx
   ·exact tk_of (by omega) ht
   ·exact h1 x hx
  ·have h4 := jn_le t.s (m.map (·.s))
   rw [List.map_cons]
   omega
theorem jn_two (x y : ByteArray) (r : List ByteArray) : jn (x :: y :: r) = x ++ (blank1 ++ jn (y :: r)) := by
 apply ByteArray.ext
 apply Array.toList_inj.1
 simp [jn, Lib.join_cons, Lib.joinTail, blank1, ByteArray.data_append]
theorem jn_one (x : ByteArray) : jn [x] = x := by
 apply ByteArray.ext
 apply Array.toList_inj.1
 simp [jn, Lib.join_one]
theorem app_left {a b : ByteArray} {j : Nat} (h : j < a.size) : bAt (a ++ b) j = bAt a j := by
 rw [bAt_eq _ _ (by simp; omega), bAt_eq _ _ (by simpa using h)]
 simp [ByteArray.data_append, h]
theorem app_right {a b : ByteArray} {j : Nat} (h : j < b.size) : bAt (a ++ b) (a.size + j) = bAt b j := by
 rw [bAt_eq _ _ (by simp; omega), bAt_eq _ _ (by simpa using h)]
 simp [ByteArray.data_append]
def lay : Nat → List Tok → List Tok
 | _, [] => []
 | q, t :: r => { t with p := (q : Int) } :: lay (q + t.s.size + 1) r
theorem tk_not_blank {t : Tok} (h : Tk t) : isBlank (bAt t.s 0) = false := by
 cases hb : isBlank (bAt t.s 0) with
 | false => rfl
 | true =>
  have h1 := blank_alnum hb
  have h2 := h.1
  obtain ⟨_, _, _, _, h3⟩ := tokenV_form (s := t.s) (p := 0) h.2.1 h2
  rcases h3 with ⟨_, k, _⟩ | ⟨_, _, k, _⟩ | ⟨_, _, _, k, _⟩
  ·rw [h1.2.2.1] at k; cases k
  ·rw [h1.2.1] at k; cases k
  ·have hk : signTo t.s 0 = 0 := by
    rw [signTo_one (fun h => h1.2.2.2 h.2.2)]
    rw [if_neg]
    have h4 := blank_nat hb
    have : (bAt t.s 0) = 32 ∨ (bAt t.s 0) = 9 ∨ (bAt t.s 0) = 10 := by
     rw [byte_eq, byte_eq, byte_eq]
     have e1 : (32 : UInt8).toNat = 32 := rfl
     have e2 : (9 : UInt8).toNat = 9 := rfl
     have e3 : (10 : UInt8).toNat = 10 := rfl
     omega
    rcases this with h5 | h5 | h5 <;> rw [h5] <;> decide
   rw [hk] at k
   have := h.2.1
   simp only at k
   omega
theorem lay_ok (l : List Tok) (hl : ∀ t ∈ l, Tk t) (a : ByteArray) : LexOk (a ++ jn (l.map (·.s))) a.size (lay a.size l ++ [endTok (a ++ jn (l.map (·.s))).size]) := by
 induction l generalizing a with
 | nil =>
  have e : a ++ jn (([] : List Tok).map (·.s)) = a := by
   apply ByteArray.ext
   simp [jn, Lib.join_nil, ByteArray.data_append]
  rw [e]
  exact .stop _ (Nat.le_refl _) (skip_end a)
 | cons t r ih =>
  have ht := hl t (by simp)
  have hs := ht.2.1
  have hnb := tk_not_blank ht
  cases r with
  | nil =>
   simp only [List.map_cons, List.map_nil, jn_one]
   have hz : (a ++ t.s).size = a.size + t.s.size := ByteArray.size_append
   have h0 : bAt (a ++ t.s) a.size = bAt t.s 0 := app_right (j := 0) hs
   have h1 : skip (a ++ t.s) a.size = a.size := skip_stop (by omega) (by rw [h0]; exact hnb)
   have h2 : tokenV (a ++ t.s) a.size = ({ t with p := (a.size : Int) }, 0) := tok_shift (x := { t with p := 0 }) hs ht.1 ⟨by simp, by simp, fun j hj => by rw [Nat.zero_add]; exact app_right hj⟩ (fun h => by simp at h)
   refine .tok _ _ _ (by omega) (by omega) (by rw [h1]; exact h2) ?_
   rw [h1]
   simp only [lay, List.nil_append]
   rw [← hz]
   exact .stop _ (Nat.le_refl _) (skip_end _)
  | cons u r =>
   have h3 := ih (fun x hx => hl x (by simp [hx])) (a ++ t.s ++ blank1)
   have e : a ++ jn ((t :: u :: r).map (·.s)) = a ++ t.s ++ blank1 ++ jn ((u :: r).map (·.s)) := by
    simp only [List.map_cons, jn_two, ByteArray.append_assoc]
   rw [e]
   generalize hX : a ++ t.s ++ blank1 ++ jn ((u :: r).map (·.s)) = X at h3 ⊢
   have hb1 : blank1.size = 1 := rfl
   have hz : X.size = a.size + t.s.size + 1 + (jn ((u :: r).map (·.s))).size := by rw [← hX]; simp [hb1]
   have e2 : X = a ++ (t.s ++ (blank1 ++ jn ((u :: r).map (·.s)))) := by rw [← hX]; simp only [ByteArray.append_assoc]
   have e3 : (a ++ t.s ++ blank1).size = a.size + t.s.size + 1 := by simp [hb1]
   have hby : ∀ j, j < t.s.size → bAt X (a.size + j) = bAt t.s j := fun j hj => by
    rw [e2, app_right (by simp; omega), app_left hj]
   have hbl : bAt X (a.size + t.s.size) = 32 := by
    rw [e2, app_right (by simp [hb1]; omega)]
    have := app_right (a := t.s) (b := blank1 ++ jn ((u :: r).map (·.s))) (j := 0) (by simp [hb1]; omega)
    rw [Nat.add_zero] at this
    rw [this, app_left (by decide)]
    rfl
   have h1 : skip X a.size = a.size := skip_stop (by omega) (by rw [← Nat.add_zero a.size, hby 0 hs]; exact hnb)
   have h2 : tokenV X a.size = ({ t with p := (a.size : Int) }, 0) := tok_shift (x := { t with p := 0 }) hs ht.1 ⟨by simp, by simp; omega, fun j hj => by rw [Nat.zero_add]; exact hby j hj⟩ (fun h => .inl (by simp only; rw [hbl]; rfl))
   refine .tok _ _ _ (by omega) (by omega) (by rw [h1]; exact h2) ?_
   rw [h1]
   rw [e3] at h3
   refine h3.from (by simp only; omega) ?_
   rw [skip_more (by simp only; omega) (by simp only; rw [hbl]; rfl)]
theorem lay_len : ∀ (q : Nat) (l : List Tok), (lay q l).length = l.length
 | _, [] => rfl
 | q, t :: r => by simp [lay, lay_len _ r]
theorem lay_map {α : Type} (f : Tok → α) (hf : ∀ t (q : Int), f { t with p := q } = f t) : ∀ (q : Nat) (l : List Tok), (lay q l).map f = l.map f
 | _, [] => rfl
 | q, t :: r => by simp [lay, hf, lay_map f hf _ r]
theorem wordsOf_end {l : List Tok} (n : Nat) (h : ∀ t ∈ l, ¬ t.k = 3) : wordsOf (l ++ [endTok n]) = l.map (·.s) := by
 have : (l ++ [endTok n]).filter (fun t => !decide (t.k = 3)) = l := by
  rw [List.filter_append, List.filter_eq_self.2 (fun t ht => by simp [h t ht])]
  exact List.append_nil l
 rw [wordsOf, this]
theorem lexOk_small {s : ByteArray} {p : Nat} {l : List Tok} {B : Nat} (h : LexOk s p l) (hB : s.size ≤ B) : ∀ t ∈ l, t.s.size ≤ B := by
 induction h with
 | stop p hp h =>
  intro x hx
  obtain rfl := List.mem_singleton.1 hx
  exact Nat.zero_le _
 | tok p t l hp h ht hl ih =>
  have h3 := skip_le hp
  obtain ⟨_, _, q3, _⟩ := tokenV_form (by omega) ht
  intro x hx
  rcases List.mem_cons.1 hx with rfl | hx
  ·omega
  ·exact ih x hx
theorem back {c : ByteArray} {l : List Tok} (h : LexOk c 0 l) : ∃ m, LexOk (textV l) 0 m ∧ textV m = textV l ∧ (textV l).size ≤ 2 * c.size ∧ m.length = l.length ∧
  ∀ i (h1 : i < l.length) (h2 : i < m.length), l[i].k = m[i].k ∧ l[i].s = m[i].s ∧ l[i].n = m[i].n := by
 obtain ⟨r, rfl, h1, h2⟩ := h.all
 have h3 : textV (r ++ [endTok c.size]) = jn (r.map (·.s)) := by rw [textV, wordsOf_end _ (fun t ht => (h1 t ht).2.2)]
 have h4 := lay_ok r h1 ⟨#[]⟩
 have e : (⟨#[]⟩ : ByteArray) ++ jn (r.map (·.s)) = jn (r.map (·.s)) := by
  apply ByteArray.ext
  simp [ByteArray.data_append]
 rw [e] at h4
 rw [h3]
 refine ⟨_, h4, ?_, by omega, by simp [lay_len], ?_⟩
 ·have h5 : ∀ t ∈ lay (ByteArray.size ⟨#[]⟩) r, ¬ t.k = 3 := by
   intro t ht
   have : t.k ∈ (lay (ByteArray.size ⟨#[]⟩) r).map (·.k) := List.mem_map_of_mem ht
   rw [lay_map (·.k) (fun _ _ => rfl)] at this
   obtain ⟨u, hu, he⟩ := List.mem_map.1 this
   rw [← he]
   exact (h1 u hu).2.2
  rw [textV, wordsOf_end _ h5, lay_map (·.s) (fun _ _ => rfl)]
 ·have hm : ∀ {α : Type} (f : Tok → α), (∀ t (q : Int), f { t with p := q } = f t) → ∀ i (h1 : i < (r ++ [endTok c.size]).length) (h2 : i < (lay (ByteArray.size ⟨#[]⟩) r ++ [endTok (jn (r.map (·.s))).size]).length), f (r ++ [endTok c.size])[i] = f (lay (ByteArray.size ⟨#[]⟩) r ++ [endTok (jn (r.map (·.s))).size])[i] := by
   intro α f hf i h5 h6
   have h7 : (r ++ [endTok c.size]).map f = (lay (ByteArray.size ⟨#[]⟩) r ++ [endTok (jn (r.map (·.s))).size]).map f := by
    rw [List.map_append, List.map_append, lay_map f hf]
    congr 1
    simp only [List.map_cons, List.map_nil, endTok]
    rw [← hf ⟨3, ⟨#[]⟩, 0, c.size⟩ ((jn (r.map (·.s))).size : Int)]
   have h8 := congrArg (fun x => x[i]?) h7
   simp only [List.getElem?_map, List.getElem?_eq_getElem h5, List.getElem?_eq_getElem h6, Option.map_some, Option.some.injEq] at h8
   exact h8
  exact fun i h5 h6 => ⟨hm (·.k) (fun _ _ => rfl) i h5 h6, hm (·.s) (fun _ _ => rfl) i h5 h6, hm (·.n) (fun _ _ => rfl) i h5 h6⟩
end Go.Proofs.YtedoeogopmenpaaGreatDoor
end
