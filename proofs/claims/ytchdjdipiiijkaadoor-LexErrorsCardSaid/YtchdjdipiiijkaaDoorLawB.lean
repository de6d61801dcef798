/-
  A token stands the same in any text that has its bytes and then a blank, the end, or the same next byte. Conditions: none.
-/
import Derived.Test.YtchdjdipiiijkaaDoorLawA
namespace Go.Proofs.YtchdjdipiiijkaaDoor

theorem skip_end (s : ByteArray) : skip s s.size = s.size := by have := skip_le (s := s) (p := s.size) (Nat.le_refl _); omega
theorem bytes_ext {s t : ByteArray} (hz : s.size = t.size) (h : ∀ j, j < s.size → bAt s j = bAt t j) : s = t := by
  apply ByteArray.ext
  apply Array.ext
  · exact hz
  · intro i h1 h2
    have h3 := h i h1
    rw [bAt_eq s i (by simpa using h1), bAt_eq t i (by simpa using h2)] at h3
    simpa using h3
/-- the bytes of s from p on are those of t from q on, m of them -/
structure Agr (s t : ByteArray) (p q m : Nat) : Prop where
  hs : p + m ≤ s.size
  ht : q + m ≤ t.size
  h : ∀ j, j < m → bAt t (q + j) = bAt s (p + j)
theorem Agr.ext {s t : ByteArray} {p q m : Nat} (h : Agr s t p q m) : t.extract q (q + m) = s.extract p (p + m) := by
  have h1 := h.hs
  have h2 := h.ht
  have e1 : (t.extract q (q + m)).size = m := by rw [extract_size h2]; omega
  have e2 : (s.extract p (p + m)).size = m := by rw [extract_size h1]; omega
  refine bytes_ext (by omega) fun j hj => ?_
  rw [e1] at hj
  rw [bAt_ext (by omega) h2, bAt_ext (by omega) h1]
  exact h.h j hj
theorem Agr.part {s t : ByteArray} {p q m : Nat} (h : Agr s t p q m) {i k : Nat} (hk : i + k ≤ m) : Agr s t (p + i) (q + i) k := by
  have h1 := h.hs
  have h2 := h.ht
  refine ⟨by omega, by omega, fun j hj => ?_⟩
  rw [Nat.add_assoc, Nat.add_assoc]
  exact h.h _ (by omega)
theorem Agr.first {s t : ByteArray} {p q m : Nat} (h : Agr s t p q m) (hm : 0 < m) : bAt t q = bAt s p := h.h 0 hm
theorem run_shift {F : UInt8 → Bool} {s t : ByteArray} {p q m : Nat} (h : Agr s t p q m) (hr : pre F (s.extract p s.size) = m) (hf : q + m < t.size → F (bAt t (q + m)) = false) : pre F (t.extract q t.size) = q + m - q := by
  have h1 := h.hs
  have hz : (s.extract p s.size).size = s.size - p := by simp
  refine pre_ext (by omega) h.ht (fun j h2 h3 => ?_) hf
  rw [show j = q + (j - q) by omega, h.h _ (by omega), ← bAt_ext (a := p) (b := s.size) (by omega) (Nat.le_refl _)]
  exact pre_lt (by omega)
theorem run_next {F : UInt8 → Bool} {s : ByteArray} {p m : Nat} (hr : pre F (s.extract p s.size) = m) (h : p + m < s.size) : F (bAt s (p + m)) = false := by
  have hz : (s.extract p s.size).size = s.size - p := by simp
  have h3 := pre_stop (F := F) (s := s.extract p s.size) (by omega)
  rw [hr, bAt_ext (by omega) (Nat.le_refl _)] at h3
  exact h3
theorem blank_nat {c : UInt8} (h : isBlank c = true) : (c.toNat : Int) = 32 ∨ (c.toNat : Int) = 9 ∨ (c.toNat : Int) = 10 := by
  simp only [isBlank, Bool.or_eq_true, decide_eq_true_eq] at h
  omega
theorem blank_alnum {c : UInt8} (h : isBlank c = true) : alnumB c = false ∧ digitB c = false ∧ letterB c = false ∧ ¬ c.toNat = 61 := by
  have h1 := blank_nat h
  have h2 : letterB c = false := by
    simp only [letterB, Bool.and_eq_false_iff, decide_eq_false_iff_not]
    omega
  have h3 : digitB c = false := by
    simp only [digitB, Bool.and_eq_false_iff, decide_eq_false_iff_not]
    omega
  refine ⟨by simp [alnumB, h2, h3], h3, h2, by omega⟩
/-- what follows a token: the end, a blank, or what followed it -/
def Foll (s t : ByteArray) (p q m : Nat) : Prop := q + m < t.size → isBlank (bAt t (q + m)) = true ∨ (p + m < s.size ∧ bAt t (q + m) = bAt s (p + m))
theorem Foll.run {F : UInt8 → Bool} {s t : ByteArray} {p q m : Nat} (h : Foll s t p q m) (hF : ∀ c, isBlank c = true → F c = false) (hr : pre F (s.extract p s.size) = m) : q + m < t.size → F (bAt t (q + m)) = false := fun h1 => by
  rcases h h1 with h2 | ⟨h2, h3⟩
  · exact hF _ h2
  · rw [h3]
    exact run_next hr h2
theorem signTo_two {s : ByteArray} {p : Nat} (h : p + 1 < s.size) (h1 : (bAt s (p + 1)).toNat = 61) (h2 : (bAt s p).toNat = 61) : signTo s p = 2 := by
  unfold signTo
  rw [if_pos ⟨h, h1, h2⟩]
theorem signTo_one {s : ByteArray} {p : Nat} (h : ¬ (p + 1 < s.size ∧ (bAt s (p + 1)).toNat = 61 ∧ (bAt s p).toNat = 61)) : signTo s p = if singleB (bAt s p) then 1 else 0 := by
  unfold signTo
  rw [if_neg h]
theorem sign_shift {s t : ByteArray} {p q m : Nat} (hm : (m : Int) = signTo s p) (hm0 : 0 < m) (ha : Agr s t p q m) (hf : Foll s t p q m) : signTo t q = m := by
  have h1 := ha.hs
  have h2 := ha.ht
  have h0 := ha.first hm0
  by_cases hc : p + 1 < s.size ∧ (bAt s (p + 1)).toNat = 61 ∧ (bAt s p).toNat = 61
  · have h3 := signTo_two hc.1 hc.2.1 hc.2.2
    have h4 : m = 2 := by omega
    subst h4
    rw [signTo_two (by omega) (by rw [ha.h 1 (by omega)]; exact hc.2.1) (by rw [h0]; exact hc.2.2)]
    rfl
  · rw [signTo_one hc] at hm
    have hs : singleB (bAt s p) = true ∧ m = 1 := by
      by_cases h : singleB (bAt s p) = true
      · rw [if_pos h] at hm; exact ⟨h, by omega⟩
      · rw [if_neg h] at hm; omega
    obtain ⟨h3, rfl⟩ := hs
    rw [signTo_one (fun h => ?_), h0, h3]
    · rfl
    · rcases hf h.1 with h4 | ⟨h4, h5⟩
      · exact (blank_alnum h4).2.2.2 h.2.1
      · exact hc ⟨h4, by rw [← h5]; exact h.2.1, by rw [← h0]; exact h.2.2⟩
theorem tok_shift {s t : ByteArray} {p q : Nat} {x : Tok} (hp : p < s.size) (h : tokenV s p = (x, 0)) (ha : Agr s t p q x.s.size) (hf : Foll s t p q x.s.size) : tokenV t q = ({ x with p := q }, 0) := by
  obtain ⟨_, h2, h3, h4, h5⟩ := tokenV_form hp h
  have h0 := ha.first h2
  have h6 := ha.ext
  have h7 := ha.ht
  rw [← h4] at h6
  rcases h5 with ⟨k0, k1, k2, k3, k4⟩ | ⟨k0, k1, k2, k3, k4, k5⟩ | ⟨k0, k1, k2, k3, k4⟩
  · rw [token_word (k := q + x.s.size) (by rw [h0]; exact k1) (by omega) h7 (run_shift ha k2.symm (hf.run (fun c hc => (blank_alnum hc).1) k2.symm)), if_pos (by omega), h6]
    obtain ⟨a, b, c, d⟩ := x
    simp only at k0 k4
    subst k0
    subst k4
    rfl
  · rw [token_num (k := q + x.s.size) (by rw [h0]; exact k1) (by rw [h0]; exact k2) (by omega) h7 (run_shift ha k3.symm (hf.run (fun c hc => (blank_alnum hc).2.1) k3.symm)), h6, if_pos k4]
    obtain ⟨a, b, c, d⟩ := x
    simp only at k0 k5
    subst k0
    subst k5
    rfl
  · have h8 := sign_shift k3 h2 ha hf
    rw [token_sign (by rw [h0]; exact k1) (by rw [h0]; exact k2) (by omega), if_neg (by omega), h8, Int.toNat_natCast, h6]
    obtain ⟨a, b, c, d⟩ := x
    simp only at k0 k4
    subst k0
    subst k4
    rfl
/-- s stands in t from a on; then t ends, or has a blank -/
structure Seg (s t : ByteArray) (a : Nat) : Prop where
  agr : Agr s t 0 a s.size
  fol : a + s.size < t.size → isBlank (bAt t (a + s.size)) = true
theorem Seg.foll {s t : ByteArray} {a p m : Nat} (h : Seg s t a) (hm : p + m ≤ s.size) : Foll s t p (a + p) m := fun h1 => by
  by_cases h2 : p + m = s.size
  · rw [show a + p + m = a + s.size by omega] at h1 ⊢
    exact .inl (h.fol h1)
  · refine .inr ⟨by omega, ?_⟩
    have := h.agr.h (p + m) (by omega)
    rw [Nat.zero_add] at this
    rw [← this, Nat.add_assoc]
theorem Seg.at {s t : ByteArray} {a p m : Nat} (h : Seg s t a) (hm : p + m ≤ s.size) : Agr s t p (a + p) m := by
  have := h.agr.part hm
  rwa [Nat.zero_add] at this
theorem Seg.byte {s t : ByteArray} {a p : Nat} (h : Seg s t a) (hp : p < s.size) : bAt t (a + p) = bAt s p := (h.at (p := p) (m := 1) (by omega)).first (by omega)
theorem Seg.tok {s t : ByteArray} {a p : Nat} {x : Tok} (h : Seg s t a) (hp : p < s.size) (ht : tokenV s p = (x, 0)) : tokenV t (a + p) = ({ x with p := ((a + p : Nat) : Int) }, 0) := by
  obtain ⟨_, _, h3, _⟩ := tokenV_form hp ht
  exact tok_shift hp ht (h.at h3) (h.foll h3)
theorem Seg.err {s t : ByteArray} {a p : Nat} {x : Tok} {e : Int} (h : Seg s t a) (hp : p < s.size) (ht : tokenV s p = (x, e)) (he : ¬ e = 0) : tokenV t (a + p) = (x, e) := by
  have hz : (s.extract p s.size).size = s.size - p := by simp
  have h0 := h.byte hp
  have hat := h.agr.ht
  have hpos : ∀ F : UInt8 → Bool, F (bAt s p) = true → 0 < pre F (s.extract p s.size) := by
    intro F hF
    rcases Nat.eq_zero_or_pos (pre F (s.extract p s.size)) with h | h
    · exfalso
      have h1 := run_next h (by omega)
      rw [Nat.add_zero, hF] at h1
      cases h1
    · exact h
  have hle : ∀ F : UInt8 → Bool, pre F (s.extract p s.size) ≤ s.size - p := fun F => by have := pre_le F (s.extract p s.size); omega
  cases hl : letterB (bAt s p)
  · cases hd : digitB (bAt s p)
    · rw [token_sign hl hd hp] at ht
      by_cases h2 : signTo s p = 0
      · rw [if_pos h2] at ht
        have hsg : singleB (bAt s p) = false := by
          unfold signTo at h2
          split at h2
          · cases h2
          · split at h2
            · cases h2
            · simp_all
        have h3 : signTo t (a + p) = 0 := by
          have hne : ¬ (bAt s p).toNat = 61 := fun h61 => by
            have : bAt s p = 61 := by rw [byte_eq]; exact h61
            rw [this] at hsg
            revert hsg
            decide
          rw [signTo_one (by rw [h0]; exact fun h => hne h.2.2), h0, hsg]
          rfl
        rw [token_sign (by rw [h0]; exact hl) (by rw [h0]; exact hd) (by omega), if_pos h3]
        exact ht
      · rw [if_neg h2] at ht
        cases ht
        exact absurd rfl he
    · have h1 := hpos digitB hd
      have h2 := hle digitB
      have h3 := h.at (p := p) (m := pre digitB (s.extract p s.size)) (by omega)
      have h4 := h.foll (p := p) (m := pre digitB (s.extract p s.size)) (by omega)
      rw [token_num (k := p + pre digitB (s.extract p s.size)) hl hd (by omega) (by omega) (by omega)] at ht
      rw [token_num (k := a + p + pre digitB (s.extract p s.size)) (by rw [h0]; exact hl) (by rw [h0]; exact hd) (by omega) h3.ht (run_shift h3 rfl (h4.run (fun c hc => (blank_alnum hc).2.1) rfl)), h3.ext]
      split at ht
      · cases ht
        exact absurd rfl he
      · rename_i h5
        rw [if_neg h5]
        exact ht
  · have h1 := hpos alnumB (alnum_of hl)
    have h2 := hle alnumB
    have h3 := h.at (p := p) (m := pre alnumB (s.extract p s.size)) (by omega)
    have h4 := h.foll (p := p) (m := pre alnumB (s.extract p s.size)) (by omega)
    rw [token_word (k := p + pre alnumB (s.extract p s.size)) hl (by omega) (by omega) (by omega)] at ht
    rw [token_word (k := a + p + pre alnumB (s.extract p s.size)) (by rw [h0]; exact hl) (by omega) h3.ht (run_shift h3 rfl (h4.run (fun c hc => (blank_alnum hc).1) rfl)), h3.ext]
    split at ht
    · cases ht
      exact absurd rfl he
    · rename_i h5
      rw [if_neg (by omega)]
      exact ht
theorem Seg.skp {s t : ByteArray} {a p : Nat} (h : Seg s t a) (hp : p ≤ s.size) (hk : skip s p < s.size) : skip t (a + p) = a + skip s p := by
  have h1 := skip_le hp
  have h2 := h.agr.ht
  obtain ⟨h3, h4⟩ := skip_fact hp
  refine skip_is (by omega) (by omega) (fun j h5 h6 => ?_) (fun _ => ?_)
  · rw [show j = a + (j - a) by omega, h.byte (by omega)]
    exact h3 _ (by omega) (by omega)
  · rw [h.byte hk]
    exact h4 hk
theorem skip_over {t : ByteArray} {p q : Nat} (hpq : p ≤ q) (hq : q ≤ t.size) (h : ∀ j, p ≤ j → j < q → isBlank (bAt t j) = true) : skip t p = skip t q := by
  have h1 := skip_le hq
  obtain ⟨h3, h4⟩ := skip_fact hq
  refine skip_is (by omega) h1.2 (fun j h5 h6 => ?_) h4
  by_cases h7 : j < q
  · exact h j h5 h7
  · exact h3 j (by omega) h6
theorem Seg.skpEnd {s t : ByteArray} {a p : Nat} (h : Seg s t a) (hp : p ≤ s.size) (hk : skip s p = s.size) : skip t (a + p) = skip t (a + s.size) := by
  have h2 := h.agr.ht
  obtain ⟨h3, h4⟩ := skip_fact hp
  refine skip_over (by omega) (by omega) (fun j h5 h6 => ?_)
  rw [show j = a + (j - a) by omega, h.byte (by omega)]
  exact h3 _ (by omega) (by omega)
theorem LexOk.from {s : ByteArray} {p q : Nat} {l : List Tok} (h : LexOk s q l) (hp : p ≤ s.size) (hk : skip s p = skip s q) : LexOk s p l := by
  cases h with
  | stop _ _ h1 => exact .stop p hp (hk.trans h1)
  | tok _ t r _ h1 h2 h3 => exact .tok p t r hp (by rw [hk]; exact h1) (by rw [hk]; exact h2) (by rw [hk]; exact h3)
theorem LexErr.from {s : ByteArray} {p q a : Nat} {e : Int} (h : LexErr s q a e) (hp : p ≤ s.size) (hk : skip s p = skip s q) : LexErr s p a e := by
  cases h with
  | here _ t _ _ h1 h2 h3 => rw [← hk]; exact .here p t e hp (by rw [hk]; exact h1) (by rw [hk]; exact h2) h3
  | tok _ _ t _ _ h1 h2 h3 => exact .tok p a t e hp (by rw [hk]; exact h1) (by rw [hk]; exact h2) (by rw [hk]; exact h3)
def Tok.move (a : Nat) (t : Tok) : Tok := { t with p := t.p + a }
theorem LexOk.last {s : ByteArray} {p : Nat} {l : List Tok} (h : LexOk s p l) : ∃ m, l = m ++ [endTok s.size] := by
  induction h with
  | stop => exact ⟨[], rfl⟩
  | tok p t l hp h ht hl ih =>
    obtain ⟨m, rfl⟩ := ih
    exact ⟨t :: m, rfl⟩
/-- the tokens of a part, and what comes behind it -/
theorem Seg.ok {s t : ByteArray} {a p : Nat} {l : List Tok} (h : Seg s t a) (hl : LexOk s p l) :
    (∀ r, LexOk t (a + s.size) r → LexOk t (a + p) ((l.take (l.length - 1)).map (Tok.move a) ++ r)) ∧ (∀ b e, LexErr t (a + s.size) b e → LexErr t (a + p) b e) := by
  have hat := h.agr.ht
  induction hl with
  | stop p hp h1 =>
    have h2 := h.skpEnd hp h1
    exact ⟨fun r hr => by simpa using hr.from (by omega) h2, fun b e he => he.from (by omega) h2⟩
  | tok p x l hp h1 h2 h3 ih =>
    have h4 := skip_le hp
    have h5 := h.skp hp (by omega)
    have h6 := h.tok (by omega) h2
    obtain ⟨q1, q2, q3, _⟩ := tokenV_form (by omega) h2
    obtain ⟨m, rfl⟩ := h3.last
    have h7 : (x :: (m ++ [endTok s.size])).take ((x :: (m ++ [endTok s.size])).length - 1) = x :: m := by simp
    have h8 : (m ++ [endTok s.size]).take ((m ++ [endTok s.size]).length - 1) = m := by simp
    rw [h8, ← Nat.add_assoc] at ih
    rw [h7]
    have h9 : ({ x with p := ((a + skip s p : Nat) : Int) } : Tok) = Tok.move a x := by
      unfold Tok.move
      rw [q1]
      have hq : ((a + skip s p : Nat) : Int) = (skip s p : Int) + (a : Int) := by omega
      rw [hq]
    rw [h9] at h6
    refine ⟨fun r hr => ?_, fun b e he => ?_⟩
    · refine .tok (a + p) (Tok.move a x) _ (by omega) (by omega) (by rw [h5]; exact h6) ?_
      rw [h5]
      exact ih.1 r hr
    · refine .tok (a + p) b (Tok.move a x) e (by omega) (by omega) (by rw [h5]; exact h6) ?_
      rw [h5]
      exact ih.2 b e he
theorem Seg.bad {s t : ByteArray} {a p b : Nat} {e : Int} (h : Seg s t a) (hl : LexErr s p b e) : LexErr t (a + p) (a + b) e := by
  have hat := h.agr.ht
  induction hl with
  | here p x e hp h1 h2 h3 =>
    have h4 := skip_le hp
    have h5 := h.skp hp (by omega)
    rw [← h5]
    exact .here (a + p) x e (by omega) (by omega) (by rw [h5]; exact h.err (by omega) h2 h3) h3
  | tok p b x e hp h1 h2 h3 ih =>
    have h4 := skip_le hp
    have h5 := h.skp hp (by omega)
    refine .tok (a + p) (a + b) _ e (by omega) (by omega) (by rw [h5]; exact h.tok (by omega) h2) ?_
    rw [h5, Nat.add_assoc]
    exact ih
theorem lexV_bad {s : ByteArray} {a : Nat} {e : Int} (hs : s.size ≤ 4000) (h : LexErr s 0 a e) (he : ¬ e = 0) : lexV s = ([], (a : Int), e) := by
  rcases lexV_case hs with ⟨m, h1, h2⟩ | ⟨b, f, h1, h2, h3⟩
  · exact (h1.noErr h he).elim
  · rw [h3]
    have : ∀ {p a b : Nat} {e f : Int}, LexErr s p a e → LexErr s p b f → ¬ e = 0 → ¬ f = 0 → a = b ∧ e = f := by
      intro p a b e f h
      induction h generalizing b f with
      | here p x e hp h1 h2 h3 =>
        intro h4 _ h5
        cases h4 with
        | here _ y _ _ _ k1 _ => rw [h2] at k1; cases k1; exact ⟨rfl, rfl⟩
        | tok _ _ y _ _ _ k1 k2 => rw [h2] at k1; cases k1; exact absurd rfl h3
      | tok p a x e hp h1 h2 h3 ih =>
        intro h4 he h5
        cases h4 with
        | here _ y _ _ _ k1 _ => rw [h2] at k1; cases k1; exact absurd rfl h5
        | tok _ _ y _ _ _ k1 k2 => rw [h2] at k1; cases k1; exact ih k2 he h5
    obtain ⟨rfl, rfl⟩ := this h h1 he h2
    rfl
end Go.Proofs.YtchdjdipiiijkaaDoor
