/-
  What Lex computes, as relations. Conditions: none.
-/
import Derived.Test.YtchdjdipiiijkaaDoorWalkG
namespace Go.Proofs.YtchdjdipiiijkaaDoor

inductive LexOk (s : ByteArray) : Nat → List Tok → Prop where
  | stop (p : Nat) (hp : p ≤ s.size) (h : skip s p = s.size) : LexOk s p [endTok s.size]
  | tok (p : Nat) (t : Tok) (l : List Tok) (hp : p ≤ s.size) (h : ¬ skip s p = s.size) (ht : tokenV s (skip s p) = (t, 0)) (hl : LexOk s (skip s p + t.s.size) l) : LexOk s p (t :: l)
inductive LexErr (s : ByteArray) : Nat → Nat → Int → Prop where
  | here (p : Nat) (t : Tok) (e : Int) (hp : p ≤ s.size) (h : ¬ skip s p = s.size) (ht : tokenV s (skip s p) = (t, e)) (he : ¬ e = 0) : LexErr s p (skip s p) e
  | tok (p a : Nat) (t : Tok) (e : Int) (hp : p ≤ s.size) (h : ¬ skip s p = s.size) (ht : tokenV s (skip s p) = (t, 0)) (hl : LexErr s (skip s p + t.s.size) a e) : LexErr s p a e
theorem lexF_case {s : ByteArray} (n p : Nat) (out : List Tok) (hn : s.size - p < n) (hp : p ≤ s.size) :
    (∃ l, LexOk s p l ∧ lexF s n p out = (out ++ l, 0, 0)) ∨ (∃ a e, LexErr s p a e ∧ ¬ e = 0 ∧ lexF s n p out = ([], (a : Int), e)) := by
  induction n generalizing p out with
  | zero => omega
  | succ n ih =>
    have h1 := skip_le hp
    rw [lexF]
    by_cases h : skip s p = s.size
    · rw [if_pos h]
      exact .inl ⟨_, .stop p hp h, rfl⟩
    · rw [if_neg h]
      rcases hT : tokenV s (skip s p) with ⟨t, e⟩
      by_cases he : e = 0
      · subst he
        rw [if_pos rfl]
        have h2 := tokenV_size (s := s) (p := skip s p) (by omega) (by rw [hT])
        rw [hT] at h2
        simp only at h2
        rcases ih (skip s p + t.s.size) (out ++ [t]) (by omega) (by omega) with ⟨l, h3, h4⟩ | ⟨a, e, h3, h4, h5⟩
        · refine .inl ⟨t :: l, .tok p t l hp h hT h3, ?_⟩
          rw [h4, List.append_assoc]
          rfl
        · exact .inr ⟨a, e, .tok p a t e hp h hT h3, h4, h5⟩
      · rw [if_neg he]
        exact .inr ⟨_, e, .here p t e hp h hT he, he, rfl⟩
theorem lexV_case {s : ByteArray} (hs : s.size ≤ 4000) :
    (∃ l, LexOk s 0 l ∧ lexV s = (l, 0, 0)) ∨ (∃ a e, LexErr s 0 a e ∧ ¬ e = 0 ∧ lexV s = ([], (a : Int), e)) := by
  unfold lexV
  rw [if_neg (by omega)]
  simpa using lexF_case (s := s) (s.size + 1) 0 [] (by omega) (by omega)
theorem LexOk.unique {s : ByteArray} {p : Nat} {l m : List Tok} (h : LexOk s p l) (h' : LexOk s p m) : l = m := by
  induction h generalizing m with
  | stop p hp h =>
    cases h' with
    | stop _ _ _ => rfl
    | tok _ _ _ _ h2 _ _ => exact absurd h h2
  | tok p t l hp h ht hl ih =>
    cases h' with
    | stop _ _ h2 => exact absurd h2 h
    | tok _ u m _ _ hu hm =>
      rw [ht] at hu
      cases hu
      rw [ih hm]
theorem LexOk.noErr {s : ByteArray} {p a : Nat} {l : List Tok} {e : Int} (h : LexOk s p l) (h' : LexErr s p a e) (he : ¬ e = 0) : False := by
  induction h with
  | stop p hp h =>
    cases h' with
    | here _ _ _ _ h2 _ _ => exact h2 h
    | tok _ _ _ _ _ h2 _ _ => exact h2 h
  | tok p t l hp h ht hl ih =>
    cases h' with
    | here _ _ _ _ _ h3 h4 => rw [ht] at h3; cases h3; exact h4 rfl
    | tok _ _ _ _ _ _ h3 h4 => rw [ht] at h3; cases h3; exact ih h4
theorem lexV_ok {s : ByteArray} {l : List Tok} (hs : s.size ≤ 4000) (h : LexOk s 0 l) : lexV s = (l, 0, 0) := by
  rcases lexV_case hs with ⟨m, h1, h2⟩ | ⟨a, e, h1, h2, _⟩
  · rw [h2, h.unique h1]
  · exact (h.noErr h1 h2).elim
/-- what a token is -/
theorem tokenV_form {s : ByteArray} {p : Nat} {t : Tok} (hp : p < s.size) (h : tokenV s p = (t, 0)) :
    t.p = p ∧ 0 < t.s.size ∧ p + t.s.size ≤ s.size ∧ t.s = s.extract p (p + t.s.size) ∧
    ((t.k = 0 ∧ letterB (bAt s p) = true ∧ t.s.size = pre alnumB (s.extract p s.size) ∧ t.s.size ≤ 20 ∧ t.n = 0) ∨
     (t.k = 1 ∧ letterB (bAt s p) = false ∧ digitB (bAt s p) = true ∧ t.s.size = pre digitB (s.extract p s.size) ∧ numOk t.s = true ∧ t.n = numTo t.s t.s.size) ∨
     (t.k = 2 ∧ letterB (bAt s p) = false ∧ digitB (bAt s p) = false ∧ (t.s.size : Int) = signTo s p ∧ t.n = 0)) := by
  have hsz := tokenV_size (s := s) (p := p) hp (by rw [h])
  rw [h] at hsz
  simp only at hsz
  have hz : (s.extract p s.size).size = s.size - p := by simp
  have h0 : bAt (s.extract p s.size) 0 = bAt s p := by rw [bAt_ext (by omega) (Nat.le_refl _), Nat.add_zero]
  have hpos : ∀ F : UInt8 → Bool, F (bAt s p) = true → 0 < pre F (s.extract p s.size) := by
    intro F hF
    rcases Nat.eq_zero_or_pos (pre F (s.extract p s.size)) with h | h
    · exfalso
      have h1 := pre_stop (F := F) (s := s.extract p s.size) (by omega)
      rw [h, h0, hF] at h1
      cases h1
    · exact h
  have hle : ∀ F : UInt8 → Bool, pre F (s.extract p s.size) ≤ s.size - p := fun F => by have := pre_le F (s.extract p s.size); omega
  have hes : ∀ a b, b ≤ s.size → (s.extract a b).size = b - a := fun a b hb => extract_size hb
  cases hl : letterB (bAt s p)
  · cases hd : digitB (bAt s p)
    · rw [token_sign hl hd hp] at h
      have h1 := signTo_bd hp
      by_cases h2 : signTo s p = 0
      · rw [if_pos h2] at h; cases h
      · rw [if_neg h2] at h
        cases h
        have h3 := hes p (p + (signTo s p).toNat) (by omega)
        refine ⟨rfl, hsz.1, hsz.2, ?_, .inr (.inr ⟨rfl, rfl, rfl, ?_, rfl⟩)⟩
        · simp only [h3]
          congr 1
          omega
        · simp only [h3]
          omega
    · have h1 := hpos digitB hd
      have h2 := hle digitB
      rw [token_num (k := p + pre digitB (s.extract p s.size)) hl hd (by omega) (by omega) (by omega)] at h
      split at h
      · rename_i hn
        cases h
        have h3 := hes p (p + pre digitB (s.extract p s.size)) (by omega)
        refine ⟨rfl, hsz.1, hsz.2, ?_, .inr (.inl ⟨rfl, rfl, rfl, ?_, hn, rfl⟩)⟩
        · simp only [h3]
          congr 1
          omega
        · simp only [h3]
          omega
      · cases h
  · have h1 := hpos alnumB (alnum_of hl)
    have h2 := hle alnumB
    rw [token_word (k := p + pre alnumB (s.extract p s.size)) hl (by omega) (by omega) (by omega)] at h
    split at h
    · rename_i hn
      cases h
      have h3 := hes p (p + pre alnumB (s.extract p s.size)) (by omega)
      refine ⟨rfl, hsz.1, hsz.2, ?_, .inl ⟨rfl, rfl, ?_, ?_, rfl⟩⟩
      · simp only [h3]
        congr 1
        omega
      · simp only [h3]
        omega
      · simp only [h3]
        omega
    · cases h
end Go.Proofs.YtchdjdipiiijkaaDoor
