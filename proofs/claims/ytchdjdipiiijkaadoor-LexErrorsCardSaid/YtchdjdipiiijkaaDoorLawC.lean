/-
  What precedes an error has tokens, and what begins there has the error; the text of tokens has them again. Conditions: none.
-/
import Derived.Test.YtchdjdipiiijkaaDoorLawB
import Derived.Test.YtchdjdipiiijkaaDoorWalkI
namespace Go.Proofs.YtchdjdipiiijkaaDoor

theorem lexF_len (s : ByteArray) (n p : Nat) (out : List Tok) : (lexF s n p out).1.length ≤ out.length + n := by
  induction n generalizing p out with
  | zero => simp [lexF]
  | succ n ih =>
    rw [lexF]
    split
    · simp
    · split
      · have := ih (skip s p + (tokenV s (skip s p)).1.s.size) (out ++ [(tokenV s (skip s p)).1])
        simp only [List.length_append, List.length_cons, List.length_nil] at this
        omega
      · simp
theorem lexV_len (s : ByteArray) : (lexV s).1.length ≤ s.size + 1 := by
  unfold lexV
  split
  · simp
  · have := lexF_len s (s.size + 1) 0 []
    simpa using this
theorem LexErr.le {s : ByteArray} {p a : Nat} {e : Int} (h : LexErr s p a e) : p ≤ a ∧ a < s.size := by
  induction h with
  | here p t e hp h ht he => have := skip_le hp; omega
  | tok p a t e hp h ht hl ih => have := skip_le hp; omega
theorem LexErr.what {s : ByteArray} {p a : Nat} {e : Int} (h : LexErr s p a e) : ∃ x, tokenV s a = (x, e) ∧ ¬ e = 0 ∧ isBlank (bAt s a) = false := by
  induction h with
  | here p t e hp h ht he =>
    have h1 := skip_le hp
    exact ⟨t, ht, he, (skip_fact hp).2 (by omega)⟩
  | tok p a t e hp h ht hl ih => exact ih
theorem token_code {s : ByteArray} {p : Nat} {x : Tok} {e : Int} (hp : p < s.size) (h : tokenV s p = (x, e)) (he : ¬ e = 0) : e = 10 ∨ e = 11 ∨ e = 3 := by
  have hz : (s.extract p s.size).size = s.size - p := by simp
  have hpos : ∀ F : UInt8 → Bool, F (bAt s p) = true → 0 < pre F (s.extract p s.size) := by
    intro F hF
    rcases Nat.eq_zero_or_pos (pre F (s.extract p s.size)) with h | h
    · exfalso
      have h1 := run_next h (by omega)
      rw [Nat.add_zero, hF] at h1
      cases h1
    · exact h
  have hle : ∀ F : UInt8 → Bool, pre F (s.extract p s.size) ≤ s.size - p := fun F => by have := pre_le F (s.extract p s.size); omega
  cases hl : letterB (bAt s p)
  · cases hd : digitB (bAt s p)
    · rw [token_sign hl hd hp] at h
      split at h
      · cases h; exact .inl rfl
      · cases h; exact absurd rfl he
    · have h1 := hpos digitB hd
      have h2 := hle digitB
      rw [token_num (k := p + pre digitB (s.extract p s.size)) hl hd (by omega) (by omega) (by omega)] at h
      split at h
      · cases h; exact absurd rfl he
      · cases h; exact .inr (.inr rfl)
  · have h1 := hpos alnumB (alnum_of hl)
    have h2 := hle alnumB
    rw [token_word (k := p + pre alnumB (s.extract p s.size)) hl (by omega) (by omega) (by omega)] at h
    split at h
    · cases h; exact absurd rfl he
    · cases h; exact .inr (.inl rfl)
theorem LexErr.before {s : ByteArray} {p a : Nat} {e : Int} (h : LexErr s p a e) : ∃ l, LexOk (s.extract 0 a) p l := by
  have hl := h.le
  have hz : (s.extract 0 a).size = a := by rw [extract_size (by omega)]; omega
  have hb : ∀ j, j < a → bAt (s.extract 0 a) j = bAt s j := fun j hj => by rw [bAt_ext (by omega) (by omega), Nat.zero_add]
  clear hl
  induction h with
  | here p t e hp h ht he =>
    have h1 := skip_le hp
    obtain ⟨h2, _⟩ := skip_fact hp
    refine ⟨_, .stop p (by omega) ?_⟩
    rw [hz]
    exact skip_is h1.1 (by omega) (fun j h3 h4 => by rw [hb j h4]; exact h2 j h3 h4) (fun h => by omega)
  | tok p a t e hp h ht hl ih =>
    have h1 := skip_le hp
    have h2 := hl.le
    obtain ⟨l, h3⟩ := ih hz hb
    obtain ⟨_, q2, q3, _⟩ := tokenV_form (by omega) ht
    obtain ⟨h4, h5⟩ := skip_fact hp
    have h6 : skip (s.extract 0 a) p = skip s p := skip_is h1.1 (by omega) (fun j h7 h8 => by rw [hb j (by omega)]; exact h4 j h7 h8) (fun _ => by rw [hb _ (by omega)]; exact h5 (by omega))
    have h7 : tokenV (s.extract 0 a) (skip s p) = (t, 0) := by
      obtain ⟨q1, _⟩ := tokenV_form (by omega) ht
      rw [tok_shift (t := s.extract 0 a) (q := skip s p) (by omega) ht ⟨q3, by omega, fun j hj => hb _ (by omega)⟩ (fun h8 => .inr ⟨by omega, hb _ (by omega)⟩), ← q1]
    exact ⟨t :: l, .tok p t l (by omega) (by omega) (by rw [h6]; exact h7) (by rw [h6]; exact h3)⟩
theorem LexErr.behind {s : ByteArray} {p a : Nat} {e : Int} (h : LexErr s p a e) : LexErr (s.extract a s.size) 0 0 e := by
  obtain ⟨x, h1, h2, h3⟩ := h.what
  have hl := h.le
  have hz : (s.extract a s.size).size = s.size - a := by simp
  have hs : Seg (s.extract a s.size) s a := ⟨⟨by omega, by omega, fun j hj => by rw [Nat.zero_add, bAt_ext (by omega) (Nat.le_refl _)]⟩, fun h => by omega⟩
  have h4 : skip (s.extract a s.size) 0 = 0 := skip_stop (by omega) (by rw [bAt_ext (by omega) (Nat.le_refl _)]; exact h3)
  rcases hT : tokenV (s.extract a s.size) 0 with ⟨y, f⟩
  have h5 : f = e := by
    by_cases hf : f = 0
    · subst hf
      have h6 := hs.tok (p := 0) (by omega) hT
      rw [Nat.add_zero, h1] at h6
      cases h6
      exact absurd rfl h2
    · have h6 := hs.err (p := 0) (by omega) hT hf
      rw [Nat.add_zero, h1] at h6
      cases h6
      rfl
  subst h5
  have h7 : LexErr (s.extract a s.size) 0 (skip (s.extract a s.size) 0) f := .here 0 y f (Nat.zero_le _) (by omega) (by rw [h4]; exact hT) h2
  rw [h4] at h7
  exact h7
/-- a text and blanks -/
theorem pad_seg {s b : ByteArray} (hb : ∀ j, j < b.size → isBlank (bAt b j) = true) : Seg s (s ++ b) 0 ∧ (∀ j, s.size ≤ j → j < (s ++ b).size → isBlank (bAt (s ++ b) j) = true) := by
  have hz : (s ++ b).size = s.size + b.size := ByteArray.size_append
  have h1 : ∀ j, j < s.size → bAt (s ++ b) j = bAt s j := fun j hj => by
    rw [bAt_eq _ _ (by simp; omega), bAt_eq _ _ (by simpa using hj)]
    simp [ByteArray.data_append, hj]
  have h2 : ∀ j, s.size ≤ j → j < (s ++ b).size → isBlank (bAt (s ++ b) j) = true := fun j h3 h4 => by
    have h5 : bAt (s ++ b) j = bAt b (j - s.size) := by
      rw [bAt_eq _ _ (by simpa using h4), bAt_eq _ _ (by simp; omega)]
      simp only [ByteArray.data_append, Array.toList_append]
      rw [List.getElem_append_right (by simpa using h3)]
      congr 1
    rw [h5]
    exact hb _ (by omega)
  refine ⟨⟨⟨by omega, by omega, fun j hj => ?_⟩, fun h => ?_⟩, h2⟩
  · rw [Nat.zero_add]; exact h1 j hj
  · rw [Nat.zero_add] at h ⊢; exact h2 _ (Nat.le_refl _) h
theorem pad_ok {s b : ByteArray} {l : List Tok} (hb : ∀ j, j < b.size → isBlank (bAt b j) = true) (h : LexOk s 0 l) : ∃ m, LexOk (s ++ b) 0 m ∧ m.length = l.length := by
  obtain ⟨h1, h2⟩ := pad_seg (s := s) hb
  have hz : (s ++ b).size = s.size + b.size := ByteArray.size_append
  have h3 := skip_end (s ++ b)
  have h4 : LexOk (s ++ b) (0 + s.size) [endTok (s ++ b).size] := .stop _ (by omega) (by rw [Nat.zero_add, skip_over (q := (s ++ b).size) (by omega) (Nat.le_refl _) h2, h3])
  have h5 := (h1.ok h).1 _ h4
  obtain ⟨m, rfl⟩ := h.last
  exact ⟨_, h5, by simp⟩
theorem pad_err {s b : ByteArray} {a : Nat} {e : Int} (hb : ∀ j, j < b.size → isBlank (bAt b j) = true) (h : LexErr s 0 a e) : LexErr (s ++ b) 0 a e := by
  have := (pad_seg (s := s) hb).1.bad h
  simpa using this
/-- tokens that are laid one behind the other, with a blank between them -/
def Tk (t : Tok) : Prop := tokenV t.s 0 = ({ t with p := 0 }, 0) ∧ 0 < t.s.size ∧ ¬ t.k = 3
theorem tk_of {s : ByteArray} {p : Nat} {t : Tok} (hp : p < s.size) (h : tokenV s p = (t, 0)) : Tk t := by
  obtain ⟨_, h2, h3, h4, h5⟩ := tokenV_form hp h
  refine ⟨tok_shift hp h ⟨h3, by omega, fun j hj => ?_⟩ (fun h6 => by omega), h2, ?_⟩
  · rw [Nat.zero_add]
    have : bAt t.s j = bAt (s.extract p (p + t.s.size)) j := by rw [← h4]
    rw [this, bAt_ext (by omega) h3]
  · rcases h5 with ⟨k, _⟩ | ⟨k, _⟩ | ⟨k, _⟩ <;> rw [k] <;> decide
theorem jn_len (ws : List ByteArray) : (jn ws).size = (Lib.join (ws.map (·.data.toList)) [32]).length := by
  unfold jn
  exact List.size_toArray
theorem jn_le (x : ByteArray) (ws : List ByteArray) : (jn (x :: ws)).size ≤ x.size + 1 + (jn ws).size := by
  rw [jn_len, jn_len]
  have hx : x.data.toList.length = x.size := by simp
  cases ws with
  | nil => simp only [List.map_cons, List.map_nil, Lib.join_one, hx]; omega
  | cons y r =>
    simp only [List.map_cons, Lib.join_cons, Lib.joinTail, List.length_append, List.flatten_cons, List.length_cons, List.length_nil, hx]
    omega
theorem LexOk.all {s : ByteArray} {p : Nat} {l : List Tok} (h : LexOk s p l) : ∃ m, l = m ++ [endTok s.size] ∧ (∀ t ∈ m, Tk t) ∧ (jn (m.map (·.s))).size ≤ 2 * (s.size - p) := by
  induction h with
  | stop p hp h => exact ⟨[], rfl, by simp, by rw [jn_len]; simp [Lib.join_nil]⟩
  | tok p t l hp h ht hl ih =>
    obtain ⟨m, rfl, h1, h2⟩ := ih
    have h3 := skip_le hp
    obtain ⟨_, q2, q3, _⟩ := tokenV_form (by omega) ht
    refine ⟨t :: m, rfl, fun x hx => ?_, ?_⟩
    · rcases List.mem_cons.1 hx with rfl | hx
      · exact tk_of (by omega) ht
      · exact h1 x hx
    · have h4 := jn_le t.s (m.map (·.s))
      rw [List.map_cons]
      omega
theorem jn_two (x y : ByteArray) (r : List ByteArray) : jn (x :: y :: r) = x ++ (blank1 ++ jn (y :: r)) := by
  apply ByteArray.ext
  apply Array.toList_inj.1
  simp [jn, Lib.join_cons, Lib.joinTail, blank1, ByteArray.data_append]
theorem jn_one (x : ByteArray) : jn [x] = x := by
  apply ByteArray.ext
  apply Array.toList_inj.1
  simp [jn, Lib.join_one]
theorem app_left {a b : ByteArray} {j : Nat} (h : j < a.size) : bAt (a ++ b) j = bAt a j := by
  rw [bAt_eq _ _ (by simp; omega), bAt_eq _ _ (by simpa using h)]
  simp [ByteArray.data_append, h]
theorem app_right {a b : ByteArray} {j : Nat} (h : j < b.size) : bAt (a ++ b) (a.size + j) = bAt b j := by
  rw [bAt_eq _ _ (by simp; omega), bAt_eq _ _ (by simpa using h)]
  simp [ByteArray.data_append]
def lay : Nat → List Tok → List Tok
  | _, [] => []
  | q, t :: r => { t with p := (q : Int) } :: lay (q + t.s.size + 1) r
theorem tk_not_blank {t : Tok} (h : Tk t) : isBlank (bAt t.s 0) = false := by
  cases hb : isBlank (bAt t.s 0) with
  | false => rfl
  | true =>
    have h1 := blank_alnum hb
    have h2 := h.1
    obtain ⟨_, _, _, _, h3⟩ := tokenV_form (s := t.s) (p := 0) h.2.1 h2
    rcases h3 with ⟨_, k, _⟩ | ⟨_, _, k, _⟩ | ⟨_, _, _, k, _⟩
    · rw [h1.2.2.1] at k; cases k
    · rw [h1.2.1] at k; cases k
    · have hk : signTo t.s 0 = 0 := by
        rw [signTo_one (fun h => h1.2.2.2 h.2.2)]
        rw [if_neg]
        have h4 := blank_nat hb
        have : (bAt t.s 0) = 32 ∨ (bAt t.s 0) = 9 ∨ (bAt t.s 0) = 10 := by
          rw [byte_eq, byte_eq, byte_eq]
          have e1 : (32 : UInt8).toNat = 32 := rfl
          have e2 : (9 : UInt8).toNat = 9 := rfl
          have e3 : (10 : UInt8).toNat = 10 := rfl
          omega
        rcases this with h5 | h5 | h5 <;> rw [h5] <;> decide
      rw [hk] at k
      have := h.2.1
      simp only at k
      omega
theorem lay_ok (l : List Tok) (hl : ∀ t ∈ l, Tk t) (a : ByteArray) : LexOk (a ++ jn (l.map (·.s))) a.size (lay a.size l ++ [endTok (a ++ jn (l.map (·.s))).size]) := by
  induction l generalizing a with
  | nil =>
    have e : a ++ jn (([] : List Tok).map (·.s)) = a := by
      apply ByteArray.ext
      simp [jn, Lib.join_nil, ByteArray.data_append]
    rw [e]
    exact .stop _ (Nat.le_refl _) (skip_end a)
  | cons t r ih =>
    have ht := hl t (by simp)
    have hs := ht.2.1
    have hnb := tk_not_blank ht
    cases r with
    | nil =>
      simp only [List.map_cons, List.map_nil, jn_one]
      have hz : (a ++ t.s).size = a.size + t.s.size := ByteArray.size_append
      have h0 : bAt (a ++ t.s) a.size = bAt t.s 0 := app_right (j := 0) hs
      have h1 : skip (a ++ t.s) a.size = a.size := skip_stop (by omega) (by rw [h0]; exact hnb)
      have h2 : tokenV (a ++ t.s) a.size = ({ t with p := (a.size : Int) }, 0) := tok_shift (x := { t with p := 0 }) hs ht.1 ⟨by simp, by simp, fun j hj => by rw [Nat.zero_add]; exact app_right hj⟩ (fun h => by simp at h)
      refine .tok _ _ _ (by omega) (by omega) (by rw [h1]; exact h2) ?_
      rw [h1]
      simp only [lay, List.nil_append]
      rw [← hz]
      exact .stop _ (Nat.le_refl _) (skip_end _)
    | cons u r =>
      have h3 := ih (fun x hx => hl x (by simp [hx])) (a ++ t.s ++ blank1)
      have e : a ++ jn ((t :: u :: r).map (·.s)) = a ++ t.s ++ blank1 ++ jn ((u :: r).map (·.s)) := by
        simp only [List.map_cons, jn_two, ByteArray.append_assoc]
      rw [e]
      generalize hX : a ++ t.s ++ blank1 ++ jn ((u :: r).map (·.s)) = X at h3 ⊢
      have hb1 : blank1.size = 1 := rfl
      have hz : X.size = a.size + t.s.size + 1 + (jn ((u :: r).map (·.s))).size := by rw [← hX]; simp [hb1]
      have e2 : X = a ++ (t.s ++ (blank1 ++ jn ((u :: r).map (·.s)))) := by rw [← hX]; simp only [ByteArray.append_assoc]
      have e3 : (a ++ t.s ++ blank1).size = a.size + t.s.size + 1 := by simp [hb1]
      have hby : ∀ j, j < t.s.size → bAt X (a.size + j) = bAt t.s j := fun j hj => by
        rw [e2, app_right (by simp; omega), app_left hj]
      have hbl : bAt X (a.size + t.s.size) = 32 := by
        rw [e2, app_right (by simp [hb1]; omega)]
        have := app_right (a := t.s) (b := blank1 ++ jn ((u :: r).map (·.s))) (j := 0) (by simp [hb1]; omega)
        rw [Nat.add_zero] at this
        rw [this, app_left (by decide)]
        rfl
      have h1 : skip X a.size = a.size := skip_stop (by omega) (by rw [← Nat.add_zero a.size, hby 0 hs]; exact hnb)
      have h2 : tokenV X a.size = ({ t with p := (a.size : Int) }, 0) := tok_shift (x := { t with p := 0 }) hs ht.1 ⟨by simp, by simp; omega, fun j hj => by rw [Nat.zero_add]; exact hby j hj⟩ (fun h => .inl (by simp only; rw [hbl]; rfl))
      refine .tok _ _ _ (by omega) (by omega) (by rw [h1]; exact h2) ?_
      rw [h1]
      rw [e3] at h3
      refine h3.from (by simp only; omega) ?_
      rw [skip_more (by simp only; omega) (by simp only; rw [hbl]; rfl)]
theorem lay_len : ∀ (q : Nat) (l : List Tok), (lay q l).length = l.length
  | _, [] => rfl
  | q, t :: r => by simp [lay, lay_len _ r]
theorem lay_map {α : Type} (f : Tok → α) (hf : ∀ t (q : Int), f { t with p := q } = f t) : ∀ (q : Nat) (l : List Tok), (lay q l).map f = l.map f
  | _, [] => rfl
  | q, t :: r => by simp [lay, hf, lay_map f hf _ r]
theorem wordsOf_end {l : List Tok} (n : Nat) (h : ∀ t ∈ l, ¬ t.k = 3) : wordsOf (l ++ [endTok n]) = l.map (·.s) := by
  have : (l ++ [endTok n]).filter (fun t => !decide (t.k = 3)) = l := by
    rw [List.filter_append, List.filter_eq_self.2 (fun t ht => by simp [h t ht])]
    exact List.append_nil l
  rw [wordsOf, this]
theorem lexOk_small {s : ByteArray} {p : Nat} {l : List Tok} {B : Nat} (h : LexOk s p l) (hB : s.size ≤ B) : ∀ t ∈ l, t.s.size ≤ B := by
  induction h with
  | stop p hp h =>
    intro x hx
    obtain rfl := List.mem_singleton.1 hx
    exact Nat.zero_le _
  | tok p t l hp h ht hl ih =>
    have h3 := skip_le hp
    obtain ⟨_, _, q3, _⟩ := tokenV_form (by omega) ht
    intro x hx
    rcases List.mem_cons.1 hx with rfl | hx
    · omega
    · exact ih x hx
/-- the text of a text's tokens -/
theorem back {c : ByteArray} {l : List Tok} (h : LexOk c 0 l) : ∃ m, LexOk (textV l) 0 m ∧ textV m = textV l ∧ (textV l).size ≤ 2 * c.size ∧ m.length = l.length ∧
    ∀ i (h1 : i < l.length) (h2 : i < m.length), l[i].k = m[i].k ∧ l[i].s = m[i].s ∧ l[i].n = m[i].n := by
  obtain ⟨r, rfl, h1, h2⟩ := h.all
  have h3 : textV (r ++ [endTok c.size]) = jn (r.map (·.s)) := by rw [textV, wordsOf_end _ (fun t ht => (h1 t ht).2.2)]
  have h4 := lay_ok r h1 ⟨#[]⟩
  have e : (⟨#[]⟩ : ByteArray) ++ jn (r.map (·.s)) = jn (r.map (·.s)) := by
    apply ByteArray.ext
    simp [ByteArray.data_append]
  rw [e] at h4
  rw [h3]
  refine ⟨_, h4, ?_, by omega, by simp [lay_len], ?_⟩
  · have h5 : ∀ t ∈ lay (ByteArray.size ⟨#[]⟩) r, ¬ t.k = 3 := by
      intro t ht
      have : t.k ∈ (lay (ByteArray.size ⟨#[]⟩) r).map (·.k) := List.mem_map_of_mem ht
      rw [lay_map (·.k) (fun _ _ => rfl)] at this
      obtain ⟨u, hu, he⟩ := List.mem_map.1 this
      rw [← he]
      exact (h1 u hu).2.2
    rw [textV, wordsOf_end _ h5, lay_map (·.s) (fun _ _ => rfl)]
  · have hm : ∀ {α : Type} (f : Tok → α), (∀ t (q : Int), f { t with p := q } = f t) → ∀ i (h1 : i < (r ++ [endTok c.size]).length) (h2 : i < (lay (ByteArray.size ⟨#[]⟩) r ++ [endTok (jn (r.map (·.s))).size]).length), f (r ++ [endTok c.size])[i] = f (lay (ByteArray.size ⟨#[]⟩) r ++ [endTok (jn (r.map (·.s))).size])[i] := by
      intro α f hf i h5 h6
      have h7 : (r ++ [endTok c.size]).map f = (lay (ByteArray.size ⟨#[]⟩) r ++ [endTok (jn (r.map (·.s))).size]).map f := by
        rw [List.map_append, List.map_append, lay_map f hf]
        congr 1
        simp only [List.map_cons, List.map_nil, endTok]
        rw [← hf ⟨3, ⟨#[]⟩, 0, c.size⟩ ((jn (r.map (·.s))).size : Int)]
      have h8 := congrArg (fun x => x[i]?) h7
      simp only [List.getElem?_map, List.getElem?_eq_getElem h5, List.getElem?_eq_getElem h6, Option.map_some, Option.some.injEq] at h8
      exact h8
    exact fun i h5 h6 => ⟨hm (·.k) (fun _ _ => rfl) i h5 h6, hm (·.s) (fun _ _ => rfl) i h5 h6, hm (·.n) (fun _ _ => rfl) i h5 h6⟩
end Go.Proofs.YtchdjdipiiijkaaDoor
