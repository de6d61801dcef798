/-
  Conditions: none.
-/
import Derived.Laws.IdiomStrings
import Derived.Lib.BufferRead
import Derived.Lib.AppendIntMem
import Derived.Test.YtedoeogopmenpaaDoorMaq
set_option maxHeartbeats 16000000
set_option maxRecDepth 20000
section
namespace Go.Proofs.YtedoeogopmenpaaDoor
theorem lexF_len (s : ByteArray) (n p : Nat) (out : List Tok) : (lexF s n p out).1.length ≤ out.length + n := by
 induction n generalizing p out with
 | zero => simp [lexF]
 | succ n ih =>
  rw [lexF]
  split
  ·simp
  ·split
   ·have := ih (skip s p + (tokenV s (skip s p)).1.s.size) (out ++ [(tokenV s (skip s p)).1])
    simp only [List.length_append, List.length_cons, List.length_nil] at this
    omega
   ·simp
theorem lexV_len (s : ByteArray) : (lexV s).1.length ≤ s.size + 1 := by
 unfold lexV
 split
 ·simp
 ·have := lexF_len s (s.size + 1) 0 []
  simpa using this
theorem LexErr.le {s : ByteArray} {p a : Nat} {e : Int} (h : LexErr s p a e) : p ≤ a ∧ a < s.size := by
 induction h with
 | here p t e hp h ht he => have := skip_le hp; omega
 | tok p a t e hp h ht hl ih => have := skip_le hp; omega
theorem LexErr.what {s : ByteArray} {p a : Nat} {e : Int} (h : LexErr s p a e) : ∃ x, tokenV s a = (x, e) ∧ ¬ e = 0 ∧ isBlank (bAt s a) = false := by
 induction h with
 | here p t e hp h ht he =>
  have h1 := skip_le hp
  exact ⟨t, ht, he, (skip_fact hp).2 (by omega)⟩
 | tok p a t e hp h ht hl ih => exact ih
theorem LexErr.before {s : ByteArray} {p a : Nat} {e : Int} (h : LexErr s p a e) : ∃ l, LexOk (s.extract 0 a) p l := by
 have hl := h.le
 have hz : (s.extract 0 a).size = a := by rw [extract_size (by omega)]; omega
 have hb : ∀ j, j < a → bAt (s.extract 0 a) j = bAt s j := fun j hj => by rw [bAt_ext (by omega) (by omega), Nat.zero_add]
 clear hl
 induction h with
 | here p t e hp h ht he =>
  have h1 := skip_le hp
  obtain ⟨h2, _⟩ := skip_fact hp
  refine ⟨_, .stop p (by omega) ?_⟩
  rw [hz]
  exact skip_is h1.1 (by omega) (fun j h3 h4 => by rw [hb j h4]; exact h2 j h3 h4) (fun h => by omega)
 | tok p a t e hp h ht hl ih =>
  have h1 := skip_le hp
  have h2 := hl.le
  obtain ⟨l, h3⟩ := ih hz hb
  obtain ⟨_, q2, q3, _⟩ := tokenV_form (by omega) ht
  obtain ⟨h4, h5⟩ := skip_fact hp
  have h6 : skip (s.extract 0 a) p = skip s p := skip_is h1.1 (by omega) (fun j h7 h8 => by rw [hb j (by omega)]; exact h4 j h7 h8) (fun _ => by rw [hb _ (by omega)]; exact h5 (by omega))
  have h7 : tokenV (s.extract 0 a) (skip s p) = (t, 0) := by
   obtain ⟨q1, _⟩ := tokenV_form (by omega) ht
   rw [tok_shift (t := s.extract 0 a) (q := skip s p) (by omega) ht ⟨q3, by omega, fun j hj => hb _ (by omega)⟩ (fun h8 => .inr ⟨by omega, hb _ (by omega)⟩), ← q1]
  exact ⟨t :: l, .tok p t l (by omega) (by omega) (by rw [h6]; exact h7) (by rw [h6]; exact h3)⟩
theorem LexErr.behind {s : ByteArray} {p a : Nat} {e : Int} (h : LexErr s p a e) : LexErr (s.extract a s.size) 0 0 e := by
 obtain ⟨x, h1, h2, h3⟩ := h.what
 have hl := h.le
 have hz : (s.extract a s.size).size = s.size - a := by simp
 have hs : Seg (s.extract a s.size) s a := ⟨⟨by omega, by omega, fun j hj => by rw [Nat.zero_add, bAt_ext (by omega) (Nat.le_refl _)]⟩, fun h => by omega⟩
 have h4 : skip (s.extract a s.size) 0 = 0 := skip_stop (by omega) (by rw [bAt_ext (by omega) (Nat.le_refl _)]; exact h3)
 rcases hT : tokenV (s.extract a s.size) 0 with ⟨y, f⟩
 have h5 : f = e := by
  by_cases hf : f = 0
  ·subst hf
   have h6 := hs.tok (p := 0) (by omega) hT
   rw [Nat.add_zero, h1] at h6
   cases h6
   exact absurd rfl h2
  ·have h6 := hs.err (p := 0) (by omega) hT hf
   rw [Nat.add_zero, h1] at h6
   cases h6
   rfl
 subst h5
 have h7 : LexErr (s.extract a s.size) 0 (skip (s.extract a s.size) 0) f := .here 0 y f (Nat.zero_le _) (by omega) (by rw [h4]; exact hT) h2
 rw [h4] at h7
 exact h7
def Tk (t : Tok) : Prop := tokenV t.s 0 = ({ t with p := 0 }, 0) ∧ 0 < t.s.size ∧ ¬ t.k = 3
theorem tk_of {s : ByteArray} {p : Nat} {t : Tok} (hp : p < s.size) (h : tokenV s p = (t, 0)) : Tk t := by
 obtain ⟨_, h2, h3, h4, h5⟩ := tokenV_form hp h
 refine ⟨tok_shift hp h ⟨h3, by omega, fun j hj => ?_⟩ (fun h6 => by omega), h2, ?_⟩
 ·rw [Nat.zero_add]
  have : bAt t.s j = bAt (s.extract p (p + t.s.size)) j := by rw [← h4]
  rw [this, bAt_ext (by omega) h3]
 ·rcases h5 with ⟨k, _⟩ | ⟨k, _⟩ | ⟨k, _⟩ <;> rw [k] <;> decide
theorem jn_len (ws : List ByteArray) : (jn ws).size = (Lib.join (ws.map (·.data.toList)) [32]).length := by
 unfold jn
 exact List.size_toArray
theorem jn_le (x : ByteArray) (ws : List ByteArray) : (jn (x :: ws)).size ≤ x.size + 1 + (jn ws).size := by
 rw [jn_len, jn_len]
 have hx : x.data.toList.length = x.size := by simp
 cases ws with
 | nil => simp only [List.map_cons, List.map_nil, Lib.join_one, hx]; omega
 | cons y r =>
  simp only [List.map_cons, Lib.join_cons, Lib.joinTail, List.length_append, List.flatten_cons, List.length_cons, List.length_nil, hx]
  omega
theorem LexOk.all {s : ByteArray} {p : Nat} {l : List Tok} (h : LexOk s p l) : ∃ m, l = m ++ [endTok s.size] ∧ (∀ t ∈ m, Tk t) ∧ (jn (m.map (·.s))).size ≤ 2 * (s.size - p) := by
 induction h with
 | stop p hp h => exact ⟨[], rfl, by simp, by rw [jn_len]; simp [Lib.join_nil]⟩
 | tok p t l hp h ht hl ih =>
  obtain ⟨m, rfl, h1, h2⟩ := ih
  have h3 := skip_le hp
  obtain ⟨_, q2, q3, _⟩ := tokenV_form (by omega) ht
  refine ⟨t :: m, rfl, fun x hx => ?_, ?_⟩
  ·rcases List.mem_cons.1 hx with rfl | hx
   ·exact tk_of (by omega) ht
   ·exact h1 x hx
  ·have h4 := jn_le t.s (m.map (·.s))
   rw [List.map_cons]
   omega
theorem jn_two (x y : ByteArray) (r : List ByteArray) : jn (x :: y :: r) = x ++ (blank1 ++ jn (y :: r)) := by
 apply ByteArray.ext
 apply Array.toList_inj.1
 simp [jn, Lib.join_cons, Lib.joinTail, blank1, ByteArray.data_append]
theorem jn_one (x : ByteArray) : jn [x] = x := by
 apply ByteArray.ext
 apply Array.toList_inj.1
 simp [jn, Lib.join_one]
theorem app_left {a b : ByteArray} {j : Nat} (h : j < a.size) : bAt (a ++ b) j = bAt a j := by
 rw [bAt_eq _ _ (by simp; omega), bAt_eq _ _ (by simpa using h)]
 simp [ByteArray.data_append, h]
theorem app_right {a b : ByteArray} {j : Nat} (h : j < b.size) : bAt (a ++ b) (a.size + j) = bAt b j := by
 rw [bAt_eq _ _ (by simp; omega), bAt_eq _ _ (by simpa using h)]
 simp [ByteArray.data_append]
def lay : Nat → List Tok → List Tok
 | _, [] => []
 | q, t :: r => { t with p := (q : Int) } :: lay (q + t.s.size + 1) r
theorem tk_not_blank {t : Tok} (h : Tk t) : isBlank (bAt t.s 0) = false := by
 cases hb : isBlank (bAt t.s 0) with
 | false => rfl
 | true =>
  have h1 := blank_alnum hb
  have h2 := h.1
  obtain ⟨_, _, _, _, h3⟩ := tokenV_form (s := t.s) (p := 0) h.2.1 h2
  rcases h3 with ⟨_, k, _⟩ | ⟨_, _, k, _⟩ | ⟨_, _, _, k, _⟩
  ·rw [h1.2.2.1] at k; cases k
  ·rw [h1.2.1] at k; cases k
  ·have hk : signTo t.s 0 = 0 := by
    rw [signTo_one (fun h => h1.2.2.2 h.2.2)]
    rw [if_neg]
    have h4 := blank_nat hb
    have : (bAt t.s 0) = 32 ∨ (bAt t.s 0) = 9 ∨ (bAt t.s 0) = 10 := by
     rw [byte_eq, byte_eq, byte_eq]
     have e1 : (32 : UInt8).toNat = 32 := rfl
     have e2 : (9 : UInt8).toNat = 9 := rfl
     have e3 : (10 : UInt8).toNat = 10 := rfl
     omega
    rcases this with h5 | h5 | h5 <;> rw [h5] <;> decide
   rw [hk] at k
   have := h.2.1
   simp only at k
   omega
theorem lay_ok (l : List Tok) (hl : ∀ t ∈ l, Tk t) (a : ByteArray) : LexOk (a ++ jn (l.map (·.s))) a.size (lay a.size l ++ [endTok (a ++ jn (l.map (·.s))).size]) := by
 induction l generalizing a with
 | nil =>
  have e : a ++ jn (([] : List Tok).map (·.s)) = a := by
   apply ByteArray.ext
   simp [jn, Lib.join_nil, ByteArray.data_append]
  rw [e]
  exact .stop _ (Nat.le_refl _) (skip_end a)
 | cons t r ih =>
  have ht := hl t (by simp)
  have hs := ht.2.1
  have hnb := tk_not_blank ht
  cases r with
  | nil =>
   simp only [List.map_cons, List.map_nil, jn_one]
   have hz : (a ++ t.s).size = a.size + t.s.size := ByteArray.size_append
   have h0 : bAt (a ++ t.s) a.size = bAt t.s 0 := app_right (j := 0) hs
   have h1 : skip (a ++ t.s) a.size = a.size := skip_stop (by omega) (by rw [h0]; exact hnb)
   have h2 : tokenV (a ++ t.s) a.size = ({ t with p := (a.size : Int) }, 0) := tok_shift (x := { t with p := 0 }) hs ht.1 ⟨by simp, by simp, fun j hj => by rw [Nat.zero_add]; exact app_right hj⟩ (fun h => by simp at h)
   refine .tok _ _ _ (by omega) (by omega) (by rw [h1]; exact h2) ?_
   rw [h1]
   simp only [lay, List.nil_append]
   rw [← hz]
   exact .stop _ (Nat.le_refl _) (skip_end _)
  | cons u r =>
   have h3 := ih (fun x hx => hl x (by simp [hx])) (a ++ t.s ++ blank1)
   have e : a ++ jn ((t :: u :: r).map (·.s)) = a ++ t.s ++ blank1 ++ jn ((u :: r).map (·.s)) := by
    simp only [List.map_cons, jn_two, ByteArray.append_assoc]
   rw [e]
   generalize hX : a ++ t.s ++ blank1 ++ jn ((u :: r).map (·.s)) = X at h3 ⊢
   have hb1 : blank1.size = 1 := rfl
   have hz : X.size = a.size + t.s.size + 1 + (jn ((u :: r).map (·.s))).size := by rw [← hX]; simp [hb1]
   have e2 : X = a ++ (t.s ++ (blank1 ++ jn ((u :: r).map (·.s)))) := by rw [← hX]; simp only [ByteArray.append_assoc]
   have e3 : (a ++ t.s ++ blank1).size = a.size + t.s.size + 1 := by simp [hb1]
   have hby : ∀ j, j < t.s.size → bAt X (a.size + j) = bAt t.s j := fun j hj => by
    rw [e2, app_right (by simp; omega), app_left hj]
   have hbl : bAt X (a.size + t.s.size) = 32 := by
    rw [e2, app_right (by simp [hb1]; omega)]
    have := app_right (a := t.s) (b := blank1 ++ jn ((u :: r).map (·.s))) (j := 0) (by simp [hb1]; omega)
    rw [Nat.add_zero] at this
    rw [this, app_left (by decide)]
    rfl
   have h1 : skip X a.size = a.size := skip_stop (by omega) (by rw [← Nat.add_zero a.size, hby 0 hs]; exact hnb)
   have h2 : tokenV X a.size = ({ t with p := (a.size : Int) }, 0) := tok_shift (x := { t with p := 0 }) hs ht.1 ⟨by simp, by simp; omega, fun j hj => by rw [Nat.zero_add]; exact hby j hj⟩ (fun h => .inl (by simp only; rw [hbl]; rfl))
   refine .tok _ _ _ (by omega) (by omega) (by rw [h1]; exact h2) ?_
   rw [h1]
   rw [e3] at h3
   refine h3.from (by simp only; omega) ?_
   rw [skip_more (by simp only; omega) (by simp only; rw [hbl]; rfl)]
theorem lay_len : ∀ (q : Nat) (l : List Tok), (lay q l).length = l.length
 | _, [] => rfl
 | q, t :: r => by simp [lay, lay_len _ r]
theorem lay_map {α : Type} (f : Tok → α) (hf : ∀ t (q : Int), f { t with p := q } = f t) : ∀ (q : Nat) (l : List Tok), (lay q l).map f = l.map f
 | _, [] => rfl
 | q, t :: r => by simp [lay, hf, lay_map f hf _ r]
theorem wordsOf_end {l : List Tok} (n : Nat) (h : ∀ t ∈ l, ¬ t.k = 3) : wordsOf (l ++ [endTok n]) = l.map (·.s) := by
 have : (l ++ [endTok n]).filter (fun t => !decide (t.k = 3)) = l := by
  rw [List.filter_append, List.filter_eq_self.2 (fun t ht => by simp [h t ht])]
  exact List.append_nil l
 rw [wordsOf, this]
theorem lexOk_small {s : ByteArray} {p : Nat} {l : List Tok} {B : Nat} (h : LexOk s p l) (hB : s.size ≤ B) : ∀ t ∈ l, t.s.size ≤ B := by
 induction h with
 | stop p hp h =>
  intro x hx
  obtain rfl := List.mem_singleton.1 hx
  exact Nat.zero_le _
 | tok p t l hp h ht hl ih =>
  have h3 := skip_le hp
  obtain ⟨_, _, q3, _⟩ := tokenV_form (by omega) ht
  intro x hx
  rcases List.mem_cons.1 hx with rfl | hx
  ·omega
  ·exact ih x hx
theorem back {c : ByteArray} {l : List Tok} (h : LexOk c 0 l) : ∃ m, LexOk (textV l) 0 m ∧ textV m = textV l ∧ (textV l).size ≤ 2 * c.size ∧ m.length = l.length ∧
  ∀ i (h1 : i < l.length) (h2 : i < m.length), l[i].k = m[i].k ∧ l[i].s = m[i].s ∧ l[i].n = m[i].n := by
 obtain ⟨r, rfl, h1, h2⟩ := h.all
 have h3 : textV (r ++ [endTok c.size]) = jn (r.map (·.s)) := by rw [textV, wordsOf_end _ (fun t ht => (h1 t ht).2.2)]
 have h4 := lay_ok r h1 ⟨#[]⟩
 have e : (⟨#[]⟩ : ByteArray) ++ jn (r.map (·.s)) = jn (r.map (·.s)) := by
  apply ByteArray.ext
  simp [ByteArray.data_append]
 rw [e] at h4
 rw [h3]
 refine ⟨_, h4, ?_, by omega, by simp [lay_len], ?_⟩
 ·have h5 : ∀ t ∈ lay (ByteArray.size ⟨#[]⟩) r, ¬ t.k = 3 := by
   intro t ht
   have : t.k ∈ (lay (ByteArray.size ⟨#[]⟩) r).map (·.k) := List.mem_map_of_mem ht
   rw [lay_map (·.k) (fun _ _ => rfl)] at this
   obtain ⟨u, hu, he⟩ := List.mem_map.1 this
   rw [← he]
   exact (h1 u hu).2.2
  rw [textV, wordsOf_end _ h5, lay_map (·.s) (fun _ _ => rfl)]
 ·have hm : ∀ {α : Type} (f : Tok → α), (∀ t (q : Int), f { t with p := q } = f t) → ∀ i (h1 : i < (r ++ [endTok c.size]).length) (h2 : i < (lay (ByteArray.size ⟨#[]⟩) r ++ [endTok (jn (r.map (·.s))).size]).length), f (r ++ [endTok c.size])[i] = f (lay (ByteArray.size ⟨#[]⟩) r ++ [endTok (jn (r.map (·.s))).size])[i] := by
   intro α f hf i h5 h6
   have h7 : (r ++ [endTok c.size]).map f = (lay (ByteArray.size ⟨#[]⟩) r ++ [endTok (jn (r.map (·.s))).size]).map f := by
    rw [List.map_append, List.map_append, lay_map f hf]
    congr 1
    simp only [List.map_cons, List.map_nil, endTok]
    rw [← hf ⟨3, ⟨#[]⟩, 0, c.size⟩ ((jn (r.map (·.s))).size : Int)]
   have h8 := congrArg (fun x => x[i]?) h7
   simp only [List.getElem?_map, List.getElem?_eq_getElem h5, List.getElem?_eq_getElem h6, Option.map_some, Option.some.injEq] at h8
   exact h8
  exact fun i h5 h6 => ⟨hm (·.k) (fun _ _ => rfl) i h5 h6, hm (·.s) (fun _ _ => rfl) i h5 h6, hm (·.n) (fun _ _ => rfl) i h5 h6⟩
end Go.Proofs.YtedoeogopmenpaaDoor
end
section
namespace Go.Proofs.YtedoeogopmenpaaDoor
open Go.RowKit
theorem num_range {s : ByteArray} (h : numOk s = true) : 0 ≤ numTo s s.size ∧ numTo s s.size ≤ 1000000000000000 := by
 simp only [numOk, Bool.and_eq_true, Bool.or_eq_true, decide_eq_true_eq] at h
 obtain ⟨⟨⟨h1, h2⟩, h3⟩, h4⟩ := h
 have := num_bd (s := s) (k := s.size) fun j hj => pre_lt (by omega)
 exact ⟨this.1, h4⟩
theorem tk_nums {t : Tok} (h : Tk t) (hk : t.k = 1) : 0 ≤ t.n ∧ t.n ≤ 1000000000000000 := by
 obtain ⟨h1, h2, h3⟩ := h
 obtain ⟨_, _, _, _, h4⟩ := tokenV_form h2 h1
 rcases h4 with ⟨k, _⟩ | ⟨_, _, _, _, k, hn⟩ | ⟨k, _⟩
 ·simp only at k; omega
 ·simp only at k hn
  rw [hn]
  exact num_range k
 ·simp only at k; omega
theorem lex_ready {s : ByteArray} {L : List Tok} {p : Int} (h : lexV s = (L, p, 0)) : s.size ≤ 4000 ∧ LexOk s 0 L ∧ p = 0 ∧ Ends L ∧ L.length ≤ 4001 ∧ Texts L ∧ NumsIn L := by
 by_cases hs : s.size ≤ 4000
 ·rcases lexV_case hs with ⟨m, h1, h2⟩ | ⟨a, e, h1, h2, h3⟩
  ·rw [h] at h2
   obtain ⟨rfl, rfl, _⟩ : L = m ∧ p = 0 ∧ (0 : Int) = 0 := by simpa using h2
   have hlen := lexV_len s
   rw [h] at hlen
   obtain ⟨q, rfl, h4, _⟩ := h1.all
   refine ⟨hs, h1, rfl, ⟨q, _, rfl, rfl, fun x hx => (h4 x hx).2.2⟩, by simp only at hlen; omega, fun t ht => ?_, fun t ht hk => ?_⟩
   ·have := lexOk_small h1 hs t ht
    omega
   ·rcases List.mem_append.1 ht with ht | ht
    ·exact tk_nums (h4 t ht) hk
    ·simp only [List.mem_singleton] at ht
     subst ht
     cases hk
  ·rw [h] at h3
   simp only [Prod.mk.injEq] at h3
   exact absurd h3.2.2.symm h2
 ·unfold lexV at h
  rw [if_pos (by omega)] at h
  cases h
theorem Ends.rdy {L : List Tok} (h : Ends L) (hl : L.length ≤ 4001) : Rdy L L := ⟨.refl _, h, by omega⟩
def parseV (s : ByteArray) : By × Int × Int := match lexV s with
 | (L, p, e) => if e = 0 then (match bylawsP L with
  | .ok x _ => (x, 0, 0)
  | .bad q c => (By.zero, q, c)) else (By.zero, p, e)
def allP (l : List Tok) : Rd Ex := (readE l).then fun e t => if (nxt t).k = 3 then (if e.levels ≤ 12 then .ok e t else .bad (nxt t).p 6) else .bad (nxt t).p 12
def parseEV (s : ByteArray) : Ex × Int × Int := match lexV s with
 | (L, p, e) => if e = 0 then (match allP L with
  | .ok x _ => (x, 0, 0)
  | .bad q c => (Ex.zero, q, c)) else (Ex.zero, p, e)
end Go.Proofs.YtedoeogopmenpaaDoor
end
section
namespace Go.Proofs.YtedoeogopmenpaaDoor
abbrev wordT (s : ByteArray) : Tok := ⟨0, s, 0, 0⟩
abbrev signT (s : ByteArray) : Tok := ⟨2, s, 0, 0⟩
def opInfo (op : Int) : Option (Tok × Nat) :=
 if op = 14 then some (wordT w_or, 1) else if op = 13 then some (wordT w_and, 2) else if op = 11 then some (signT w_eq, 4) else if op = 10 then some (signT w_lt, 4)
 else if op = 4 then some (signT w_plus, 5) else if op = 5 then some (signT w_minus, 5) else if op = 6 then some (signT w_times, 6) else if op = 7 then some (signT w_by, 6) else none
def formV (op : Int) : Nat := if op = 15 then 0 else if op = 12 then 3 else match opInfo op with
 | some (_, g) => g
 | none => 7
def leftV (g : Nat) : Nat := if g = 4 then 5 else g
section
variable (decB : Int → ByteArray)
def numToks (n u : Int) : List Tok :=
 if u = 3 then (if n = 1 then [wordT w_true] else [wordT w_false])
 else if u = 1 then [⟨1, decB n, n, 0⟩, wordT w_cents]
 else if u = 2 then [⟨1, decB n, n, 0⟩, wordT w_minutes]
 else [⟨1, decB n, n, 0⟩]
def bodyToks (op n u : Int) (s : ByteArray) (a : List (Nat → List Tok)) : List Tok :=
 if op = 0 then numToks decB n u
 else if op = 1 then [wordT s]
 else if op = 2 then [wordT w_trip, wordT s]
 else if op = 3 then [wordT w_member, wordT s]
 else if op = 15 then (match a with
  | [x, y, z] => wordT w_if :: (x 0 ++ wordT w_then :: (y 0 ++ wordT w_else :: z 0))
  | _ => [])
 else if op = 12 then (match a with
  | [x] => wordT w_not :: x 3
  | _ => [])
 else match opInfo op, a with
  | some (t, g), [x, y] => x (leftV g) ++ t :: y (g + 1)
  | none, [x, y] => wordT (if op = 8 then w_min else w_max) :: signT w_lp :: (x 0 ++ signT w_comma :: (y 0 ++ [signT w_rp]))
  | _, _ => []
mutual
def Ex.toks : Ex → (Nat → List Tok)
 | .mk op n u s a => fun f => if formV op < f then signT w_lp :: (bodyToks decB op n u s (Ex.toksL a) ++ [signT w_rp]) else bodyToks decB op n u s (Ex.toksL a)
def Ex.toksL : List Ex → List (Nat → List Tok)
 | [] => []
 | x :: r => Ex.toks x :: Ex.toksL r
end
def Ex.body (e : Ex) : List Tok := e.toks decB 0
theorem toks_of (e : Ex) (f : Nat) : e.toks decB f = if formV e.op < f then signT w_lp :: (e.toks decB 0 ++ [signT w_rp]) else e.toks decB 0 := by
 obtain ⟨op, n, u, s, a⟩ := e
 simp only [Ex.toks, Ex.op, Nat.not_lt_zero, if_false]
theorem toks_in {e : Ex} {f : Nat} (h : f ≤ formV e.op) : e.toks decB f = e.toks decB 0 := by rw [toks_of, if_neg (by omega)]
theorem toks_par {e : Ex} {f : Nat} (h : formV e.op < f) : e.toks decB f = signT w_lp :: (e.toks decB 0 ++ [signT w_rp]) := by rw [toks_of, if_pos h]
theorem two_toks {op : Int} {a b : Ex} {t : Tok} {g : Nat} (h : opInfo op = some (t, g)) (ho : op ≠ 0 ∧ op ≠ 1 ∧ op ≠ 2 ∧ op ≠ 3 ∧ op ≠ 12 ∧ op ≠ 15) : (two op a b).toks decB 0 = a.toks decB (leftV g) ++ t :: b.toks decB (g + 1) := by
 obtain ⟨h0, h1, h2, h3, h4, h5⟩ := ho
 simp only [two, Ex.toks, Ex.toksL, Nat.not_lt_zero, if_false, bodyToks, h0, h1, h2, h3, h4, h5, h]
theorem Der.form {f o : Nat} {l t : List Tok} {e : Ex} (h : Der f l e o t) (hf : f ≤ 7) : f ≤ o := by
 cases h with
 | iff => exact Nat.le_refl 0
 | nott hf h ha => exact hf
 | op ha hs hf hg h4 hb => exact hf
 | _ => exact hf
theorem sym_le {l : List Tok} {op : Int} {g : Nat} (h : symP l = some (op, g)) : 1 ≤ g ∧ g ≤ 6 ∧ g ≠ 3 := by
 unfold symP at h
 repeat (split at h; (cases h; decide))
 cases h
end
end Go.Proofs.YtedoeogopmenpaaDoor
end
section
namespace Go.Proofs.YtedoeogopmenpaaDoor
open Go.RowKit Go.ChangeShapes Go.WideShapes
theorem repD_val {w : World} {Pr : Prot} {u v : Value} (h : RepD w Pr v (.val u)) : v = u := by
 cases h
 rfl
theorem pure_vals {f : FuncId} {us : List Value} {Post : D → Prop} (hf : FnOk f) (h : ∀ w Pr, (∀ b o, Pr b o → b < w.heap.size) → EnvOk w Pr → Calls Tryd.prog f us.toArray w (PostR w Pr Post)) : PureC f (us.map D.val) Post := by
 refine ⟨hf, fun w Pr vs h1 h2 h3 h4 => ?_⟩
 have e : vs = us := by
  apply List.ext_getElem?
  intro i
  have hl : vs.length = us.length := by simpa using h3
  by_cases hi : i < vs.length
  ·have := h4 i vs[i] (.val us[i]) (List.getElem?_eq_getElem hi) (by simp [List.getElem?_eq_getElem (show i < us.length by omega)])
   rw [List.getElem?_eq_getElem hi, List.getElem?_eq_getElem (by omega), repD_val this]
  ·rw [List.getElem?_eq_none (by omega), List.getElem?_eq_none (by omega)]
 subst e
 exact h w Pr h1 h2
def itoaB (n : Int) : ByteArray := ⟨(Lib.itoa n).toArray⟩
theorem itoa_any (n : Int) (h0 : -9223372036854775808 ≤ n) (h1 : n ≤ 9223372036854775807) : PureC 31 [.int n] (· = .str (itoaB n)) := by
 refine pure_vals (us := [.int .i64 n]) ⟨_, Tryd.func31, by decide, rfl⟩ (fun w Pr _ hE => ?_)
 have ht : Lib.TabIs Tryd.prog w "internal/strconv.uint64pow10" .u64 Lib.pow10Tab := tab_of hE (by unfold laidG; exact List.mem_cons_of_mem _ List.mem_cons_self) (by kernel_rfl) (by decide)
 refine (Tryd.strconv_Itoa n h0 h1 w ht).mono fun e w' ⟨he, k, os, hw⟩ => ?_
 subst hw
 exact ⟨_, _, he, rfl, .val _, Lib.below_grow _ _ (Nat.le_refl _) k os⟩
section
variable {E : Entry} {sl : Slots} {ob : Objs} {d : Option Nat} {t ty T : TypeId} {p : String} {af : Array Edge} {g : Option (Nat × Bool)} {x : Operand}
end
abbrev L (r : ByteArray) : List UInt8 := r.data.toList
abbrev B (l : List UInt8) : ByteArray := ⟨l.toArray⟩
theorem dig_byte {u : Nat} (h : u < 10) : (UInt8.ofNat (48 + u)).toNat = 48 + u := by
 rw [UInt8.toNat_ofNat']
 omega
theorem ba_ext {a b : ByteArray} (h : a.data.toList = b.data.toList) : a = b := by
 apply ByteArray.ext
 exact Array.toList_inj.1 h
theorem dec_one {u : Nat} (h : u < 10) : Lib.decDigits u = [UInt8.ofNat (48 + u)] := by
 unfold Lib.decDigits
 rw [dif_pos h]
theorem dec_more {u : Nat} (h : ¬ u < 10) : Lib.decDigits u = Lib.decDigits (u / 10) ++ [UInt8.ofNat (48 + u % 10)] := by
 rw [Lib.decDigits]
 rw [dif_neg h]
theorem dec_len (u : Nat) : ∀ k : Nat, u < 10 ^ k → 0 < k → (Lib.decDigits u).length ≤ k := by
 induction u using Nat.strongRecOn with
 | _ u ih =>
  intro k hk h0
  by_cases h : u < 10
  ·rw [dec_one h]; exact h0
  ·obtain ⟨j, rfl⟩ : ∃ j, k = j + 1 := ⟨k - 1, by omega⟩
   rw [dec_more h, List.length_append, List.length_singleton]
   have h1 : u / 10 < 10 ^ j := by rw [Nat.pow_succ] at hk; omega
   have hj : 0 < j := by
    rcases Nat.eq_zero_or_pos j with rfl | hj
    ·simp at h1; omega
    ·exact hj
   have := ih (u / 10) (by omega) j h1 hj
   omega
theorem dec19 {u : Nat} (h : u ≤ 9223372036854775808) : (Lib.decDigits u).length ≤ 19 := dec_len u 19 (by omega) (by omega)
theorem itoaB_pos {n : Int} (h : 0 ≤ n) : itoaB n = B (Lib.decDigits n.toNat) := by
 unfold itoaB Lib.itoa
 rw [if_neg (by omega)]
theorem itoaB_size {n : Int} (h : 0 ≤ n) (h1 : n ≤ 9223372036854775807) : (itoaB n).size ≤ 19 := by
 rw [itoaB_pos h]
 have := dec19 (u := n.toNat) (by omega)
 have hsz : (B (Lib.decDigits n.toNat)).size = (Lib.decDigits n.toNat).length := List.size_toArray
 omega
end Go.Proofs.YtedoeogopmenpaaDoor
end
section
set_option linter.unusedSimpArgs false
set_option linter.unusedVariables false
namespace Go.Proofs.YtedoeogopmenpaaDoor
open Go.RowKit
mutual
def Ex.tame : Ex → Prop
 | .mk _ _ _ s a => s.size ≤ 100000 ∧ a.length ≤ 100000 ∧ Ex.tameL a
def Ex.tameL : List Ex → Prop
 | [] => True
 | x :: r => x.tame ∧ Ex.tameL r
end
theorem tame_str {e : Ex} (h : e.tame) : e.str.size ≤ 100000 := by
 cases e
 exact h.1
theorem tame_len {e : Ex} (h : e.tame) : e.args.length ≤ 100000 := by
 cases e
 exact h.2.1
theorem tameL_get {a : List Ex} (h : Ex.tameL a) {i : Nat} (hi : i < a.length) : a[i].tame := by
 induction a generalizing i with
 | nil => simp at hi
 | cons x r ih =>
  cases i with
  | zero => exact h.1
  | succ i => exact ih h.2 (by simpa using hi)
theorem tame_get {e : Ex} (h : e.tame) {i : Nat} (hi : i < e.args.length) : e.args[i].tame := by
 cases e
 exact tameL_get h.2.2 hi
theorem rightL_all : ∀ (a : List Ex) (d : Nat), Ex.rightL a d = a.all fun x => x.right d
 | [], _ => rfl
 | x :: r, d => by rw [List.all_cons, ← rightL_all r d]; rfl
theorem right_eq (e : Ex) (d : Nat) : e.right (d + 1) = (decide ((e.args.length : Int) = operandsV e.op) &&
  (if e.op = 0 then numRight e.num e.unit e.str
   else if e.op = 1 ∨ e.op = 2 ∨ e.op = 3 then decide (e.num = 0) && decide (e.unit = 0) && nameV e.str
   else decide (e.num = 0) && decide (e.unit = 0) && decide (e.str = ⟨#[]⟩) && e.args.all fun x => x.right d)) := by
 cases e
 simp only [Ex.right, Ex.args, Ex.op, Ex.num, Ex.unit, Ex.str, Nat.add_sub_cancel, rightL_all, show (d + 1 = 0) = False from by simp, decide_false, Bool.not_false, Bool.true_and]
 congr
theorem right_zero (e : Ex) : e.right 0 = false := by
 cases e
 simp [Ex.right]
theorem operands_any (op : Int) : PureC 67 [.int op] (· = .int (operandsV op)) := by
 unfold operandsV
 refine pure_enter Tryd.func67 rfl (by decide) _ Tryd.ntmps67 (le_ok rfl) (fun w Pr hE => ?_)
 dsimp only [slotsOf, Nat.zero_add, Nat.reduceAdd]
 repeat' (first | refine nx ?_ | (apply aq_block_y; decide) | (apply qr_move; refine r_move ?_) | (apply qr_assign; refine r_assign ?_) | (apply at_cond; first | refine c_t ?_ | refine c_f ?_ | (refine aw_cond rfl (fun hb => ?_) (fun hb => ?_) <;> ((try have hq := dX hb); (try (exfalso; omega))))) | (apply at_guard; first | refine g_go ?_ | refine g_nt ?_ | refine g_nf ?_ | refine g_nu ?_ | ((first | refine al_split_t rfl rfl (lt_ok rfl) (fun hb => ?_) (fun hb => ?_) | refine al_split_f rfl rfl (lt_ok rfl) (fun hb => ?_) (fun hb => ?_)) <;> ((try have hq := dX hb); (try (exfalso; omega))))) | (apply qr_pick; refine r_pick ?_) | (apply qr_lss; refine r_lss ?_) | (apply qr_geq; refine r_geq ?_) | (apply qr_eql; refine r_eql ?_))
 all_goals
  refine ret_one (by rfl) (by exact ToD.d _) ?_
  simp [*]
  try omega
abbrev inB (a b : Int) : Objs := [(1001, .box 3 [.d (.int a)]), (1002, .box 3 [.d (.int b)])]
theorem in1_any (n a b : Int) : ObC 65 [.d (.int n), .box 1001 0, .box 1002 0] (inB a b) [] (fun x o => x = .d (.bool (decide (n < a) || decide (b < n))) ∧ o = inB a b) := by
 cases h : decide (n < a)
 ·rw [Bool.false_or]
  refine ob_enter Tryd.func65 rfl (by decide) _ Tryd.ntmps65 (le_ok rfl) rfl (fun w Pr β κ hE => ?_)
  dsimp only [slotsV, Nat.zero_add, Nat.reduceAdd]
  repeat' (first | refine nx ?_ | (apply qr_move; refine r_move ?_) | (apply qr_assign; refine r_assign ?_) | (apply at_guard; first | refine g_go ?_ | refine g_nt ?_ | refine g_nf ?_ | refine g_nu ?_ | ((first | refine al_split_t rfl rfl (lt_ok rfl) (fun hb => ?_) (fun hb => ?_) | refine al_split_f rfl rfl (lt_ok rfl) (fun hb => ?_) (fun hb => ?_)) <;> ((try have hq := dX hb); (try (exfalso; omega))))) | (apply qr_pick; refine r_pick ?_) | (apply qr_lss; refine r_lss ?_) | (apply qr_gtr; refine r_gtr ?_) | (apply qr_load; refine r_load ?_))
  refine oret1 (inB a b) (by rfl) rv (⟨rfl, rfl⟩) sb okx
 ·rw [Bool.true_or]
  refine ob_enter Tryd.func65 rfl (by decide) _ Tryd.ntmps65 (le_ok rfl) rfl (fun w Pr β κ hE => ?_)
  dsimp only [slotsV, Nat.zero_add, Nat.reduceAdd]
  repeat' (first | refine nx ?_ | (apply qr_move; refine r_move ?_) | (apply qr_assign; refine r_assign ?_) | (apply at_guard; first | refine g_go ?_ | refine g_nt ?_ | refine g_nf ?_ | refine g_nu ?_ | ((first | refine al_split_t rfl rfl (lt_ok rfl) (fun hb => ?_) (fun hb => ?_) | refine al_split_f rfl rfl (lt_ok rfl) (fun hb => ?_) (fun hb => ?_)) <;> ((try have hq := dX hb); (try (exfalso; omega))))) | (apply qr_pick; refine r_pick ?_) | (apply qr_lss; refine r_lss ?_) | (apply qr_gtr; refine r_gtr ?_) | (apply qr_load; refine r_load ?_))
  refine oret1 (inB a b) (by rfl) rv (⟨rfl, rfl⟩) sb okx
abbrev intsD (l : List Int) : D := .list 1 (l.map fun n => [D.int n])
theorem iindex (l : List Int) (hl : l.length ≤ 9223372036854775806) (a b : Int) : ObC 84 [.d (intsD l), .clo (.func 65) [.box 1001 0, .box 1002 0]] (inB a b) [] (fun x o => (∃ r, x = .d (.int r) ∧ decide (0 ≤ r) = l.any fun n => (decide (n < a) || decide (b < n))) ∧ o = inB a b) := by
 refine ob_enter Tryd.func84 rfl (by decide) _ Tryd.ntmps84 (le_ok rfl) rfl (fun w Pr β κ hE => ?_)
 dsimp only [slotsV, Nat.zero_add, Nat.reduceAdd]
 repeat' (first | refine nx ?_ | (apply aq_block_y; decide) | (apply qr_move; refine r_move ?_) | (apply qr_assign; refine r_assign ?_) | (apply at_cond; first | refine c_t ?_ | refine c_f ?_ | (refine aw_cond rfl (fun hb => ?_) (fun hb => ?_) <;> ((try have hq := dX hb); (try (exfalso; omega))))) | (apply qr_lss; refine r_lss ?_) | (apply qr_add; refine r_add ?_) | (apply qr_len; refine r_len ?_) | (apply qr_ix; refine r_ix ?_) | (apply qr_load; refine r_load ?_))
 refine aw_lp (fun N sl ob => ∃ i : Nat, N = l.length - i ∧ i ≤ l.length ∧ ((l.take i).any fun n => (decide (n < a) || decide (b < n))) = false ∧ sl = [(8, .d (.int i)), (7, .d (.int l.length)), (1, .clo (.func 65) [.box 1001 0, .box 1002 0]), (0, .d (intsD l))] ∧ ob = inB a b) (⟨0, rfl, Nat.zero_le _, by simp, rfl, rfl⟩) ?_
 rintro N sl ob ⟨i, rfl, hi, hs, rfl, rfl⟩
 by_cases hlt : i < l.length
 ·have hg : (l.map fun n => [D.int n])[i]? = some [D.int l[i]] := by rw [get_map hlt]
  have hnext := any_take (fun n => (decide (n < a) || decide (b < n))) hlt
  rw [hs, Bool.false_or] at hnext
  have hc := in1_any l[i] a b
  cases hT : (decide (l[i] < a) || decide (b < l[i]))
  ·rw [hT] at hc hnext
   generalize l[i] = z at hg hc
   repeat' (first | (apply at_op (.indexAddr _ _ _); refine al_ixq hg ?_) | (apply at_call; refine k_clocall1 [(1001, 1001), (1002, 1002)] (hc) hE ?_; rintro _ _ ⟨rfl, rfl⟩ <;> (intro _ _ h1 h2; simp only [renEqs, Nat.reduceBEq, renL_app, renL_ds, renL_und] at h1 h2; subst h1 h2)) | refine nx ?_ | (apply aq_block_y; decide) | (apply qr_move; refine r_move ?_) | (apply qr_assign; refine r_assign ?_) | (apply at_cond; first | refine c_t ?_ | refine c_f ?_ | (refine aw_cond rfl (fun hb => ?_) (fun hb => ?_) <;> ((try have hq := dX hb); (try (exfalso; omega))))) | (apply qr_lss; refine r_lss ?_) | (apply qr_add; refine r_add ?_) | (apply qr_len; refine r_len ?_) | (apply qr_ix; refine r_ix ?_) | (apply qr_load; refine r_load ?_))
   refine aq_rd (⟨i + 1, rfl, by omega, hnext, rfl, rfl⟩) (by omega)
  ·rw [hT] at hc
   have hany : (l.any fun n => (decide (n < a) || decide (b < n))) = true := List.any_eq_true.2 ⟨l[i], List.getElem_mem hlt, hT⟩
   generalize l[i] = z at hg hc
   repeat' (first | (apply at_op (.indexAddr _ _ _); refine al_ixq hg ?_) | (apply at_call; refine k_clocall1 [(1001, 1001), (1002, 1002)] (hc) hE ?_; rintro _ _ ⟨rfl, rfl⟩ <;> (intro _ _ h1 h2; simp only [renEqs, Nat.reduceBEq, renL_app, renL_ds, renL_und] at h1 h2; subst h1 h2)) | refine nx ?_ | (apply aq_block_y; decide) | (apply qr_move; refine r_move ?_) | (apply qr_assign; refine r_assign ?_) | (apply at_cond; first | refine c_t ?_ | refine c_f ?_ | (refine aw_cond rfl (fun hb => ?_) (fun hb => ?_) <;> ((try have hq := dX hb); (try (exfalso; omega))))) | (apply qr_lss; refine r_lss ?_) | (apply qr_add; refine r_add ?_) | (apply qr_len; refine r_len ?_) | (apply qr_ix; refine r_ix ?_) | (apply qr_load; refine r_load ?_))
   refine oret1 (inB a b) (by rfl) rv (⟨⟨i, rfl, by rw [hany]; exact decide_eq_true (by omega)⟩, rfl⟩) sb okx
 ·rw [List.take_of_length_le (by omega)] at hs
  repeat' (first | refine nx ?_ | (apply aq_block_y; decide) | (apply qr_move; refine r_move ?_) | (apply qr_assign; refine r_assign ?_) | (apply at_cond; first | refine c_t ?_ | refine c_f ?_ | (refine aw_cond rfl (fun hb => ?_) (fun hb => ?_) <;> ((try have hq := dX hb); (try (exfalso; omega))))) | (apply qr_lss; refine r_lss ?_) | (apply qr_add; refine r_add ?_) | (apply qr_len; refine r_len ?_) | (apply qr_ix; refine r_ix ?_) | (apply qr_load; refine r_load ?_))
  refine oret1 (inB a b) (by rfl) rv (⟨⟨-1, rfl, by rw [hs]; rfl⟩, rfl⟩) sb okx
theorem icontains (l : List Int) (hl : l.length ≤ 9223372036854775806) (a b : Int) : ObC 64 [.d (intsD l), .clo (.func 65) [.box 1001 0, .box 1002 0]] (inB a b) [] (fun x o => x = .d (.bool (l.any fun n => (decide (n < a) || decide (b < n)))) ∧ o = inB a b) := by
 have hc := iindex l hl a b
 refine ob_enter Tryd.func64 rfl (by decide) _ Tryd.ntmps64 (le_ok rfl) rfl (fun w Pr β κ hE => ?_)
 dsimp only [slotsV, Nat.zero_add, Nat.reduceAdd]
 repeat' (first | (apply at_call; refine k_ocall [(1001, 1001), (1002, 1002)] (hc) hE ?_; rintro _ _ ⟨⟨r, rfl, hr⟩, rfl⟩ <;> (intro _ _ h1 h2; simp only [renEqs, Nat.reduceBEq, renL_app, renL_ds, renL_und] at h1 h2; subst h1 h2)) | refine nx ?_ | (apply qr_move; refine r_move ?_) | (apply qr_assign; refine r_assign ?_) | (apply qr_geq; refine r_geq ?_))
 refine oret1 (inB a b) (by rfl) rv (⟨by rw [hr], rfl⟩) sb okx
theorem in_any (a b : Int) (l : List Int) (hl : l.length ≤ 9223372036854775806) : PureC 34 [.int a, .int b, intsD l] (· = .bool (!l.any fun n => (decide (n < a) || decide (b < n)))) := by
 have hc := icontains l hl a b
 refine pure_enter Tryd.func34 rfl (by decide) _ Tryd.ntmps34 (le_ok rfl) (fun w Pr hE => ?_)
 dsimp only [slotsOf, Nat.zero_add, Nat.reduceAdd]
 repeat' (first | (apply at_op (.makeFunc _ _ _); refine al_y (y_clo rfl) (lt_ok rfl) ?_) | (apply at_call; refine k_ocall [(1001, 3), (1002, 4)] (hc) hE ?_; rintro _ _ ⟨rfl, rfl⟩ <;> (intro _ _ h1 h2; simp only [renEqs, Nat.reduceBEq, renL_app, renL_ds, renL_und] at h1 h2; subst h1 h2)) | refine nx ?_ | (apply qr_move; refine r_move ?_) | (apply qr_assign; refine r_assign ?_) | (apply qr_not; refine r_not ?_) | (apply qr_func; refine r_func ?_) | (apply qr_boxed; refine r_boxed ?_))
 refine rt1 ?_
 rfl
end Go.Proofs.YtedoeogopmenpaaDoor
end
section
namespace Go.Proofs.YtedoeogopmenpaaDoor
open Go.RowKit
def txt (l : List Tok) : ByteArray := jn (l.map (·.s))
def Ex.text (e : Ex) (f : Nat) : ByteArray := txt (e.toks itoaB f)
theorem txt_one (t : Tok) : txt [t] = t.s := jn_one t.s
theorem txt_cons (t : Tok) {l : List Tok} (h : l ≠ []) : txt (t :: l) = t.s ++ (blank1 ++ txt l) := by
 match l, h with
 | u :: r, _ => exact jn_two t.s u.s (r.map (·.s))
theorem txt_app {a b : List Tok} (ha : a ≠ []) (hb : b ≠ []) : txt (a ++ b) = txt a ++ (blank1 ++ txt b) := by
 induction a with
 | nil => exact absurd rfl ha
 | cons t r ih =>
  cases r with
  | nil => rw [List.singleton_append, txt_cons t hb, txt_one]
  | cons u r => rw [List.cons_append, txt_cons t (by simp), ih (by simp), txt_cons t (l := u :: r) (by simp)]; simp only [ByteArray.append_assoc]
theorem opInfo_cases {op : Int} {t : Tok} {g : Nat} (h : opInfo op = some (t, g)) : (op = 14 ∧ t = wordT w_or ∧ g = 1) ∨ (op = 13 ∧ t = wordT w_and ∧ g = 2) ∨ (op = 11 ∧ t = signT w_eq ∧ g = 4) ∨ (op = 10 ∧ t = signT w_lt ∧ g = 4) ∨ (op = 4 ∧ t = signT w_plus ∧ g = 5) ∨ (op = 5 ∧ t = signT w_minus ∧ g = 5) ∨ (op = 6 ∧ t = signT w_times ∧ g = 6) ∨ (op = 7 ∧ t = signT w_by ∧ g = 6) := by
 unfold opInfo at h
 repeat (split at h; (cases h; simp [*]))
 cases h
theorem opInfo_of {op : Int} (h0 : ¬ op < 0) (h16 : ¬ 16 ≤ op) (hl : ¬ (op = 0 ∨ op = 1 ∨ op = 2 ∨ op = 3)) (h12 : op ≠ 12) (h15 : op ≠ 15) (hm : ¬ (op = 8 ∨ op = 9)) : ∃ t g, opInfo op = some (t, g) := by
 rcases (by omega : op = 14 ∨ op = 13 ∨ op = 11 ∨ op = 10 ∨ op = 4 ∨ op = 5 ∨ op = 6 ∨ op = 7) with rfl | rfl | rfl | rfl | rfl | rfl | rfl | rfl <;> exact ⟨_, _, rfl⟩
def Shape (e : Ex) (P : Ex → Prop) : Prop :=
 (∃ n u, e = .mk 0 n u ⟨#[]⟩ [] ∧ numRight n u ⟨#[]⟩ = true) ∨
 (∃ op s, (op = 1 ∨ op = 2 ∨ op = 3) ∧ e = .mk op 0 0 s [] ∧ nameV s = true) ∨
 (∃ x, e = .mk 12 0 0 ⟨#[]⟩ [x] ∧ P x) ∨
 (∃ x y z, e = .mk 15 0 0 ⟨#[]⟩ [x, y, z] ∧ P x ∧ P y ∧ P z) ∨
 (∃ op x y, (op = 8 ∨ op = 9) ∧ e = two op x y ∧ P x ∧ P y) ∨
 ∃ op x y t g, opInfo op = some (t, g) ∧ e = two op x y ∧ P x ∧ P y
theorem right_mk (op n u : Int) (s : ByteArray) (a : List Ex) (d : Nat) : (Ex.mk op n u s a).right (d + 1) = (decide ((a.length : Int) = operandsV op) &&
  (if op = 0 then numRight n u s
   else if op = 1 ∨ op = 2 ∨ op = 3 then decide (n = 0) && decide (u = 0) && nameV s
   else decide (n = 0) && decide (u = 0) && decide (s = ⟨#[]⟩) && a.all fun x => x.right d)) := right_eq (.mk op n u s a) d
theorem right_shape {e : Ex} {d : Nat} (h : e.right (d + 1) = true) : Shape e (fun x => x.right d = true) := by
 obtain ⟨op, n, u, s, a⟩ := e
 rw [right_mk, Bool.and_eq_true] at h
 obtain ⟨hl, h⟩ := h
 replace hl := of_decide_eq_true hl
 unfold operandsV at hl
 by_cases h0 : op = 0
 ·rw [if_pos h0] at h
  rw [if_pos (.inl h0)] at hl
  obtain rfl : a = [] := List.eq_nil_of_length_eq_zero (by omega)
  have hs : s = ⟨#[]⟩ := by
   unfold numRight at h
   simp only [Bool.and_eq_true, decide_eq_true_eq] at h
   exact h.1.1
  subst h0 hs
  exact .inl ⟨n, u, rfl, h⟩
 rw [if_neg h0] at h
 by_cases h1 : op = 1 ∨ op = 2 ∨ op = 3
 ·rw [if_pos h1] at h
  rw [if_pos (.inr h1)] at hl
  obtain rfl : a = [] := List.eq_nil_of_length_eq_zero (by omega)
  simp only [Bool.and_eq_true, decide_eq_true_eq] at h
  obtain ⟨⟨rfl, rfl⟩, h⟩ := h
  exact .inr (.inl ⟨op, s, h1, rfl, h⟩)
 rw [if_neg h1] at h
 rw [if_neg (by omega)] at hl
 simp only [Bool.and_eq_true, decide_eq_true_eq, List.all_eq_true] at h
 obtain ⟨⟨⟨rfl, rfl⟩, rfl⟩, h⟩ := h
 by_cases h12 : op = 12
 ·rw [if_pos h12] at hl
  subst h12
  match a, hl, h with
  | [x], _, h => exact .inr (.inr (.inl ⟨x, rfl, h x (by simp)⟩))
 rw [if_neg h12] at hl
 by_cases h15 : op = 15
 ·rw [if_pos h15] at hl
  subst h15
  match a, hl, h with
  | [x, y, z], _, h => exact .inr (.inr (.inr (.inl ⟨x, y, z, rfl, h x (by simp), h y (by simp), h z (by simp)⟩)))
 rw [if_neg h15] at hl
 split at hl
 ·omega
 ·rename_i h3
  match a, hl, h with
  | [x, y], _, h =>
   by_cases hm : op = 8 ∨ op = 9
   ·exact .inr (.inr (.inr (.inr (.inl ⟨op, x, y, hm, rfl, h x (by simp), h y (by simp)⟩))))
   ·obtain ⟨t, g, ho⟩ := opInfo_of (by omega) (by omega) (by omega) h12 h15 hm
    exact .inr (.inr (.inr (.inr (.inr ⟨op, x, y, t, g, ho, rfl, h x (by simp), h y (by simp)⟩))))
theorem num_toks (n u : Int) (s : ByteArray) (a : List Ex) (f : Nat) (hf : f ≤ 7) : (Ex.mk 0 n u s a).toks itoaB f = numToks itoaB n u := by
 simp only [Ex.toks, bodyToks, show formV 0 = 7 by decide, if_true]
 rw [if_neg (by omega)]
theorem leaf_toks {op : Int} (n u : Int) (s : ByteArray) (a : List Ex) (h : op = 1 ∨ op = 2 ∨ op = 3) (f : Nat) (hf : f ≤ 7) : (Ex.mk op n u s a).toks itoaB f = if op = 1 then [wordT s] else [if op = 2 then wordT w_trip else wordT w_member, wordT s] := by
 rcases h with rfl | rfl | rfl
 ·simp only [Ex.toks, bodyToks, show formV 1 = 7 by decide]
  rw [if_neg (by omega)]
  rfl
 ·simp only [Ex.toks, bodyToks, show formV 2 = 7 by decide]
  rw [if_neg (by omega)]
  rfl
 ·simp only [Ex.toks, bodyToks, show formV 3 = 7 by decide]
  rw [if_neg (by omega)]
  rfl
theorem not_toks (n u : Int) (s : ByteArray) (x : Ex) : (Ex.mk 12 n u s [x]).toks itoaB 0 = wordT w_not :: x.toks itoaB 3 := by
 simp only [Ex.toks, Ex.toksL, bodyToks, Nat.not_lt_zero, if_false]
 rfl
theorem if_toks (n u : Int) (s : ByteArray) (x y z : Ex) : (Ex.mk 15 n u s [x, y, z]).toks itoaB 0 = wordT w_if :: (x.toks itoaB 0 ++ wordT w_then :: (y.toks itoaB 0 ++ wordT w_else :: z.toks itoaB 0)) := by
 simp only [Ex.toks, Ex.toksL, bodyToks, Nat.not_lt_zero, if_false]
 rfl
theorem call_toks {op : Int} (h : op = 8 ∨ op = 9) (x y : Ex) : (two op x y).toks itoaB 0 = wordT (if op = 8 then w_min else w_max) :: signT w_lp :: (x.toks itoaB 0 ++ signT w_comma :: (y.toks itoaB 0 ++ [signT w_rp])) := by
 rcases h with rfl | rfl <;> simp only [two, Ex.toks, Ex.toksL, bodyToks, Nat.not_lt_zero, if_false] <;> rfl
theorem op_toks {op : Int} {t : Tok} {g : Nat} (h : opInfo op = some (t, g)) (x y : Ex) : (two op x y).toks itoaB 0 = x.toks itoaB (leftV g) ++ t :: y.toks itoaB (g + 1) :=
 two_toks itoaB h (by rcases opInfo_cases h with ⟨rfl, _⟩ | ⟨rfl, _⟩ | ⟨rfl, _⟩ | ⟨rfl, _⟩ | ⟨rfl, _⟩ | ⟨rfl, _⟩ | ⟨rfl, _⟩ | ⟨rfl, _⟩ <;> decide)
theorem numToks_ne (n u : Int) : numToks itoaB n u ≠ [] := by
 unfold numToks
 repeat' split
 all_goals simp
theorem toks_ne0 {e : Ex} {d : Nat} (h : e.right d = true) : e.toks itoaB 0 ≠ [] := by
 cases d with
 | zero => rw [right_zero] at h; cases h
 | succ d =>
  rcases right_shape h with ⟨n, u, rfl, _⟩ | ⟨op, s, ho, rfl, _⟩ | ⟨x, rfl, _⟩ | ⟨x, y, z, rfl, _⟩ | ⟨op, x, y, ho, rfl, _⟩ | ⟨op, x, y, t, g, ho, rfl, _⟩
  ·rw [num_toks _ _ _ _ _ (by omega)]
   exact numToks_ne n u
  ·rw [leaf_toks _ _ _ _ ho _ (by omega)]
   split <;> simp
  ·rw [not_toks]; simp
  ·rw [if_toks]; simp
  ·rw [call_toks ho]; simp
  ·rw [op_toks ho]; simp
theorem toks_ne {e : Ex} {d : Nat} (h : e.right d = true) (f : Nat) : e.toks itoaB f ≠ [] := by
 rw [toks_of]
 split
 ·simp
 ·exact toks_ne0 h
theorem text_in {e : Ex} {f : Nat} (h : f ≤ formV e.op) : e.text f = e.text 0 := by rw [Ex.text, toks_in itoaB h, Ex.text]
theorem text_par {e : Ex} {d : Nat} (hr : e.right d = true) {f : Nat} (h : formV e.op < f) : e.text f = ⟨#[40, 32]⟩ ++ e.text 0 ++ ⟨#[32, 41]⟩ := by
 rw [Ex.text, toks_par itoaB h, txt_cons _ (by simp), txt_app (toks_ne0 hr) (by simp), txt_one, Ex.text]
 have h1 : (⟨#[40, 32]⟩ : ByteArray) = w_lp ++ blank1 := by decide
 have h2 : (⟨#[32, 41]⟩ : ByteArray) = blank1 ++ w_rp := by decide
 rw [h1, h2]
 simp only [ByteArray.append_assoc]
theorem text_not {n u : Int} {s : ByteArray} {x : Ex} {d : Nat} (hr : x.right d = true) : (Ex.mk 12 n u s [x]).text 0 = ⟨#[110, 111, 116, 32]⟩ ++ x.text 3 := by
 rw [Ex.text, not_toks, txt_cons _ (toks_ne hr 3), Ex.text]
 have h1 : (⟨#[110, 111, 116, 32]⟩ : ByteArray) = w_not ++ blank1 := by decide
 rw [h1]
 simp only [ByteArray.append_assoc]
theorem text_if {n u : Int} {s : ByteArray} {x y z : Ex} {d : Nat} (hx : x.right d = true) (hy : y.right d = true) (hz : z.right d = true) : (Ex.mk 15 n u s [x, y, z]).text 0 = ⟨#[105, 102, 32]⟩ ++ x.text 0 ++ ⟨#[32, 116, 104, 101, 110, 32]⟩ ++ y.text 0 ++ ⟨#[32, 101, 108, 115, 101, 32]⟩ ++ z.text 0 := by
 rw [Ex.text, if_toks, txt_cons _ (by simp), txt_app (toks_ne hx 0) (by simp), txt_cons _ (by simp), txt_app (toks_ne hy 0) (by simp), txt_cons _ (toks_ne hz 0)]
 have h1 : (⟨#[105, 102, 32]⟩ : ByteArray) = w_if ++ blank1 := by decide
 have h2 : (⟨#[32, 116, 104, 101, 110, 32]⟩ : ByteArray) = blank1 ++ w_then ++ blank1 := by decide
 have h3 : (⟨#[32, 101, 108, 115, 101, 32]⟩ : ByteArray) = blank1 ++ w_else ++ blank1 := by decide
 rw [h1, h2, h3]
 simp only [ByteArray.append_assoc, Ex.text]
theorem text_call {op : Int} (ho : op = 8 ∨ op = 9) {x y : Ex} {d : Nat} (hx : x.right d = true) (hy : y.right d = true) : (two op x y).text 0 = (if op = 8 then w_min else w_max) ++ ⟨#[32, 40, 32]⟩ ++ x.text 0 ++ ⟨#[32, 44, 32]⟩ ++ y.text 0 ++ ⟨#[32, 41]⟩ := by
 rw [Ex.text, call_toks ho, txt_cons _ (by simp), txt_cons _ (by simp), txt_app (toks_ne hx 0) (by simp), txt_cons _ (by simp), txt_app (toks_ne hy 0) (by simp), txt_one]
 have h1 : (⟨#[32, 40, 32]⟩ : ByteArray) = blank1 ++ w_lp ++ blank1 := by decide
 have h2 : (⟨#[32, 44, 32]⟩ : ByteArray) = blank1 ++ w_comma ++ blank1 := by decide
 have h3 : (⟨#[32, 41]⟩ : ByteArray) = blank1 ++ w_rp := by decide
 rw [h1, h2, h3]
 simp only [ByteArray.append_assoc, Ex.text]
theorem text_op {op : Int} {t : Tok} {g : Nat} (ho : opInfo op = some (t, g)) {x y : Ex} {d : Nat} (hx : x.right d = true) (hy : y.right d = true) : (two op x y).text 0 = x.text (leftV g) ++ ⟨#[32]⟩ ++ t.s ++ ⟨#[32]⟩ ++ y.text (g + 1) := by
 rw [Ex.text, op_toks ho, txt_app (toks_ne hx _) (by simp), txt_cons _ (toks_ne hy _)]
 have h1 : (⟨#[32]⟩ : ByteArray) = blank1 := rfl
 rw [h1]
 simp only [ByteArray.append_assoc, Ex.text]
theorem text_num (n u : Int) (s : ByteArray) (a : List Ex) : (Ex.mk 0 n u s a).text 0 = if u = 3 then (if n = 1 then w_true else w_false) else if u = 1 then itoaB n ++ ⟨#[32, 99, 101, 110, 116, 115]⟩ else if u = 2 then itoaB n ++ ⟨#[32, 109, 105, 110, 117, 116, 101, 115]⟩ else itoaB n := by
 rw [Ex.text, num_toks _ _ _ _ _ (by omega)]
 unfold numToks
 have h1 : (⟨#[32, 99, 101, 110, 116, 115]⟩ : ByteArray) = blank1 ++ w_cents := by decide
 have h2 : (⟨#[32, 109, 105, 110, 117, 116, 101, 115]⟩ : ByteArray) = blank1 ++ w_minutes := by decide
 rw [h1, h2]
 split
 ·split <;> rw [txt_one]
 ·split
  ·rw [txt_cons _ (by simp), txt_one]
  ·split
   ·rw [txt_cons _ (by simp), txt_one]
   ·rw [txt_one]
theorem text_leaf {op : Int} {n u : Int} {s : ByteArray} {a : List Ex} (h : op = 1 ∨ op = 2 ∨ op = 3) : (Ex.mk op n u s a).text 0 = if op = 1 then s else if op = 2 then ⟨#[116, 114, 105, 112, 32]⟩ ++ s else ⟨#[109, 101, 109, 98, 101, 114, 32]⟩ ++ s := by
 rw [Ex.text, leaf_toks _ _ _ _ h _ (by omega)]
 have h1 : (⟨#[116, 114, 105, 112, 32]⟩ : ByteArray) = w_trip ++ blank1 := by decide
 have h2 : (⟨#[109, 101, 109, 98, 101, 114, 32]⟩ : ByteArray) = w_member ++ blank1 := by decide
 rw [h1, h2]
 split
 ·rw [txt_one]
 ·rw [txt_cons _ (by simp), txt_one]
  split <;> simp only [ByteArray.append_assoc]
end Go.Proofs.YtedoeogopmenpaaDoor
end
