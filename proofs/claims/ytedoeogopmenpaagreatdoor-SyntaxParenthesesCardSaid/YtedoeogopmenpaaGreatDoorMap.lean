/-
  Conditions: none.
-/
import Derived.Test.YtedoeogopmenpaaGreatDoorMao
set_option maxHeartbeats 16000000
set_option maxRecDepth 20000
section
namespace Go.Proofs.YtedoeogopmenpaaGreatDoor
open Go.RowKit
def txt (l : List Tok) : ByteArray := jn (l.map (·.s))
def Ex.text (e : Ex) (f : Nat) : ByteArray := txt (e.toks itoaB f)
theorem txt_one (t : Tok) : txt [t] = t.s := jn_one t.s
theorem txt_cons (t : Tok) {l : List Tok} (h : l ≠ []) : txt (t :: l) = t.s ++ (blank1 ++ txt l) := by
 match l, h with
 | u :: r, _ => exact jn_two t.s u.s (r.map (·.s))
theorem txt_app {a b : List Tok} (ha : a ≠ []) (hb : b ≠ []) : txt (a ++ b) = txt a ++ (blank1 ++ txt b) := by
 induction a with
 | nil => exact absurd rfl ha
 | cons t r ih =>
  cases r with
  | nil => rw [List.singleton_append, txt_cons t hb, txt_one]
  | cons u r => rw [List.cons_append, txt_cons t (by simp), ih (by simp), txt_cons t (l := u :: r) (by simp)]; simp only [ByteArray.append_assoc]
theorem opInfo_cases {op : Int} {t : Tok} {g : Nat} (h : opInfo op = some (t, g)) : (op = 14 ∧ t = wordT w_or ∧ g = 1) ∨ (op = 13 ∧ t = wordT w_and ∧ g = 2) ∨ (op = 11 ∧ t = signT w_eq ∧ g = 4) ∨ (op = 10 ∧ t = signT w_lt ∧ g = 4) ∨ (op = 4 ∧ t = signT w_plus ∧ g = 5) ∨ (op = 5 ∧ t = signT w_minus ∧ g = 5) ∨ (op = 6 ∧ t = signT w_times ∧ g = 6) ∨ (op = 7 ∧ t = signT w_by ∧ g = 6) := by
 unfold opInfo at h
 repeat (split at h; (cases h; simp [*]))
 cases h
theorem opInfo_of {op : Int} (h0 : ¬ op < 0) (h16 : ¬ 16 ≤ op) (hl : ¬ (op = 0 ∨ op = 1 ∨ op = 2 ∨ op = 3)) (h12 : op ≠ 12) (h15 : op ≠ 15) (hm : ¬ (op = 8 ∨ op = 9)) : ∃ t g, opInfo op = some (t, g) := by
 rcases (by omega : op = 14 ∨ op = 13 ∨ op = 11 ∨ op = 10 ∨ op = 4 ∨ op = 5 ∨ op = 6 ∨ op = 7) with rfl | rfl | rfl | rfl | rfl | rfl | rfl | rfl <;> exact ⟨_, _, rfl⟩
def Shape (e : Ex) (P : Ex → Prop) : Prop :=
 (∃ n u, e = .mk 0 n u ⟨#[]⟩ [] ∧ numRight n u ⟨#[]⟩ = true) ∨
 (∃ op s, (op = 1 ∨ op = 2 ∨ op = 3) ∧ e = .mk op 0 0 s [] ∧ nameV s = true) ∨
 (∃ x, e = .mk 12 0 0 ⟨#[]⟩ [x] ∧ P x) ∨
 (∃ x y z, e = .mk 15 0 0 ⟨#[]⟩ [x, y, z] ∧ P x ∧ P y ∧ P z) ∨
 (∃ op x y, (op = 8 ∨ op = 9) ∧ e = two op x y ∧ P x ∧ P y) ∨
 ∃ op x y t g, opInfo op = some (t, g) ∧ e = two op x y ∧ P x ∧ P y
theorem right_mk (op n u : Int) (s : ByteArray) (a : List Ex) (d : Nat) : (Ex.mk op n u s a).right (d + 1) = (decide ((a.length : Int) = operandsV op) &&
  (if op = 0 then numRight n u s
   else if op = 1 ∨ op = 2 ∨ op = 3 then decide (n = 0) && decide (u = 0) && nameV s
   else decide (n = 0) && decide (u = 0) && decide (s = ⟨#[]⟩) && a.all fun x => x.right d)) := right_eq (.mk op n u s a) d
theorem right_shape {e : Ex} {d : Nat} (h : e.right (d + 1) = true) : Shape e (fun x => x.right d = true) := by
 obtain ⟨op, n, u, s, a⟩ := e
 rw [right_mk, Bool.and_eq_true] at h
 obtain ⟨hl, h⟩ := h
 replace hl := of_decide_eq_true hl
 unfold operandsV at hl
 by_cases h0 : op = 0
 ·rw [if_pos h0] at h
  rw [if_pos (.inl h0)] at hl
  obtain rfl : a = [] := List.eq_nil_of_length_eq_zero (by omega)
  have hs : s = ⟨#[]⟩ := by
   unfold numRight at h
   simp only [Bool.and_eq_true, decide_eq_true_eq] at h
   exact h.1.1
  subst h0 hs
  exact .inl ⟨n, u, rfl, h⟩
 rw [if_neg h0] at h
 by_cases h1 : op = 1 ∨ op = 2 ∨ op = 3
 ·rw [if_pos h1] at h
  rw [if_pos (.inr h1)] at hl
  obtain rfl : a = [] := List.eq_nil_of_length_eq_zero (by omega)
  simp only [Bool.and_eq_true, decide_eq_true_eq] at h
  obtain ⟨⟨rfl, rfl⟩, h⟩ := h
  exact .inr (.inl ⟨op, s, h1, rfl, h⟩)
 rw [if_neg h1] at h
 rw [if_neg (by omega)] at hl
 simp only [Bool.and_eq_true, decide_eq_true_eq, List.all_eq_true] at h
 obtain ⟨⟨⟨rfl, rfl⟩, rfl⟩, h⟩ := h
 by_cases h12 : op = 12
 ·rw [if_pos h12] at hl
  subst h12
  match a, hl, h with
  | [x], _, h => exact .inr (.inr (.inl ⟨x, rfl, h x (by simp)⟩))
 rw [if_neg h12] at hl
 by_cases h15 : op = 15
 ·rw [if_pos h15] at hl
  subst h15
  match a, hl, h with
  | [x, y, z], _, h => exact .inr (.inr (.inr (.inl ⟨x, y, z, rfl, h x (by simp), h y (by simp), h z (by simp)⟩)))
 rw [if_neg h15] at hl
 split at hl
 ·omega
 ·rename_i h3
  match a, hl, h with
  | [x, y], _, h =>
   by_cases hm : op = 8 ∨ op = 9
   ·exact .inr (.inr (.inr (.inr (.inl ⟨op, x, y, hm, rfl, h x (by simp), h y (by simp)⟩))))
   ·obtain ⟨t, g, ho⟩ := opInfo_of (by omega) (by omega) (by omega) h12 h15 hm
    exact .inr (.inr (.inr (.inr (.inr ⟨op, x, y, t, g, ho, rfl, h x (by simp), h y (by simp)⟩))))
theorem num_toks (n u : Int) (s : ByteArray) (a : List Ex) (f : Nat) (hf : f ≤ 7) : (Ex.mk 0 n u s a).toks itoaB f = numToks itoaB n u := by
 simp only [Ex.toks, bodyToks, show formV 0 = 7 by decide, if_true]
 rw [if_neg (by omega)]
theorem leaf_toks {op : Int} (n u : Int) (s : ByteArray) (a : List Ex) (h : op = 1 ∨ op = 2 ∨ op = 3) (f : Nat) (hf : f ≤ 7) : (Ex.mk op n u s a).toks itoaB f = if op = 1 then [wordT s] else [if op = 2 then wordT w_trip else wordT w_member, wordT s] := by
 rcases h with rfl | rfl | rfl
 ·simp only [Ex.toks, bodyToks, show formV 1 = 7 by decide]
  rw [if_neg (by omega)]
  rfl
 ·simp only [Ex.toks, bodyToks, show formV 2 = 7 by decide]
  rw [if_neg (by omega)]
  rfl
 ·simp only [Ex.toks, bodyToks, show formV 3 = 7 by decide]
  rw [if_neg (by omega)]
  rfl
theorem not_toks (n u : Int) (s : ByteArray) (x : Ex) : (Ex.mk 12 n u s [x]).toks itoaB 0 = wordT w_not :: x.toks itoaB 3 := by
 simp only [Ex.toks, Ex.toksL, bodyToks, Nat.not_lt_zero, if_false]
 rfl
theorem if_toks (n u : Int) (s : ByteArray) (x y z : Ex) : (Ex.mk 15 n u s [x, y, z]).toks itoaB 0 = wordT w_if :: (x.toks itoaB 0 ++ wordT w_then :: (y.toks itoaB 0 ++ wordT w_else :: z.toks itoaB 0)) := by
 simp only [Ex.toks, Ex.toksL, bodyToks, Nat.not_lt_zero, if_false]
 rfl
theorem call_toks {op : Int} (h : op = 8 ∨ op = 9) (x y : Ex) : (two op x y).toks itoaB 0 = wordT (if op = 8 then w_min else w_max) :: signT w_lp :: (x.toks itoaB 0 ++ signT w_comma :: (y.toks itoaB 0 ++ [signT w_rp])) := by
 rcases h with rfl | rfl <;> simp only [two, Ex.toks, Ex.toksL, bodyToks, Nat.not_lt_zero, if_false] <;> rfl
theorem op_toks {op : Int} {t : Tok} {g : Nat} (h : opInfo op = some (t, g)) (x y : Ex) : (two op x y).toks itoaB 0 = x.toks itoaB (leftV g) ++ t :: y.toks itoaB (g + 1) :=
 two_toks itoaB h (by rcases opInfo_cases h with ⟨rfl, _⟩ | ⟨rfl, _⟩ | ⟨rfl, _⟩ | ⟨rfl, _⟩ | ⟨rfl, _⟩ | ⟨rfl, _⟩ | ⟨rfl, _⟩ | ⟨rfl, _⟩ <;> decide)
theorem numToks_ne (n u : Int) : numToks itoaB n u ≠ [] := by
 unfold numToks
 repeat' split
 all_goals simp
theorem toks_ne0 {e : Ex} {d : Nat} (h : e.right d = true) : e.toks itoaB 0 ≠ [] := by
 cases d with
 | zero => rw [right_zero] at h; cases h
 | succ d =>
  rcases right_shape h with ⟨n, u, rfl, _⟩ | ⟨op, s, ho, rfl, _⟩ | ⟨x, rfl, _⟩ | ⟨x, y, z, rfl, _⟩ | ⟨op, x, y, ho, rfl, _⟩ | ⟨op, x, y, t, g, ho, rfl, _⟩
  ·rw [num_toks _ _ _ _ _ (by omega)]
   exact numToks_ne n u
  ·rw [leaf_toks _ _ _ _ ho _ (by omega)]
   split <;> simp
  ·rw [not_toks]; simp
  ·rw [if_toks]; simp
  ·rw [call_toks ho]; simp
  ·rw [op_toks ho]; simp
theorem toks_ne {e : Ex} {d : Nat} (h : e.right d = true) (f : Nat) : e.toks itoaB f ≠ [] := by
 rw [toks_of]
 split
 ·simp
 ·exact toks_ne0 h
theorem text_in {e : Ex} {f : Nat} (h : f ≤ formV e.op) : e.text f = e.text 0 := by rw [Ex.text, toks_in itoaB h, Ex.text]
theorem text_par {e : Ex} {d : Nat} (hr : e.right d = true) {f : Nat} (h : formV e.op < f) : e.text f = ⟨#[40, 32]⟩ ++ e.text 0 ++ ⟨#[32, 41]⟩ := by
 rw [Ex.text, toks_par itoaB h, txt_cons _ (by simp), txt_app (toks_ne0 hr) (by simp), txt_one, Ex.text]
 have h1 : (⟨#[40, 32]⟩ : ByteArray) = w_lp ++ blank1 := by decide
 have h2 : (⟨#[32, 41]⟩ : ByteArray) = blank1 ++ w_rp := by decide
 rw [h1, h2]
 simp only [ByteArray.append_assoc]
theorem text_not {n u : Int} {s : ByteArray} {x : Ex} {d : Nat} (hr : x.right d = true) : (Ex.mk 12 n u s [x]).text 0 = ⟨#[110, 111, 116, 32]⟩ ++ x.text 3 := by
 rw [Ex.text, not_toks, txt_cons _ (toks_ne hr 3), Ex.text]
 have h1 : (⟨#[110, 111, 116, 32]⟩ : ByteArray) = w_not ++ blank1 := by decide
 rw [h1]
 simp only [ByteArray.append_assoc]
theorem text_if {n u : Int} {s : ByteArray} {x y z : Ex} {d : Nat} (hx : x.right d = true) (hy : y.right d = true) (hz : z.right d = true) : (Ex.mk 15 n u s [x, y, z]).text 0 = ⟨#[105, 102, 32]⟩ ++ x.text 0 ++ ⟨#[32, 116, 104, 101, 110, 32]⟩ ++ y.text 0 ++ ⟨#[32, 101, 108, 115, 101, 32]⟩ ++ z.text 0 := by
 rw [Ex.text, if_toks, txt_cons _ (by simp), txt_app (toks_ne hx 0) (by simp), txt_cons _ (by simp), txt_app (toks_ne hy 0) (by simp), txt_cons _ (toks_ne hz 0)]
 have h1 : (⟨#[105, 102, 32]⟩ : ByteArray) = w_if ++ blank1 := by decide
 have h2 : (⟨#[32, 116, 104, 101, 110, 32]⟩ : ByteArray) = blank1 ++ w_then ++ blank1 := by decide
 have h3 : (⟨#[32, 101, 108, 115, 101, 32]⟩ : ByteArray) = blank1 ++ w_else ++ blank1 := by decide
 rw [h1, h2, h3]
 simp only [ByteArray.append_assoc, Ex.text]
theorem text_call {op : Int} (ho : op = 8 ∨ op = 9) {x y : Ex} {d : Nat} (hx : x.right d = true) (hy : y.right d = true) : (two op x y).text 0 = (if op = 8 then w_min else w_max) ++ ⟨#[32, 40, 32]⟩ ++ x.text 0 ++ ⟨#[32, 44, 32]⟩ ++ y.text 0 ++ ⟨#[32, 41]⟩ := by
 rw [Ex.text, call_toks ho, txt_cons _ (by simp), txt_cons _ (by simp), txt_app (toks_ne hx 0) (by simp), txt_cons _ (by simp), txt_app (toks_ne hy 0) (by simp), txt_one]
 have h1 : (⟨#[32, 40, 32]⟩ : ByteArray) = blank1 ++ w_lp ++ blank1 := by decide
 have h2 : (⟨#[32, 44, 32]⟩ : ByteArray) = blank1 ++ w_comma ++ blank1 := by decide
 have h3 : (⟨#[32, 41]⟩ : ByteArray) = blank1 ++ w_rp := by decide
 rw [h1, h2, h3]
 simp only [ByteArray.append_assoc, Ex.text]
theorem text_op {op : Int} {t : Tok} {g : Nat} (ho : opInfo op = some (t, g)) {x y : Ex} {d : Nat} (hx : x.right d = true) (hy : y.right d = true) : (two op x y).text 0 = x.text (leftV g) ++ ⟨#[32]⟩ ++ t.s ++ ⟨#[32]⟩ ++ y.text (g + 1) := by
 rw [Ex.text, op_toks ho, txt_app (toks_ne hx _) (by simp), txt_cons _ (toks_ne hy _)]
 have h1 : (⟨#[32]⟩ : ByteArray) = blank1 := rfl
 rw [h1]
 simp only [ByteArray.append_assoc, Ex.text]
theorem text_num (n u : Int) (s : ByteArray) (a : List Ex) : (Ex.mk 0 n u s a).text 0 = if u = 3 then (if n = 1 then w_true else w_false) else if u = 1 then itoaB n ++ ⟨#[32, 99, 101, 110, 116, 115]⟩ else if u = 2 then itoaB n ++ ⟨#[32, 109, 105, 110, 117, 116, 101, 115]⟩ else itoaB n := by
 rw [Ex.text, num_toks _ _ _ _ _ (by omega)]
 unfold numToks
 have h1 : (⟨#[32, 99, 101, 110, 116, 115]⟩ : ByteArray) = blank1 ++ w_cents := by decide
 have h2 : (⟨#[32, 109, 105, 110, 117, 116, 101, 115]⟩ : ByteArray) = blank1 ++ w_minutes := by decide
 rw [h1, h2]
 split
 ·split <;> rw [txt_one]
 ·split
  ·rw [txt_cons _ (by simp), txt_one]
  ·split
   ·rw [txt_cons _ (by simp), txt_one]
   ·rw [txt_one]
theorem text_leaf {op : Int} {n u : Int} {s : ByteArray} {a : List Ex} (h : op = 1 ∨ op = 2 ∨ op = 3) : (Ex.mk op n u s a).text 0 = if op = 1 then s else if op = 2 then ⟨#[116, 114, 105, 112, 32]⟩ ++ s else ⟨#[109, 101, 109, 98, 101, 114, 32]⟩ ++ s := by
 rw [Ex.text, leaf_toks _ _ _ _ h _ (by omega)]
 have h1 : (⟨#[116, 114, 105, 112, 32]⟩ : ByteArray) = w_trip ++ blank1 := by decide
 have h2 : (⟨#[109, 101, 109, 98, 101, 114, 32]⟩ : ByteArray) = w_member ++ blank1 := by decide
 rw [h1, h2]
 split
 ·rw [txt_one]
 ·rw [txt_cons _ (by simp), txt_one]
  split <;> simp only [ByteArray.append_assoc]
end Go.Proofs.YtedoeogopmenpaaGreatDoor
end
section
set_option linter.unusedSimpArgs false
set_option linter.unusedVariables false
namespace Go.Proofs.YtedoeogopmenpaaGreatDoor
open Go.RowKit
abbrev dpB (d : Nat) : Objs := [(1001, .box 3 [.d (.int d)])]
abbrev RightC (d : Nat) : Prop := ∀ e : Ex, e.tame → PureC 68 [.agg (exC e), .int d] (· = .bool (e.right d))
theorem right1_any {d : Nat} (hd : d ≤ 1000000) (ih : RightC d) (e : Ex) (he : e.tame) : ObC 119 [.d (.agg (exC e)), .box 1001 0] (dpB (d + 1)) [] (fun x o => x = .d (.bool (!e.right d)) ∧ o = dpB (d + 1)) := by
 have hc := ih e he
 have hw : ((d + 1 : Nat) : Int) - 1 = d := by omega
 rw [← hw] at hc
 refine ob_enter Tryz.func119 rfl (by decide) _ Tryz.ntmps119 (le_ok rfl) rfl (fun w Pr β κ hE => ?_)
 dsimp only [slotsV, Nat.zero_add, Nat.reduceAdd]
 repeat' (first | (apply at_call; refine k_call (hc) hE ?_; rintro _ rfl) | refine nx ?_ | (apply qr_assign; refine r_assign ?_) | (apply qr_sub; refine r_sub ?_) | (apply qr_not; refine r_not ?_) | (apply qr_load; refine r_load ?_) | (apply qr_boxed; refine r_boxed ?_))
 refine oret1 (dpB (d + 1)) (by rfl) rv (⟨rfl, rfl⟩) sb okx
theorem eindex {d : Nat} (hd : d ≤ 1000000) (ih : RightC d) (l : List Ex) (hl : l.length ≤ 100000) (ht : ∀ x ∈ l, Ex.tame x) : ObC 117 [.d (.list 5 (Ex.rows l)), .clo (.func 119) [.box 1001 0]] (dpB (d + 1)) [] (fun x o => (∃ r, x = .d (.int r) ∧ decide (0 ≤ r) = l.any fun x => !x.right d) ∧ o = dpB (d + 1)) := by
 have hlen := rows_len l
 refine ob_enter Tryz.func117 rfl (by decide) _ Tryz.ntmps117 (le_ok rfl) rfl (fun w Pr β κ hE => ?_)
 dsimp only [slotsV, Nat.zero_add, Nat.reduceAdd]
 repeat' (first | refine nx ?_ | (apply aq_block_y; decide) | (apply qr_move; refine r_move ?_) | (apply qr_assign; refine r_assign ?_) | (apply at_cond; first | refine c_t ?_ | refine c_f ?_ | (refine aw_cond rfl (fun hb => ?_) (fun hb => ?_) <;> ((try have hq := dX hb); (try (exfalso; omega))))) | (apply qr_lss; refine r_lss ?_) | (apply qr_add; refine r_add ?_) | (apply qr_len; refine r_len ?_) | (apply qr_ix; refine r_ix ?_) | (apply qr_load; refine r_load ?_))
 rw [hlen]
 refine aw_lp (fun N sl ob => ∃ i : Nat, N = l.length - i ∧ i ≤ l.length ∧ ((l.take i).any fun x => !x.right d) = false ∧ sl = [(8, .d (.int i)), (7, .d (.int l.length)), (1, .clo (.func 119) [.box 1001 0]), (0, .d (.list 5 (Ex.rows l)))] ∧ ob = dpB (d + 1)) (⟨0, rfl, Nat.zero_le _, by simp, rfl, rfl⟩) ?_
 rintro N sl ob ⟨i, rfl, hi, hs, rfl, rfl⟩
 by_cases hlt : i < l.length
 ·have hg := rows_get hlt
  have hnext := any_take (fun x : Ex => !x.right d) hlt
  rw [hs, Bool.false_or] at hnext
  have hc := right1_any hd ih l[i] (ht _ (List.getElem_mem hlt))
  cases hT : l[i].right d
  ·rw [hT] at hc
   have hany : (l.any fun x => !x.right d) = true := List.any_eq_true.2 ⟨l[i], List.getElem_mem hlt, by simp [hT]⟩
   generalize l[i] = z at hg hc
   repeat' (first | (apply at_op (.indexAddr _ _ _); refine al_ixq hg ?_) | (apply at_call; refine k_clocall1 [(1001, 1001)] (hc) hE ?_; rintro _ _ ⟨rfl, rfl⟩ <;> (intro _ _ h1 h2; simp only [renEqs, Nat.reduceBEq, renL_app, renL_ds, renL_und] at h1 h2; subst h1 h2)) | refine nx ?_ | (apply aq_block_y; decide) | (apply qr_move; refine r_move ?_) | (apply qr_assign; refine r_assign ?_) | (apply at_cond; first | refine c_t ?_ | refine c_f ?_ | (refine aw_cond rfl (fun hb => ?_) (fun hb => ?_) <;> ((try have hq := dX hb); (try (exfalso; omega))))) | (apply qr_lss; refine r_lss ?_) | (apply qr_add; refine r_add ?_) | (apply qr_len; refine r_len ?_) | (apply qr_ix; refine r_ix ?_) | (apply qr_load; refine r_load ?_))
   refine oret1 (dpB (d + 1)) (by rfl) rv (⟨⟨i, rfl, by rw [hany]; exact decide_eq_true (by omega)⟩, rfl⟩) sb okx
  ·rw [hT] at hc hnext
   generalize l[i] = z at hg hc
   repeat' (first | (apply at_op (.indexAddr _ _ _); refine al_ixq hg ?_) | (apply at_call; refine k_clocall1 [(1001, 1001)] (hc) hE ?_; rintro _ _ ⟨rfl, rfl⟩ <;> (intro _ _ h1 h2; simp only [renEqs, Nat.reduceBEq, renL_app, renL_ds, renL_und] at h1 h2; subst h1 h2)) | refine nx ?_ | (apply aq_block_y; decide) | (apply qr_move; refine r_move ?_) | (apply qr_assign; refine r_assign ?_) | (apply at_cond; first | refine c_t ?_ | refine c_f ?_ | (refine aw_cond rfl (fun hb => ?_) (fun hb => ?_) <;> ((try have hq := dX hb); (try (exfalso; omega))))) | (apply qr_lss; refine r_lss ?_) | (apply qr_add; refine r_add ?_) | (apply qr_len; refine r_len ?_) | (apply qr_ix; refine r_ix ?_) | (apply qr_load; refine r_load ?_))
   refine aq_rd (⟨i + 1, rfl, by omega, hnext, rfl, rfl⟩) (by omega)
 ·rw [List.take_of_length_le (by omega)] at hs
  repeat' (first | refine nx ?_ | (apply aq_block_y; decide) | (apply qr_move; refine r_move ?_) | (apply qr_assign; refine r_assign ?_) | (apply at_cond; first | refine c_t ?_ | refine c_f ?_ | (refine aw_cond rfl (fun hb => ?_) (fun hb => ?_) <;> ((try have hq := dX hb); (try (exfalso; omega))))) | (apply qr_lss; refine r_lss ?_) | (apply qr_add; refine r_add ?_) | (apply qr_len; refine r_len ?_) | (apply qr_ix; refine r_ix ?_) | (apply qr_load; refine r_load ?_))
  refine oret1 (dpB (d + 1)) (by rfl) rv (⟨⟨-1, rfl, by rw [hs]; rfl⟩, rfl⟩) sb okx
theorem econtains {d : Nat} (hd : d ≤ 1000000) (ih : RightC d) (l : List Ex) (hl : l.length ≤ 100000) (ht : ∀ x ∈ l, Ex.tame x) : ObC 64 [.d (.list 5 (Ex.rows l)), .clo (.func 119) [.box 1001 0]] (dpB (d + 1)) [] (fun x o => x = .d (.bool (l.any fun x => !x.right d)) ∧ o = dpB (d + 1)) := by
 have hc := eindex hd ih l hl ht
 refine ob_enter Tryz.func64 rfl (by decide) _ Tryz.ntmps64 (le_ok rfl) rfl (fun w Pr β κ hE => ?_)
 dsimp only [slotsV, Nat.zero_add, Nat.reduceAdd]
 repeat' (first | (apply at_call; refine k_ocall [(1001, 1001)] (hc) hE ?_; rintro _ _ ⟨⟨r, rfl, hr⟩, rfl⟩ <;> (intro _ _ h1 h2; simp only [renEqs, Nat.reduceBEq, renL_app, renL_ds, renL_und] at h1 h2; subst h1 h2)) | refine nx ?_ | (apply qr_move; refine r_move ?_) | (apply qr_assign; refine r_assign ?_) | (apply qr_geq; refine r_geq ?_))
 refine oret1 (dpB (d + 1)) (by rfl) rv (⟨by rw [hr], rfl⟩) sb okx
theorem tame_args {e : Ex} (h : e.tame) : ∀ x ∈ e.args, Ex.tame x := by
 intro x hx
 obtain ⟨i, hi, rfl⟩ := List.mem_iff_getElem.1 hx
 exact tame_get h hi
theorem any_not {α : Type} (l : List α) (f : α → Bool) : (!l.any fun x => !f x) = l.all f := by
 induction l with
 | nil => rfl
 | cons x r ih => simp only [List.any_cons, List.all_cons, Bool.not_or, Bool.not_not, ih]
theorem numRight_in (n u : Int) (s : ByteArray) : numRight n u s = (decide (s = ⟨#[]⟩) && (!([u].any fun n => (decide (n < 0) || decide (3 < n)))) && !([n].any fun m => (decide (m < 0) || decide ((if u = 3 then 1 else 1000000000000000) < m)))) := by
 rw [Bool.eq_iff_iff]
 by_cases hu : u = 3 <;> simp only [hu, if_true, if_false, numRight, List.any_cons, List.any_nil, Bool.or_false, Bool.and_eq_true, Bool.not_eq_true', Bool.or_eq_false_iff, decide_eq_true_eq, decide_eq_false_iff_not]
 all_goals
  constructor <;> (rintro ⟨⟨h1, h2⟩, h3⟩; exact ⟨⟨h1, by omega⟩, by omega⟩)
abbrev exO' (e : Ex) : O := .box 26 [.d (.int e.op), .d (.int e.num), .d (.int e.unit), .d (.str e.str), .d (.list 5 (Ex.rows e.args))]
theorem right_any : ∀ d : Nat, d ≤ 1000000 → RightC d
 | 0, _, e, he => by
  rw [right_zero]
  have q0 : decide (((0 : Nat) : Int) = 0) = true := rfl
  refine pure_enter Tryz.func68 rfl (by decide) _ Tryz.ntmps68 (le_ok rfl) (fun w Pr hE => ?_)
  dsimp only [slotsOf, Nat.zero_add, Nat.reduceAdd]
  repeat' (first | refine nx ?_ | (apply aq_block_y; decide) | (apply qr_assign; refine r_assign ?_) | (apply at_cond; first | refine c_t ?_ | refine c_f ?_ | (refine aw_cond rfl (fun hb => ?_) (fun hb => ?_) <;> ((try have hq := dX hb); (try (exfalso; omega))))) | (apply qr_boxed; refine r_boxed ?_))
  refine aw_mixo ([(2, exO' e), (3, .box 3 [.d (.int ((0 : Nat) : Int))])]) [(0, true), (1, true), (2, true), (3, true), (4, true), (5, true), (6, true), (7, true), (8, false), (9, true), (10, true)] [] (by kernel_rfl) (by kernel_rfl) (by kernel_rfl) (by decide) (by (repeat (first | exact obs_nil | (apply obs_cons; focus (first | rfl | (simp [find]; done)))))) ?_
  simp only [planned, tailed, List.filterMap_cons, List.filterMap_nil, List.getElem?_cons_zero, List.getElem?_cons_succ, Option.map_some]
  repeat' (first | apply am_nil | refine m_skip ?_ | refine n_skip ?_ | (apply qm_move; refine m_move ?_) | (apply qm_pick; refine m_pick ?_) | (apply qm_eql; refine m_eql ?_) | (apply qm_neq; refine m_neq ?_) | (apply qm_len; refine m_len ?_) | (apply qm_load; refine m_load ?_) | (apply qm_faddr; refine m_faddr ?_) | (refine am_split rfl rfl (fun hb => ?_) (fun hb => ?_) <;> ((try have hq := dX hb); (try (exfalso; omega)))))
  repeat' (first | refine nx ?_ | (apply aq_block_y; decide) | (apply qr_move; refine r_move ?_) | (apply qr_assign; refine r_assign ?_) | (apply at_cond; first | refine c_t ?_ | refine c_f ?_ | (refine aw_cond rfl (fun hb => ?_) (fun hb => ?_) <;> ((try have hq := dX hb); (try (exfalso; omega))))) | (apply at_guard; first | refine g_go ?_ | refine g_nt ?_ | refine g_nf ?_ | refine g_nu ?_ | ((first | refine al_split_t rfl rfl (lt_ok rfl) (fun hb => ?_) (fun hb => ?_) | refine al_split_f rfl rfl (lt_ok rfl) (fun hb => ?_) (fun hb => ?_)) <;> ((try have hq := dX hb); (try (exfalso; omega))))) | (apply qr_pick; refine r_pick ?_) | (apply qr_eql; refine r_eql ?_) | (apply qr_neq; refine r_neq ?_) | (apply qr_len; refine r_len ?_) | (apply qr_load; refine r_load ?_) | (apply qr_faddr; refine r_faddr ?_))
  refine rt1 ?_
  rfl
 | d + 1, hd, e, he => by
  have ih := right_any d (by omega)
  have hz := tame_str he
  have hln := tame_len he
  have hop := operands_any e.op
  have hlen := rows_len e.args
  have q0 : decide (((d + 1 : Nat) : Int) = 0) = false := decide_eq_false (by omega)
  obtain ⟨R, hR⟩ : ∃ R, R = e.right (d + 1) := ⟨_, rfl⟩
  rw [← hR]
  rw [right_eq] at hR
  by_cases hl : (e.args.length : Int) = operandsV e.op
  ·rw [decide_eq_true hl, Bool.true_and] at hR
   have q1 : (!decide (((Ex.rows e.args).length : Int) = operandsV e.op)) = false := by simp [hl, hlen]
   refine pure_enter Tryz.func68 rfl (by decide) _ Tryz.ntmps68 (le_ok rfl) (fun w Pr hE => ?_)
   dsimp only [slotsOf, Nat.zero_add, Nat.reduceAdd]
   repeat' (first | refine nx ?_ | (apply aq_block_y; decide) | (apply qr_assign; refine r_assign ?_) | (apply at_cond; first | refine c_t ?_ | refine c_f ?_ | (refine aw_cond rfl (fun hb => ?_) (fun hb => ?_) <;> ((try have hq := dX hb); (try (exfalso; omega))))) | (apply qr_boxed; refine r_boxed ?_))
   refine aw_mixo ([(2, exO' e), (3, .box 3 [.d (.int ((d + 1 : Nat) : Int))])]) [(0, true), (1, true), (2, true), (3, true), (4, true), (5, true), (6, true), (7, true), (8, false), (9, true), (10, true)] [] (by kernel_rfl) (by kernel_rfl) (by kernel_rfl) (by decide) (by (repeat (first | exact obs_nil | (apply obs_cons; focus (first | rfl | (simp [find]; done)))))) ?_
   simp only [planned, tailed, List.filterMap_cons, List.filterMap_nil, List.getElem?_cons_zero, List.getElem?_cons_succ, Option.map_some]
   repeat' (first | apply am_nil | refine m_skip ?_ | refine n_skip ?_ | (apply at_mcall; refine m_call (hop) hE ?_; rintro _ rfl; (try dsimp only [flat, D.plain, D.plainL])) | (apply qm_move; refine m_move ?_) | (apply qm_pick; refine m_pick ?_) | (apply qm_eql; refine m_eql ?_) | (apply qm_neq; refine m_neq ?_) | (apply qm_len; refine m_len ?_) | (apply qm_load; refine m_load ?_) | (apply qm_faddr; refine m_faddr ?_) | (refine am_split rfl rfl (fun hb => ?_) (fun hb => ?_) <;> ((try have hq := dX hb); (try (exfalso; omega)))))
   clear q0 hop
   by_cases h0 : e.op = 0
   ·rw [if_pos h0, numRight_in] at hR
    have q2 : decide (e.op = 0) = true := decide_eq_true h0
    have hi1 := in_any 0 3 [e.unit] (by simp)
    cases hs : decide (e.str = ⟨#[]⟩)
    ·rw [hs, Bool.false_and, Bool.false_and] at hR
     rw [hR]
     cases hu : decide (e.unit = 3)
     all_goals
      repeat' (first | (apply at_call; refine k_call (hi1) hE ?_; rintro _ rfl) | refine nx ?_ | (apply aq_block_y; decide) | (apply qr_move; refine r_move ?_) | (apply qr_assign; refine r_assign ?_) | (apply at_cond; first | refine c_t ?_ | refine c_f ?_ | (refine aw_cond rfl (fun hb => ?_) (fun hb => ?_) <;> ((try have hq := dX hb); (try (exfalso; omega))))) | (apply at_guard; first | refine g_go ?_ | refine g_nt ?_ | refine g_nf ?_ | refine g_nu ?_ | ((first | refine al_split_t rfl rfl (lt_ok rfl) (fun hb => ?_) (fun hb => ?_) | refine al_split_f rfl rfl (lt_ok rfl) (fun hb => ?_) (fun hb => ?_)) <;> ((try have hq := dX hb); (try (exfalso; omega))))) | (apply qr_pick; refine r_pick ?_) | (apply qr_eql; refine r_eql ?_) | (apply qr_neq; refine r_neq ?_) | (apply qr_len; refine r_len ?_) | (apply qr_load; refine r_load ?_) | (apply qr_faddr; refine r_faddr ?_) | (apply qr_lits; refine r_lits ?_))
      refine rt1 ?_
      rfl
    rw [hs, Bool.true_and] at hR
    obtain ⟨b1, hb1⟩ : ∃ b1, b1 = (!([e.unit].any fun n => (decide (n < 0) || decide (3 < n)))) := ⟨_, rfl⟩
    rw [← hb1] at hR hi1
    cases b1
    ·rw [Bool.false_and] at hR
     rw [hR]
     cases hu : decide (e.unit = 3)
     all_goals
      repeat' (first | (apply at_call; refine k_call (hi1) hE ?_; rintro _ rfl) | refine nx ?_ | (apply aq_block_y; decide) | (apply qr_move; refine r_move ?_) | (apply qr_assign; refine r_assign ?_) | (apply at_cond; first | refine c_t ?_ | refine c_f ?_ | (refine aw_cond rfl (fun hb => ?_) (fun hb => ?_) <;> ((try have hq := dX hb); (try (exfalso; omega))))) | (apply at_guard; first | refine g_go ?_ | refine g_nt ?_ | refine g_nf ?_ | refine g_nu ?_ | ((first | refine al_split_t rfl rfl (lt_ok rfl) (fun hb => ?_) (fun hb => ?_) | refine al_split_f rfl rfl (lt_ok rfl) (fun hb => ?_) (fun hb => ?_)) <;> ((try have hq := dX hb); (try (exfalso; omega))))) | (apply qr_pick; refine r_pick ?_) | (apply qr_eql; refine r_eql ?_) | (apply qr_neq; refine r_neq ?_) | (apply qr_len; refine r_len ?_) | (apply qr_load; refine r_load ?_) | (apply qr_faddr; refine r_faddr ?_) | (apply qr_lits; refine r_lits ?_))
      refine rt1 ?_
      rfl
    rw [Bool.true_and] at hR
    by_cases hu : e.unit = 3
    ·have q3 : decide (e.unit = 3) = true := decide_eq_true hu
     rw [if_pos hu] at hR
     have hi2 := in_any 0 1 [e.num] (by simp)
     rw [← hR] at hi2
     repeat' (first | (apply at_call; refine k_call (hi1) hE ?_; rintro _ rfl; clear hi1) | (apply at_call; refine k_call (hi2) hE ?_; rintro _ rfl) | refine nx ?_ | (apply aq_block_y; decide) | (apply qr_move; refine r_move ?_) | (apply qr_assign; refine r_assign ?_) | (apply at_cond; first | refine c_t ?_ | refine c_f ?_ | (refine aw_cond rfl (fun hb => ?_) (fun hb => ?_) <;> ((try have hq := dX hb); (try (exfalso; omega))))) | (apply at_guard; first | refine g_go ?_ | refine g_nt ?_ | refine g_nf ?_ | refine g_nu ?_ | ((first | refine al_split_t rfl rfl (lt_ok rfl) (fun hb => ?_) (fun hb => ?_) | refine al_split_f rfl rfl (lt_ok rfl) (fun hb => ?_) (fun hb => ?_)) <;> ((try have hq := dX hb); (try (exfalso; omega))))) | (apply qr_pick; refine r_pick ?_) | (apply qr_eql; refine r_eql ?_) | (apply qr_neq; refine r_neq ?_) | (apply qr_len; refine r_len ?_) | (apply qr_load; refine r_load ?_) | (apply qr_faddr; refine r_faddr ?_) | (apply qr_lits; refine r_lits ?_))
     refine rt1 ?_
     rfl
    ·have q3 : decide (e.unit = 3) = false := decide_eq_false hu
     rw [if_neg hu] at hR
     have hi2 := in_any 0 1000000000000000 [e.num] (by simp)
     rw [← hR] at hi2
     repeat' (first | (apply at_call; refine k_call (hi1) hE ?_; rintro _ rfl; clear hi1) | (apply at_call; refine k_call (hi2) hE ?_; rintro _ rfl) | refine nx ?_ | (apply aq_block_y; decide) | (apply qr_move; refine r_move ?_) | (apply qr_assign; refine r_assign ?_) | (apply at_cond; first | refine c_t ?_ | refine c_f ?_ | (refine aw_cond rfl (fun hb => ?_) (fun hb => ?_) <;> ((try have hq := dX hb); (try (exfalso; omega))))) | (apply at_guard; first | refine g_go ?_ | refine g_nt ?_ | refine g_nf ?_ | refine g_nu ?_ | ((first | refine al_split_t rfl rfl (lt_ok rfl) (fun hb => ?_) (fun hb => ?_) | refine al_split_f rfl rfl (lt_ok rfl) (fun hb => ?_) (fun hb => ?_)) <;> ((try have hq := dX hb); (try (exfalso; omega))))) | (apply qr_pick; refine r_pick ?_) | (apply qr_eql; refine r_eql ?_) | (apply qr_neq; refine r_neq ?_) | (apply qr_len; refine r_len ?_) | (apply qr_load; refine r_load ?_) | (apply qr_faddr; refine r_faddr ?_) | (apply qr_lits; refine r_lits ?_))
     refine rt1 ?_
     rfl
   ·have q2 : decide (e.op = 0) = false := decide_eq_false h0
    rw [if_neg h0] at hR
    by_cases h1 : e.op = 1 ∨ e.op = 2 ∨ e.op = 3
    ·rw [if_pos h1] at hR
     have hna := name_any e.str (by omega)
     cases hn0 : decide (e.num = 0)
     ·rw [hn0, Bool.false_and, Bool.false_and] at hR
      rw [hR]
      repeat' (first | refine nx ?_ | (apply aq_block_y; decide) | (apply qr_move; refine r_move ?_) | (apply qr_assign; refine r_assign ?_) | (apply at_cond; first | refine c_t ?_ | refine c_f ?_ | (refine aw_cond rfl (fun hb => ?_) (fun hb => ?_) <;> ((try have hq := dX hb); (try (exfalso; omega))))) | (apply at_guard; first | refine g_go ?_ | refine g_nt ?_ | refine g_nf ?_ | refine g_nu ?_ | ((first | refine al_split_t rfl rfl (lt_ok rfl) (fun hb => ?_) (fun hb => ?_) | refine al_split_f rfl rfl (lt_ok rfl) (fun hb => ?_) (fun hb => ?_)) <;> ((try have hq := dX hb); (try (exfalso; omega))))) | (apply qr_pick; refine r_pick ?_) | (apply qr_eql; refine r_eql ?_) | (apply qr_neq; refine r_neq ?_) | (apply qr_len; refine r_len ?_) | (apply qr_load; refine r_load ?_) | (apply qr_faddr; refine r_faddr ?_))
      all_goals first
       | (exfalso; simp only [decide_eq_false_iff_not] at *; omega)
       | skip
      all_goals
       refine rt1 ?_
       rfl
     cases hn1 : decide (e.unit = 0)
     ·rw [hn0, hn1, Bool.true_and, Bool.false_and] at hR
      rw [hR]
      repeat' (first | refine nx ?_ | (apply aq_block_y; decide) | (apply qr_move; refine r_move ?_) | (apply qr_assign; refine r_assign ?_) | (apply at_cond; first | refine c_t ?_ | refine c_f ?_ | (refine aw_cond rfl (fun hb => ?_) (fun hb => ?_) <;> ((try have hq := dX hb); (try (exfalso; omega))))) | (apply at_guard; first | refine g_go ?_ | refine g_nt ?_ | refine g_nf ?_ | refine g_nu ?_ | ((first | refine al_split_t rfl rfl (lt_ok rfl) (fun hb => ?_) (fun hb => ?_) | refine al_split_f rfl rfl (lt_ok rfl) (fun hb => ?_) (fun hb => ?_)) <;> ((try have hq := dX hb); (try (exfalso; omega))))) | (apply qr_pick; refine r_pick ?_) | (apply qr_eql; refine r_eql ?_) | (apply qr_neq; refine r_neq ?_) | (apply qr_len; refine r_len ?_) | (apply qr_load; refine r_load ?_) | (apply qr_faddr; refine r_faddr ?_))
      all_goals first
       | (exfalso; simp only [decide_eq_false_iff_not] at *; omega)
       | skip
      all_goals
       refine rt1 ?_
       rfl
     ·rw [hn0, hn1, Bool.true_and, Bool.true_and] at hR
      rw [hR]
      repeat' (first | (apply at_call; refine k_call (hna) hE ?_; rintro _ rfl) | refine nx ?_ | (apply aq_block_y; decide) | (apply qr_move; refine r_move ?_) | (apply qr_assign; refine r_assign ?_) | (apply at_cond; first | refine c_t ?_ | refine c_f ?_ | (refine aw_cond rfl (fun hb => ?_) (fun hb => ?_) <;> ((try have hq := dX hb); (try (exfalso; omega))))) | (apply at_guard; first | refine g_go ?_ | refine g_nt ?_ | refine g_nf ?_ | refine g_nu ?_ | ((first | refine al_split_t rfl rfl (lt_ok rfl) (fun hb => ?_) (fun hb => ?_) | refine al_split_f rfl rfl (lt_ok rfl) (fun hb => ?_) (fun hb => ?_)) <;> ((try have hq := dX hb); (try (exfalso; omega))))) | (apply qr_pick; refine r_pick ?_) | (apply qr_eql; refine r_eql ?_) | (apply qr_neq; refine r_neq ?_) | (apply qr_len; refine r_len ?_) | (apply qr_load; refine r_load ?_) | (apply qr_faddr; refine r_faddr ?_))
      all_goals first
       | (exfalso; simp only [decide_eq_false_iff_not] at *; omega)
       | skip
      all_goals
       refine rt1 ?_
       rfl
    ·rw [if_neg h1] at hR
     have q3 : decide (e.op = 1) = false := decide_eq_false (by omega)
     have q4 : decide (e.op = 2) = false := decide_eq_false (by omega)
     have q5 : decide (e.op = 3) = false := decide_eq_false (by omega)
     have hcn := econtains (by omega) ih e.args hln (tame_args he)
     have hna := any_not e.args (fun x => x.right d)
     rw [← hna] at hR
     cases hn0 : decide (e.num = 0)
     ·rw [hn0, Bool.false_and, Bool.false_and, Bool.false_and] at hR
      rw [hR]
      repeat' (first | refine nx ?_ | (apply aq_block_y; decide) | (apply qr_move; refine r_move ?_) | (apply qr_assign; refine r_assign ?_) | (apply at_cond; first | refine c_t ?_ | refine c_f ?_ | (refine aw_cond rfl (fun hb => ?_) (fun hb => ?_) <;> ((try have hq := dX hb); (try (exfalso; omega))))) | (apply at_guard; first | refine g_go ?_ | refine g_nt ?_ | refine g_nf ?_ | refine g_nu ?_ | ((first | refine al_split_t rfl rfl (lt_ok rfl) (fun hb => ?_) (fun hb => ?_) | refine al_split_f rfl rfl (lt_ok rfl) (fun hb => ?_) (fun hb => ?_)) <;> ((try have hq := dX hb); (try (exfalso; omega))))) | (apply qr_pick; refine r_pick ?_) | (apply qr_eql; refine r_eql ?_) | (apply qr_neq; refine r_neq ?_) | (apply qr_not; refine r_not ?_) | (apply qr_len; refine r_len ?_) | (apply qr_func; refine r_func ?_) | (apply qr_load; refine r_load ?_) | (apply qr_faddr; refine r_faddr ?_))
      refine rt1 ?_
      rfl
     cases hn1 : decide (e.unit = 0)
     ·rw [hn0, hn1, Bool.true_and, Bool.false_and, Bool.false_and] at hR
      rw [hR]
      repeat' (first | refine nx ?_ | (apply aq_block_y; decide) | (apply qr_move; refine r_move ?_) | (apply qr_assign; refine r_assign ?_) | (apply at_cond; first | refine c_t ?_ | refine c_f ?_ | (refine aw_cond rfl (fun hb => ?_) (fun hb => ?_) <;> ((try have hq := dX hb); (try (exfalso; omega))))) | (apply at_guard; first | refine g_go ?_ | refine g_nt ?_ | refine g_nf ?_ | refine g_nu ?_ | ((first | refine al_split_t rfl rfl (lt_ok rfl) (fun hb => ?_) (fun hb => ?_) | refine al_split_f rfl rfl (lt_ok rfl) (fun hb => ?_) (fun hb => ?_)) <;> ((try have hq := dX hb); (try (exfalso; omega))))) | (apply qr_pick; refine r_pick ?_) | (apply qr_eql; refine r_eql ?_) | (apply qr_neq; refine r_neq ?_) | (apply qr_not; refine r_not ?_) | (apply qr_len; refine r_len ?_) | (apply qr_func; refine r_func ?_) | (apply qr_load; refine r_load ?_) | (apply qr_faddr; refine r_faddr ?_))
      refine rt1 ?_
      rfl
     cases hn2 : decide (e.str = ⟨#[]⟩)
     ·rw [hn0, hn1, hn2, Bool.true_and, Bool.true_and, Bool.false_and] at hR
      rw [hR]
      repeat' (first | refine nx ?_ | (apply aq_block_y; decide) | (apply qr_move; refine r_move ?_) | (apply qr_assign; refine r_assign ?_) | (apply at_cond; first | refine c_t ?_ | refine c_f ?_ | (refine aw_cond rfl (fun hb => ?_) (fun hb => ?_) <;> ((try have hq := dX hb); (try (exfalso; omega))))) | (apply at_guard; first | refine g_go ?_ | refine g_nt ?_ | refine g_nf ?_ | refine g_nu ?_ | ((first | refine al_split_t rfl rfl (lt_ok rfl) (fun hb => ?_) (fun hb => ?_) | refine al_split_f rfl rfl (lt_ok rfl) (fun hb => ?_) (fun hb => ?_)) <;> ((try have hq := dX hb); (try (exfalso; omega))))) | (apply qr_pick; refine r_pick ?_) | (apply qr_eql; refine r_eql ?_) | (apply qr_neq; refine r_neq ?_) | (apply qr_not; refine r_not ?_) | (apply qr_len; refine r_len ?_) | (apply qr_func; refine r_func ?_) | (apply qr_load; refine r_load ?_) | (apply qr_faddr; refine r_faddr ?_))
      refine rt1 ?_
      rfl
     ·rw [hn0, hn1, hn2, Bool.true_and, Bool.true_and, Bool.true_and] at hR
      rw [hR]
      repeat' (first | (apply at_op (.makeFunc _ _ _); refine al_y (y_clo rfl) (lt_ok rfl) ?_) | (apply at_call; refine k_ocall [(1001, 3)] (hcn) hE ?_; rintro _ _ ⟨rfl, rfl⟩ <;> (intro _ _ h1 h2; simp only [renEqs, Nat.reduceBEq, renL_app, renL_ds, renL_und] at h1 h2; subst h1 h2)) | refine nx ?_ | (apply aq_block_y; decide) | (apply qr_move; refine r_move ?_) | (apply qr_assign; refine r_assign ?_) | (apply at_cond; first | refine c_t ?_ | refine c_f ?_ | (refine aw_cond rfl (fun hb => ?_) (fun hb => ?_) <;> ((try have hq := dX hb); (try (exfalso; omega))))) | (apply at_guard; first | refine g_go ?_ | refine g_nt ?_ | refine g_nf ?_ | refine g_nu ?_ | ((first | refine al_split_t rfl rfl (lt_ok rfl) (fun hb => ?_) (fun hb => ?_) | refine al_split_f rfl rfl (lt_ok rfl) (fun hb => ?_) (fun hb => ?_)) <;> ((try have hq := dX hb); (try (exfalso; omega))))) | (apply qr_pick; refine r_pick ?_) | (apply qr_eql; refine r_eql ?_) | (apply qr_neq; refine r_neq ?_) | (apply qr_not; refine r_not ?_) | (apply qr_len; refine r_len ?_) | (apply qr_func; refine r_func ?_) | (apply qr_load; refine r_load ?_) | (apply qr_faddr; refine r_faddr ?_))
      refine rt1 ?_
      rfl
  ·rw [decide_eq_false hl, Bool.false_and] at hR
   have q1 : (!decide (((Ex.rows e.args).length : Int) = operandsV e.op)) = true := by simp [hl, hlen]
   rw [hR]
   refine pure_enter Tryz.func68 rfl (by decide) _ Tryz.ntmps68 (le_ok rfl) (fun w Pr hE => ?_)
   dsimp only [slotsOf, Nat.zero_add, Nat.reduceAdd]
   repeat' (first | refine nx ?_ | (apply aq_block_y; decide) | (apply qr_assign; refine r_assign ?_) | (apply at_cond; first | refine c_t ?_ | refine c_f ?_ | (refine aw_cond rfl (fun hb => ?_) (fun hb => ?_) <;> ((try have hq := dX hb); (try (exfalso; omega))))) | (apply qr_boxed; refine r_boxed ?_))
   refine aw_mixo ([(2, exO' e), (3, .box 3 [.d (.int ((d + 1 : Nat) : Int))])]) [(0, true), (1, true), (2, true), (3, true), (4, true), (5, true), (6, true), (7, true), (8, false), (9, true), (10, true)] [] (by kernel_rfl) (by kernel_rfl) (by kernel_rfl) (by decide) (by (repeat (first | exact obs_nil | (apply obs_cons; focus (first | rfl | (simp [find]; done)))))) ?_
   simp only [planned, tailed, List.filterMap_cons, List.filterMap_nil, List.getElem?_cons_zero, List.getElem?_cons_succ, Option.map_some]
   repeat' (first | apply am_nil | refine m_skip ?_ | refine n_skip ?_ | (apply at_mcall; refine m_call (hop) hE ?_; rintro _ rfl; (try dsimp only [flat, D.plain, D.plainL])) | (apply qm_move; refine m_move ?_) | (apply qm_pick; refine m_pick ?_) | (apply qm_eql; refine m_eql ?_) | (apply qm_neq; refine m_neq ?_) | (apply qm_len; refine m_len ?_) | (apply qm_load; refine m_load ?_) | (apply qm_faddr; refine m_faddr ?_) | (refine am_split rfl rfl (fun hb => ?_) (fun hb => ?_) <;> ((try have hq := dX hb); (try (exfalso; omega)))))
   repeat' (first | refine nx ?_ | (apply aq_block_y; decide) | (apply qr_move; refine r_move ?_) | (apply qr_assign; refine r_assign ?_) | (apply at_cond; first | refine c_t ?_ | refine c_f ?_ | (refine aw_cond rfl (fun hb => ?_) (fun hb => ?_) <;> ((try have hq := dX hb); (try (exfalso; omega))))) | (apply at_guard; first | refine g_go ?_ | refine g_nt ?_ | refine g_nf ?_ | refine g_nu ?_ | ((first | refine al_split_t rfl rfl (lt_ok rfl) (fun hb => ?_) (fun hb => ?_) | refine al_split_f rfl rfl (lt_ok rfl) (fun hb => ?_) (fun hb => ?_)) <;> ((try have hq := dX hb); (try (exfalso; omega))))) | (apply qr_pick; refine r_pick ?_) | (apply qr_eql; refine r_eql ?_) | (apply qr_neq; refine r_neq ?_) | (apply qr_len; refine r_len ?_) | (apply qr_load; refine r_load ?_) | (apply qr_faddr; refine r_faddr ?_))
   refine rt1 ?_
   rfl
end Go.Proofs.YtedoeogopmenpaaGreatDoor
end
section
set_option linter.unusedSimpArgs false
set_option linter.unusedVariables false
namespace Go.Proofs.YtedoeogopmenpaaGreatDoor
open Go.RowKit
theorem app_size (a b : ByteArray) : (a ++ b).size = a.size + b.size := ByteArray.size_append
theorem lit_size (l : List UInt8) : ByteArray.size ⟨⟨l⟩⟩ = l.length := rfl
theorem opInfo_size {op : Int} {t : Tok} {g : Nat} (h : opInfo op = some (t, g)) : t.s.size ≤ 3 ∧ 1 ≤ g ∧ g ≤ 6 ∧ t.s ≠ ⟨#[]⟩ := by
 rcases opInfo_cases h with ⟨_, rfl, rfl⟩ | ⟨_, rfl, rfl⟩ | ⟨_, rfl, rfl⟩ | ⟨_, rfl, rfl⟩ | ⟨_, rfl, rfl⟩ | ⟨_, rfl, rfl⟩ | ⟨_, rfl, rfl⟩ | ⟨_, rfl, rfl⟩ <;> decide
theorem numRight_rng {n u : Int} {s : ByteArray} (h : numRight n u s = true) : 0 ≤ n ∧ n ≤ 1000000000000000 ∧ 0 ≤ u ∧ u ≤ 3 := by
 unfold numRight at h
 simp only [Bool.and_eq_true, decide_eq_true_eq] at h
 obtain ⟨⟨_, h1, h2⟩, h3, h4⟩ := h
 split at h4 <;> omega
theorem text_size : ∀ (d : Nat) (e : Ex) (f : Nat), e.right d = true → e.tame → (e.text f).size ≤ 200000 * 4 ^ d
 | 0, e, f, h, _ => by rw [right_zero] at h; cases h
 | d + 1, e, f, h, ht => by
  have ih := text_size d
  have hp : 1 ≤ 4 ^ d := Nat.pow_pos (by omega)
  have h4 : 4 ^ (d + 1) = 4 * 4 ^ d := by rw [Nat.pow_succ]; omega
  generalize hS : 200000 * 4 ^ d = S at ih
  have hS1 : 200000 * 4 ^ (d + 1) = 4 * S := by rw [h4, ← hS]; omega
  have hS2 : 200000 ≤ S := by omega
  have key : (e.text 0).size ≤ 3 * S + 100 := by
   rcases right_shape h with ⟨n, u, rfl, hn⟩ | ⟨op, s, ho, rfl, _⟩ | ⟨x, rfl, hx⟩ | ⟨x, y, z, rfl, hx, hy, hz⟩ | ⟨op, x, y, ho, rfl, hx, hy⟩ | ⟨op, x, y, t, g, ho, rfl, hx, hy⟩
   ·have hr := numRight_rng hn
    have hz := itoaB_size hr.1 (by omega)
    have k1 : w_true.size = 4 := rfl
    have k2 : w_false.size = 5 := rfl
    rw [text_num]
    split
    ·split <;> omega
    ·split
     ·rw [app_size]
      simp only [lit_size, List.length_cons, List.length_nil]
      omega
     ·split
      ·rw [app_size]
       simp only [lit_size, List.length_cons, List.length_nil]
       omega
      ·omega
   ·have hz : s.size ≤ 100000 := ht.1
    rw [text_leaf ho]
    split
    ·omega
    ·split <;> (rw [app_size]; simp only [lit_size, List.length_cons, List.length_nil]; omega)
   ·have k1 := ih x 3 hx ht.2.2.1
    rw [text_not hx]
    simp only [app_size, lit_size, List.length_cons, List.length_nil]
    omega
   ·have k1 := ih x 0 hx ht.2.2.1
    have k2 := ih y 0 hy ht.2.2.2.1
    have k3 := ih z 0 hz ht.2.2.2.2.1
    rw [text_if hx hy hz]
    simp only [app_size, lit_size, List.length_cons, List.length_nil]
    omega
   ·have k1 := ih x 0 hx ht.2.2.1
    have k2 := ih y 0 hy ht.2.2.2.1
    have k3 : (if op = 8 then w_min else w_max).size = 3 := by split <;> rfl
    rw [text_call ho hx hy]
    simp only [app_size, lit_size, List.length_cons, List.length_nil]
    omega
   ·have k1 := ih x (leftV g) hx ht.2.2.1
    have k2 := ih y (g + 1) hy ht.2.2.2.1
    have k3 := (opInfo_size ho).1
    rw [text_op ho hx hy]
    simp only [app_size, lit_size, List.length_cons, List.length_nil]
    omega
  by_cases hf : formV e.op < f
  ·rw [text_par h hf]
   simp only [app_size, lit_size, List.length_cons, List.length_nil]
   omega
  ·rw [text_in (by omega)]
   omega
theorem pow_4 {d : Nat} (h : d ≤ 12) : 200000 * 4 ^ d ≤ 3355443200000 := by
 have : 4 ^ d ≤ 4 ^ 12 := Nat.pow_le_pow_right (by omega) h
 omega
theorem text_small {d : Nat} (hd : d ≤ 12) {e : Ex} (h : e.right d = true) (ht : e.tame) (f : Nat) : (e.text f).size ≤ 3355443200000 := Nat.le_trans (text_size d e f h ht) (pow_4 hd)
theorem form_hit {op : Int} {i : Nat} {q : ByteArray × Int × Int} (h : opsL[i]? = some q) (hq : q.2.1 = op) : ((formV op : Nat) : Int) = q.2.2 := by
 match i, h with
 | 0, h => cases h; subst hq; rfl
 | 1, h => cases h; subst hq; rfl
 | 2, h => cases h; subst hq; rfl
 | 3, h => cases h; subst hq; rfl
 | 4, h => cases h; subst hq; rfl
 | 5, h => cases h; subst hq; rfl
 | 6, h => cases h; subst hq; rfl
 | 7, h => cases h; subst hq; rfl
 | i + 8, h => simp [opsL] at h
theorem opInfo_none {op : Int} (h : ∀ q ∈ opsL, q.2.1 ≠ op) : opInfo op = none := by
 have h1 := h (w_or, 14, 1) (by simp [opsL])
 have h2 := h (w_and, 13, 2) (by simp [opsL])
 have h3 := h (w_eq, 11, 4) (by simp [opsL])
 have h4 := h (w_lt, 10, 4) (by simp [opsL])
 have h5 := h (w_plus, 4, 5) (by simp [opsL])
 have h6 := h (w_minus, 5, 5) (by simp [opsL])
 have h7 := h (w_times, 6, 6) (by simp [opsL])
 have h8 := h (w_by, 7, 6) (by simp [opsL])
 simp only at h1 h2 h3 h4 h5 h6 h7 h8
 unfold opInfo
 rw [if_neg (by omega), if_neg (by omega), if_neg (by omega), if_neg (by omega), if_neg (by omega), if_neg (by omega), if_neg (by omega), if_neg (by omega)]
theorem form_none {op : Int} (h15 : op ≠ 15) (h12 : op ≠ 12) (h : ∀ q ∈ opsL, q.2.1 ≠ op) : formV op = 7 := by
 unfold formV
 rw [if_neg h15, if_neg h12, opInfo_none h]
theorem op_hit {op : Int} {i : Nat} {q : ByteArray × Int × Int} (h : opsL[i]? = some q) (hq : q.2.1 = op) : ∃ t, opInfo op = some (t, q.2.2.toNat) ∧ t.s = q.1 ∧ 0 ≤ q.2.2 := by
 match i, h with
 | 0, h => cases h; subst hq; exact ⟨_, rfl, rfl, by decide⟩
 | 1, h => cases h; subst hq; exact ⟨_, rfl, rfl, by decide⟩
 | 2, h => cases h; subst hq; exact ⟨_, rfl, rfl, by decide⟩
 | 3, h => cases h; subst hq; exact ⟨_, rfl, rfl, by decide⟩
 | 4, h => cases h; subst hq; exact ⟨_, rfl, rfl, by decide⟩
 | 5, h => cases h; subst hq; exact ⟨_, rfl, rfl, by decide⟩
 | 6, h => cases h; subst hq; exact ⟨_, rfl, rfl, by decide⟩
 | 7, h => cases h; subst hq; exact ⟨_, rfl, rfl, by decide⟩
 | i + 8, h => simp [opsL] at h
theorem form_any (e : Ex) : PureC 107 [.agg (exC e)] (· = .int (formV e.op)) := by
 by_cases h15 : e.op = 15
 ·have q1 : decide (e.op = 15) = true := decide_eq_true h15
  have hf : formV e.op = 0 := by rw [h15]; rfl
  rw [hf]
  refine pure_enter Tryz.func107 rfl (by decide) _ Tryz.ntmps107 (le_ok rfl) (fun w Pr hE => ?_)
  dsimp only [slotsOf, Nat.zero_add, Nat.reduceAdd]
  repeat' (first | refine nx ?_ | (apply aq_block_y; decide) | (apply qr_assign; refine r_assign ?_) | (apply at_cond; first | refine c_t ?_ | refine c_f ?_ | (refine aw_cond rfl (fun hb => ?_) (fun hb => ?_) <;> ((try have hq := dX hb); (try (exfalso; omega))))) | (apply qr_eql; refine r_eql ?_) | (apply qr_load; refine r_load ?_) | (apply qr_faddr; refine r_faddr ?_) | (apply qr_boxed; refine r_boxed ?_))
  refine rt1 ?_
  rfl
 have q1 : decide (e.op = 15) = false := decide_eq_false h15
 by_cases h12 : e.op = 12
 ·have q2 : decide (e.op = 12) = true := decide_eq_true h12
  have hf : formV e.op = 3 := by rw [h12]; rfl
  rw [hf]
  refine pure_enter Tryz.func107 rfl (by decide) _ Tryz.ntmps107 (le_ok rfl) (fun w Pr hE => ?_)
  dsimp only [slotsOf, Nat.zero_add, Nat.reduceAdd]
  repeat' (first | refine nx ?_ | (apply aq_block_y; decide) | (apply qr_assign; refine r_assign ?_) | (apply at_cond; first | refine c_t ?_ | refine c_f ?_ | (refine aw_cond rfl (fun hb => ?_) (fun hb => ?_) <;> ((try have hq := dX hb); (try (exfalso; omega))))) | (apply qr_eql; refine r_eql ?_) | (apply qr_load; refine r_load ?_) | (apply qr_faddr; refine r_faddr ?_) | (apply qr_boxed; refine r_boxed ?_))
  refine rt1 ?_
  rfl
 have q2 : decide (e.op = 12) = false := decide_eq_false h12
 refine pure_enter Tryz.func107 rfl (by decide) _ Tryz.ntmps107 (le_ok rfl) (fun w Pr hE => ?_)
 dsimp only [slotsOf, Nat.zero_add, Nat.reduceAdd]
 repeat' (first | (apply at_call; refine k_call (operators_any) hE ?_; rintro _ rfl) | refine nx ?_ | (apply aq_block_y; decide) | (apply qr_move; refine r_move ?_) | (apply qr_assign; refine r_assign ?_) | (apply at_cond; first | refine c_t ?_ | refine c_f ?_ | (refine aw_cond rfl (fun hb => ?_) (fun hb => ?_) <;> ((try have hq := dX hb); (try (exfalso; omega))))) | (apply qr_eql; refine r_eql ?_) | (apply qr_len; refine r_len ?_) | (apply qr_load; refine r_load ?_) | (apply qr_faddr; refine r_faddr ?_) | (apply qr_boxed; refine r_boxed ?_))
 refine aw_lp (fun N sl ob => ∃ i : Nat, N = 8 - i ∧ i ≤ 8 ∧ (∀ q ∈ opsL.take i, q.2.1 ≠ e.op) ∧ sl = [(13, .d (.int i)), (12, .d (.int 8)), (11, .d (.list 3 (opsL.map opC))), (2, .d (.int 0)), (1, .box 1 0)] ∧ ob = [(1, exO' e)]) (⟨0, rfl, Nat.zero_le _, by simp, rfl, rfl⟩) ?_
 rintro N sl ob ⟨i, rfl, hi, hs, rfl, rfl⟩
 by_cases hlt : i < 8
 ·have hl8 : i < opsL.length := hlt
  obtain ⟨q, hx⟩ : ∃ q, opsL[i]? = some q := ⟨_, List.getElem?_eq_getElem hl8⟩
  have hg : (opsL.map opC)[i]? = some (opC q) := by rw [List.getElem?_map, hx]; rfl
  by_cases hq : q.2.1 = e.op
  ·have q3 : decide (q.2.1 = e.op) = true := decide_eq_true hq
   have hf := form_hit hx hq
   rw [hf]
   repeat' (first | (apply at_op (.indexAddr _ _ _); refine al_ixq hg ?_) | refine nx ?_ | (apply aq_block_y; decide) | (apply qr_assign; refine r_assign ?_) | (apply at_cond; first | refine c_t ?_ | refine c_f ?_ | (refine aw_cond rfl (fun hb => ?_) (fun hb => ?_) <;> ((try have hq := dX hb); (try (exfalso; omega))))) | (apply qr_lss; refine r_lss ?_) | (apply qr_eql; refine r_eql ?_) | (apply qr_ix; refine r_ix ?_) | (apply qr_load; refine r_load ?_) | (apply qr_faddr; refine r_faddr ?_) | (apply qr_alloc; refine r_alloc ?_) | (apply qr_store; refine r_store ?_))
   refine rt1 ?_
   rfl
  ·have q3 : decide (q.2.1 = e.op) = false := decide_eq_false hq
   have hnext : ∀ p ∈ opsL.take (i + 1), p.2.1 ≠ e.op := fun p hp => by
    rw [List.take_add_one, hx] at hp
    rcases List.mem_append.1 hp with hp | hp
    ·exact hs p hp
    ·simp at hp
     subst hp
     exact hq
   repeat' (first | (apply at_op (.indexAddr _ _ _); refine al_ixq hg ?_) | refine nx ?_ | (apply aq_block_y; decide) | (apply qr_move; refine r_move ?_) | (apply at_cond; first | refine c_t ?_ | refine c_f ?_ | (refine aw_cond rfl (fun hb => ?_) (fun hb => ?_) <;> ((try have hq := dX hb); (try (exfalso; omega))))) | (apply qr_lss; refine r_lss ?_) | (apply qr_eql; refine r_eql ?_) | (apply qr_add; refine r_add ?_) | (apply qr_ix; refine r_ix ?_) | (apply qr_load; refine r_load ?_) | (apply qr_faddr; refine r_faddr ?_) | (apply qr_alloc; refine r_alloc ?_) | (apply qr_store; refine r_store ?_))
   refine aq_rd (⟨i + 1, rfl, by omega, hnext, rfl, rfl⟩) (by omega)
 ·have hf := form_none h15 h12 (fun q hq => hs q (by rw [List.take_of_length_le (show opsL.length ≤ i by show 8 ≤ i; omega)]; exact hq))
  rw [hf]
  repeat' (first | refine nx ?_ | (apply aq_block_y; decide) | (apply qr_assign; refine r_assign ?_) | (apply at_cond; first | refine c_t ?_ | refine c_f ?_ | (refine aw_cond rfl (fun hb => ?_) (fun hb => ?_) <;> ((try have hq := dX hb); (try (exfalso; omega))))) | (apply qr_lss; refine r_lss ?_))
  refine rt1 ?_
  rfl
theorem numtext_any (n u : Int) (s : ByteArray) (a : List Ex) (h0 : 0 ≤ n) (h1 : n ≤ 1000000000000000) : PureC 110 [.agg (exC (.mk 0 n u s a))] (· = .str ((Ex.mk 0 n u s a).text 0)) := by
 rw [text_num]
 dsimp only [exC, Ex.op, Ex.num, Ex.unit, Ex.str, Ex.args]
 have hit := itoa_any n (by omega) (by omega)
 have hz := itoaB_size h0 (by omega)
 have l1 : ByteArray.size ⟨#[32, 99, 101, 110, 116, 115]⟩ = 6 := rfl
 have l2 : ByteArray.size ⟨#[32, 109, 105, 110, 117, 116, 101, 115]⟩ = 8 := rfl
 by_cases hu3 : u = 3
 ·rw [if_pos hu3]
  have q1 : decide (u = 3) = true := decide_eq_true hu3
  by_cases hn : n = 1
  ·rw [if_pos hn]
   have q2 : decide (n = 1) = true := decide_eq_true hn
   refine pure_enter Tryz.func110 rfl (by decide) _ Tryz.ntmps110 (le_ok rfl) (fun w Pr hE => ?_)
   dsimp only [slotsOf, Nat.zero_add, Nat.reduceAdd]
   repeat' (first | (apply at_call; refine k_call (hit) hE ?_; rintro _ rfl) | refine nx ?_ | (apply aq_block_y; decide) | (apply qr_assign; refine r_assign ?_) | (apply at_cond; first | refine c_t ?_ | refine c_f ?_ | (refine aw_cond rfl (fun hb => ?_) (fun hb => ?_) <;> ((try have hq := dX hb); (try (exfalso; omega))))) | (apply qr_eql; refine r_eql ?_) | (apply qr_load; refine r_load ?_) | (apply qr_faddr; refine r_faddr ?_) | (apply qr_boxed; refine r_boxed ?_))
   refine rt1 ?_
   rfl
  ·rw [if_neg hn]
   have q2 : decide (n = 1) = false := decide_eq_false hn
   refine pure_enter Tryz.func110 rfl (by decide) _ Tryz.ntmps110 (le_ok rfl) (fun w Pr hE => ?_)
   dsimp only [slotsOf, Nat.zero_add, Nat.reduceAdd]
   repeat' (first | (apply at_call; refine k_call (hit) hE ?_; rintro _ rfl) | refine nx ?_ | (apply aq_block_y; decide) | (apply qr_assign; refine r_assign ?_) | (apply at_cond; first | refine c_t ?_ | refine c_f ?_ | (refine aw_cond rfl (fun hb => ?_) (fun hb => ?_) <;> ((try have hq := dX hb); (try (exfalso; omega))))) | (apply qr_eql; refine r_eql ?_) | (apply qr_load; refine r_load ?_) | (apply qr_faddr; refine r_faddr ?_) | (apply qr_boxed; refine r_boxed ?_))
   refine rt1 ?_
   rfl
 rw [if_neg hu3]
 have q1 : decide (u = 3) = false := decide_eq_false hu3
 by_cases hu1 : u = 1
 ·rw [if_pos hu1]
  have q2 : decide (u = 1) = true := decide_eq_true hu1
  refine pure_enter Tryz.func110 rfl (by decide) _ Tryz.ntmps110 (le_ok rfl) (fun w Pr hE => ?_)
  dsimp only [slotsOf, Nat.zero_add, Nat.reduceAdd]
  repeat' (first | (apply at_call; refine k_call (hit) hE ?_; rintro _ rfl) | refine nx ?_ | (apply aq_block_y; decide) | (apply qr_move; refine r_move ?_) | (apply qr_assign; refine r_assign ?_) | (apply at_cond; first | refine c_t ?_ | refine c_f ?_ | (refine aw_cond rfl (fun hb => ?_) (fun hb => ?_) <;> ((try have hq := dX hb); (try (exfalso; omega))))) | (apply qr_eql; refine r_eql ?_) | (apply qr_add; refine r_add ?_) | (apply qr_load; refine r_load ?_) | (apply qr_faddr; refine r_faddr ?_) | (apply qr_boxed; refine r_boxed ?_))
  refine rt1 ?_
  rfl
 rw [if_neg hu1]
 have q2 : decide (u = 1) = false := decide_eq_false hu1
 by_cases hu2 : u = 2
 ·rw [if_pos hu2]
  have q3 : decide (u = 2) = true := decide_eq_true hu2
  refine pure_enter Tryz.func110 rfl (by decide) _ Tryz.ntmps110 (le_ok rfl) (fun w Pr hE => ?_)
  dsimp only [slotsOf, Nat.zero_add, Nat.reduceAdd]
  repeat' (first | (apply at_call; refine k_call (hit) hE ?_; rintro _ rfl) | refine nx ?_ | (apply aq_block_y; decide) | (apply qr_move; refine r_move ?_) | (apply qr_assign; refine r_assign ?_) | (apply at_cond; first | refine c_t ?_ | refine c_f ?_ | (refine aw_cond rfl (fun hb => ?_) (fun hb => ?_) <;> ((try have hq := dX hb); (try (exfalso; omega))))) | (apply qr_eql; refine r_eql ?_) | (apply qr_add; refine r_add ?_) | (apply qr_load; refine r_load ?_) | (apply qr_faddr; refine r_faddr ?_) | (apply qr_boxed; refine r_boxed ?_))
  refine rt1 ?_
  rfl
 rw [if_neg hu2]
 have q3 : decide (u = 2) = false := decide_eq_false hu2
 refine pure_enter Tryz.func110 rfl (by decide) _ Tryz.ntmps110 (le_ok rfl) (fun w Pr hE => ?_)
 dsimp only [slotsOf, Nat.zero_add, Nat.reduceAdd]
 repeat' (first | (apply at_call; refine k_call (hit) hE ?_; rintro _ rfl) | refine nx ?_ | (apply aq_block_y; decide) | (apply qr_move; refine r_move ?_) | (apply qr_assign; refine r_assign ?_) | (apply at_cond; first | refine c_t ?_ | refine c_f ?_ | (refine aw_cond rfl (fun hb => ?_) (fun hb => ?_) <;> ((try have hq := dX hb); (try (exfalso; omega))))) | (apply qr_eql; refine r_eql ?_) | (apply qr_load; refine r_load ?_) | (apply qr_faddr; refine r_faddr ?_) | (apply qr_boxed; refine r_boxed ?_))
 refine rt1 ?_
 rfl
end Go.Proofs.YtedoeogopmenpaaGreatDoor
end
