/-
  Conditions: none.
-/
import Derived.Lib.Join
import Derived.Test.YtgiacdhffklenaaMaj
set_option maxHeartbeats 16000000
set_option maxRecDepth 20000
section
set_option linter.unusedSimpArgs false
set_option linter.unusedVariables false
namespace Go.Proofs.Ytgiacdhffklenaa
open Go.RowKit
mutual
def Ex.tame : Ex → Prop
 | .mk _ _ _ s a => s.size ≤ 100000 ∧ a.length ≤ 100000 ∧ Ex.tameL a
def Ex.tameL : List Ex → Prop
 | [] => True
 | x :: r => x.tame ∧ Ex.tameL r
end
theorem tame_len {e : Ex} (h : e.tame) : e.args.length ≤ 100000 := by
 cases e
 exact h.2.1
theorem tameL_get {a : List Ex} (h : Ex.tameL a) {i : Nat} (hi : i < a.length) : a[i].tame := by
 induction a generalizing i with
 | nil => simp at hi
 | cons x r ih =>
  cases i with
  | zero => exact h.1
  | succ i => exact ih h.2 (by simpa using hi)
theorem tame_get {e : Ex} (h : e.tame) {i : Nat} (hi : i < e.args.length) : e.args[i].tame := by
 cases e
 exact tameL_get h.2.2 hi
mutual
def Ex.wide : Ex → Prop
 | .mk _ _ _ s a => s.size ≤ 9223372036854775807 ∧ a.length ≤ 100000 ∧ Ex.wideL a
def Ex.wideL : List Ex → Prop
 | [] => True
 | x :: r => x.wide ∧ Ex.wideL r
end
theorem wide_str {e : Ex} (h : e.wide) : e.str.size ≤ 9223372036854775807 := by
 cases e
 exact h.1
theorem wide_len {e : Ex} (h : e.wide) : e.args.length ≤ 100000 := by
 cases e
 exact h.2.1
theorem wideL_get {a : List Ex} (h : Ex.wideL a) {i : Nat} (hi : i < a.length) : a[i].wide := by
 induction a generalizing i with
 | nil => simp at hi
 | cons x r ih =>
  cases i with
  | zero => exact h.1
  | succ i => exact ih h.2 (by simpa using hi)
theorem wide_get {e : Ex} (h : e.wide) {i : Nat} (hi : i < e.args.length) : e.args[i].wide := by
 cases e
 exact wideL_get h.2.2 hi
mutual
theorem tame_wide : ∀ {e : Ex}, e.tame → e.wide
 | .mk _ _ _ _ _, ⟨h1, h2, h3⟩ => ⟨by omega, h2, tame_wideL h3⟩
theorem tame_wideL : ∀ {a : List Ex}, Ex.tameL a → Ex.wideL a
 | [], _ => trivial
 | _ :: _, ⟨h1, h2⟩ => ⟨tame_wide h1, tame_wideL h2⟩
end
theorem rightL_all : ∀ (a : List Ex) (d : Nat), Ex.rightL a d = a.all fun x => x.right d
 | [], _ => rfl
 | x :: r, d => by rw [List.all_cons, ← rightL_all r d]; rfl
theorem right_eq (e : Ex) (d : Nat) : e.right (d + 1) = (decide ((e.args.length : Int) = operandsV e.op) &&
  (if e.op = 0 then numRight e.num e.unit e.str
   else if e.op = 1 ∨ e.op = 2 ∨ e.op = 3 then decide (e.num = 0) && decide (e.unit = 0) && nameV e.str
   else decide (e.num = 0) && decide (e.unit = 0) && decide (e.str = ⟨#[]⟩) && e.args.all fun x => x.right d)) := by
 cases e
 simp only [Ex.right, Ex.args, Ex.op, Ex.num, Ex.unit, Ex.str, Nat.add_sub_cancel, rightL_all, show (d + 1 = 0) = False from by simp, decide_false, Bool.not_false, Bool.true_and]
 congr
theorem right_zero (e : Ex) : e.right 0 = false := by
 cases e
 simp [Ex.right]
theorem operands_any (op : Int) : PureC 54 [.int op] (· = .int (operandsV op)) := by
 unfold operandsV
 refine pure_enter Try.func54 rfl (by decide) _ Try.ntmps54 (le_ok rfl) (fun w Pr hE => ?_)
 dsimp only [slotsOf, Nat.zero_add, Nat.reduceAdd]
 repeat' (first | refine nx ?_ | (apply aq_block_y; decide) | (apply qr_move; refine r_move ?_) | (apply qr_assign; refine r_assign ?_) | (apply at_cond; first | refine c_t ?_ | refine c_f ?_ | (refine aw_cond rfl (fun hb => ?_) (fun hb => ?_) <;> ((try have hq := dX hb); (try (exfalso; omega))))) | (apply at_guard; first | refine g_go ?_ | refine g_nt ?_ | refine g_nf ?_ | refine g_nu ?_ | ((first | refine al_split_t rfl rfl (lt_ok rfl) (fun hb => ?_) (fun hb => ?_) | refine al_split_f rfl rfl (lt_ok rfl) (fun hb => ?_) (fun hb => ?_)) <;> ((try have hq := dX hb); (try (exfalso; omega))))) | (apply qr_pick; refine r_pick ?_) | (apply qr_lss; refine r_lss ?_) | (apply qr_geq; refine r_geq ?_) | (apply qr_eql; refine r_eql ?_))
 all_goals
  refine ret_one (by rfl) (by exact ToD.d _) ?_
  simp [*]
  try omega
abbrev inB (a b : Int) : Objs := [(1001, .box 3 [.d (.int a)]), (1002, .box 3 [.d (.int b)])]
theorem in1_any (n a b : Int) : ObC 64 [.d (.int n), .box 1001 0, .box 1002 0] (inB a b) [] (fun x o => x = .d (.bool (decide (n < a) || decide (b < n))) ∧ o = inB a b) := by
 cases h : decide (n < a)
 ·rw [Bool.false_or]
  refine ob_enter Try.func64 rfl (by decide) _ Try.ntmps64 (le_ok rfl) rfl (fun w Pr β κ hE => ?_)
  dsimp only [slotsV, Nat.zero_add, Nat.reduceAdd]
  repeat' (first | refine nx ?_ | (apply qr_move; refine r_move ?_) | (apply qr_assign; refine r_assign ?_) | (apply at_guard; first | refine g_go ?_ | refine g_nt ?_ | refine g_nf ?_ | refine g_nu ?_ | ((first | refine al_split_t rfl rfl (lt_ok rfl) (fun hb => ?_) (fun hb => ?_) | refine al_split_f rfl rfl (lt_ok rfl) (fun hb => ?_) (fun hb => ?_)) <;> ((try have hq := dX hb); (try (exfalso; omega))))) | (apply qr_pick; refine r_pick ?_) | (apply qr_lss; refine r_lss ?_) | (apply qr_gtr; refine r_gtr ?_) | (apply qr_load; refine r_load ?_))
  refine oret1 (inB a b) (by rfl) rv (⟨rfl, rfl⟩) sb okx
 ·rw [Bool.true_or]
  refine ob_enter Try.func64 rfl (by decide) _ Try.ntmps64 (le_ok rfl) rfl (fun w Pr β κ hE => ?_)
  dsimp only [slotsV, Nat.zero_add, Nat.reduceAdd]
  repeat' (first | refine nx ?_ | (apply qr_move; refine r_move ?_) | (apply qr_assign; refine r_assign ?_) | (apply at_guard; first | refine g_go ?_ | refine g_nt ?_ | refine g_nf ?_ | refine g_nu ?_ | ((first | refine al_split_t rfl rfl (lt_ok rfl) (fun hb => ?_) (fun hb => ?_) | refine al_split_f rfl rfl (lt_ok rfl) (fun hb => ?_) (fun hb => ?_)) <;> ((try have hq := dX hb); (try (exfalso; omega))))) | (apply qr_pick; refine r_pick ?_) | (apply qr_lss; refine r_lss ?_) | (apply qr_gtr; refine r_gtr ?_) | (apply qr_load; refine r_load ?_))
  refine oret1 (inB a b) (by rfl) rv (⟨rfl, rfl⟩) sb okx
abbrev intsD (l : List Int) : D := .list 1 (l.map fun n => [D.int n])
theorem iindex (l : List Int) (hl : l.length ≤ 9223372036854775806) (a b : Int) : ObC 77 [.d (intsD l), .clo (.func 64) [.box 1001 0, .box 1002 0]] (inB a b) [] (fun x o => (∃ r, x = .d (.int r) ∧ decide (0 ≤ r) = l.any fun n => (decide (n < a) || decide (b < n))) ∧ o = inB a b) := by
 refine ob_enter Try.func77 rfl (by decide) _ Try.ntmps77 (le_ok rfl) rfl (fun w Pr β κ hE => ?_)
 dsimp only [slotsV, Nat.zero_add, Nat.reduceAdd]
 repeat' (first | refine nx ?_ | (apply aq_block_y; decide) | (apply qr_move; refine r_move ?_) | (apply qr_assign; refine r_assign ?_) | (apply at_cond; first | refine c_t ?_ | refine c_f ?_ | (refine aw_cond rfl (fun hb => ?_) (fun hb => ?_) <;> ((try have hq := dX hb); (try (exfalso; omega))))) | (apply qr_lss; refine r_lss ?_) | (apply qr_add; refine r_add ?_) | (apply qr_len; refine r_len ?_) | (apply qr_ix; refine r_ix ?_) | (apply qr_load; refine r_load ?_))
 refine aw_lp (fun N sl ob => ∃ i : Nat, N = l.length - i ∧ i ≤ l.length ∧ ((l.take i).any fun n => (decide (n < a) || decide (b < n))) = false ∧ sl = [(8, .d (.int i)), (7, .d (.int l.length)), (1, .clo (.func 64) [.box 1001 0, .box 1002 0]), (0, .d (intsD l))] ∧ ob = inB a b) (⟨0, rfl, Nat.zero_le _, by simp, rfl, rfl⟩) ?_
 rintro N sl ob ⟨i, rfl, hi, hs, rfl, rfl⟩
 by_cases hlt : i < l.length
 ·have hg : (l.map fun n => [D.int n])[i]? = some [D.int l[i]] := by rw [get_map hlt]
  have hnext := any_take (fun n => (decide (n < a) || decide (b < n))) hlt
  rw [hs, Bool.false_or] at hnext
  have hc := in1_any l[i] a b
  cases hT : (decide (l[i] < a) || decide (b < l[i]))
  ·rw [hT] at hc hnext
   generalize l[i] = z at hg hc
   repeat' (first | (apply at_op (.indexAddr _ _ _); refine al_ixq hg ?_) | (apply at_call; refine k_clocall1 [(1001, 1001), (1002, 1002)] (hc) hE ?_; rintro _ _ ⟨rfl, rfl⟩ <;> (intro _ _ h1 h2; simp only [renEqs, Nat.reduceBEq, renL_app, renL_ds, renL_und] at h1 h2; subst h1 h2)) | refine nx ?_ | (apply aq_block_y; decide) | (apply qr_move; refine r_move ?_) | (apply qr_assign; refine r_assign ?_) | (apply at_cond; first | refine c_t ?_ | refine c_f ?_ | (refine aw_cond rfl (fun hb => ?_) (fun hb => ?_) <;> ((try have hq := dX hb); (try (exfalso; omega))))) | (apply qr_lss; refine r_lss ?_) | (apply qr_add; refine r_add ?_) | (apply qr_len; refine r_len ?_) | (apply qr_ix; refine r_ix ?_) | (apply qr_load; refine r_load ?_))
   refine aq_rd (⟨i + 1, rfl, by omega, hnext, rfl, rfl⟩) (by omega)
  ·rw [hT] at hc
   have hany : (l.any fun n => (decide (n < a) || decide (b < n))) = true := List.any_eq_true.2 ⟨l[i], List.getElem_mem hlt, hT⟩
   generalize l[i] = z at hg hc
   repeat' (first | (apply at_op (.indexAddr _ _ _); refine al_ixq hg ?_) | (apply at_call; refine k_clocall1 [(1001, 1001), (1002, 1002)] (hc) hE ?_; rintro _ _ ⟨rfl, rfl⟩ <;> (intro _ _ h1 h2; simp only [renEqs, Nat.reduceBEq, renL_app, renL_ds, renL_und] at h1 h2; subst h1 h2)) | refine nx ?_ | (apply aq_block_y; decide) | (apply qr_move; refine r_move ?_) | (apply qr_assign; refine r_assign ?_) | (apply at_cond; first | refine c_t ?_ | refine c_f ?_ | (refine aw_cond rfl (fun hb => ?_) (fun hb => ?_) <;> ((try have hq := dX hb); (try (exfalso; omega))))) | (apply qr_lss; refine r_lss ?_) | (apply qr_add; refine r_add ?_) | (apply qr_len; refine r_len ?_) | (apply qr_ix; refine r_ix ?_) | (apply qr_load; refine r_load ?_))
   refine oret1 (inB a b) (by rfl) rv (⟨⟨i, rfl, by rw [hany]; exact decide_eq_true (by omega)⟩, rfl⟩) sb okx
 ·rw [List.take_of_length_le (by omega)] at hs
  repeat' (first | refine nx ?_ | (apply aq_block_y; decide) | (apply qr_move; refine r_move ?_) | (apply qr_assign; refine r_assign ?_) | (apply at_cond; first | refine c_t ?_ | refine c_f ?_ | (refine aw_cond rfl (fun hb => ?_) (fun hb => ?_) <;> ((try have hq := dX hb); (try (exfalso; omega))))) | (apply qr_lss; refine r_lss ?_) | (apply qr_add; refine r_add ?_) | (apply qr_len; refine r_len ?_) | (apply qr_ix; refine r_ix ?_) | (apply qr_load; refine r_load ?_))
  refine oret1 (inB a b) (by rfl) rv (⟨⟨-1, rfl, by rw [hs]; rfl⟩, rfl⟩) sb okx
theorem icontains (l : List Int) (hl : l.length ≤ 9223372036854775806) (a b : Int) : ObC 63 [.d (intsD l), .clo (.func 64) [.box 1001 0, .box 1002 0]] (inB a b) [] (fun x o => x = .d (.bool (l.any fun n => (decide (n < a) || decide (b < n)))) ∧ o = inB a b) := by
 have hc := iindex l hl a b
 refine ob_enter Try.func63 rfl (by decide) _ Try.ntmps63 (le_ok rfl) rfl (fun w Pr β κ hE => ?_)
 dsimp only [slotsV, Nat.zero_add, Nat.reduceAdd]
 repeat' (first | (apply at_call; refine k_ocall [(1001, 1001), (1002, 1002)] (hc) hE ?_; rintro _ _ ⟨⟨r, rfl, hr⟩, rfl⟩ <;> (intro _ _ h1 h2; simp only [renEqs, Nat.reduceBEq, renL_app, renL_ds, renL_und] at h1 h2; subst h1 h2)) | refine nx ?_ | (apply qr_move; refine r_move ?_) | (apply qr_assign; refine r_assign ?_) | (apply qr_geq; refine r_geq ?_))
 refine oret1 (inB a b) (by rfl) rv (⟨by rw [hr], rfl⟩) sb okx
theorem in_any (a b : Int) (l : List Int) (hl : l.length ≤ 9223372036854775806) : PureC 47 [.int a, .int b, intsD l] (· = .bool (!l.any fun n => (decide (n < a) || decide (b < n)))) := by
 have hc := icontains l hl a b
 refine pure_enter Try.func47 rfl (by decide) _ Try.ntmps47 (le_ok rfl) (fun w Pr hE => ?_)
 dsimp only [slotsOf, Nat.zero_add, Nat.reduceAdd]
 repeat' (first | (apply at_op (.makeFunc _ _ _); refine al_y (y_clo rfl) (lt_ok rfl) ?_) | (apply at_call; refine k_ocall [(1001, 3), (1002, 4)] (hc) hE ?_; rintro _ _ ⟨rfl, rfl⟩ <;> (intro _ _ h1 h2; simp only [renEqs, Nat.reduceBEq, renL_app, renL_ds, renL_und] at h1 h2; subst h1 h2)) | refine nx ?_ | (apply qr_move; refine r_move ?_) | (apply qr_assign; refine r_assign ?_) | (apply qr_not; refine r_not ?_) | (apply qr_func; refine r_func ?_) | (apply qr_boxed; refine r_boxed ?_))
 refine rt1 ?_
 rfl
end Go.Proofs.Ytgiacdhffklenaa
end
section
namespace Go.Proofs.Ytgiacdhffklenaa
inductive LexOk (s : ByteArray) : Nat → List Tok → Prop where
 | stop (p : Nat) (hp : p ≤ s.size) (h : skip s p = s.size) : LexOk s p [endTok s.size]
 | tok (p : Nat) (t : Tok) (l : List Tok) (hp : p ≤ s.size) (h : ¬ skip s p = s.size) (ht : tokenV s (skip s p) = (t, 0)) (hl : LexOk s (skip s p + t.s.size) l) : LexOk s p (t :: l)
inductive LexErr (s : ByteArray) : Nat → Nat → Int → Prop where
 | here (p : Nat) (t : Tok) (e : Int) (hp : p ≤ s.size) (h : ¬ skip s p = s.size) (ht : tokenV s (skip s p) = (t, e)) (he : ¬ e = 0) : LexErr s p (skip s p) e
 | tok (p a : Nat) (t : Tok) (e : Int) (hp : p ≤ s.size) (h : ¬ skip s p = s.size) (ht : tokenV s (skip s p) = (t, 0)) (hl : LexErr s (skip s p + t.s.size) a e) : LexErr s p a e
theorem tokenV_form {s : ByteArray} {p : Nat} {t : Tok} (hp : p < s.size) (h : tokenV s p = (t, 0)) :
  t.p = p ∧ 0 < t.s.size ∧ p + t.s.size ≤ s.size ∧ t.s = s.extract p (p + t.s.size) ∧
  ((t.k = 0 ∧ letterB (bAt s p) = true ∧ t.s.size = pre alnumB (s.extract p s.size) ∧ t.s.size ≤ 20 ∧ t.n = 0) ∨
   (t.k = 1 ∧ letterB (bAt s p) = false ∧ digitB (bAt s p) = true ∧ t.s.size = pre digitB (s.extract p s.size) ∧ numOk t.s = true ∧ t.n = numTo t.s t.s.size) ∨
   (t.k = 2 ∧ letterB (bAt s p) = false ∧ digitB (bAt s p) = false ∧ (t.s.size : Int) = signTo s p ∧ t.n = 0)) := by
 have hsz := tokenV_size (s := s) (p := p) hp (by rw [h])
 rw [h] at hsz
 simp only at hsz
 have hz : (s.extract p s.size).size = s.size - p := by simp
 have h0 : bAt (s.extract p s.size) 0 = bAt s p := by rw [bAt_ext (by omega) (Nat.le_refl _), Nat.add_zero]
 have hpos : ∀ F : UInt8 → Bool, F (bAt s p) = true → 0 < pre F (s.extract p s.size) := by
  intro F hF
  rcases Nat.eq_zero_or_pos (pre F (s.extract p s.size)) with h | h
  ·exfalso
   have h1 := pre_stop (F := F) (s := s.extract p s.size) (by omega)
   rw [h, h0, hF] at h1
   cases h1
  ·exact h
 have hle : ∀ F : UInt8 → Bool, pre F (s.extract p s.size) ≤ s.size - p := fun F => by have := pre_le F (s.extract p s.size); omega
 have hes : ∀ a b, b ≤ s.size → (s.extract a b).size = b - a := fun a b hb => extract_size hb
 cases hl : letterB (bAt s p)
 ·cases hd : digitB (bAt s p)
  ·rw [token_sign hl hd hp] at h
   have h1 := signTo_bd hp
   by_cases h2 : signTo s p = 0
   ·rw [if_pos h2] at h; cases h
   ·rw [if_neg h2] at h
    cases h
    have h3 := hes p (p + (signTo s p).toNat) (by omega)
    refine ⟨rfl, hsz.1, hsz.2, ?_, .inr (.inr ⟨rfl, rfl, rfl, ?_, rfl⟩)⟩
    ·simp only [h3]
     congr 1
     omega
    ·simp only [h3]
     omega
  ·have h1 := hpos digitB hd
   have h2 := hle digitB
   rw [token_num (k := p + pre digitB (s.extract p s.size)) hl hd (by omega) (by omega) (by omega)] at h
   split at h
   ·rename_i hn
    cases h
    have h3 := hes p (p + pre digitB (s.extract p s.size)) (by omega)
    refine ⟨rfl, hsz.1, hsz.2, ?_, .inr (.inl ⟨rfl, rfl, rfl, ?_, hn, rfl⟩)⟩
    ·simp only [h3]
     congr 1
     omega
    ·simp only [h3]
     omega
   ·cases h
 ·have h1 := hpos alnumB (alnum_of hl)
  have h2 := hle alnumB
  rw [token_word (k := p + pre alnumB (s.extract p s.size)) hl (by omega) (by omega) (by omega)] at h
  split at h
  ·rename_i hn
   cases h
   have h3 := hes p (p + pre alnumB (s.extract p s.size)) (by omega)
   refine ⟨rfl, hsz.1, hsz.2, ?_, .inl ⟨rfl, rfl, ?_, ?_, rfl⟩⟩
   ·simp only [h3]
    congr 1
    omega
   ·simp only [h3]
    omega
   ·simp only [h3]
    omega
  ·cases h
end Go.Proofs.Ytgiacdhffklenaa
end
section
namespace Go.Proofs.Ytgiacdhffklenaa
theorem skip_end (s : ByteArray) : skip s s.size = s.size := by have := skip_le (s := s) (p := s.size) (Nat.le_refl _); omega
theorem bytes_ext {s t : ByteArray} (hz : s.size = t.size) (h : ∀ j, j < s.size → bAt s j = bAt t j) : s = t := by
 apply ByteArray.ext
 apply Array.ext
 ·exact hz
 ·intro i h1 h2
  have h3 := h i h1
  rw [bAt_eq s i (by simpa using h1), bAt_eq t i (by simpa using h2)] at h3
  simpa using h3
structure Agr (s t : ByteArray) (p q m : Nat) : Prop where
 hs : p + m ≤ s.size
 ht : q + m ≤ t.size
 h : ∀ j, j < m → bAt t (q + j) = bAt s (p + j)
theorem Agr.ext {s t : ByteArray} {p q m : Nat} (h : Agr s t p q m) : t.extract q (q + m) = s.extract p (p + m) := by
 have h1 := h.hs
 have h2 := h.ht
 have e1 : (t.extract q (q + m)).size = m := by rw [extract_size h2]; omega
 have e2 : (s.extract p (p + m)).size = m := by rw [extract_size h1]; omega
 refine bytes_ext (by omega) fun j hj => ?_
 rw [e1] at hj
 rw [bAt_ext (by omega) h2, bAt_ext (by omega) h1]
 exact h.h j hj
theorem Agr.part {s t : ByteArray} {p q m : Nat} (h : Agr s t p q m) {i k : Nat} (hk : i + k ≤ m) : Agr s t (p + i) (q + i) k := by
 have h1 := h.hs
 have h2 := h.ht
 refine ⟨by omega, by omega, fun j hj => ?_⟩
 rw [Nat.add_assoc, Nat.add_assoc]
 exact h.h _ (by omega)
theorem Agr.first {s t : ByteArray} {p q m : Nat} (h : Agr s t p q m) (hm : 0 < m) : bAt t q = bAt s p := h.h 0 hm
theorem run_shift {F : UInt8 → Bool} {s t : ByteArray} {p q m : Nat} (h : Agr s t p q m) (hr : pre F (s.extract p s.size) = m) (hf : q + m < t.size → F (bAt t (q + m)) = false) : pre F (t.extract q t.size) = q + m - q := by
 have h1 := h.hs
 have hz : (s.extract p s.size).size = s.size - p := by simp
 refine pre_ext (by omega) h.ht (fun j h2 h3 => ?_) hf
 rw [show j = q + (j - q) by omega, h.h _ (by omega), ← bAt_ext (a := p) (b := s.size) (by omega) (Nat.le_refl _)]
 exact pre_lt (by omega)
theorem run_next {F : UInt8 → Bool} {s : ByteArray} {p m : Nat} (hr : pre F (s.extract p s.size) = m) (h : p + m < s.size) : F (bAt s (p + m)) = false := by
 have hz : (s.extract p s.size).size = s.size - p := by simp
 have h3 := pre_stop (F := F) (s := s.extract p s.size) (by omega)
 rw [hr, bAt_ext (by omega) (Nat.le_refl _)] at h3
 exact h3
theorem blank_nat {c : UInt8} (h : isBlank c = true) : (c.toNat : Int) = 32 ∨ (c.toNat : Int) = 9 ∨ (c.toNat : Int) = 10 := by
 simp only [isBlank, Bool.or_eq_true, decide_eq_true_eq] at h
 omega
theorem blank_alnum {c : UInt8} (h : isBlank c = true) : alnumB c = false ∧ digitB c = false ∧ letterB c = false ∧ ¬ c.toNat = 61 := by
 have h1 := blank_nat h
 have h2 : letterB c = false := by
  simp only [letterB, Bool.and_eq_false_iff, decide_eq_false_iff_not]
  omega
 have h3 : digitB c = false := by
  simp only [digitB, Bool.and_eq_false_iff, decide_eq_false_iff_not]
  omega
 refine ⟨by simp [alnumB, h2, h3], h3, h2, by omega⟩
def Foll (s t : ByteArray) (p q m : Nat) : Prop := q + m < t.size → isBlank (bAt t (q + m)) = true ∨ (p + m < s.size ∧ bAt t (q + m) = bAt s (p + m))
theorem Foll.run {F : UInt8 → Bool} {s t : ByteArray} {p q m : Nat} (h : Foll s t p q m) (hF : ∀ c, isBlank c = true → F c = false) (hr : pre F (s.extract p s.size) = m) : q + m < t.size → F (bAt t (q + m)) = false := fun h1 => by
 rcases h h1 with h2 | ⟨h2, h3⟩
 ·exact hF _ h2
 ·rw [h3]
  exact run_next hr h2
theorem signTo_two {s : ByteArray} {p : Nat} (h : p + 1 < s.size) (h1 : (bAt s (p + 1)).toNat = 61) (h2 : (bAt s p).toNat = 61) : signTo s p = 2 := by
 unfold signTo
 rw [if_pos ⟨h, h1, h2⟩]
theorem signTo_one {s : ByteArray} {p : Nat} (h : ¬ (p + 1 < s.size ∧ (bAt s (p + 1)).toNat = 61 ∧ (bAt s p).toNat = 61)) : signTo s p = if singleB (bAt s p) then 1 else 0 := by
 unfold signTo
 rw [if_neg h]
theorem sign_shift {s t : ByteArray} {p q m : Nat} (hm : (m : Int) = signTo s p) (hm0 : 0 < m) (ha : Agr s t p q m) (hf : Foll s t p q m) : signTo t q = m := by
 have h1 := ha.hs
 have h2 := ha.ht
 have h0 := ha.first hm0
 by_cases hc : p + 1 < s.size ∧ (bAt s (p + 1)).toNat = 61 ∧ (bAt s p).toNat = 61
 ·have h3 := signTo_two hc.1 hc.2.1 hc.2.2
  have h4 : m = 2 := by omega
  subst h4
  rw [signTo_two (by omega) (by rw [ha.h 1 (by omega)]; exact hc.2.1) (by rw [h0]; exact hc.2.2)]
  rfl
 ·rw [signTo_one hc] at hm
  have hs : singleB (bAt s p) = true ∧ m = 1 := by
   by_cases h : singleB (bAt s p) = true
   ·rw [if_pos h] at hm; exact ⟨h, by omega⟩
   ·rw [if_neg h] at hm; omega
  obtain ⟨h3, rfl⟩ := hs
  rw [signTo_one (fun h => ?_), h0, h3]
  ·rfl
  ·rcases hf h.1 with h4 | ⟨h4, h5⟩
   ·exact (blank_alnum h4).2.2.2 h.2.1
   ·exact hc ⟨h4, by rw [← h5]; exact h.2.1, by rw [← h0]; exact h.2.2⟩
theorem tok_shift {s t : ByteArray} {p q : Nat} {x : Tok} (hp : p < s.size) (h : tokenV s p = (x, 0)) (ha : Agr s t p q x.s.size) (hf : Foll s t p q x.s.size) : tokenV t q = ({ x with p := q }, 0) := by
 obtain ⟨_, h2, h3, h4, h5⟩ := tokenV_form hp h
 have h0 := ha.first h2
 have h6 := ha.ext
 have h7 := ha.ht
 rw [← h4] at h6
 rcases h5 with ⟨k0, k1, k2, k3, k4⟩ | ⟨k0, k1, k2, k3, k4, k5⟩ | ⟨k0, k1, k2, k3, k4⟩
 ·rw [token_word (k := q + x.s.size) (by rw [h0]; exact k1) (by omega) h7 (run_shift ha k2.symm (hf.run (fun c hc => (blank_alnum hc).1) k2.symm)), if_pos (by omega), h6]
  obtain ⟨a, b, c, d⟩ := x
  simp only at k0 k4
  subst k0
  subst k4
  rfl
 ·rw [token_num (k := q + x.s.size) (by rw [h0]; exact k1) (by rw [h0]; exact k2) (by omega) h7 (run_shift ha k3.symm (hf.run (fun c hc => (blank_alnum hc).2.1) k3.symm)), h6, if_pos k4]
  obtain ⟨a, b, c, d⟩ := x
  simp only at k0 k5
  subst k0
  subst k5
  rfl
 ·have h8 := sign_shift k3 h2 ha hf
  rw [token_sign (by rw [h0]; exact k1) (by rw [h0]; exact k2) (by omega), if_neg (by omega), h8, Int.toNat_natCast, h6]
  obtain ⟨a, b, c, d⟩ := x
  simp only at k0 k4
  subst k0
  subst k4
  rfl
structure Seg (s t : ByteArray) (a : Nat) : Prop where
 agr : Agr s t 0 a s.size
 fol : a + s.size < t.size → isBlank (bAt t (a + s.size)) = true
theorem Seg.foll {s t : ByteArray} {a p m : Nat} (h : Seg s t a) (hm : p + m ≤ s.size) : Foll s t p (a + p) m := fun h1 => by
 by_cases h2 : p + m = s.size
 ·rw [show a + p + m = a + s.size by omega] at h1 ⊢
  exact .inl (h.fol h1)
 ·refine .inr ⟨by omega, ?_⟩
  have := h.agr.h (p + m) (by omega)
  rw [Nat.zero_add] at this
  rw [← this, Nat.add_assoc]
theorem Seg.at {s t : ByteArray} {a p m : Nat} (h : Seg s t a) (hm : p + m ≤ s.size) : Agr s t p (a + p) m := by
 have := h.agr.part hm
 rwa [Nat.zero_add] at this
theorem Seg.byte {s t : ByteArray} {a p : Nat} (h : Seg s t a) (hp : p < s.size) : bAt t (a + p) = bAt s p := (h.at (p := p) (m := 1) (by omega)).first (by omega)
theorem Seg.tok {s t : ByteArray} {a p : Nat} {x : Tok} (h : Seg s t a) (hp : p < s.size) (ht : tokenV s p = (x, 0)) : tokenV t (a + p) = ({ x with p := ((a + p : Nat) : Int) }, 0) := by
 obtain ⟨_, _, h3, _⟩ := tokenV_form hp ht
 exact tok_shift hp ht (h.at h3) (h.foll h3)
theorem Seg.err {s t : ByteArray} {a p : Nat} {x : Tok} {e : Int} (h : Seg s t a) (hp : p < s.size) (ht : tokenV s p = (x, e)) (he : ¬ e = 0) : tokenV t (a + p) = (x, e) := by
 have hz : (s.extract p s.size).size = s.size - p := by simp
 have h0 := h.byte hp
 have hat := h.agr.ht
 have hpos : ∀ F : UInt8 → Bool, F (bAt s p) = true → 0 < pre F (s.extract p s.size) := by
  intro F hF
  rcases Nat.eq_zero_or_pos (pre F (s.extract p s.size)) with h | h
  ·exfalso
   have h1 := run_next h (by omega)
   rw [Nat.add_zero, hF] at h1
   cases h1
  ·exact h
 have hle : ∀ F : UInt8 → Bool, pre F (s.extract p s.size) ≤ s.size - p := fun F => by have := pre_le F (s.extract p s.size); omega
 cases hl : letterB (bAt s p)
 ·cases hd : digitB (bAt s p)
  ·rw [token_sign hl hd hp] at ht
   by_cases h2 : signTo s p = 0
   ·rw [if_pos h2] at ht
    have hsg : singleB (bAt s p) = false := by
     unfold signTo at h2
     split at h2
     ·cases h2
     ·split at h2
      ·cases h2
      ·simp_all
    have h3 : signTo t (a + p) = 0 := by
     have hne : ¬ (bAt s p).toNat = 61 := fun h61 => by
      have : bAt s p = 61 := by rw [byte_eq]; exact h61
      rw [this] at hsg
      revert hsg
      decide
     rw [signTo_one (by rw [h0]; exact fun h => hne h.2.2), h0, hsg]
     rfl
    rw [token_sign (by rw [h0]; exact hl) (by rw [h0]; exact hd) (by omega), if_pos h3]
    exact ht
   ·rw [if_neg h2] at ht
    cases ht
    exact absurd rfl he
  ·have h1 := hpos digitB hd
   have h2 := hle digitB
   have h3 := h.at (p := p) (m := pre digitB (s.extract p s.size)) (by omega)
   have h4 := h.foll (p := p) (m := pre digitB (s.extract p s.size)) (by omega)
   rw [token_num (k := p + pre digitB (s.extract p s.size)) hl hd (by omega) (by omega) (by omega)] at ht
   rw [token_num (k := a + p + pre digitB (s.extract p s.size)) (by rw [h0]; exact hl) (by rw [h0]; exact hd) (by omega) h3.ht (run_shift h3 rfl (h4.run (fun c hc => (blank_alnum hc).2.1) rfl)), h3.ext]
   split at ht
   ·cases ht
    exact absurd rfl he
   ·rename_i h5
    rw [if_neg h5]
    exact ht
 ·have h1 := hpos alnumB (alnum_of hl)
  have h2 := hle alnumB
  have h3 := h.at (p := p) (m := pre alnumB (s.extract p s.size)) (by omega)
  have h4 := h.foll (p := p) (m := pre alnumB (s.extract p s.size)) (by omega)
  rw [token_word (k := p + pre alnumB (s.extract p s.size)) hl (by omega) (by omega) (by omega)] at ht
  rw [token_word (k := a + p + pre alnumB (s.extract p s.size)) (by rw [h0]; exact hl) (by omega) h3.ht (run_shift h3 rfl (h4.run (fun c hc => (blank_alnum hc).1) rfl)), h3.ext]
  split at ht
  ·cases ht
   exact absurd rfl he
  ·rename_i h5
   rw [if_neg (by omega)]
   exact ht
theorem Seg.skp {s t : ByteArray} {a p : Nat} (h : Seg s t a) (hp : p ≤ s.size) (hk : skip s p < s.size) : skip t (a + p) = a + skip s p := by
 have h1 := skip_le hp
 have h2 := h.agr.ht
 obtain ⟨h3, h4⟩ := skip_fact hp
 refine skip_is (by omega) (by omega) (fun j h5 h6 => ?_) (fun _ => ?_)
 ·rw [show j = a + (j - a) by omega, h.byte (by omega)]
  exact h3 _ (by omega) (by omega)
 ·rw [h.byte hk]
  exact h4 hk
theorem skip_over {t : ByteArray} {p q : Nat} (hpq : p ≤ q) (hq : q ≤ t.size) (h : ∀ j, p ≤ j → j < q → isBlank (bAt t j) = true) : skip t p = skip t q := by
 have h1 := skip_le hq
 obtain ⟨h3, h4⟩ := skip_fact hq
 refine skip_is (by omega) h1.2 (fun j h5 h6 => ?_) h4
 by_cases h7 : j < q
 ·exact h j h5 h7
 ·exact h3 j (by omega) h6
theorem Seg.skpEnd {s t : ByteArray} {a p : Nat} (h : Seg s t a) (hp : p ≤ s.size) (hk : skip s p = s.size) : skip t (a + p) = skip t (a + s.size) := by
 have h2 := h.agr.ht
 obtain ⟨h3, h4⟩ := skip_fact hp
 refine skip_over (by omega) (by omega) (fun j h5 h6 => ?_)
 rw [show j = a + (j - a) by omega, h.byte (by omega)]
 exact h3 _ (by omega) (by omega)
theorem LexOk.from {s : ByteArray} {p q : Nat} {l : List Tok} (h : LexOk s q l) (hp : p ≤ s.size) (hk : skip s p = skip s q) : LexOk s p l := by
 cases h with
 | stop _ _ h1 => exact .stop p hp (hk.trans h1)
 | tok _ t r _ h1 h2 h3 => exact .tok p t r hp (by rw [hk]; exact h1) (by rw [hk]; exact h2) (by rw [hk]; exact h3)
theorem LexErr.from {s : ByteArray} {p q a : Nat} {e : Int} (h : LexErr s q a e) (hp : p ≤ s.size) (hk : skip s p = skip s q) : LexErr s p a e := by
 cases h with
 | here _ t _ _ h1 h2 h3 => rw [← hk]; exact .here p t e hp (by rw [hk]; exact h1) (by rw [hk]; exact h2) h3
 | tok _ _ t _ _ h1 h2 h3 => exact .tok p a t e hp (by rw [hk]; exact h1) (by rw [hk]; exact h2) (by rw [hk]; exact h3)
def Tok.move (a : Nat) (t : Tok) : Tok := { t with p := t.p + a }
theorem LexOk.last {s : ByteArray} {p : Nat} {l : List Tok} (h : LexOk s p l) : ∃ m, l = m ++ [endTok s.size] := by
 induction h with
 | stop => exact ⟨[], rfl⟩
 | tok p t l hp h ht hl ih =>
  obtain ⟨m, rfl⟩ := ih
  exact ⟨t :: m, rfl⟩
theorem Seg.ok {s t : ByteArray} {a p : Nat} {l : List Tok} (h : Seg s t a) (hl : LexOk s p l) :
  (∀ r, LexOk t (a + s.size) r → LexOk t (a + p) ((l.take (l.length - 1)).map (Tok.move a) ++ r)) ∧ (∀ b e, LexErr t (a + s.size) b e → LexErr t (a + p) b e) := by
 have hat := h.agr.ht
 induction hl with
 | stop p hp h1 =>
  have h2 := h.skpEnd hp h1
  exact ⟨fun r hr => by simpa using hr.from (by omega) h2, fun b e he => he.from (by omega) h2⟩
 | tok p x l hp h1 h2 h3 ih =>
  have h4 := skip_le hp
  have h5 := h.skp hp (by omega)
  have h6 := h.tok (by omega) h2
  obtain ⟨q1, q2, q3, _⟩ := tokenV_form (by omega) h2
  obtain ⟨m, rfl⟩ := h3.last
  have h7 : (x :: (m ++ [endTok s.size])).take ((x :: (m ++ [endTok s.size])).length - 1) = x :: m := by simp
  have h8 : (m ++ [endTok s.size]).take ((m ++ [endTok s.size]).length - 1) = m := by simp
  rw [h8, ← Nat.add_assoc] at ih
  rw [h7]
  have h9 : ({ x with p := ((a + skip s p : Nat) : Int) } : Tok) = Tok.move a x := by
   unfold Tok.move
   rw [q1]
   have hq : ((a + skip s p : Nat) : Int) = (skip s p : Int) + (a : Int) := by omega
   rw [hq]
  rw [h9] at h6
  refine ⟨fun r hr => ?_, fun b e he => ?_⟩
  ·refine .tok (a + p) (Tok.move a x) _ (by omega) (by omega) (by rw [h5]; exact h6) ?_
   rw [h5]
   exact ih.1 r hr
  ·refine .tok (a + p) b (Tok.move a x) e (by omega) (by omega) (by rw [h5]; exact h6) ?_
   rw [h5]
   exact ih.2 b e he
theorem Seg.bad {s t : ByteArray} {a p b : Nat} {e : Int} (h : Seg s t a) (hl : LexErr s p b e) : LexErr t (a + p) (a + b) e := by
 have hat := h.agr.ht
 induction hl with
 | here p x e hp h1 h2 h3 =>
  have h4 := skip_le hp
  have h5 := h.skp hp (by omega)
  rw [← h5]
  exact .here (a + p) x e (by omega) (by omega) (by rw [h5]; exact h.err (by omega) h2 h3) h3
 | tok p b x e hp h1 h2 h3 ih =>
  have h4 := skip_le hp
  have h5 := h.skp hp (by omega)
  refine .tok (a + p) (a + b) _ e (by omega) (by omega) (by rw [h5]; exact h.tok (by omega) h2) ?_
  rw [h5, Nat.add_assoc]
  exact ih
end Go.Proofs.Ytgiacdhffklenaa
end
section
namespace Go.Proofs.Ytgiacdhffklenaa
open Go.RowKit
def jn (ws : List ByteArray) : ByteArray := ⟨(Lib.join (ws.map (·.data.toList)) [32]).toArray⟩
def blank1 : ByteArray := ⟨#[32]⟩
def wordsOf (l : List Tok) : List ByteArray := (l.filter fun t => !decide (t.k = 3)).map (·.s)
def textV (l : List Tok) : ByteArray := jn (wordsOf l)
end Go.Proofs.Ytgiacdhffklenaa
end
section
namespace Go.Proofs.Ytgiacdhffklenaa
theorem LexErr.le {s : ByteArray} {p a : Nat} {e : Int} (h : LexErr s p a e) : p ≤ a ∧ a < s.size := by
 induction h with
 | here p t e hp h ht he => have := skip_le hp; omega
 | tok p a t e hp h ht hl ih => have := skip_le hp; omega
theorem LexErr.what {s : ByteArray} {p a : Nat} {e : Int} (h : LexErr s p a e) : ∃ x, tokenV s a = (x, e) ∧ ¬ e = 0 ∧ isBlank (bAt s a) = false := by
 induction h with
 | here p t e hp h ht he =>
  have h1 := skip_le hp
  exact ⟨t, ht, he, (skip_fact hp).2 (by omega)⟩
 | tok p a t e hp h ht hl ih => exact ih
theorem LexErr.before {s : ByteArray} {p a : Nat} {e : Int} (h : LexErr s p a e) : ∃ l, LexOk (s.extract 0 a) p l := by
 have hl := h.le
 have hz : (s.extract 0 a).size = a := by rw [extract_size (by omega)]; omega
 have hb : ∀ j, j < a → bAt (s.extract 0 a) j = bAt s j := fun j hj => by rw [bAt_ext (by omega) (by omega), Nat.zero_add]
 clear hl
 induction h with
 | here p t e hp h ht he =>
  have h1 := skip_le hp
  obtain ⟨h2, _⟩ := skip_fact hp
  refine ⟨_, .stop p (by omega) ?_⟩
  rw [hz]
  exact skip_is h1.1 (by omega) (fun j h3 h4 => by rw [hb j h4]; exact h2 j h3 h4) (fun h => by omega)
 | tok p a t e hp h ht hl ih =>
  have h1 := skip_le hp
  have h2 := hl.le
  obtain ⟨l, h3⟩ := ih hz hb
  obtain ⟨_, q2, q3, _⟩ := tokenV_form (by omega) ht
  obtain ⟨h4, h5⟩ := skip_fact hp
  have h6 : skip (s.extract 0 a) p = skip s p := skip_is h1.1 (by omega) (fun j h7 h8 => by rw [hb j (by omega)]; exact h4 j h7 h8) (fun _ => by rw [hb _ (by omega)]; exact h5 (by omega))
  have h7 : tokenV (s.extract 0 a) (skip s p) = (t, 0) := by
   obtain ⟨q1, _⟩ := tokenV_form (by omega) ht
   rw [tok_shift (t := s.extract 0 a) (q := skip s p) (by omega) ht ⟨q3, by omega, fun j hj => hb _ (by omega)⟩ (fun h8 => .inr ⟨by omega, hb _ (by omega)⟩), ← q1]
  exact ⟨t :: l, .tok p t l (by omega) (by omega) (by rw [h6]; exact h7) (by rw [h6]; exact h3)⟩
theorem LexErr.behind {s : ByteArray} {p a : Nat} {e : Int} (h : LexErr s p a e) : LexErr (s.extract a s.size) 0 0 e := by
 obtain ⟨x, h1, h2, h3⟩ := h.what
 have hl := h.le
 have hz : (s.extract a s.size).size = s.size - a := by simp
 have hs : Seg (s.extract a s.size) s a := ⟨⟨by omega, by omega, fun j hj => by rw [Nat.zero_add, bAt_ext (by omega) (Nat.le_refl _)]⟩, fun h => by omega⟩
 have h4 : skip (s.extract a s.size) 0 = 0 := skip_stop (by omega) (by rw [bAt_ext (by omega) (Nat.le_refl _)]; exact h3)
 rcases hT : tokenV (s.extract a s.size) 0 with ⟨y, f⟩
 have h5 : f = e := by
  by_cases hf : f = 0
  ·subst hf
   have h6 := hs.tok (p := 0) (by omega) hT
   rw [Nat.add_zero, h1] at h6
   cases h6
   exact absurd rfl h2
  ·have h6 := hs.err (p := 0) (by omega) hT hf
   rw [Nat.add_zero, h1] at h6
   cases h6
   rfl
 subst h5
 have h7 : LexErr (s.extract a s.size) 0 (skip (s.extract a s.size) 0) f := .here 0 y f (Nat.zero_le _) (by omega) (by rw [h4]; exact hT) h2
 rw [h4] at h7
 exact h7
def Tk (t : Tok) : Prop := tokenV t.s 0 = ({ t with p := 0 }, 0) ∧ 0 < t.s.size ∧ ¬ t.k = 3
theorem tk_of {s : ByteArray} {p : Nat} {t : Tok} (hp : p < s.size) (h : tokenV s p = (t, 0)) : Tk t := by
 obtain ⟨_, h2, h3, h4, h5⟩ := tokenV_form hp h
 refine ⟨tok_shift hp h ⟨h3, by omega, fun j hj => ?_⟩ (fun h6 => by omega), h2, ?_⟩
 ·rw [Nat.zero_add]
  have : bAt t.s j = bAt (s.extract p (p + t.s.size)) j := by rw [← h4]
  rw [this, bAt_ext (by omega) h3]
 ·rcases h5 with ⟨k, _⟩ | ⟨k, _⟩ | ⟨k, _⟩ <;> rw [k] <;> decide
theorem jn_len (ws : List ByteArray) : (jn ws).size = (Lib.join (ws.map (·.data.toList)) [32]).length := by
 unfold jn
 exact List.size_toArray
theorem jn_le (x : ByteArray) (ws : List ByteArray) : (jn (x :: ws)).size ≤ x.size + 1 + (jn ws).size := by
 rw [jn_len, jn_len]
 have hx : x.data.toList.length = x.size := by simp
 cases ws with
 | nil => simp only [List.map_cons, List.map_nil, Lib.join_one, hx]; omega
 | cons y r =>
  simp only [List.map_cons, Lib.join_cons, Lib.joinTail, List.length_append, List.flatten_cons, List.length_cons, List.length_nil, hx]
  omega
theorem LexOk.all {s : ByteArray} {p : Nat} {l : List Tok} (h : LexOk s p l) : ∃ m, l = m ++ [endTok s.size] ∧ (∀ t ∈ m, Tk t) ∧ (jn (m.map (·.s))).size ≤ 2 * (s.size - p) := by
 induction h with
 | stop p hp h => exact ⟨[], rfl, by simp, by rw [jn_len]; simp [Lib.join_nil]⟩
 | tok p t l hp h ht hl ih =>
  obtain ⟨m, rfl, h1, h2⟩ := ih
  have h3 := skip_le hp
  obtain ⟨_, q2, q3, _⟩ := tokenV_form (by omega) ht
  refine ⟨t :: m, rfl, fun x hx => ?_, ?_⟩
  ·rcases List.mem_cons.1 hx with rfl | hx
   ·exact tk_of (by omega) ht
   ·exact h1 x hx
  ·have h4 := jn_le t.s (m.map (·.s))
   rw [List.map_cons]
   omega
theorem jn_two (x y : ByteArray) (r : List ByteArray) : jn (x :: y :: r) = x ++ (blank1 ++ jn (y :: r)) := by
 apply ByteArray.ext
 apply Array.toList_inj.1
 simp [jn, Lib.join_cons, Lib.joinTail, blank1, ByteArray.data_append]
theorem jn_one (x : ByteArray) : jn [x] = x := by
 apply ByteArray.ext
 apply Array.toList_inj.1
 simp [jn, Lib.join_one]
theorem app_left {a b : ByteArray} {j : Nat} (h : j < a.size) : bAt (a ++ b) j = bAt a j := by
 rw [bAt_eq _ _ (by simp; omega), bAt_eq _ _ (by simpa using h)]
 simp [ByteArray.data_append, h]
theorem app_right {a b : ByteArray} {j : Nat} (h : j < b.size) : bAt (a ++ b) (a.size + j) = bAt b j := by
 rw [bAt_eq _ _ (by simp; omega), bAt_eq _ _ (by simpa using h)]
 simp [ByteArray.data_append]
def lay : Nat → List Tok → List Tok
 | _, [] => []
 | q, t :: r => { t with p := (q : Int) } :: lay (q + t.s.size + 1) r
theorem tk_not_blank {t : Tok} (h : Tk t) : isBlank (bAt t.s 0) = false := by
 cases hb : isBlank (bAt t.s 0) with
 | false => rfl
 | true =>
  have h1 := blank_alnum hb
  have h2 := h.1
  obtain ⟨_, _, _, _, h3⟩ := tokenV_form (s := t.s) (p := 0) h.2.1 h2
  rcases h3 with ⟨_, k, _⟩ | ⟨_, _, k, _⟩ | ⟨_, _, _, k, _⟩
  ·rw [h1.2.2.1] at k; cases k
  ·rw [h1.2.1] at k; cases k
  ·have hk : signTo t.s 0 = 0 := by
    rw [signTo_one (fun h => h1.2.2.2 h.2.2)]
    rw [if_neg]
    have h4 := blank_nat hb
    have : (bAt t.s 0) = 32 ∨ (bAt t.s 0) = 9 ∨ (bAt t.s 0) = 10 := by
     rw [byte_eq, byte_eq, byte_eq]
     have e1 : (32 : UInt8).toNat = 32 := rfl
     have e2 : (9 : UInt8).toNat = 9 := rfl
     have e3 : (10 : UInt8).toNat = 10 := rfl
     omega
    rcases this with h5 | h5 | h5 <;> rw [h5] <;> decide
   rw [hk] at k
   have := h.2.1
   simp only at k
   omega
theorem lay_ok (l : List Tok) (hl : ∀ t ∈ l, Tk t) (a : ByteArray) : LexOk (a ++ jn (l.map (·.s))) a.size (lay a.size l ++ [endTok (a ++ jn (l.map (·.s))).size]) := by
 induction l generalizing a with
 | nil =>
  have e : a ++ jn (([] : List Tok).map (·.s)) = a := by
   apply ByteArray.ext
   simp [jn, Lib.join_nil, ByteArray.data_append]
  rw [e]
  exact .stop _ (Nat.le_refl _) (skip_end a)
 | cons t r ih =>
  have ht := hl t (by simp)
  have hs := ht.2.1
  have hnb := tk_not_blank ht
  cases r with
  | nil =>
   simp only [List.map_cons, List.map_nil, jn_one]
   have hz : (a ++ t.s).size = a.size + t.s.size := ByteArray.size_append
   have h0 : bAt (a ++ t.s) a.size = bAt t.s 0 := app_right (j := 0) hs
   have h1 : skip (a ++ t.s) a.size = a.size := skip_stop (by omega) (by rw [h0]; exact hnb)
   have h2 : tokenV (a ++ t.s) a.size = ({ t with p := (a.size : Int) }, 0) := tok_shift (x := { t with p := 0 }) hs ht.1 ⟨by simp, by simp, fun j hj => by rw [Nat.zero_add]; exact app_right hj⟩ (fun h => by simp at h)
   refine .tok _ _ _ (by omega) (by omega) (by rw [h1]; exact h2) ?_
   rw [h1]
   simp only [lay, List.nil_append]
   rw [← hz]
   exact .stop _ (Nat.le_refl _) (skip_end _)
  | cons u r =>
   have h3 := ih (fun x hx => hl x (by simp [hx])) (a ++ t.s ++ blank1)
   have e : a ++ jn ((t :: u :: r).map (·.s)) = a ++ t.s ++ blank1 ++ jn ((u :: r).map (·.s)) := by
    simp only [List.map_cons, jn_two, ByteArray.append_assoc]
   rw [e]
   generalize hX : a ++ t.s ++ blank1 ++ jn ((u :: r).map (·.s)) = X at h3 ⊢
   have hb1 : blank1.size = 1 := rfl
   have hz : X.size = a.size + t.s.size + 1 + (jn ((u :: r).map (·.s))).size := by rw [← hX]; simp [hb1]
   have e2 : X = a ++ (t.s ++ (blank1 ++ jn ((u :: r).map (·.s)))) := by rw [← hX]; simp only [ByteArray.append_assoc]
   have e3 : (a ++ t.s ++ blank1).size = a.size + t.s.size + 1 := by simp [hb1]
   have hby : ∀ j, j < t.s.size → bAt X (a.size + j) = bAt t.s j := fun j hj => by
    rw [e2, app_right (by simp; omega), app_left hj]
   have hbl : bAt X (a.size + t.s.size) = 32 := by
    rw [e2, app_right (by simp [hb1]; omega)]
    have := app_right (a := t.s) (b := blank1 ++ jn ((u :: r).map (·.s))) (j := 0) (by simp [hb1]; omega)
    rw [Nat.add_zero] at this
    rw [this, app_left (by decide)]
    rfl
   have h1 : skip X a.size = a.size := skip_stop (by omega) (by rw [← Nat.add_zero a.size, hby 0 hs]; exact hnb)
   have h2 : tokenV X a.size = ({ t with p := (a.size : Int) }, 0) := tok_shift (x := { t with p := 0 }) hs ht.1 ⟨by simp, by simp; omega, fun j hj => by rw [Nat.zero_add]; exact hby j hj⟩ (fun h => .inl (by simp only; rw [hbl]; rfl))
   refine .tok _ _ _ (by omega) (by omega) (by rw [h1]; exact h2) ?_
   rw [h1]
   rw [e3] at h3
   refine h3.from (by simp only; omega) ?_
   rw [skip_more (by simp only; omega) (by simp only; rw [hbl]; rfl)]
theorem lay_len : ∀ (q : Nat) (l : List Tok), (lay q l).length = l.length
 | _, [] => rfl
 | q, t :: r => by simp [lay, lay_len _ r]
theorem lay_map {α : Type} (f : Tok → α) (hf : ∀ t (q : Int), f { t with p := q } = f t) : ∀ (q : Nat) (l : List Tok), (lay q l).map f = l.map f
 | _, [] => rfl
 | q, t :: r => by simp [lay, hf, lay_map f hf _ r]
theorem wordsOf_end {l : List Tok} (n : Nat) (h : ∀ t ∈ l, ¬ t.k = 3) : wordsOf (l ++ [endTok n]) = l.map (·.s) := by
 have : (l ++ [endTok n]).filter (fun t => !decide (t.k = 3)) = l := by
  rw [List.filter_append, List.filter_eq_self.2 (fun t ht => by simp [h t ht])]
  exact List.append_nil l
 rw [wordsOf, this]
theorem back {c : ByteArray} {l : List Tok} (h : LexOk c 0 l) : ∃ m, LexOk (textV l) 0 m ∧ textV m = textV l ∧ (textV l).size ≤ 2 * c.size ∧ m.length = l.length ∧
  ∀ i (h1 : i < l.length) (h2 : i < m.length), l[i].k = m[i].k ∧ l[i].s = m[i].s ∧ l[i].n = m[i].n := by
 obtain ⟨r, rfl, h1, h2⟩ := h.all
 have h3 : textV (r ++ [endTok c.size]) = jn (r.map (·.s)) := by rw [textV, wordsOf_end _ (fun t ht => (h1 t ht).2.2)]
 have h4 := lay_ok r h1 ⟨#[]⟩
 have e : (⟨#[]⟩ : ByteArray) ++ jn (r.map (·.s)) = jn (r.map (·.s)) := by
  apply ByteArray.ext
  simp [ByteArray.data_append]
 rw [e] at h4
 rw [h3]
 refine ⟨_, h4, ?_, by omega, by simp [lay_len], ?_⟩
 ·have h5 : ∀ t ∈ lay (ByteArray.size ⟨#[]⟩) r, ¬ t.k = 3 := by
   intro t ht
   have : t.k ∈ (lay (ByteArray.size ⟨#[]⟩) r).map (·.k) := List.mem_map_of_mem ht
   rw [lay_map (·.k) (fun _ _ => rfl)] at this
   obtain ⟨u, hu, he⟩ := List.mem_map.1 this
   rw [← he]
   exact (h1 u hu).2.2
  rw [textV, wordsOf_end _ h5, lay_map (·.s) (fun _ _ => rfl)]
 ·have hm : ∀ {α : Type} (f : Tok → α), (∀ t (q : Int), f { t with p := q } = f t) → ∀ i (h1 : i < (r ++ [endTok c.size]).length) (h2 : i < (lay (ByteArray.size ⟨#[]⟩) r ++ [endTok (jn (r.map (·.s))).size]).length), f (r ++ [endTok c.size])[i] = f (lay (ByteArray.size ⟨#[]⟩) r ++ [endTok (jn (r.map (·.s))).size])[i] := by
   intro α f hf i h5 h6
   have h7 : (r ++ [endTok c.size]).map f = (lay (ByteArray.size ⟨#[]⟩) r ++ [endTok (jn (r.map (·.s))).size]).map f := by
    rw [List.map_append, List.map_append, lay_map f hf]
    congr 1
    simp only [List.map_cons, List.map_nil, endTok]
    rw [← hf ⟨3, ⟨#[]⟩, 0, c.size⟩ ((jn (r.map (·.s))).size : Int)]
   have h8 := congrArg (fun x => x[i]?) h7
   simp only [List.getElem?_map, List.getElem?_eq_getElem h5, List.getElem?_eq_getElem h6, Option.map_some, Option.some.injEq] at h8
   exact h8
  exact fun i h5 h6 => ⟨hm (·.k) (fun _ _ => rfl) i h5 h6, hm (·.s) (fun _ _ => rfl) i h5 h6, hm (·.n) (fun _ _ => rfl) i h5 h6⟩
end Go.Proofs.Ytgiacdhffklenaa
end
section
namespace Go.Proofs.Ytgiacdhffklenaa
open Go.RowKit
def txt (l : List Tok) : ByteArray := jn (l.map (·.s))
def Ex.text (e : Ex) (f : Nat) : ByteArray := txt (e.toks itoaB f)
theorem opInfo_cases {op : Int} {t : Tok} {g : Nat} (h : opInfo op = some (t, g)) : (op = 14 ∧ t = wordT w_or ∧ g = 1) ∨ (op = 13 ∧ t = wordT w_and ∧ g = 2) ∨ (op = 11 ∧ t = signT w_eq ∧ g = 4) ∨ (op = 10 ∧ t = signT w_lt ∧ g = 4) ∨ (op = 4 ∧ t = signT w_plus ∧ g = 5) ∨ (op = 5 ∧ t = signT w_minus ∧ g = 5) ∨ (op = 6 ∧ t = signT w_times ∧ g = 6) ∨ (op = 7 ∧ t = signT w_by ∧ g = 6) := by
 unfold opInfo at h
 repeat (split at h; (cases h; simp [*]))
 cases h
theorem opInfo_of {op : Int} (h0 : ¬ op < 0) (h16 : ¬ 16 ≤ op) (hl : ¬ (op = 0 ∨ op = 1 ∨ op = 2 ∨ op = 3)) (h12 : op ≠ 12) (h15 : op ≠ 15) (hm : ¬ (op = 8 ∨ op = 9)) : ∃ t g, opInfo op = some (t, g) := by
 rcases (by omega : op = 14 ∨ op = 13 ∨ op = 11 ∨ op = 10 ∨ op = 4 ∨ op = 5 ∨ op = 6 ∨ op = 7) with rfl | rfl | rfl | rfl | rfl | rfl | rfl | rfl <;> exact ⟨_, _, rfl⟩
def Shape (e : Ex) (P : Ex → Prop) : Prop :=
 (∃ n u, e = .mk 0 n u ⟨#[]⟩ [] ∧ numRight n u ⟨#[]⟩ = true) ∨
 (∃ op s, (op = 1 ∨ op = 2 ∨ op = 3) ∧ e = .mk op 0 0 s [] ∧ nameV s = true) ∨
 (∃ x, e = .mk 12 0 0 ⟨#[]⟩ [x] ∧ P x) ∨
 (∃ x y z, e = .mk 15 0 0 ⟨#[]⟩ [x, y, z] ∧ P x ∧ P y ∧ P z) ∨
 (∃ op x y, (op = 8 ∨ op = 9) ∧ e = two op x y ∧ P x ∧ P y) ∨
 ∃ op x y t g, opInfo op = some (t, g) ∧ e = two op x y ∧ P x ∧ P y
theorem right_mk (op n u : Int) (s : ByteArray) (a : List Ex) (d : Nat) : (Ex.mk op n u s a).right (d + 1) = (decide ((a.length : Int) = operandsV op) &&
  (if op = 0 then numRight n u s
   else if op = 1 ∨ op = 2 ∨ op = 3 then decide (n = 0) && decide (u = 0) && nameV s
   else decide (n = 0) && decide (u = 0) && decide (s = ⟨#[]⟩) && a.all fun x => x.right d)) := right_eq (.mk op n u s a) d
theorem right_shape {e : Ex} {d : Nat} (h : e.right (d + 1) = true) : Shape e (fun x => x.right d = true) := by
 obtain ⟨op, n, u, s, a⟩ := e
 rw [right_mk, Bool.and_eq_true] at h
 obtain ⟨hl, h⟩ := h
 replace hl := of_decide_eq_true hl
 unfold operandsV at hl
 by_cases h0 : op = 0
 ·rw [if_pos h0] at h
  rw [if_pos (.inl h0)] at hl
  obtain rfl : a = [] := List.eq_nil_of_length_eq_zero (by omega)
  have hs : s = ⟨#[]⟩ := by
   unfold numRight at h
   simp only [Bool.and_eq_true, decide_eq_true_eq] at h
   exact h.1.1
  subst h0 hs
  exact .inl ⟨n, u, rfl, h⟩
 rw [if_neg h0] at h
 by_cases h1 : op = 1 ∨ op = 2 ∨ op = 3
 ·rw [if_pos h1] at h
  rw [if_pos (.inr h1)] at hl
  obtain rfl : a = [] := List.eq_nil_of_length_eq_zero (by omega)
  simp only [Bool.and_eq_true, decide_eq_true_eq] at h
  obtain ⟨⟨rfl, rfl⟩, h⟩ := h
  exact .inr (.inl ⟨op, s, h1, rfl, h⟩)
 rw [if_neg h1] at h
 rw [if_neg (by omega)] at hl
 simp only [Bool.and_eq_true, decide_eq_true_eq, List.all_eq_true] at h
 obtain ⟨⟨⟨rfl, rfl⟩, rfl⟩, h⟩ := h
 by_cases h12 : op = 12
 ·rw [if_pos h12] at hl
  subst h12
  match a, hl, h with
  | [x], _, h => exact .inr (.inr (.inl ⟨x, rfl, h x (by simp)⟩))
 rw [if_neg h12] at hl
 by_cases h15 : op = 15
 ·rw [if_pos h15] at hl
  subst h15
  match a, hl, h with
  | [x, y, z], _, h => exact .inr (.inr (.inr (.inl ⟨x, y, z, rfl, h x (by simp), h y (by simp), h z (by simp)⟩)))
 rw [if_neg h15] at hl
 split at hl
 ·omega
 ·rename_i h3
  match a, hl, h with
  | [x, y], _, h =>
   by_cases hm : op = 8 ∨ op = 9
   ·exact .inr (.inr (.inr (.inr (.inl ⟨op, x, y, hm, rfl, h x (by simp), h y (by simp)⟩))))
   ·obtain ⟨t, g, ho⟩ := opInfo_of (by omega) (by omega) (by omega) h12 h15 hm
    exact .inr (.inr (.inr (.inr (.inr ⟨op, x, y, t, g, ho, rfl, h x (by simp), h y (by simp)⟩))))
end Go.Proofs.Ytgiacdhffklenaa
end
