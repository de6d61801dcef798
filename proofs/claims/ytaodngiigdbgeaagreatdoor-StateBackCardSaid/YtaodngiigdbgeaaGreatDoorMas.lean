/-
  Conditions: none.
-/
import Derived.Laws.IdiomStrings
import Derived.Lib.BufferRead
import Derived.Lib.AppendIntMem
import Derived.Test.YtaodngiigdbgeaaGreatDoorMaa
import Derived.Test.YtaodngiigdbgeaaGreatDoorMal
import Derived.Test.YtaodngiigdbgeaaGreatDoorMam
import Derived.Test.YtaodngiigdbgeaaGreatDoorMao
import Derived.Test.YtaodngiigdbgeaaGreatDoorMar
set_option maxHeartbeats 16000000
set_option maxRecDepth 20000
set_option linter.unusedSimpArgs false
set_option linter.unusedVariables false
namespace Go.Proofs.YtaodngiigdbgeaaGreatDoor
section
open Go.RowKit
theorem wL {α : Type} (f : α → Bool) {l : List α} {i : Nat} (h : i < l.length) : (l.take (i + 1)).any f = ((l.take i).any f || f l[i]) := by
 rw [List.take_succ_eq_append_getElem h, List.any_append]
 simp only [List.any_cons, List.any_nil, Bool.or_false]
theorem aKv (l : List ByteArray) (s : ByteArray) (hl : l.length ≤ 9223372036854775807) : PureC 322 [strsD l, .str s] (fun r => ∃ i : Int, r = .int i ∧ decide (0 ≤ i) = l.any (fun w => decide (w = s))) := by
 refine aE Tryz.func322 rfl zg _ Tryz.ntmps322 (aC rfl) (fun w Pr hE => ?_)
 dsimp only [slotsOf, Nat.zero_add, Nat.reduceAdd]
 repeat' (first | refine qq ?_ | (refine sQ ?_ ?_ <;> intro hb hq <;> try omega) | (apply lU; refine pM ?_))
 refine bB (fun N sl ob => ∃ i : Nat, N = l.length - i ∧ i ≤ l.length ∧ (l.take i).any (fun w => decide (w = s)) = false ∧ sl = [(8, .d (.int i)), (7, .d (.int l.length)), (0, .d (strsD l)), (1, .d (.str s))] ∧ ob = []) (⟨0, rfl, Nat.zero_le _, by simp, rfl, rfl⟩) ?_
 rintro N sl ob ⟨i, rfl, hi, hs, rfl, rfl⟩
 by_cases hlt : i < l.length
 ·have hg : (l.map fun s => [D.str s])[i]? = some [D.str l[i]] := by rw [bC hlt]
  by_cases he : s = l[i]
  ·have q : decide (s = l[i]) = true := decide_eq_true he
   have hany : l.any (fun w => decide (w = s)) = true := by
    rw [List.any_eq_true]
    exact ⟨l[i], List.getElem_mem hlt, by simp [he]⟩
   generalize hx : l[i] = x at q hg
   repeat' (first | (apply aB (.indexAddr _ _ _); refine aS hg ?_) | refine qq ?_ | (refine sQ ?_ ?_ <;> intro hb hq <;> try omega) | (apply lU; refine pM ?_))
   refine rt1 ?_
   exact ⟨i, rfl, by rw [hany]; exact decide_eq_true zb⟩
  ·have q : decide (s = l[i]) = false := decide_eq_false he
   have hnext : (l.take (i + 1)).any (fun w => decide (w = s)) = false := by
    rw [wL _ hlt, hs, Bool.false_or]
    exact decide_eq_false (fun h => he h.symm)
   generalize hx : l[i] = x at q hg
   repeat' (first | (apply aB (.indexAddr _ _ _); refine aS hg ?_) | refine qq ?_ | (refine sQ ?_ ?_ <;> intro hb hq <;> try omega) | (apply lU; refine pM ?_))
   refine bK (⟨i + 1, rfl, by omega, hnext, rfl, rfl⟩) zb
 ·rw [List.take_of_length_le zb] at hs
  repeat' (first | refine qq ?_ | (refine sQ ?_ ?_ <;> intro hb hq <;> try omega) | (apply lU; refine pM ?_))
  refine rt1 ?_
  exact ⟨-1, rfl, by rw [hs]; rfl⟩
theorem rT (l : List ByteArray) (s : ByteArray) (hl : l.length ≤ 9223372036854775807) : PureC 300 [strsD l, .str s] (· = .bool (l.any fun w => decide (w = s))) := by
 refine aE Tryz.func300 rfl zg _ Tryz.ntmps300 (aC rfl) (fun w Pr hE => ?_)
 dsimp only [slotsOf, Nat.zero_add, Nat.reduceAdd]
 repeat' (first | (apply aF; refine bP (aKv l s hl) hE ?_; rintro _ ⟨i, rfl, hi⟩) | refine nx ?_ | refine xb ?_ | fail)
 refine rt1 ?_
 rw [hi]
theorem aCr : PureC 321 [] (· = strsD reservedL) := by
 refine aE Tryz.func321 rfl zg _ Tryz.ntmps321 (aC rfl) (fun w Pr hE => ?_)
 dsimp only [slotsOf, Nat.zero_add, Nat.reduceAdd]
 repeat' (first | refine qg ?_ | (apply kM; refine nF ?_))
 refine rt1 ?_
 rfl
theorem aOx (s : ByteArray) (hs : s.size ≤ 9223372036854775807) : PureC 299 [.str s] (· = .bool (nameV s)) := by
 cases hw : wordB s
 ·have hN : nameV s = false := by simp [nameV, hw]
  rw [hN]
  refine aE Tryz.func299 rfl zg _ Tryz.ntmps299 (aC rfl) (fun w Pr hE => ?_)
  dsimp only [slotsOf, Nat.zero_add, Nat.reduceAdd]
  repeat' (first | refine kQ (tE s hs) hE ?_ | refine qo ?_ | refine vm ?_ | (refine wQ ?_ ?_ <;> intro hb hq <;> try omega))
  refine rt1 ?_
  rfl
 ·have hN : nameV s = !(reservedL.any fun w => decide (w = s)) := by simp [nameV, hw]
  rw [hN]
  refine aE Tryz.func299 rfl zg _ Tryz.ntmps299 (aC rfl) (fun w Pr hE => ?_)
  dsimp only [slotsOf, Nat.zero_add, Nat.reduceAdd]
  repeat' (first | refine kQ (tE s hs) hE ?_ | refine kQ (aCr) hE ?_ | refine kQ (rT reservedL s zg) hE ?_ | refine qo ?_ | refine vm ?_ | (refine wQ ?_ ?_ <;> intro hb hq <;> try omega))
  refine rt1 ?_
  rfl
def Texts (l : List Tok) : Prop := ∀ t ∈ l, t.s.size ≤ 100000
theorem Texts.suf {l t : List Tok} (h : Texts l) (hs : Suf l t) : Texts t := by
 obtain ⟨m, rfl, _⟩ := hs
 exact fun x hx => h x (by simp [hx])
theorem Texts.nxt {l : List Tok} (h : Texts l) : (nxt l).s.size ≤ 100000 := by
 cases l with
 | nil => exact Nat.zero_le _
 | cons x r => exact h x (by simp)
theorem aHl {L l : List Tok} (h : Rdy L l) (ht : Texts l) : ObC 265 [.box 1000 0] (psr L l) [] (fun x o => x = .d (.bool (decide ((nxt l).k = 0) && nameV (nxt l).s)) ∧ o = psr L l) := by
 have hz := ht.nxt
 by_cases hk : (nxt l).k = 0
 ·have q1 : decide ((nxt l).k = 0) = true := decide_eq_true hk
  rw [q1, Bool.true_and]
  refine aI Tryz.func265 rfl zg _ Tryz.ntmps265 (aC rfl) rfl (fun w Pr β κ hE => ?_)
  dsimp only [slotsV, Nat.zero_add, Nat.reduceAdd]
  repeat' (first | refine oQ [(1000, 1000)] (iM h) hE ?_ | refine kQ (aOx (nxt l).s zb) hE ?_ | refine vj ?_ | refine vr ?_ | refine vw ?_ | (refine wQ ?_ ?_ <;> intro hb hq <;> try omega) | (apply jV; refine lE ?_))
  refine aP (psr L l) (by rfl) rv (⟨rfl, rfl⟩) sb okx
 ·have q1 : decide ((nxt l).k = 0) = false := decide_eq_false hk
  rw [q1, Bool.false_and]
  refine aI Tryz.func265 rfl zg _ Tryz.ntmps265 (aC rfl) rfl (fun w Pr β κ hE => ?_)
  dsimp only [slotsV, Nat.zero_add, Nat.reduceAdd]
  repeat' (first | refine oQ [(1000, 1000)] (iM h) hE ?_ | refine vj ?_ | refine vr ?_ | refine vw ?_ | (refine wQ ?_ ?_ <;> intro hb hq <;> try omega) | (apply jV; refine lE ?_))
  refine aP (psr L l) (by rfl) rv (⟨rfl, rfl⟩) sb okx
theorem aFe {L l : List Tok} (h : Rdy L l) (ht : Texts l) : ObP 222 [.box 1000 0] (psr L l) [] (Out (nameP nameV l) (fun s => .d (.str s)) (psr L)) (Bads (nameP nameV l)) := by
 have hle := h.le
 by_cases hn : (nxt l).k = 0 ∧ nameV (nxt l).s = true
 ·refine aHf (a := (nxt l).s) (t := l.drop 1) ?_ (by simp [nameP, hn.1, hn.2])
  have hq : (decide ((nxt l).k = 0) && nameV (nxt l).s) = true := by simp [hn.1, hn.2]
  have hnamed := aHl h ht
  rw [hq] at hnamed
  refine aI Tryz.func222 rfl zg _ Tryz.ntmps222 (aC rfl) rfl (fun w Pr β κ hE => ?_)
  dsimp only [slotsV, Nat.zero_add, Nat.reduceAdd]
  repeat' (first | refine oQ [(1000, 1000)] (hnamed) hE ?_ | refine oQ [(1000, 1000)] (fY 12) hE ?_ | refine oQ [(1000, 1000)] (iM h) hE ?_ | refine nd ?_ | refine vb ?_ | refine vo ?_ | refine vq ?_ | fail)
  rw [h.step]
  refine aP (psr L (l.drop 1)) (by rfl) rv (⟨rfl, rfl⟩) sb okx
 ·refine rQ (p := (nxt l).p) (e := 12) ?_ (by simp only [nameP, if_neg hn])
  have hq : (decide ((nxt l).k = 0) && nameV (nxt l).s) = false := by
   cases hv : nameV (nxt l).s
   ·simp
   ·simp [hv] at hn
    simp [hn]
  have hnamed := aHl h ht
  rw [hq] at hnamed
  refine bV Tryz.func222 rfl zg _ Tryz.ntmps222 (aC rfl) rfl (fun w Pr β κ hE => ?_)
  dsimp only [slotsV, Nat.zero_add, Nat.reduceAdd]
  repeat' (first | refine oQ [(1000, 1000)] (hnamed) hE ?_ | (apply aF; refine bM [(1000, 1000)] (iF h 12) hE (fun v hv => by subst hv; (repeat (first | with_reducible refine aW ?_ | with_reducible refine bF ?_)); first | exact aT ⟨_, _, hR, rfl⟩ | exact aT ⟨_, _, rfl, rfl⟩ | exact aT rfl) (fun _ _ h => h.elim)) | refine nd ?_ | refine vb ?_ | refine vo ?_ | refine vq ?_ | apply bU)
def numP (least most : Int) (l : List Tok) : Rd Int :=
 if (nxt l).k = 1 then (if least ≤ (nxt l).n ∧ (nxt l).n ≤ most then .ok (nxt l).n (l.drop 1) else .bad (nxt l).p 3) else .bad (nxt l).p 12
theorem aTz {L l : List Tok} (h : Rdy L l) (least most : Int) : ObP 270 [.box 1000 0, .d (.int least), .d (.int most)] (psr L l) [] (Out (numP least most l) (fun n => .d (.int n)) (psr L)) (Bads (numP least most l)) := by
 have hle := h.le
 by_cases hk : (nxt l).k = 1
 ·have q1 : decide ((nxt l).k = 1) = true := decide_eq_true hk
  by_cases h1 : least ≤ (nxt l).n
  ·have q2 : decide (least ≤ (nxt l).n) = true := decide_eq_true h1
   by_cases h2 : (nxt l).n ≤ most
   ·have q3 : decide ((nxt l).n ≤ most) = true := decide_eq_true h2
    refine aHf (a := (nxt l).n) (t := l.drop 1) ?_ (by simp [numP, hk, h1, h2])
    have c1 := fY (L := L) (l := l) 12
    rw [← q1] at c1
    have c2 := fY (L := L) (l := l) 3
    rw [← q3] at c2
    refine aI Tryz.func270 rfl zg _ Tryz.ntmps270 (aC rfl) rfl (fun w Pr β κ hE => ?_)
    dsimp only [slotsV, Nat.zero_add, Nat.reduceAdd]
    repeat' (first | refine oQ [(1000, 1000)] (iM h) hE ?_ | refine oQ [(1000, 1000)] (c1) hE ?_ | refine oQ [(1000, 1000)] (c2) hE ?_ | refine vb ?_ | refine vi ?_ | refine vq ?_ | refine vr ?_ | refine xf ?_ | apply bU | (refine wQ ?_ ?_ <;> intro hb hq <;> try omega))
    rw [h.step]
    refine aP (psr L (l.drop 1)) (by rfl) rv (⟨rfl, rfl⟩) sb okx
   ·have q3 : decide ((nxt l).n ≤ most) = false := decide_eq_false h2
    refine rQ (p := (nxt l).p) (e := 3) ?_ (by simp [numP, hk, h2])
    have c1 := fY (L := L) (l := l) 12
    rw [← q1] at c1
    have c2 := iF h 3
    rw [← q3] at c2
    refine bV Tryz.func270 rfl zg _ Tryz.ntmps270 (aC rfl) rfl (fun w Pr β κ hE => ?_)
    dsimp only [slotsV, Nat.zero_add, Nat.reduceAdd]
    repeat' (first | refine oQ [(1000, 1000)] (iM h) hE ?_ | refine oQ [(1000, 1000)] (c1) hE ?_ | (apply aF; refine bM [(1000, 1000)] (c2) hE (fun v hv => by subst hv; (repeat (first | with_reducible refine aW ?_ | with_reducible refine bF ?_)); first | exact aT ⟨_, _, hR, rfl⟩ | exact aT ⟨_, _, rfl, rfl⟩ | exact aT rfl) (fun _ _ h => h.elim)) | refine vb ?_ | refine vi ?_ | refine vq ?_ | refine vr ?_ | refine xf ?_ | apply bU | (refine wQ ?_ ?_ <;> intro hb hq <;> try omega))
  ·have q2 : decide (least ≤ (nxt l).n) = false := decide_eq_false h1
   refine rQ (p := (nxt l).p) (e := 3) ?_ (by simp [numP, hk, h1])
   have c1 := fY (L := L) (l := l) 12
   rw [← q1] at c1
   refine bV Tryz.func270 rfl zg _ Tryz.ntmps270 (aC rfl) rfl (fun w Pr β κ hE => ?_)
   dsimp only [slotsV, Nat.zero_add, Nat.reduceAdd]
   repeat' (first | refine oQ [(1000, 1000)] (iM h) hE ?_ | refine oQ [(1000, 1000)] (c1) hE ?_ | (apply aF; refine bM [(1000, 1000)] (iF h 3) hE (fun v hv => by subst hv; (repeat (first | with_reducible refine aW ?_ | with_reducible refine bF ?_)); first | exact aT ⟨_, _, hR, rfl⟩ | exact aT ⟨_, _, rfl, rfl⟩ | exact aT rfl) (fun _ _ h => h.elim)) | refine vb ?_ | refine vi ?_ | refine vq ?_ | refine vr ?_ | refine xf ?_ | apply bU | (refine wQ ?_ ?_ <;> intro hb hq <;> try omega))
 ·have q1 : decide ((nxt l).k = 1) = false := decide_eq_false hk
  refine rQ (p := (nxt l).p) (e := 12) ?_ (by simp [numP, hk])
  have c1 := iF h 12
  rw [← q1] at c1
  refine bV Tryz.func270 rfl zg _ Tryz.ntmps270 (aC rfl) rfl (fun w Pr β κ hE => ?_)
  dsimp only [slotsV, Nat.zero_add, Nat.reduceAdd]
  repeat' (first | refine oQ [(1000, 1000)] (iM h) hE ?_ | (apply aF; refine bM [(1000, 1000)] (c1) hE (fun v hv => by subst hv; (repeat (first | with_reducible refine aW ?_ | with_reducible refine bF ?_)); first | exact aT ⟨_, _, hR, rfl⟩ | exact aT ⟨_, _, rfl, rfl⟩ | exact aT rfl) (fun _ _ h => h.elim)) | refine vb ?_ | refine vi ?_ | refine vq ?_ | refine vr ?_ | refine xf ?_ | apply bU | (refine wQ ?_ ?_ <;> intro hb hq <;> try omega))
theorem punit {L l : List Tok} (h : Rdy L l) : ObC 332 [.box 1000 0] (psr L l) [] (fun x o => x = .d (.int (unitP l).1) ∧ o = psr L (unitP l).2) := by
 cases h1 : isT l w_cents
 ·cases h2 : isT l w_minutes
  ·simp only [unitP, h1, h2, Bool.false_eq_true, if_false]
   refine aI Tryz.func332 rfl zg _ Tryz.ntmps332 (aC rfl) rfl (fun w Pr β κ hE => ?_)
   dsimp only [slotsV, Nat.zero_add, Nat.reduceAdd]
   repeat' (first | refine oQ [(1000, 1000)] (dP h w_cents h1) hE ?_ | refine oQ [(1000, 1000)] (dP h w_minutes h2) hE ?_ | refine vj ?_ | refine xz ?_ | apply bU | (refine sQ ?_ ?_ <;> intro hb hq <;> try omega))
   refine aP (psr L l) (by rfl) rv (⟨rfl, rfl⟩) sb okx
  ·simp only [unitP, h1, h2, Bool.false_eq_true, if_false, if_true]
   refine aI Tryz.func332 rfl zg _ Tryz.ntmps332 (aC rfl) rfl (fun w Pr β κ hE => ?_)
   dsimp only [slotsV, Nat.zero_add, Nat.reduceAdd]
   repeat' (first | refine oQ [(1000, 1000)] (dP h w_cents h1) hE ?_ | refine oQ [(1000, 1000)] (lR h w_minutes h2) hE ?_ | refine vj ?_ | refine xz ?_ | apply bU | (refine sQ ?_ ?_ <;> intro hb hq <;> try omega))
   refine aP (psr L (l.drop 1)) (by rfl) rv (⟨rfl, rfl⟩) sb okx
 ·simp only [unitP, h1, if_true]
  refine aI Tryz.func332 rfl zg _ Tryz.ntmps332 (aC rfl) rfl (fun w Pr β κ hE => ?_)
  dsimp only [slotsV, Nat.zero_add, Nat.reduceAdd]
  repeat' (first | refine oQ [(1000, 1000)] (lR h w_cents h1) hE ?_ | refine vj ?_ | refine xz ?_ | apply bU | (refine sQ ?_ ?_ <;> intro hb hq <;> try omega))
  refine aP (psr L (l.drop 1)) (by rfl) rv (⟨rfl, rfl⟩) sb okx
mutual
def Ex.cells : Ex → List D
 | .mk op n u s a => [.int op, .int n, .int u, .str s, .list 5 (Ex.rows a)]
def Ex.rows : List Ex → List (List D)
 | [] => []
 | x :: r => Ex.cells x :: Ex.rows r
end
abbrev exC (e : Ex) : List D := [.int e.op, .int e.num, .int e.unit, .str e.str, .list 5 (Ex.rows e.args)]
theorem aNn (e : Ex) : e.cells = exC e := by
 cases e
 rfl
theorem lY : ∀ l : List Ex, Ex.rows l = l.map exC
 | [] => rfl
 | x :: r => by
  rw [List.map_cons, ← lY r, ← aNn x]
  rfl
theorem aQe (l : List Ex) : (Ex.rows l).length = l.length := by rw [lY, List.length_map]
theorem aEm (e : Ex) : e.levels = Ex.levelsL e.args + 1 := by
 cases e
 rfl
theorem aBt {a : List Ex} {i : Nat} (h : i < a.length) : Ex.levelsL (a.take (i + 1)) = max (Ex.levelsL (a.take i)) a[i].levels := by
 induction a generalizing i with
 | nil => simp at h
 | cons x r ih =>
  cases i with
  | zero => simp [Ex.levelsL]
  | succ i =>
   simp only [List.take_succ_cons, Ex.levelsL, List.getElem_cons_succ]
   rw [ih (by simpa using h)]
   omega
theorem aEl {a : List Ex} {i : Nat} (h : i < a.length) : a[i].levels ≤ Ex.levelsL a := by
 induction a generalizing i with
 | nil => simp at h
 | cons x r ih =>
  cases i with
  | zero => simp only [List.getElem_cons_zero, Ex.levelsL]; omega
  | succ i =>
   have := ih (i := i) (by simpa using h)
   simp only [List.getElem_cons_succ, Ex.levelsL]
   omega
theorem uW {a : List Ex} (i : Nat) : Ex.levelsL (a.take i) ≤ Ex.levelsL a := by
 induction a generalizing i with
 | nil => simp
 | cons x r ih =>
  cases i with
  | zero => simp [Ex.levelsL]
  | succ i =>
   have := ih i
   simp only [List.take_succ_cons, Ex.levelsL]
   omega
theorem aQd {a : List Ex} {i : Nat} (h : i < a.length) : (Ex.rows a)[i]? = some (exC a[i]) := by rw [lY, List.getElem?_map, List.getElem?_eq_getElem h]; rfl
theorem aTo (a b : Nat) : max (a : Int) (b : Int) = ((max a b : Nat) : Int) := by omega
end
section
open Go.RowKit
abbrev inO (a b : Int) : Objs := [(1001, .box 3 [.d (.int a)]), (1002, .box 3 [.d (.int b)])]
def inQ (a b : Int) (l : List Int) : Bool := !l.any fun n => (decide (n < a) || decide (b < n))
theorem in1_s (n a b : Int) : ObC 183 [.d (.int n), .box 1001 0, .box 1002 0] (inO a b) [] (fun x o => x = .d (.bool (decide (n < a) || decide (b < n))) ∧ o = inO a b) := by
 cases h : decide (n < a)
 ·rw [Bool.false_or]
  refine aI Tryz.func183 rfl zg _ Tryz.ntmps183 (aC rfl) rfl (fun w Pr β κ hE => ?_)
  dsimp only [slotsV, Nat.zero_add, Nat.reduceAdd]
  repeat' (first | refine nv ?_ | refine vn ?_ | refine vz ?_ | (refine wQ ?_ ?_ <;> intro hb hq <;> try omega))
  refine aP (inO a b) (by rfl) rv (⟨rfl, rfl⟩) sb okx
 ·rw [Bool.true_or]
  refine aI Tryz.func183 rfl zg _ Tryz.ntmps183 (aC rfl) rfl (fun w Pr β κ hE => ?_)
  dsimp only [slotsV, Nat.zero_add, Nat.reduceAdd]
  repeat' (first | refine nv ?_ | refine vn ?_ | refine vz ?_ | (refine wQ ?_ ?_ <;> intro hb hq <;> try omega))
  refine aP (inO a b) (by rfl) rv (⟨rfl, rfl⟩) sb okx
theorem aTg (l : List Int) (hl : l.length ≤ 9223372036854775807) (a b : Int) : ObC 235 [.d (intsL l), .clo (.func 183) [.box 1001 0, .box 1002 0]] (inO a b) [] (fun x o => (∃ r, x = .d (.int r) ∧ decide (0 ≤ r) = l.any fun n => (decide (n < a) || decide (b < n))) ∧ o = inO a b) := by
 refine aI Tryz.func235 rfl zg _ Tryz.ntmps235 (aC rfl) rfl (fun w Pr β κ hE => ?_)
 dsimp only [slotsV, Nat.zero_add, Nat.reduceAdd]
 repeat' (first | refine qq ?_ | (refine sQ ?_ ?_ <;> intro hb hq <;> try omega))
 refine bB (fun N sl ob => ∃ i : Nat, N = l.length - i ∧ i ≤ l.length ∧ ((l.take i).any fun n => (decide (n < a) || decide (b < n))) = false ∧ sl = [(8, .d (.int i)), (7, .d (.int l.length)), (1, .clo (.func 183) [.box 1001 0, .box 1002 0]), (0, .d (intsL l))] ∧ ob = inO a b) (⟨0, rfl, Nat.zero_le _, by simp, rfl, rfl⟩) ?_
 rintro N sl ob ⟨i, rfl, hi, hs, rfl, rfl⟩
 by_cases hlt : i < l.length
 ·have hg : (l.map fun n => [D.int n])[i]? = some [D.int l[i]] := by rw [bC hlt]
  have hnext := wL (fun n => (decide (n < a) || decide (b < n))) hlt
  rw [hs, Bool.false_or] at hnext
  have hc := in1_s l[i] a b
  cases hT : (decide (l[i] < a) || decide (b < l[i]))
  ·rw [hT] at hc hnext
   generalize l[i] = z at hg hc
   repeat' (first | (apply aB (.indexAddr _ _ _); refine aS hg ?_) | (apply aF; refine bN [(1001, 1001), (1002, 1002)] (hc) hE ?_; rintro _ _ ⟨rfl, rfl⟩ <;> (intro _ _ h1 h2; simp only [aO, Nat.reduceBEq, aG, aL, aH] at h1 h2; subst h1 h2)) | refine qq ?_ | (refine sQ ?_ ?_ <;> intro hb hq <;> try omega))
   refine bK (⟨i + 1, rfl, by omega, hnext, rfl, rfl⟩) zb
  ·rw [hT] at hc
   have hany : (l.any fun n => (decide (n < a) || decide (b < n))) = true := List.any_eq_true.2 ⟨l[i], List.getElem_mem hlt, hT⟩
   generalize l[i] = z at hg hc
   repeat' (first | (apply aB (.indexAddr _ _ _); refine aS hg ?_) | (apply aF; refine bN [(1001, 1001), (1002, 1002)] (hc) hE ?_; rintro _ _ ⟨rfl, rfl⟩ <;> (intro _ _ h1 h2; simp only [aO, Nat.reduceBEq, aG, aL, aH] at h1 h2; subst h1 h2)) | refine qq ?_ | (refine sQ ?_ ?_ <;> intro hb hq <;> try omega))
   refine aP (inO a b) (by rfl) rv (⟨⟨i, rfl, by rw [hany]; exact decide_eq_true zb⟩, rfl⟩) sb okx
 ·rw [List.take_of_length_le zb] at hs
  repeat' (first | refine qq ?_ | (refine sQ ?_ ?_ <;> intro hb hq <;> try omega))
  refine aP (inO a b) (by rfl) rv (⟨⟨-1, rfl, by rw [hs]; rfl⟩, rfl⟩) sb okx
theorem aGq (l : List Int) (hl : l.length ≤ 9223372036854775807) (a b : Int) : ObC 182 [.d (intsL l), .clo (.func 183) [.box 1001 0, .box 1002 0]] (inO a b) [] (fun x o => x = .d (.bool (l.any fun n => (decide (n < a) || decide (b < n)))) ∧ o = inO a b) := by
 have hc := aTg l hl a b
 refine aI Tryz.func182 rfl zg _ Tryz.ntmps182 (aC rfl) rfl (fun w Pr β κ hE => ?_)
 dsimp only [slotsV, Nat.zero_add, Nat.reduceAdd]
 repeat' (first | (apply aF; refine cP [(1001, 1001), (1002, 1002)] (hc) hE ?_; rintro _ _ ⟨⟨r, rfl, hr⟩, rfl⟩ <;> (intro _ _ h1 h2; simp only [aO, Nat.reduceBEq, aG, aL, aH] at h1 h2; subst h1 h2)) | refine nx ?_ | refine xb ?_ | fail)
 refine aP (inO a b) (by rfl) rv (⟨by rw [hr], rfl⟩) sb okx
theorem jK (a b : Int) (l : List Int) (hl : l.length ≤ 9223372036854775807) : PureC 63 [.int a, .int b, intsL l] (· = .bool (inQ a b l)) := by
 have hc := aGq l hl a b
 refine aE Tryz.func63 rfl zg _ Tryz.ntmps63 (aC rfl) (fun w Pr hE => ?_)
 dsimp only [slotsOf, Nat.zero_add, Nat.reduceAdd]
 repeat' (first | (apply aB (.makeFunc _ _ _); refine aK (eC rfl) (aA rfl) ?_) | refine oQ [(1001, 3), (1002, 4)] (hc) hE ?_ | refine qp ?_ | refine xe ?_ | fail)
 refine rt1 ?_
 rfl
theorem in1_p (n a b : Int) : ObC 219 [.d (.int n), .box 1001 0, .box 1002 0] (inO a b) [] (fun x o => x = .d (.bool (decide (n < a) || decide (b < n))) ∧ o = inO a b) := by
 cases h : decide (n < a)
 ·rw [Bool.false_or]
  refine aI Tryz.func219 rfl zg _ Tryz.ntmps219 (aC rfl) rfl (fun w Pr β κ hE => ?_)
  dsimp only [slotsV, Nat.zero_add, Nat.reduceAdd]
  repeat' (first | refine nv ?_ | refine vn ?_ | refine vz ?_ | (refine wQ ?_ ?_ <;> intro hb hq <;> try omega))
  refine aP (inO a b) (by rfl) rv (⟨rfl, rfl⟩) sb okx
 ·rw [Bool.true_or]
  refine aI Tryz.func219 rfl zg _ Tryz.ntmps219 (aC rfl) rfl (fun w Pr β κ hE => ?_)
  dsimp only [slotsV, Nat.zero_add, Nat.reduceAdd]
  repeat' (first | refine nv ?_ | refine vn ?_ | refine vz ?_ | (refine wQ ?_ ?_ <;> intro hb hq <;> try omega))
  refine aP (inO a b) (by rfl) rv (⟨rfl, rfl⟩) sb okx
theorem aTf (l : List Int) (hl : l.length ≤ 9223372036854775807) (a b : Int) : ObC 235 [.d (intsL l), .clo (.func 219) [.box 1001 0, .box 1002 0]] (inO a b) [] (fun x o => (∃ r, x = .d (.int r) ∧ decide (0 ≤ r) = l.any fun n => (decide (n < a) || decide (b < n))) ∧ o = inO a b) := by
 refine aI Tryz.func235 rfl zg _ Tryz.ntmps235 (aC rfl) rfl (fun w Pr β κ hE => ?_)
 dsimp only [slotsV, Nat.zero_add, Nat.reduceAdd]
 repeat' (first | refine qq ?_ | (refine sQ ?_ ?_ <;> intro hb hq <;> try omega))
 refine bB (fun N sl ob => ∃ i : Nat, N = l.length - i ∧ i ≤ l.length ∧ ((l.take i).any fun n => (decide (n < a) || decide (b < n))) = false ∧ sl = [(8, .d (.int i)), (7, .d (.int l.length)), (1, .clo (.func 219) [.box 1001 0, .box 1002 0]), (0, .d (intsL l))] ∧ ob = inO a b) (⟨0, rfl, Nat.zero_le _, by simp, rfl, rfl⟩) ?_
 rintro N sl ob ⟨i, rfl, hi, hs, rfl, rfl⟩
 by_cases hlt : i < l.length
 ·have hg : (l.map fun n => [D.int n])[i]? = some [D.int l[i]] := by rw [bC hlt]
  have hnext := wL (fun n => (decide (n < a) || decide (b < n))) hlt
  rw [hs, Bool.false_or] at hnext
  have hc := in1_p l[i] a b
  cases hT : (decide (l[i] < a) || decide (b < l[i]))
  ·rw [hT] at hc hnext
   generalize l[i] = z at hg hc
   repeat' (first | (apply aB (.indexAddr _ _ _); refine aS hg ?_) | (apply aF; refine bN [(1001, 1001), (1002, 1002)] (hc) hE ?_; rintro _ _ ⟨rfl, rfl⟩ <;> (intro _ _ h1 h2; simp only [aO, Nat.reduceBEq, aG, aL, aH] at h1 h2; subst h1 h2)) | refine qq ?_ | (refine sQ ?_ ?_ <;> intro hb hq <;> try omega))
   refine bK (⟨i + 1, rfl, by omega, hnext, rfl, rfl⟩) zb
  ·rw [hT] at hc
   have hany : (l.any fun n => (decide (n < a) || decide (b < n))) = true := List.any_eq_true.2 ⟨l[i], List.getElem_mem hlt, hT⟩
   generalize l[i] = z at hg hc
   repeat' (first | (apply aB (.indexAddr _ _ _); refine aS hg ?_) | (apply aF; refine bN [(1001, 1001), (1002, 1002)] (hc) hE ?_; rintro _ _ ⟨rfl, rfl⟩ <;> (intro _ _ h1 h2; simp only [aO, Nat.reduceBEq, aG, aL, aH] at h1 h2; subst h1 h2)) | refine qq ?_ | (refine sQ ?_ ?_ <;> intro hb hq <;> try omega))
   refine aP (inO a b) (by rfl) rv (⟨⟨i, rfl, by rw [hany]; exact decide_eq_true zb⟩, rfl⟩) sb okx
 ·rw [List.take_of_length_le zb] at hs
  repeat' (first | refine qq ?_ | (refine sQ ?_ ?_ <;> intro hb hq <;> try omega))
  refine aP (inO a b) (by rfl) rv (⟨⟨-1, rfl, by rw [hs]; rfl⟩, rfl⟩) sb okx
theorem aGp (l : List Int) (hl : l.length ≤ 9223372036854775807) (a b : Int) : ObC 182 [.d (intsL l), .clo (.func 219) [.box 1001 0, .box 1002 0]] (inO a b) [] (fun x o => x = .d (.bool (l.any fun n => (decide (n < a) || decide (b < n)))) ∧ o = inO a b) := by
 have hc := aTf l hl a b
 refine aI Tryz.func182 rfl zg _ Tryz.ntmps182 (aC rfl) rfl (fun w Pr β κ hE => ?_)
 dsimp only [slotsV, Nat.zero_add, Nat.reduceAdd]
 repeat' (first | (apply aF; refine cP [(1001, 1001), (1002, 1002)] (hc) hE ?_; rintro _ _ ⟨⟨r, rfl, hr⟩, rfl⟩ <;> (intro _ _ h1 h2; simp only [aO, Nat.reduceBEq, aG, aL, aH] at h1 h2; subst h1 h2)) | refine nx ?_ | refine xb ?_ | fail)
 refine aP (inO a b) (by rfl) rv (⟨by rw [hr], rfl⟩) sb okx
theorem aIn (a b : Int) (l : List Int) (hl : l.length ≤ 9223372036854775807) : PureC 152 [.int a, .int b, intsL l] (· = .bool (inQ a b l)) := by
 have hc := aGp l hl a b
 refine aE Tryz.func152 rfl zg _ Tryz.ntmps152 (aC rfl) (fun w Pr hE => ?_)
 dsimp only [slotsOf, Nat.zero_add, Nat.reduceAdd]
 repeat' (first | (apply aB (.makeFunc _ _ _); refine aK (eC rfl) (aA rfl) ?_) | refine oQ [(1001, 3), (1002, 4)] (hc) hE ?_ | refine qp ?_ | refine xe ?_ | fail)
 refine rt1 ?_
 rfl
theorem uV (a b n : Int) : inQ a b [n] = (decide (a ≤ n) && decide (n ≤ b)) := by
 simp only [inQ, List.any_cons, List.any_nil, Bool.or_false]
 rw [Bool.eq_iff_iff]
 simp
theorem eX {a b : Int} {l : List Int} : inQ a b l = true ↔ ∀ n ∈ l, a ≤ n ∧ n ≤ b := by
 simp [inQ]
abbrev timeQ (l : List Int) : Bool := inQ 0 1048576 l
abbrev nodeQ (l : List Int) : Bool := inQ 0 1999 l
theorem jP (l : List Int) (hl : l.length ≤ 9223372036854775807) : PureC 59 [intsL l] (· = .bool (timeQ l)) := by
 have hc := jK 0 1048576 l hl
 refine aE Tryz.func59 rfl zg _ Tryz.ntmps59 (aC rfl) (fun w Pr hE => ?_)
 dsimp only [slotsOf, Nat.zero_add, Nat.reduceAdd]
 repeat' (first | refine kQ (hc) hE ?_ | refine qo ?_ | fail)
 refine rt1 ?_
 rfl
theorem tS (l : List Int) (hl : l.length ≤ 9223372036854775807) : PureC 61 [intsL l] (· = .bool (nodeQ l)) := by
 have hc := jK 0 1999 l hl
 refine aE Tryz.func61 rfl zg _ Tryz.ntmps61 (aC rfl) (fun w Pr hE => ?_)
 dsimp only [slotsOf, Nat.zero_add, Nat.reduceAdd]
 repeat' (first | refine kQ (hc) hE ?_ | refine qo ?_ | fail)
 refine rt1 ?_
 rfl
def SPool.right (p : SPool) : Bool := inQ 0 1000000000000000 [p.mo, p.pr, p.to] && (inQ 1 1000000000000000 [p.ms] && (inQ 1 1000 [p.co] && inQ 1 1000 [p.wi]))
theorem qQ (p : SPool) : PureC 23 [.agg p.c] (· = .bool p.right) := by
 have c1 := aIn 0 1000000000000000 [p.mo, p.pr, p.to] (by simp)
 have c2 := aIn 1 1000000000000000 [p.ms] (by simp)
 have c3 := aIn 1 1000 [p.co] (by simp)
 have c4 := aIn 1 1000 [p.wi] (by simp)
 unfold SPool.right
 generalize inQ 0 1000000000000000 [p.mo, p.pr, p.to] = b1 at *
 generalize inQ 1 1000000000000000 [p.ms] = b2 at *
 generalize inQ 1 1000 [p.co] = b3 at *
 generalize inQ 1 1000 [p.wi] = b4 at *
 refine aE Tryz.func23 rfl zg _ Tryz.ntmps23 (aC rfl) (fun w Pr hE => ?_)
 dsimp only [slotsOf, Nat.zero_add, Nat.reduceAdd]
 cases b1
 ·skip
  repeat' (first | refine kQ (c1) hE ?_ | refine qa ?_ | refine vj ?_ | refine vw ?_ | (refine wQ ?_ ?_ <;> intro hb hq <;> try omega))
  refine rt1 ?_
  rfl
 cases b2
 ·skip
  repeat' (first | (apply aF; refine bP (c1) hE ?_; rintro _ rfl; clear c1) | refine kQ (c2) hE ?_ | refine qa ?_ | refine vj ?_ | refine vw ?_ | (refine wQ ?_ ?_ <;> intro hb hq <;> try omega))
  refine rt1 ?_
  rfl
 cases b3
 ·skip
  repeat' (first | (apply aF; refine bP (c1) hE ?_; rintro _ rfl; clear c1) | (apply aF; refine bP (c2) hE ?_; rintro _ rfl; clear c2) | refine kQ (c3) hE ?_ | refine qa ?_ | refine vj ?_ | refine vw ?_ | (refine wQ ?_ ?_ <;> intro hb hq <;> try omega))
  refine rt1 ?_
  rfl
 ·skip
  repeat' (first | (apply aF; refine bP (c1) hE ?_; rintro _ rfl; clear c1) | (apply aF; refine bP (c2) hE ?_; rintro _ rfl; clear c2) | (apply aF; refine bP (c3) hE ?_; rintro _ rfl; clear c3) | refine kQ (c4) hE ?_ | refine qa ?_ | refine vj ?_ | refine vw ?_ | (refine wQ ?_ ?_ <;> intro hb hq <;> try omega))
  refine rt1 ?_
  rfl
def hourQ (lo hi : List Int) (h : Nat) : Bool := !(decide (lo.getD h 0 < 0) || (decide (hi.getD h 0 < lo.getD h 0) || decide (600 < hi.getD h 0)))
def SArc.right (a : SArc) : Bool := !(decide (a.f < 0) || (decide (a.t < 0) || (!decide ((a.lo.length : Int) = 24) || !decide ((a.hi.length : Int) = 24)))) && (List.range 24).all (hourQ a.lo a.hi)
theorem uA {n i : Nat} {f : Nat → Bool} (h : i < n) (hf : f i = false) : (List.range n).all f = false := by
 rw [Bool.eq_false_iff, Ne, List.all_eq_true]
 intro hh
 have := hh i (List.mem_range.2 h)
 rw [hf] at this
 cases this
theorem xX {n : Nat} {f : Nat → Bool} (h : ∀ j < n, f j = true) : (List.range n).all f = true := List.all_eq_true.2 fun j hj => h j (List.mem_range.1 hj)
theorem jO {l : List Int} {i : Nat} (h : i < l.length) : (l.map fun n => [D.int n])[i]? = some [D.int (l.getD i 0)] := by
 rw [List.getElem?_map, List.getElem?_eq_getElem h, List.getD_eq_getElem?_getD, List.getElem?_eq_getElem h]
 rfl
theorem rN (a : SArc) (hl : a.lo.length ≤ 9223372036854775807) (hh : a.hi.length ≤ 9223372036854775807) : PureC 22 [.agg a.c] (· = .bool a.right) := by
 have hm1 : (a.lo.map fun n => [D.int n]).length = a.lo.length := List.length_map ..
 have hm2 : (a.hi.map fun n => [D.int n]).length = a.hi.length := List.length_map ..
 obtain ⟨R, hR⟩ : ∃ R, R = a.right := ⟨_, rfl⟩
 rw [← hR]
 unfold SArc.right at hR
 cases h1 : decide (a.f < 0)
 rotate_left 1
 ·have hR : R = false := by rw [hR, h1]; rfl
  subst hR
  refine aE Tryz.func22 rfl zg _ Tryz.ntmps22 (aC rfl) (fun w Pr hE => ?_)
  dsimp only [slotsOf, Nat.zero_add, Nat.reduceAdd]
  repeat' (first | refine nk ?_ | refine vc ?_ | refine vf ?_ | (refine sQ ?_ ?_ <;> intro hb hq <;> try omega) | (refine wQ ?_ ?_ <;> intro hb hq <;> try omega) | (apply fC; refine gE ?_))
  refine rt1 ?_
  rfl
 cases h2 : decide (a.t < 0)
 rotate_left 1
 ·have hR : R = false := by rw [hR, h1, h2]; rfl
  subst hR
  refine aE Tryz.func22 rfl zg _ Tryz.ntmps22 (aC rfl) (fun w Pr hE => ?_)
  dsimp only [slotsOf, Nat.zero_add, Nat.reduceAdd]
  repeat' (first | refine nk ?_ | refine vc ?_ | refine vf ?_ | (refine sQ ?_ ?_ <;> intro hb hq <;> try omega) | (refine wQ ?_ ?_ <;> intro hb hq <;> try omega) | (apply fC; refine gE ?_))
  refine rt1 ?_
  rfl
 cases h3 : !decide ((a.lo.length : Int) = 24)
 rotate_left 1
 ·have hR : R = false := by rw [hR, h1, h2, h3]; rfl
  subst hR
  refine aE Tryz.func22 rfl zg _ Tryz.ntmps22 (aC rfl) (fun w Pr hE => ?_)
  dsimp only [slotsOf, Nat.zero_add, Nat.reduceAdd]
  repeat' (first | refine nk ?_ | refine vc ?_ | refine vf ?_ | (refine sQ ?_ ?_ <;> intro hb hq <;> try omega) | (refine wQ ?_ ?_ <;> intro hb hq <;> try omega) | (apply fC; refine gE ?_))
  refine rt1 ?_
  rfl
 cases h4 : !decide ((a.hi.length : Int) = 24)
 rotate_left 1
 ·have hR : R = false := by rw [hR, h1, h2, h3, h4]; rfl
  subst hR
  refine aE Tryz.func22 rfl zg _ Tryz.ntmps22 (aC rfl) (fun w Pr hE => ?_)
  dsimp only [slotsOf, Nat.zero_add, Nat.reduceAdd]
  repeat' (first | refine nk ?_ | refine vc ?_ | refine vf ?_ | (refine sQ ?_ ?_ <;> intro hb hq <;> try omega) | (refine wQ ?_ ?_ <;> intro hb hq <;> try omega) | (apply fC; refine gE ?_))
  refine rt1 ?_
  rfl
 rw [h1, h2, h3, h4] at hR
 have hR : R = (List.range 24).all (hourQ a.lo a.hi) := hR
 have e3 : (a.lo.length : Int) = 24 := by simpa using h3
 have e4 : (a.hi.length : Int) = 24 := by simpa using h4
 refine aE Tryz.func22 rfl zg _ Tryz.ntmps22 (aC rfl) (fun w Pr hE => ?_)
 dsimp only [slotsOf, Nat.zero_add, Nat.reduceAdd]
 repeat' (first | refine nk ?_ | refine vc ?_ | refine vf ?_ | (refine sQ ?_ ?_ <;> intro hb hq <;> try omega) | (refine wQ ?_ ?_ <;> intro hb hq <;> try omega) | (apply fC; refine gE ?_))
 rw [e3]
 refine bB (fun N sl ob => ∃ i : Nat, N = 24 - i ∧ i ≤ 24 ∧ (∀ j < i, hourQ a.lo a.hi j = true) ∧ sl = [(28, .d (.int i)), (27, .d (.int 24)), (26, .d (intsL a.lo)), (1, .box 1 0)] ∧ ob = [(1, .box 46 [.d (.int a.f), .d (.int a.t), .d (intsL a.lo), .d (intsL a.hi)])]) (⟨0, rfl, Nat.zero_le _, fun j h => by omega, rfl, rfl⟩) ?_
 rintro N sl ob ⟨i, rfl, hi, ha, rfl, rfl⟩
 by_cases hlt : i < 24
 ·have hg1 := jO (l := a.lo) (i := i) zb
  have hg2 := jO (l := a.hi) (i := i) zb
  have qi : decide ((i : Int) < 24) = true := decide_eq_true zb
  cases hT : hourQ a.lo a.hi i
  ·have hf := uA (n := 24) hlt hT
   rw [hf] at hR
   subst hR
   unfold hourQ at hT
   generalize a.lo.getD i 0 = x at *
   generalize a.hi.getD i 0 = y at *
   cases t1 : decide (x < 0)
   rotate_left 1
   ·skip
    repeat' (first | (apply aB (.indexAddr _ _ (.tmp 39)); refine aS hg2 ?_) | (apply aB (.indexAddr _ _ (.tmp 47)); refine aS hg2 ?_) | (apply aB (.indexAddr _ _ _); refine aS hg1 ?_) | refine va ?_ | refine vl ?_ | refine vn ?_ | refine vw ?_ | (refine sQ ?_ ?_ <;> intro hb hq <;> try omega) | (refine wQ ?_ ?_ <;> intro hb hq <;> try omega))
    refine rt1 ?_
    rfl
   cases t2 : decide (y < x)
   rotate_left 1
   ·skip
    repeat' (first | (apply aB (.indexAddr _ _ (.tmp 39)); refine aS hg2 ?_) | (apply aB (.indexAddr _ _ (.tmp 47)); refine aS hg2 ?_) | (apply aB (.indexAddr _ _ _); refine aS hg1 ?_) | refine va ?_ | refine vl ?_ | refine vn ?_ | refine vw ?_ | (refine sQ ?_ ?_ <;> intro hb hq <;> try omega) | (refine wQ ?_ ?_ <;> intro hb hq <;> try omega))
    refine rt1 ?_
    rfl
   have t3 : decide (600 < y) = true := by
    rw [t1, t2] at hT
    simpa using hT
   repeat' (first | (apply aB (.indexAddr _ _ (.tmp 39)); refine aS hg2 ?_) | (apply aB (.indexAddr _ _ (.tmp 47)); refine aS hg2 ?_) | (apply aB (.indexAddr _ _ _); refine aS hg1 ?_) | refine va ?_ | refine vl ?_ | refine vn ?_ | refine vw ?_ | (refine sQ ?_ ?_ <;> intro hb hq <;> try omega) | (refine wQ ?_ ?_ <;> intro hb hq <;> try omega))
   refine rt1 ?_
   rfl
  ·have hn : ∀ j < i + 1, hourQ a.lo a.hi j = true := fun j hj => by
    rcases Nat.lt_succ_iff_lt_or_eq.1 hj with h | rfl
    ·exact ha j h
    ·exact hT
   unfold hourQ at hT
   simp only [Bool.not_eq_true', Bool.or_eq_false_iff] at hT
   obtain ⟨t1, t2, t3⟩ := hT
   generalize a.lo.getD i 0 = x at *
   generalize a.hi.getD i 0 = y at *
   repeat' (first | (apply aB (.indexAddr _ _ (.tmp 39)); refine aS hg2 ?_) | (apply aB (.indexAddr _ _ (.tmp 47)); refine aS hg2 ?_) | (apply aB (.indexAddr _ _ _); refine aS hg1 ?_) | refine va ?_ | refine vl ?_ | refine vn ?_ | refine vw ?_ | (refine sQ ?_ ?_ <;> intro hb hq <;> try omega) | (refine wQ ?_ ?_ <;> intro hb hq <;> try omega))
   repeat' (first | refine qn ?_ | (refine sQ ?_ ?_ <;> intro hb hq <;> try omega))
   refine bK (⟨i + 1, rfl, by omega, hn, rfl, rfl⟩) zb
 ·obtain rfl : i = 24 := by omega
  rw [xX ha] at hR
  subst hR
  repeat' (first | refine xm ?_ | (refine sQ ?_ ?_ <;> intro hb hq <;> try omega))
  refine rt1 ?_
  rfl
end
section
open Go.RowKit
theorem xI : ∀ (n : Nat) (e : Ex), e.levels ≤ n → n ≤ 1000000 → e.wid ≤ 9223372036854775807 → PureC 269 [.agg (exC e)] (· = .int e.levels)
 | 0, e, h, _, _ => by have := lQ e; omega
 | n + 1, e, h, hn, hw => by
  have hwa := aRj e
  have hl := aEm e
  have ih := xI n
  have hlen := aQe e.args
  refine aE Tryz.func269 rfl zg _ Tryz.ntmps269 (aC rfl) (fun w Pr hE => ?_)
  dsimp only [slotsOf, Nat.zero_add, Nat.reduceAdd]
  repeat' (first | refine vl ?_ | refine vy ?_ | refine xg ?_ | (refine sQ ?_ ?_ <;> intro hb hq <;> try omega) | (apply aHn; refine aPw ?_) | (apply fC; refine gE ?_))
  rw [hlen]
  refine bB (fun N sl ob => ∃ i : Nat, N = e.args.length - i ∧ i ≤ e.args.length ∧ sl = [(9, .d (.int i)), (8, .d (.int e.args.length)), (7, .d (.list 5 (Ex.rows e.args))), (3, .d (.int (Ex.levelsL (e.args.take i))))] ∧ ob = []) (⟨0, rfl, Nat.zero_le _, rfl, rfl⟩) ?_
  rintro N sl ob ⟨i, rfl, hi, rfl, rfl⟩
  have hle := uW (a := e.args) i
  by_cases hlt : i < e.args.length
  ·have hg := aQd hlt
   have hx := aEl hlt
   have hwi := aVc hlt
   have hc := ih e.args[i] zb zb zb
   have ht := aBt hlt
   generalize e.args[i] = x at hg hx hc ht hwi
   repeat' (first | (apply aB (.indexAddr _ _ _); refine aS hg ?_) | refine kQ (hc) hE ?_ | refine vl ?_ | refine vy ?_ | refine xg ?_ | (refine sQ ?_ ?_ <;> intro hb hq <;> try omega) | (apply aHn; refine aPw ?_) | (apply fC; refine gE ?_))
   rw [aTo, ← ht]
   refine bK (⟨i + 1, rfl, by omega, rfl, rfl⟩) zb
  ·obtain rfl : i = e.args.length := by omega
   rw [List.take_length]
   repeat' (first | refine vl ?_ | refine vy ?_ | refine xg ?_ | (refine sQ ?_ ?_ <;> intro hb hq <;> try omega) | (apply aHn; refine aPw ?_) | (apply fC; refine gE ?_))
   refine rt1 ?_
   rw [hl]
   rfl
def opsL : List (ByteArray × Int × Int) := [(w_or, 14, 1), (w_and, 13, 2), (w_eq, 11, 4), (w_lt, 10, 4), (w_plus, 4, 5), (w_minus, 5, 5), (w_times, 6, 6), (w_by, 7, 6)]
abbrev opC (q : ByteArray × Int × Int) : List D := [.str q.1, .int q.2.1, .int q.2.2]
theorem hC : PureC 303 [] (· = .list 3 (opsL.map opC)) := by
 refine aE Tryz.func303 rfl zg _ Tryz.ntmps303 (aC rfl) (fun w Pr hE => ?_)
 dsimp only [slotsOf, Nat.zero_add, Nat.reduceAdd]
 repeat' (first | refine qg ?_ | (apply fD; refine gF ?_) | (apply kM; refine nF ?_))
 refine rt1 ?_
 rfl
abbrev pbx (L l : List Tok) : Objs := (1001, .box 198 [.box 1000 0]) :: psr L l
theorem aNt {L l : List Tok} (h : Rdy L l) (s : ByteArray) (a b : Int) : ObC 304 [.d (.agg [.str s, .int a, .int b]), .box 1001 0] (pbx L l) [] (fun x o => x = .d (.bool (isT l s)) ∧ o = pbx L l) := by
 refine aI Tryz.func304 rfl zg _ Tryz.ntmps304 (aC rfl) rfl (fun w Pr β κ hE => ?_)
 dsimp only [slotsV, Nat.zero_add, Nat.reduceAdd]
 repeat' (first | refine oQ [(1000, 1000)] (pis h s) hE ?_ | refine vq ?_ | refine xk ?_ | fail)
 refine aP (pbx L l) (by rfl) rv (⟨rfl, rfl⟩) sb okx
def SymI (l : List Tok) (r : Int) : Prop := (r = -1 ∧ symP l = none) ∨ ∃ (i : Nat) (q : ByteArray × Int × Int), i < 8 ∧ r = i ∧ opsL[i]? = some q ∧ symP l = some (q.2.1, q.2.2.toNat) ∧ 1 ≤ q.2.2 ∧ q.2.2 ≤ 6
theorem aUv {l : List Tok} (h : ∀ q ∈ opsL, isT l q.1 = false) : symP l = none := by
 have h1 := h (w_or, 14, 1) (by simp [opsL])
 have h2 := h (w_and, 13, 2) (by simp [opsL])
 have h3 := h (w_eq, 11, 4) (by simp [opsL])
 have h4 := h (w_lt, 10, 4) (by simp [opsL])
 have h5 := h (w_plus, 4, 5) (by simp [opsL])
 have h6 := h (w_minus, 5, 5) (by simp [opsL])
 have h7 := h (w_times, 6, 6) (by simp [opsL])
 have h8 := h (w_by, 7, 6) (by simp [opsL])
 simp only at h1 h2 h3 h4 h5 h6 h7 h8
 simp only [symP, h1, h2, h3, h4, h5, h6, h7, h8, Bool.false_eq_true, if_false]
theorem aBq {l : List Tok} {s t : ByteArray} (h : isT l s = true) (hne : s ≠ t) : isT l t = false := by
 obtain ⟨h1, h2⟩ := oR h
 simp [isT, h2, hne]
theorem aQw {l : List Tok} {i : Nat} {q : ByteArray × Int × Int} (hq : opsL[i]? = some q) (h : isT l q.1 = true) : symP l = some (q.2.1, q.2.2.toNat) ∧ 1 ≤ q.2.2 ∧ q.2.2 ≤ 6 := by
 have hall : ∀ t, t ≠ q.1 → isT l t = false := fun t ht => aBq h (Ne.symm ht)
 match i, hq with
 | 0, hq => cases hq; exact ⟨by simp only [symP]; simp [h], by decide⟩
 | 1, hq => cases hq; exact ⟨by simp only [symP]; simp [h, hall w_or zg], by decide⟩
 | 2, hq => cases hq; exact ⟨by simp only [symP]; simp [h, hall w_or zg, hall w_and zg], by decide⟩
 | 3, hq => cases hq; exact ⟨by simp only [symP]; simp [h, hall w_or zg, hall w_and zg, hall w_eq zg], by decide⟩
 | 4, hq => cases hq; exact ⟨by simp only [symP]; simp [h, hall w_or zg, hall w_and zg, hall w_eq zg, hall w_lt zg], by decide⟩
 | 5, hq => cases hq; exact ⟨by simp only [symP]; simp [h, hall w_or zg, hall w_and zg, hall w_eq zg, hall w_lt zg, hall w_plus zg], by decide⟩
 | 6, hq => cases hq; exact ⟨by simp only [symP]; simp [h, hall w_or zg, hall w_and zg, hall w_eq zg, hall w_lt zg, hall w_plus zg, hall w_minus zg], by decide⟩
 | 7, hq => cases hq; exact ⟨by simp only [symP]; simp [h, hall w_or zg, hall w_and zg, hall w_eq zg, hall w_lt zg, hall w_plus zg, hall w_minus zg, hall w_times zg], by decide⟩
 | i + 8, hq => simp [opsL] at hq
theorem aWp {L l : List Tok} (h : Rdy L l) : ObC 302 [.d (.list 3 (opsL.map opC)), .clo (.func 304) [.box 1001 0]] (pbx L l) [] (fun x o => (∃ r, x = .d (.int r) ∧ SymI l r) ∧ o = pbx L l) := by
 refine aI Tryz.func302 rfl zg _ Tryz.ntmps302 (aC rfl) rfl (fun w Pr β κ hE => ?_)
 dsimp only [slotsV, Nat.zero_add, Nat.reduceAdd]
 repeat' (first | refine qq ?_ | (refine sQ ?_ ?_ <;> intro hb hq <;> try omega))
 refine bB (fun N sl ob => ∃ i : Nat, N = 8 - i ∧ i ≤ 8 ∧ (∀ q ∈ opsL.take i, isT l q.1 = false) ∧ sl = [(8, .d (.int i)), (7, .d (.int 8)), (1, .clo (.func 304) [.box 1001 0]), (0, .d (.list 3 (opsL.map opC)))] ∧ ob = pbx L l) (⟨0, rfl, Nat.zero_le _, by simp, rfl, rfl⟩) ?_
 rintro N sl ob ⟨i, rfl, hi, hs, rfl, rfl⟩
 by_cases hlt : i < 8
 ·have hl8 : i < opsL.length := hlt
  obtain ⟨q, hx⟩ : ∃ q, opsL[i]? = some q := ⟨_, List.getElem?_eq_getElem hl8⟩
  have hg : (opsL.map opC)[i]? = some (opC q) := by rw [List.getElem?_map, hx]; rfl
  have hc := aNt h q.1 q.2.1 q.2.2
  cases hT : isT l q.1
  ·rw [hT] at hc
   have hnext : ∀ p ∈ opsL.take (i + 1), isT l p.1 = false := fun p hp => by
    rw [List.take_add_one, hx] at hp
    rcases List.mem_append.1 hp with hp | hp
    ·exact hs p hp
    ·simp at hp
     subst hp
     exact hT
   repeat' (first | (apply aB (.indexAddr _ _ _); refine aS hg ?_) | (apply aF; refine bN [(1001, 1001), (1000, 1000)] (hc) hE ?_; rintro _ _ ⟨rfl, rfl⟩ <;> (intro _ _ h1 h2; simp only [aO, Nat.reduceBEq, aG, aL, aH] at h1 h2; subst h1 h2)) | refine qq ?_ | (refine sQ ?_ ?_ <;> intro hb hq <;> try omega))
   refine bK (⟨i + 1, rfl, by omega, hnext, rfl, rfl⟩) zb
  ·rw [hT] at hc
   have hy := aQw hx hT
   repeat' (first | (apply aB (.indexAddr _ _ _); refine aS hg ?_) | (apply aF; refine bN [(1001, 1001), (1000, 1000)] (hc) hE ?_; rintro _ _ ⟨rfl, rfl⟩ <;> (intro _ _ h1 h2; simp only [aO, Nat.reduceBEq, aG, aL, aH] at h1 h2; subst h1 h2)) | refine qq ?_ | (refine sQ ?_ ?_ <;> intro hb hq <;> try omega))
   refine aP (pbx L l) (by rfl) rv (⟨⟨i, rfl, .inr ⟨i, q, hlt, rfl, hx, hy⟩⟩, rfl⟩) sb okx
 ·have hno := aUv (l := l) (fun q hq => hs q (by rw [List.take_of_length_le (show opsL.length ≤ i by show 8 ≤ i; omega)]; exact hq))
  repeat' (first | refine qq ?_ | (refine sQ ?_ ?_ <;> intro hb hq <;> try omega))
  refine aP (pbx L l) (by rfl) rv (⟨⟨-1, rfl, .inl ⟨rfl, hno⟩⟩, rfl⟩) sb okx
end
section
open Go.RowKit Go.ChangeShapes Go.WideShapes
theorem aQa {w : World} {Pr : Prot} {u v : Value} (h : RepD w Pr v (.val u)) : v = u := by
 cases h
 rfl
theorem qC {f : FuncId} {us : List Value} {Post : D → Prop} (hf : FnOk f) (h : ∀ w Pr, (∀ b o, Pr b o → b < w.heap.size) → EnvOk w Pr → Calls Tryz.prog f us.toArray w (PostR w Pr Post)) : PureC f (us.map D.val) Post := by
 refine ⟨hf, fun w Pr vs h1 h2 h3 h4 => ?_⟩
 have e : vs = us := by
  apply List.ext_getElem?
  intro i
  have hl : vs.length = us.length := by simpa using h3
  by_cases hi : i < vs.length
  ·have := h4 i vs[i] (.val us[i]) (List.getElem?_eq_getElem hi) (by simp [List.getElem?_eq_getElem (show i < us.length by omega)])
   rw [List.getElem?_eq_getElem hi, List.getElem?_eq_getElem zb, aQa this]
  ·rw [List.getElem?_eq_none zb, List.getElem?_eq_none zb]
 subst e
 exact h w Pr h1 h2
def itoaB (n : Int) : ByteArray := ⟨(Lib.itoa n).toArray⟩
theorem nP (n : Int) (h0 : -9223372036854775808 ≤ n) (h1 : n ≤ 9223372036854775807) : PureC 214 [.int n] (· = .str (itoaB n)) := by
 refine qC (us := [.int .i64 n]) ⟨_, Tryz.func214, by decide, rfl⟩ (fun w Pr _ hE => ?_)
 have ht : Lib.TabIs Tryz.prog w "internal/strconv.uint64pow10" .u64 Lib.pow10Tab := aXe hE (by unfold laidG; exact List.mem_cons_of_mem _ List.mem_cons_self) zp zg
 refine (Tryz.strconv_Itoa n h0 h1 w ht).mono fun e w' ⟨he, k, os, hw⟩ => ?_
 subst hw
 exact ⟨_, _, he, rfl, .val _, Lib.below_grow _ _ (Nat.le_refl _) k os⟩
section
variable {E : Entry} {sl : Slots} {ob : Objs} {d : Option Nat} {t ty T : TypeId} {p : String} {af : Array Edge} {g : Option (Nat × Bool)} {x : Operand}
end
abbrev L (r : ByteArray) : List UInt8 := r.data.toList
abbrev B (l : List UInt8) : ByteArray := ⟨l.toArray⟩
theorem kR (a b : ByteArray) : L (a ++ b) = L a ++ L b := by simp [L, ByteArray.data_append]
theorem wS {u : Nat} (h : u < 10) : (UInt8.ofNat (48 + u)).toNat = 48 + u := by
 rw [UInt8.toNat_ofNat']
 omega
theorem mZ {a b : ByteArray} (h : a.data.toList = b.data.toList) : a = b := by
 apply ByteArray.ext
 exact Array.toList_inj.1 h
end
section
open Go.RowKit
mutual
def Ex.tame : Ex → Prop
 | .mk _ _ _ s a => s.size ≤ 100000 ∧ a.length ≤ 100000 ∧ Ex.tameL a
def Ex.tameL : List Ex → Prop
 | [] => True
 | x :: r => x.tame ∧ Ex.tameL r
end
mutual
def Ex.wide : Ex → Prop
 | .mk _ _ _ s a => s.size ≤ 9223372036854775807 ∧ a.length ≤ 100000 ∧ Ex.wideL a
def Ex.wideL : List Ex → Prop
 | [] => True
 | x :: r => x.wide ∧ Ex.wideL r
end
abbrev inB (a b : Int) : Objs := [(1001, .box 3 [.d (.int a)]), (1002, .box 3 [.d (.int b)])]
abbrev intsD (l : List Int) : D := .list 1 (l.map fun n => [D.int n])
end
end Go.Proofs.YtaodngiigdbgeaaGreatDoor
