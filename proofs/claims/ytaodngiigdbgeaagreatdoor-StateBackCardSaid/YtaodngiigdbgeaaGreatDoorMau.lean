/-
  Conditions: none.
-/
import Derived.Test.YtaodngiigdbgeaaGreatDoorMaa
import Derived.Test.YtaodngiigdbgeaaGreatDoorMal
import Derived.Test.YtaodngiigdbgeaaGreatDoorMam
import Derived.Test.YtaodngiigdbgeaaGreatDoorMat
set_option maxHeartbeats 16000000
set_option maxRecDepth 20000
set_option linter.unusedSimpArgs false
set_option linter.unusedVariables false
namespace Go.Proofs.YtaodngiigdbgeaaGreatDoor
section
open Go.RowKit
def readE (l : List Tok) : Rd Ex := rdE (l.length + 1) 0 l
def behindP (after : ByteArray) (e : Ex) (t : List Tok) : Rd Ex := if isT t after then (if e.levels ≤ 12 then .ok e (t.drop 1) else .bad (nxt t).p 6) else .bad (nxt t).p 12
def wholeP (after : ByteArray) (l : List Tok) : Rd Ex := (readE l).then (behindP after)
def partP (word : ByteArray) (least most : Int) (l : List Tok) : Rd Int :=
 (want l word).then fun _ l => (numP least most l).then fun n l => (want l w_semi).then fun _ l => .ok n l
def freshP (others : List ByteArray) (l : List Tok) : Rd ByteArray :=
 if (nxt l).k = 0 ∧ nameV (nxt l).s = true then (if others.any (fun w => decide (w = (nxt l).s)) then .bad (nxt l).p 5 else .ok (nxt l).s (l.drop 1)) else .bad (nxt l).p 12
theorem aLs {l t : List Tok} {e : Ex} (h : readE l = .ok e t) : ∃ o, Der 0 l e o t := sS _ _ _ _ _ h
theorem aAo {l t : List Tok} {e : Ex} (h : readE l = .ok e t) : Suf l t := aHo h
theorem aMj {after : ByteArray} {l t : List Tok} {e : Ex} (h : wholeP after l = .ok e t) : ∃ u, readE l = .ok e u ∧ isT u after = true ∧ e.levels ≤ 12 ∧ t = u.drop 1 := by
 obtain ⟨e', u, h1, h2⟩ := bD h
 unfold behindP at h2
 split at h2
 ·rename_i h3
  split at h2
  ·rename_i h4
   cases h2
   exact ⟨u, h1, h3, h4, rfl⟩
  ·cases h2
 ·cases h2
theorem eM {after : ByteArray} {l t : List Tok} {e : Ex} (h : wholeP after l = .ok e t) : Suf l t := by
 obtain ⟨u, h1, h2, _, rfl⟩ := aMj h
 exact (aAo h1).trans (cD h2)
theorem aTr {least most n : Int} {l t : List Tok} (h : numP least most l = .ok n t) : (nxt l).k = 1 ∧ n = (nxt l).n ∧ least ≤ n ∧ n ≤ most ∧ t = l.drop 1 := by
 unfold numP at h
 split at h
 ·rename_i h1
  split at h
  ·rename_i h2
   cases h
   exact ⟨h1, rfl, h2.1, h2.2, rfl⟩
  ·cases h
 ·cases h
theorem aEz {least most n : Int} {l t : List Tok} (h : numP least most l = .ok n t) : Suf l t := by
 obtain ⟨h1, _, _, _, rfl⟩ := aTr h
 exact mB zb
theorem aKt {others : List ByteArray} {l t : List Tok} {s : ByteArray} (h : freshP others l = .ok s t) : (nxt l).k = 0 ∧ nameV s = true ∧ s = (nxt l).s ∧ others.any (fun w => decide (w = s)) = false ∧ t = l.drop 1 := by
 unfold freshP at h
 split at h
 ·rename_i h1
  split at h
  ·cases h
  ·rename_i h2
   cases h
   exact ⟨h1.1, h1.2, rfl, Bool.eq_false_iff.2 h2, rfl⟩
 ·cases h
theorem lO {others : List ByteArray} {l t : List Tok} {s : ByteArray} (h : freshP others l = .ok s t) : Suf l t := by
 obtain ⟨h1, _, _, _, rfl⟩ := aKt h
 exact mB zb
theorem aFq {L l : List Tok} (h : Rdy L l) (hx : Texts l) : ObP 268 [.box 1000 0, .d (.int 0)] (psr L l) [] (exO (readE l) L) (Bads (readE l)) := (aPy l.length).run L l 0 h hx (Nat.le_refl _)
section
variable {L l : List Tok}
theorem xW (r0 : Rdy L l) (x0 : Texts l) (after : ByteArray) : ObP 224 [.box 1000 0, .d (.str after)] (psr L l) [] (exO (wholeP after l) L) (Bads (wholeP after l)) := by
 obtain ⟨R, hR⟩ : ∃ R, R = wholeP after l := ⟨_, rfl⟩
 rw [← hR]
 unfold wholeP at hR
 rcases hrE : readE l with ⟨e, t⟩ | ⟨p, c⟩
 ·rw [hrE, bJ] at hR
  have hrd := aHi (aFq r0 x0) hrE
  have r1 := r0.to (aAo hrE)
  obtain ⟨o, hd⟩ := aLs hrE
  have hlv := hd.levels
  have hwd := hd.wid
  have hll := r0.len
  have hl2 := eJ r0.suf
  have hlev := xI e.levels e (Nat.le_refl _) zb zb
  have hle := r1.le
  cases hT : isT t after
  ·have hR : R = .bad (nxt t).p 12 := by rw [hR]; simp [behindP, hT]
   have his := pis r1 after
   rw [hT] at his
   refine bV Tryz.func224 rfl zg _ Tryz.ntmps224 (aC rfl) rfl (fun w Pr β κ hE => ?_)
   dsimp only [slotsV, Nat.zero_add, Nat.reduceAdd]
   repeat' (first | refine oQ [(1000, 1000)] (hrd) hE ?_ | refine oQ [(1000, 1000)] (his) hE ?_ | (apply aF; refine bM [(1000, 1000)] (iF r1 12) hE (fun v hv => by subst hv; (repeat (first | with_reducible refine aW ?_ | with_reducible refine bF ?_)); first | exact aT ⟨_, _, hR, rfl⟩ | exact aT ⟨_, _, rfl, rfl⟩ | exact aT rfl) (fun _ _ h => h.elim)) | refine vh ?_ | refine vy ?_ | apply bU)
  ·have his := pis r1 after
   rw [hT] at his
   by_cases hv : e.levels ≤ 12
   ·have hR : R = .ok e (t.drop 1) := by rw [hR]; simp [behindP, hT, hv]
    have c2 := fY (L := L) (l := t) 6
    rw [← decide_eq_true (show (e.levels : Int) ≤ 12 by omega)] at c2
    refine bV Tryz.func224 rfl zg _ Tryz.ntmps224 (aC rfl) rfl (fun w Pr β κ hE => ?_)
    dsimp only [slotsV, Nat.zero_add, Nat.reduceAdd]
    repeat' (first | refine oQ [(1000, 1000)] (hrd) hE ?_ | refine oQ [(1000, 1000)] (his) hE ?_ | refine oQ [(1000, 1000)] (fY 12) hE ?_ | refine kQ (hlev) hE ?_ | refine oQ [(1000, 1000)] (c2) hE ?_ | refine vq ?_ | refine xf ?_ | refine xw ?_ | apply bU | (apply oJ; refine sR ?_))
    rw [r1.step]
    refine lB ?_
    refine aP (psr L (t.drop 1)) (by rfl) rv (⟨_, _, hR, rfl, rfl⟩) sb okx
   ·have hR : R = .bad (nxt t).p 6 := by rw [hR]; simp [behindP, hT, hv]
    have c2 := iF r1 6
    rw [← decide_eq_false (show ¬ (e.levels : Int) ≤ 12 by omega)] at c2
    refine bV Tryz.func224 rfl zg _ Tryz.ntmps224 (aC rfl) rfl (fun w Pr β κ hE => ?_)
    dsimp only [slotsV, Nat.zero_add, Nat.reduceAdd]
    repeat' (first | refine oQ [(1000, 1000)] (hrd) hE ?_ | refine oQ [(1000, 1000)] (his) hE ?_ | refine oQ [(1000, 1000)] (fY 12) hE ?_ | refine kQ (hlev) hE ?_ | (apply aF; refine bM [(1000, 1000)] (c2) hE (fun v hv => by subst hv; (repeat (first | with_reducible refine aW ?_ | with_reducible refine bF ?_)); first | exact aT ⟨_, _, hR, rfl⟩ | exact aT ⟨_, _, rfl, rfl⟩ | exact aT rfl) (fun _ _ h => h.elim)) | refine vh ?_ | refine vy ?_ | apply bU | (apply oJ; refine sR ?_) | (apply cV; refine eD ?_))
 ·have hR : R = .bad p c := by rw [hR, hrE]; rfl
  refine bV Tryz.func224 rfl zg _ Tryz.ntmps224 (aC rfl) rfl (fun w Pr β κ hE => ?_)
  dsimp only [slotsV, Nat.zero_add, Nat.reduceAdd]
  repeat' (first | (apply aF; refine bM [(1000, 1000)] (aJe (aFq r0 x0) hrE) hE (fun v hv => by subst hv; (repeat (first | with_reducible refine aW ?_ | with_reducible refine bF ?_)); first | exact aT ⟨_, _, hR, rfl⟩ | exact aT ⟨_, _, rfl, rfl⟩ | exact aT rfl) (fun _ _ h => h.elim)) | refine vh ?_ | refine vy ?_ | apply bU)
theorem aPp (r0 : Rdy L l) (word : ByteArray) (least most : Int) : ObP 225 [.box 1000 0, .d (.str word), .d (.int least), .d (.int most)] (psr L l) [] (Out (partP word least most l) (fun n => .d (.int n)) (psr L)) (Bads (partP word least most l)) := by
 obtain ⟨R, hR⟩ : ∃ R, R = partP word least most l := ⟨_, rfl⟩
 rw [← hR]
 unfold partP at hR
 have hw1 := kA r0 word
 refine bV Tryz.func225 rfl zg _ Tryz.ntmps225 (aC rfl) rfl (fun w Pr β κ hE => ?_)
 dsimp only [slotsV, Nat.zero_add, Nat.reduceAdd]
 repeat' (first | (apply aF; refine bM [(1000, 1000)] (hw1) hE (fun v hv => by (repeat (first | with_reducible refine aW ?_ | with_reducible refine bF ?_)); exact aT (aY hR hv)) ?_; rintro _ _ ⟨_, u1, hx1, rfl, rfl⟩; rw [hx1, bJ] at hR; have r1 := r0.to (cH hx1); have hn1 := aTz r1 least most <;> (intro _ _ h1 h2; simp only [aO, Nat.reduceBEq, aG, aL, aH] at h1 h2; subst h1 h2)) | (apply aF; refine bM [(1000, 1000)] (hn1) hE (fun v hv => by (repeat (first | with_reducible refine aW ?_ | with_reducible refine bF ?_)); exact aT (aY hR hv)) ?_; rintro _ _ ⟨n, u2, hx2, rfl, rfl⟩; rw [hx2, bJ] at hR; have r2 := r1.to (aEz hx2); have hw2 := kA r2 w_semi <;> (intro _ _ h1 h2; simp only [aO, Nat.reduceBEq, aG, aL, aH] at h1 h2; subst h1 h2)) | (apply aF; refine bM [(1000, 1000)] (hw2) hE (fun v hv => by (repeat (first | with_reducible refine aW ?_ | with_reducible refine bF ?_)); exact aT (aY hR hv)) ?_; rintro _ _ ⟨_, u3, hx3, rfl, rfl⟩; rw [hx3, bJ] at hR <;> (intro _ _ h1 h2; simp only [aO, Nat.reduceBEq, aG, aL, aH] at h1 h2; subst h1 h2)) | refine qo ?_ | apply bU | (apply kM; refine nF ?_))
 refine lB ?_
 refine aP (psr L u3) (by rfl) rv (⟨_, _, hR, rfl, rfl⟩) sb okx
theorem aWo (r0 : Rdy L l) (x0 : Texts l) (others : List ByteArray) (ho : others.length ≤ 1000) : ObP 267 [.box 1000 0, .d (strsD others)] (psr L l) [] (Out (freshP others l) (fun s => .d (.str s)) (psr L)) (Bads (freshP others l)) := by
 obtain ⟨R, hR⟩ : ∃ R, R = freshP others l := ⟨_, rfl⟩
 rw [← hR]
 unfold freshP at hR
 have hnamed := aHl r0 x0
 have hcon := rT others (nxt l).s zb
 by_cases hn : (nxt l).k = 0 ∧ nameV (nxt l).s = true
 ·rw [if_pos hn] at hR
  have hq : (decide ((nxt l).k = 0) && nameV (nxt l).s) = true := by simp [hn.1, hn.2]
  rw [hq] at hnamed
  have hname := aHi (a := (nxt l).s) (t := l.drop 1) (aFe r0 x0) (by simp [nameP, hn.1, hn.2])
  cases ha : others.any (fun w => decide (w = (nxt l).s))
  ·rw [ha] at hcon
   rw [ha, if_neg (by simp)] at hR
   refine bV Tryz.func267 rfl zg _ Tryz.ntmps267 (aC rfl) rfl (fun w Pr β κ hE => ?_)
   dsimp only [slotsV, Nat.zero_add, Nat.reduceAdd]
   repeat' (first | refine oQ [(1000, 1000)] (hnamed) hE ?_ | refine oQ [(1000, 1000)] (fY 12) hE ?_ | refine oQ [(1000, 1000)] (iM r0) hE ?_ | refine kQ (hcon) hE ?_ | refine oQ [(1000, 1000)] (fY 5) hE ?_ | refine oQ [(1000, 1000)] (hname) hE ?_ | refine nd ?_ | refine xe ?_ | apply bU)
   refine lB ?_
   refine aP (psr L (l.drop 1)) (by rfl) rv (⟨_, _, hR, rfl, rfl⟩) sb okx
  ·rw [ha] at hcon
   rw [ha, if_pos rfl] at hR
   refine bV Tryz.func267 rfl zg _ Tryz.ntmps267 (aC rfl) rfl (fun w Pr β κ hE => ?_)
   dsimp only [slotsV, Nat.zero_add, Nat.reduceAdd]
   repeat' (first | refine oQ [(1000, 1000)] (hnamed) hE ?_ | refine oQ [(1000, 1000)] (fY 12) hE ?_ | refine oQ [(1000, 1000)] (iM r0) hE ?_ | refine kQ (hcon) hE ?_ | (apply aF; refine bM [(1000, 1000)] (iF r0 5) hE (fun v hv => by subst hv; (repeat (first | with_reducible refine aW ?_ | with_reducible refine bF ?_)); first | exact aT ⟨_, _, hR, rfl⟩ | exact aT ⟨_, _, rfl, rfl⟩ | exact aT rfl) (fun _ _ h => h.elim)) | refine nd ?_ | refine xe ?_ | apply bU)
 ·rw [if_neg hn] at hR
  have hq : (decide ((nxt l).k = 0) && nameV (nxt l).s) = false := by
   cases hv : nameV (nxt l).s
   ·simp
   ·simp [hv] at hn
    simp [hn]
  rw [hq] at hnamed
  refine bV Tryz.func267 rfl zg _ Tryz.ntmps267 (aC rfl) rfl (fun w Pr β κ hE => ?_)
  dsimp only [slotsV, Nat.zero_add, Nat.reduceAdd]
  repeat' (first | refine oQ [(1000, 1000)] (hnamed) hE ?_ | (apply aF; refine bM [(1000, 1000)] (iF r0 12) hE (fun v hv => by subst hv; (repeat (first | with_reducible refine aW ?_ | with_reducible refine bF ?_)); first | exact aT ⟨_, _, hR, rfl⟩ | exact aT ⟨_, _, rfl, rfl⟩ | exact aT rfl) (fun _ _ h => h.elim)) | refine nd ?_ | refine xe ?_ | apply bU)
end
end
section
open Go.RowKit
def letsP : Nat → List (ByteArray × Ex) → List Tok → Rd (List (ByteArray × Ex))
 | 0, ls, l => .ok ls l
 | k + 1, ls, l => if isT l w_let then (if ls.length < 20 then (freshP (ls.map (·.1)) (l.drop 1)).then fun s l => (want l w_is).then fun _ l => (wholeP w_semi l).then fun e l => letsP k (ls ++ [(s, e)]) l else .bad (nxt l).p 6) else .ok ls l
theorem xH : ∀ (k k' : Nat) (ls : List (ByteArray × Ex)) (l : List Tok), l.length < k → l.length < k' → letsP k ls l = letsP k' ls l
 | 0, _, _, _, h, _ => by omega
 | _, 0, _, _, _, h => by omega
 | k + 1, k' + 1, ls, l, h, h' => by
  simp only [letsP]
  cases hT : isT l w_let
  ·rfl
  ·simp only [if_true]
   split
   ·have hz := Ends.less (oR hT).1
    refine mC fun s u hu => mC fun _ v hv => mC fun e z hz' => ?_
    have := eJ (lO hu)
    have := kV hv
    have := eJ (eM hz')
    exact xH k k' _ z zb zb
   ·rfl
abbrev letC (q : ByteArray × Ex) : List D := [.str q.1, .int q.2.op, .int q.2.num, .int q.2.unit, .str q.2.str, .list 5 (Ex.rows q.2.args)]
abbrev expZ : List V := [.d (.int 0), .d (.int 0), .d (.int 0), .d (.str ⟨#[]⟩), .d (.val (.slice none 0 0))]
abbrev xB (nm : ByteArray) (r k : Nat) : O := .box 56 [.d (.str nm), .row r k, .d (.int 0), .d (.int 0), .d (.int 0), .d (.str ⟨#[]⟩), .d (.val (.slice none 0 0)), .d (.int 0), .d (.int 0), .d (.int 0), .d (.str ⟨#[]⟩), .d (.val (.slice none 0 0)), .d (.int 0), .d (.int 0), .d (.int 0), .d (.str ⟨#[]⟩), .d (.val (.slice none 0 0)), .d (.int 0), .d (.int 0), .d (.int 0), .d (.str ⟨#[]⟩), .d (.val (.slice none 0 0)), .d (.int 0), .d (.int 0), .d (.int 0)]
abbrev letR (k : Nat) (ls : List (ByteArray × Ex)) : O := .row 288 6 k (ls.map letC)
abbrev letO (L t : List Tok) (nm : ByteArray) (k : Nat) (ls : List (ByteArray × Ex)) : Objs := [(1000, psB L (atN L t)), (1001, xB nm 1002 k), (1002, letR k ls)]
abbrev namR (k : Nat) (ss : List ByteArray) : O := .row 9 1 k (ss.map fun s => [D.str s])
section
variable {L l : List Tok}
theorem plets (r0 : Rdy L l) (x0 : Texts l) (nm : ByteArray) : ObP 223 [.box 1000 0, .box 1001 0] (letO L l nm 0 []) [] (fun x o => ∃ ls t k, letsP (l.length + 1) [] l = .ok ls t ∧ x = .tup [] ∧ o = letO L t nm k ls ∧ ls.length ≤ 20) (Bads (letsP (l.length + 1) [] l)) := by
 obtain ⟨R, hR⟩ : ∃ R, R = letsP (l.length + 1) [] l := ⟨_, rfl⟩
 rw [← hR]
 refine bV Tryz.func223 rfl zg _ Tryz.ntmps223 (aC rfl) rfl (fun w Pr β κ hE => ?_)
 dsimp only [slotsV, Nat.zero_add, Nat.reduceAdd]
 repeat' (first | refine xz ?_ | apply bU | (apply cR; refine dI ?_) | (refine sQ ?_ ?_ <;> intro hb hq <;> try omega))
 refine fJ 4 4 9 1 rfl rfl (aA rfl) ?_
 refine bB (fun N sl ob => ∃ (ls : List (ByteArray × Ex)) (t : List Tok) (k kn : Nat), N = t.length ∧ Rdy L t ∧ Texts t ∧ ls.length ≤ 20 ∧ R = letsP (t.length + 1) ls t ∧ sl = [(4, .row 4 kn), (1, .box 1001 0), (0, .box 1000 0)] ∧ ob = [(4, namR kn (ls.map (·.1))), (1001, xB nm 1002 k), (1002, letR k ls), (1000, psB L (atN L t))]) (⟨[], l, 0, 0, rfl, r0, x0, by simp, hR, rfl, rfl⟩) ?_
 clear hR
 rintro N sl ob ⟨ls, t, k, kn, rfl, r1, x1, hls, hR, rfl, rfl⟩
 simp only [letsP] at hR
 have his := pis r1 w_let
 have hle := r1.le
 cases hT : isT t w_let
 ·rw [hT] at his
  rw [hT, if_neg (by simp)] at hR
  repeat' (first | refine oQ [(1000, 1000)] (his) hE ?_ | refine vh ?_ | refine vx ?_ | apply bU | (refine sQ ?_ ?_ <;> intro hb hq <;> try omega))
  refine lB ?_
  try refine qW ?_
  refine xP (letO L t nm k ls) (by rfl) (⟨ls, t, k, hR, rfl, rfl, hls⟩) sb okx
 rw [hT] at his
 rw [hT, if_pos rfl] at hR
 have hmm : ((ls.map (·.1)).map fun s => [D.str s]).length = ls.length := by simp
 by_cases h20 : ls.length < 20
 ·rw [if_pos h20] at hR
  have c1 := fY (L := L) (l := t) 6
  rw [← decide_eq_true (show (ls.length : Int) < 20 by omega)] at c1
  have r2 := r1.to (cD hT)
  have x2 := x1.suf (cD hT)
  have z2 := Ends.less (oR hT).1
  have hfr := aWo r2 x2 (ls.map (·.1)) jv
  repeat' (first | refine oQ [(1000, 1000)] (his) hE ?_ | refine oQ [(1000, 1000)] (c1) hE ?_ | refine vo ?_ | refine vq ?_ | refine xq ?_ | apply bU | (refine sQ ?_ ?_ <;> intro hb hq <;> try omega) | (apply lT; refine pL ?_))
  rw [r1.step]
  repeat' (first | (apply aF; refine bM [(1000, 1000)] (hfr) hE (fun v hv => by (repeat (first | with_reducible refine aW ?_ | with_reducible refine bF ?_)); exact aT (aY hR hv)) ?_; rintro _ _ ⟨s, u1, hx1, rfl, rfl⟩; rw [hx1, bJ] at hR; have r3 := r2.to (lO hx1); have x3 := x2.suf (lO hx1); have z3 := eJ (lO hx1); have hw1 := kA r3 w_is <;> (intro _ _ h1 h2; simp only [aO, Nat.reduceBEq, aG, aL, aH] at h1 h2; subst h1 h2)) | (apply aF; refine bM [(1000, 1000)] (hw1) hE (fun v hv => by (repeat (first | with_reducible refine aW ?_ | with_reducible refine bF ?_)); exact aT (aY hR hv)) ?_; rintro _ _ ⟨_, u2, hx2, rfl, rfl⟩; rw [hx2, bJ] at hR; have r4 := r3.to (cH hx2); have x4 := x3.suf (cH hx2); have z4 := kV hx2; have hwh := xW r4 x4 w_semi <;> (intro _ _ h1 h2; simp only [aO, Nat.reduceBEq, aG, aL, aH] at h1 h2; subst h1 h2)) | refine vj ?_ | refine xy ?_ | refine xz ?_ | apply bU | (refine sQ ?_ ?_ <;> intro hb hq <;> try omega))
  have hgn : ((((ls.map (·.1)).map fun s => [D.str s]) ++ [[D.str s]]))[ls.length]? = some [D.str s] := by simp
  refine mM (Bads _) ([(4, .row 9 1 (kn + 1) (((ls.map (·.1)).map fun s => [D.str s]) ++ [[D.str s]])), (1001, xB nm 1002 k)]) [(0, true), (1, true), (2, true), (3, true), (4, true), (5, true), (6, true), (7, true), (8, true), (9, true), (10, true), (11, true), (12, false), (13, false), (14, false), (15, false)] [16, 17, 18] zp zp zp zg zw (fun v hv => by (repeat (first | with_reducible refine aW ?_ | with_reducible refine bF ?_)); exact aT hv) ?_
  simp only [planned, tailed, List.filterMap_cons, List.filterMap_nil, List.getElem?_cons_zero, List.getElem?_cons_succ, Option.map_some]
  repeat' (first | apply aZ | refine vt ?_ | (apply aR (.indexAddr _ _ _); refine bS zj (cT zx rfl rfl (by simp) hgn) (aA rfl) ?_) | (apply aR (.build _ _); refine vE zj (eH rfl zd jz) (aA rfl) ?_) | (apply aR (.call { callee := .builtin .append, args := _, argTypes := _ }); refine kB zj rfl rfl rfl zx rfl rfl jt zg zf zf (aA rfl) ?_) | (apply aM; refine mO [(1000, 1000)] (hwh) hE (fun v hv => mJ (aY hR hv)) ?_; rintro _ _ ⟨e, u3, hx3, rfl, rfl⟩; rw [hx3, bJ] at hR; have r5 := r4.to (eM hx3); have x5 := x4.suf (eM hx3); have z5 := eJ (eM hx3) <;> (intro _ _ h1 h2; simp only [aO, Nat.reduceBEq, aG, aL, aH] at h1 h2; subst h1 h2; (try dsimp only [flatV, flat, D.plain, D.plainL]))) | (apply bG; refine bQ ?_) | (apply aPt; refine aVl ?_) | (apply pI; refine uL ?_) | (apply dL; refine gC ?_) | (apply aU; refine bA ?_) | (apply aV; refine bE ?_) | (apply lS; refine oG ?_) | (apply sO; refine vR ?_) | (apply aR (.buildSlice _ _ _); first | refine dK zj rfl zx zk rfl (aC rfl) (aA rfl) ?_ | refine eQ zj rfl zd ze zk zg zg (aA rfl) ?_) | (refine mQ ?_ ?_ <;> intro hb hq <;> try omega))
  have hlt3 : u3.length < t.length := by omega
  rw [xH t.length (u3.length + 1) _ u3 hlt3 zb] at hR
  have hm1 : ls.map letC ++ [D.val (.string s) :: exC e] = (ls ++ [(s, e)]).map letC := by rw [List.map_append]; rfl
  have hm2 : ((ls.map (·.1)).map fun s => [D.str s]) ++ [[D.str s]] = ((ls ++ [(s, e)]).map (·.1)).map fun s => [D.str s] := by simp
  rw [hm1]
  repeat' (first | refine vo ?_ | refine xg ?_ | refine xl ?_ | apply bU | (refine sQ ?_ ?_ <;> intro hb hq <;> try omega) | (apply nE; refine qT ?_) | (apply nU; refine tZ ?_) | (apply fD; refine gF ?_))
  rw [hm2]
  refine bK (⟨ls ++ [(s, e)], u3, k + 1, kn + 1, rfl, r5, x5, by simp; omega, hR, rfl, rfl⟩) (hlt3)
 ·rw [if_neg h20] at hR
  have c1 := iF r1 6
  rw [← decide_eq_false (show ¬ (ls.length : Int) < 20 by omega)] at c1
  repeat' (first | refine oQ [(1000, 1000)] (his) hE ?_ | (apply aF; refine bM [(1000, 1000)] (c1) hE (fun v hv => by subst hv; (repeat (first | with_reducible refine aW ?_ | with_reducible refine bF ?_)); first | exact aT ⟨_, _, hR, rfl⟩ | exact aT ⟨_, _, rfl, rfl⟩ | exact aT rfl) (fun _ _ h => h.elim)) | refine xq ?_ | apply bU | (refine sQ ?_ ?_ <;> intro hb hq <;> try omega))
end
end
section
open Go.RowKit
structure By where
 name : ByteArray
 lets : List (ByteArray × Ex)
 admit : Ex
 fare : Ex
 late : Ex
 noshow : Ex
 quota : Int
 share : Int
 change : Int
def Ex.zero : Ex := .mk 0 0 0 ⟨#[]⟩ []
def By.zero : By := ⟨⟨#[]⟩, [], Ex.zero, Ex.zero, Ex.zero, Ex.zero, 0, 0, 0⟩
def partsP : List ByteArray → List Ex → List Tok → Rd (List Ex)
 | [], es, l => .ok es l
 | w :: ws, es, l => (want l w).then fun _ l => (wholeP w_semi l).then fun e l => partsP ws (es ++ [e]) l
theorem mR {β : Type} (w : ByteArray) (ws : List ByteArray) (es : List Ex) (l : List Tok) (K : List Ex → List Tok → Rd β) : (partsP (w :: ws) es l).then K = (want l w).then fun _ l => (wholeP w_semi l).then fun e l => (partsP ws (es ++ [e]) l).then K := by
 simp only [partsP, qK]
def mkBy (nm : ByteArray) (ls : List (ByteArray × Ex)) (es : List Ex) (q s c : Int) : By := ⟨nm, ls, es.getD 0 Ex.zero, es.getD 1 Ex.zero, es.getD 2 Ex.zero, es.getD 3 Ex.zero, q, s, c⟩
def lastP (x : By) (l : List Tok) : Rd By := if (nxt l).k = 3 then .ok x l else .bad (nxt l).p 12
def numsP (nm : ByteArray) (ls : List (ByteArray × Ex)) (es : List Ex) (l : List Tok) : Rd By :=
 (partP w_quota 0 1000 l).then fun q l => (partP w_share 0 1000 l).then fun s l => (partP w_change 1 1000 l).then fun c l => lastP (mkBy nm ls es q s c) l
abbrev wsL : List ByteArray := [w_admit, w_fare, w_late, w_noshow]
def bylawsP (l : List Tok) : Rd By :=
 (want l w_bylaws).then fun _ l => (nameP nameV l).then fun nm l => (want l w_semi).then fun _ l => (letsP (l.length + 1) [] l).then fun ls l => (partsP wsL [] l).then fun es l => numsP nm ls es l
abbrev byC (x : By) : List D := [.str x.name, .list 6 (x.lets.map letC), .int x.admit.op, .int x.admit.num, .int x.admit.unit, .str x.admit.str, .list 5 (Ex.rows x.admit.args), .int x.fare.op, .int x.fare.num, .int x.fare.unit, .str x.fare.str, .list 5 (Ex.rows x.fare.args), .int x.late.op, .int x.late.num, .int x.late.unit, .str x.late.str, .list 5 (Ex.rows x.late.args), .int x.noshow.op, .int x.noshow.num, .int x.noshow.unit, .str x.noshow.str, .list 5 (Ex.rows x.noshow.args), .int x.quota, .int x.share, .int x.change]
theorem tR : ∀ (k : Nat) (ls : List (ByteArray × Ex)) (l : List Tok) {r : List (ByteArray × Ex)} {t : List Tok}, letsP k ls l = .ok r t → Suf l t
 | 0, ls, l, r, t, h => by cases h; exact .refl _
 | k + 1, ls, l, r, t, h => by
  simp only [letsP] at h
  split at h
  ·rename_i hT
   split at h
   ·obtain ⟨s, u1, h1, g1⟩ := bD h
    obtain ⟨_, u2, h2, g2⟩ := bD g1
    obtain ⟨e, u3, h3, g3⟩ := bD g2
    exact (cD hT).trans ((lO h1).trans ((cH h2).trans ((eM h3).trans (tR k _ _ g3))))
   ·cases h
  ·cases h
   exact .refl _
theorem tW {w : ByteArray} {a b n : Int} {l t : List Tok} (h : partP w a b l = .ok n t) : Suf l t := by
 obtain ⟨_, u1, h1, g1⟩ := bD h
 obtain ⟨m, u2, h2, g2⟩ := bD g1
 obtain ⟨_, u3, h3, g3⟩ := bD g2
 cases g3
 exact (cH h1).trans ((aEz h2).trans (cH h3))
abbrev exV (e : Ex) : List V := [.d (.int e.op), .d (.int e.num), .d (.int e.unit), .d (.str e.str), .d (.list 5 (Ex.rows e.args))]
def fillV : List Ex → List V
 | [] => expZ ++ (expZ ++ (expZ ++ expZ))
 | [a] => exV a ++ (expZ ++ (expZ ++ expZ))
 | [a, b] => exV a ++ (exV b ++ (expZ ++ expZ))
 | [a, b, c] => exV a ++ (exV b ++ (exV c ++ expZ))
 | a :: b :: c :: d :: _ => exV a ++ (exV b ++ (exV c ++ exV d))
abbrev byB (nm : ByteArray) (r k : Nat) (cells : List V) : O := .box 56 (.d (.str nm) :: .row r k :: (cells ++ [.d (.int 0), .d (.int 0), .d (.int 0)]))
abbrev prtB : O := .box 259 [.d (.str w_admit), .box 3 2, .d (.str w_fare), .box 3 7, .d (.str w_late), .box 3 12, .d (.str w_noshow), .box 3 17]
abbrev zeroBy : O := .box 56 (.d (.str ⟨#[]⟩) :: .d (.val (.slice none 0 0)) :: (fillV [] ++ [.d (.int 0), .d (.int 0), .d (.int 0)]))
abbrev byO (R : Rd By) (L : List Tok) : V → Objs → Prop := Out R (fun x => .d (.agg (byC x))) (psr L)
section
variable {L l : List Tok}
theorem aTv (r0 : Rdy L l) (x0 : Texts l) : ObP 156 [.box 1000 0] (psr L l) [] (byO (bylawsP l) L) (Bads (bylawsP l)) := by
 obtain ⟨R, hR⟩ : ∃ R, R = bylawsP l := ⟨_, rfl⟩
 rw [← hR]
 unfold bylawsP at hR
 have hw1 := kA r0 w_bylaws
 refine bV Tryz.func156 rfl zg _ Tryz.ntmps156 (aC rfl) rfl (fun w Pr β κ hE => ?_)
 dsimp only [slotsV, Nat.zero_add, Nat.reduceAdd]
 repeat' (first | refine xz ?_ | apply bU | (refine sQ ?_ ?_ <;> intro hb hq <;> try omega) | (apply gX; refine iX ?_))
 refine eV 3 1 50 288 6 rfl rfl rfl (aA rfl) rfl rfl ?_
 repeat' (first | (apply aF; refine bM [(1000, 1000)] (hw1) hE (fun v hv => by (repeat (first | with_reducible refine aW ?_ | with_reducible refine bF ?_)); exact aT (aY hR hv)) ?_; rintro _ _ ⟨_, u1, hx1, rfl, rfl⟩; rw [hx1, bJ] at hR; have r1 := r0.to (cH hx1); have x1 := x0.suf (cH hx1); have hnm := aFe r1 x1 <;> (intro _ _ h1 h2; simp only [aO, Nat.reduceBEq, aG, aL, aH] at h1 h2; subst h1 h2)) | (apply aF; refine bM [(1000, 1000)] (hnm) hE (fun v hv => by (repeat (first | with_reducible refine aW ?_ | with_reducible refine bF ?_)); exact aT (aY hR hv)) ?_; rintro _ _ ⟨nm, u2, hx2, rfl, rfl⟩; rw [hx2, bJ] at hR; have r2 := r1.to (pP hx2); have x2 := x1.suf (pP hx2); have hw2 := kA r2 w_semi <;> (intro _ _ h1 h2; simp only [aO, Nat.reduceBEq, aG, aL, aH] at h1 h2; subst h1 h2)) | (apply aF; refine bM [(1000, 1000)] (hw2) hE (fun v hv => by (repeat (first | with_reducible refine aW ?_ | with_reducible refine bF ?_)); exact aT (aY hR hv)) ?_; rintro _ _ ⟨_, u3, hx3, rfl, rfl⟩; rw [hx3, bJ] at hR; have r3 := r2.to (cH hx3); have x3 := x2.suf (cH hx3); have hls := plets r3 x3 nm <;> (intro _ _ h1 h2; simp only [aO, Nat.reduceBEq, aG, aL, aH] at h1 h2; subst h1 h2)) | (apply aF; refine bM [(1000, 1000), (1001, 3), (1002, 50)] (hls) hE (fun v hv => by (repeat (first | with_reducible refine aW ?_ | with_reducible refine bF ?_)); exact aT (aY hR hv)) ?_; rintro _ _ ⟨ls, u4, k, hx4, rfl, rfl, hls20⟩; rw [hx4, bJ] at hR; have r4 := r3.to (tR _ _ _ hx4); have x4 := x3.suf (tR _ _ _ hx4) <;> (intro _ _ h1 h2; simp only [aO, Nat.reduceBEq, aG, aL, aH] at h1 h2; subst h1 h2)) | (apply aB (.build _ _); refine aK (aRp rfl (by repeat (first | exact PartsS.nil | (apply PartsS.cons; rfl; constructor; rfl))) rfl rfl) (aA rfl) ?_) | (apply aB (.buildSlice _ _ _); refine aD (aUr rfl rfl rfl rfl rfl (aA rfl) rfl rfl) rfl ?_) | refine qr ?_ | refine vk ?_ | apply bU | (refine sQ ?_ ?_ <;> intro hb hq <;> try omega) | (apply dH; refine eO ?_) | (apply fD; refine gF ?_) | (apply kM; refine nF ?_))
 clear hw1 hnm hw2 hls hx1 hx2 hx3 hx4
 refine bB (fun N sl ob => ∃ (i : Nat) (es : List Ex) (t : List Tok) (k : Nat), N = 4 - i ∧ es.length = i ∧ i ≤ 4 ∧ Rdy L t ∧ Texts t ∧ R = (partsP (wsL.drop i) es t).then (fun es l => numsP nm ls es l) ∧ sl = [(27, .d (.int i)), (26, .d (.int 4)), (25, .sl 25 0 4), (3, .box 3 0), (2, .box 2 0), (0, .box 1000 0)] ∧ ob = [(25, prtB), (3, byB nm 50 k (fillV es)), (2, zeroBy), (50, letR k ls), (1000, psB L (atN L t))]) (⟨0, [], u4, k, rfl, rfl, by omega, r4, x4, hR, rfl, rfl⟩) ?_
 clear hR r4 x4 r3 x3 r2 x2 r1 x1
 rintro N sl ob ⟨i, es, t, k, rfl, hes, hi, r1, x1, hR, rfl, rfl⟩
 rcases (by omega : i = 0 ∨ i = 1 ∨ i = 2 ∨ i = 3 ∨ i = 4) with rfl | rfl | rfl | rfl | rfl
 ·match es, hes with
  | [], _ =>
   rw [show List.drop 0 wsL = w_admit :: List.drop 1 wsL from rfl, mR] at hR
   have hw1 := kA r1 w_admit
   simp only [fillV, List.cons_append, List.nil_append]
   repeat' (first | (apply aB (.indexAddr _ _ _); refine aK (mG rfl rfl rfl zq zb rfl) (aA rfl) ?_) | (apply aB (.load _ _); refine aK (bW rfl rfl rfl rfl rfl zg) (aA rfl) ?_) | (apply aB (.store _ _ _); refine aD (aN rfl rfl (aBm rfl) nofun zk zo (.inr rfl) rfl (aC rfl) zk) rfl ?_) | (apply aF; refine bM [(1000, 1000)] (hw1) hE (fun v hv => by (repeat (first | with_reducible refine aW ?_ | with_reducible refine bF ?_)); exact aT (aY hR hv)) ?_; rintro _ _ ⟨_, u1, hx1, rfl, rfl⟩; rw [hx1, bJ] at hR; have r2 := r1.to (cH hx1); have x2 := x1.suf (cH hx1); have hwh := xW r2 x2 w_semi <;> (intro _ _ h1 h2; simp only [aO, Nat.reduceBEq, aG, aL, aH] at h1 h2; subst h1 h2)) | refine qt ?_ | refine vy ?_ | refine xi ?_ | apply bU | (refine sQ ?_ ?_ <;> intro hb hq <;> try omega))
   refine mM (Bads _) ([(5, .box 259 [.d (.str w_admit), .box 3 2])]) [(0, true), (1, true), (2, true), (3, false)] [4, 5] zp zp zp zg zw (fun v hv => by (repeat (first | with_reducible refine aW ?_ | with_reducible refine bF ?_)); exact aT hv) ?_
   simp only [planned, tailed, List.filterMap_cons, List.filterMap_nil, List.getElem?_cons_zero, List.getElem?_cons_succ, Option.map_some]
   repeat' (first | apply aZ | refine vt ?_ | (apply aM; refine mO [(1000, 1000)] (hwh) hE (fun v hv => mJ (aY hR hv)) ?_; rintro _ _ ⟨e, u2, hx2, rfl, rfl⟩; rw [hx2, bJ] at hR; have r3 := r2.to (eM hx2); have x3 := x2.suf (eM hx2) <;> (intro _ _ h1 h2; simp only [aO, Nat.reduceBEq, aG, aL, aH] at h1 h2; subst h1 h2; (try dsimp only [flatV, flat, D.plain, D.plainL]))) | (apply bG; refine bQ ?_) | (apply aU; refine bA ?_) | (apply aV; refine bE ?_) | (refine mQ ?_ ?_ <;> intro hb hq <;> try omega))
   repeat' (first | refine qn ?_ | refine vo ?_ | refine vq ?_ | apply bU | (refine sQ ?_ ?_ <;> intro hb hq <;> try omega))
   refine bK (⟨1, [e], u2, k, rfl, rfl, by omega, r3, x3, hR, rfl, rfl⟩) zb
 ·match es, hes with
  | [a], _ =>
   rw [show List.drop 1 wsL = w_fare :: List.drop 2 wsL from rfl, mR] at hR
   have hw1 := kA r1 w_fare
   simp only [fillV, List.cons_append, List.nil_append]
   repeat' (first | (apply aB (.indexAddr _ _ _); refine aK (mG rfl rfl rfl zq zb rfl) (aA rfl) ?_) | (apply aB (.load _ _); refine aK (bW rfl rfl rfl rfl rfl zg) (aA rfl) ?_) | (apply aB (.store _ _ _); refine aD (aN rfl rfl (aBm rfl) nofun zk zo (.inr rfl) rfl (aC rfl) zk) rfl ?_) | (apply aF; refine bM [(1000, 1000)] (hw1) hE (fun v hv => by (repeat (first | with_reducible refine aW ?_ | with_reducible refine bF ?_)); exact aT (aY hR hv)) ?_; rintro _ _ ⟨_, u1, hx1, rfl, rfl⟩; rw [hx1, bJ] at hR; have r2 := r1.to (cH hx1); have x2 := x1.suf (cH hx1); have hwh := xW r2 x2 w_semi <;> (intro _ _ h1 h2; simp only [aO, Nat.reduceBEq, aG, aL, aH] at h1 h2; subst h1 h2)) | refine qt ?_ | refine vy ?_ | refine xi ?_ | apply bU | (refine sQ ?_ ?_ <;> intro hb hq <;> try omega))
   refine mM (Bads _) ([(5, .box 259 [.d (.str w_fare), .box 3 7])]) [(0, true), (1, true), (2, true), (3, false)] [4, 5] zp zp zp zg zw (fun v hv => by (repeat (first | with_reducible refine aW ?_ | with_reducible refine bF ?_)); exact aT hv) ?_
   simp only [planned, tailed, List.filterMap_cons, List.filterMap_nil, List.getElem?_cons_zero, List.getElem?_cons_succ, Option.map_some]
   repeat' (first | apply aZ | refine vt ?_ | (apply aM; refine mO [(1000, 1000)] (hwh) hE (fun v hv => mJ (aY hR hv)) ?_; rintro _ _ ⟨e, u2, hx2, rfl, rfl⟩; rw [hx2, bJ] at hR; have r3 := r2.to (eM hx2); have x3 := x2.suf (eM hx2) <;> (intro _ _ h1 h2; simp only [aO, Nat.reduceBEq, aG, aL, aH] at h1 h2; subst h1 h2; (try dsimp only [flatV, flat, D.plain, D.plainL]))) | (apply bG; refine bQ ?_) | (apply aU; refine bA ?_) | (apply aV; refine bE ?_) | (refine mQ ?_ ?_ <;> intro hb hq <;> try omega))
   repeat' (first | refine qn ?_ | refine vo ?_ | refine vq ?_ | apply bU | (refine sQ ?_ ?_ <;> intro hb hq <;> try omega))
   refine bK (⟨2, [a, e], u2, k, rfl, rfl, by omega, r3, x3, hR, rfl, rfl⟩) zb
 ·match es, hes with
  | [a, b], _ =>
   rw [show List.drop 2 wsL = w_late :: List.drop 3 wsL from rfl, mR] at hR
   have hw1 := kA r1 w_late
   simp only [fillV, List.cons_append, List.nil_append]
   repeat' (first | (apply aB (.indexAddr _ _ _); refine aK (mG rfl rfl rfl zq zb rfl) (aA rfl) ?_) | (apply aB (.load _ _); refine aK (bW rfl rfl rfl rfl rfl zg) (aA rfl) ?_) | (apply aB (.store _ _ _); refine aD (aN rfl rfl (aBm rfl) nofun zk zo (.inr rfl) rfl (aC rfl) zk) rfl ?_) | (apply aF; refine bM [(1000, 1000)] (hw1) hE (fun v hv => by (repeat (first | with_reducible refine aW ?_ | with_reducible refine bF ?_)); exact aT (aY hR hv)) ?_; rintro _ _ ⟨_, u1, hx1, rfl, rfl⟩; rw [hx1, bJ] at hR; have r2 := r1.to (cH hx1); have x2 := x1.suf (cH hx1); have hwh := xW r2 x2 w_semi <;> (intro _ _ h1 h2; simp only [aO, Nat.reduceBEq, aG, aL, aH] at h1 h2; subst h1 h2)) | refine qt ?_ | refine vy ?_ | refine xi ?_ | apply bU | (refine sQ ?_ ?_ <;> intro hb hq <;> try omega))
   refine mM (Bads _) ([(5, .box 259 [.d (.str w_late), .box 3 12])]) [(0, true), (1, true), (2, true), (3, false)] [4, 5] zp zp zp zg zw (fun v hv => by (repeat (first | with_reducible refine aW ?_ | with_reducible refine bF ?_)); exact aT hv) ?_
   simp only [planned, tailed, List.filterMap_cons, List.filterMap_nil, List.getElem?_cons_zero, List.getElem?_cons_succ, Option.map_some]
   repeat' (first | apply aZ | refine vt ?_ | (apply aM; refine mO [(1000, 1000)] (hwh) hE (fun v hv => mJ (aY hR hv)) ?_; rintro _ _ ⟨e, u2, hx2, rfl, rfl⟩; rw [hx2, bJ] at hR; have r3 := r2.to (eM hx2); have x3 := x2.suf (eM hx2) <;> (intro _ _ h1 h2; simp only [aO, Nat.reduceBEq, aG, aL, aH] at h1 h2; subst h1 h2; (try dsimp only [flatV, flat, D.plain, D.plainL]))) | (apply bG; refine bQ ?_) | (apply aU; refine bA ?_) | (apply aV; refine bE ?_) | (refine mQ ?_ ?_ <;> intro hb hq <;> try omega))
   repeat' (first | refine qn ?_ | refine vo ?_ | refine vq ?_ | apply bU | (refine sQ ?_ ?_ <;> intro hb hq <;> try omega))
   refine bK (⟨3, [a, b, e], u2, k, rfl, rfl, by omega, r3, x3, hR, rfl, rfl⟩) zb
 ·match es, hes with
  | [a, b, c], _ =>
   rw [show List.drop 3 wsL = w_noshow :: List.drop 4 wsL from rfl, mR] at hR
   have hw1 := kA r1 w_noshow
   simp only [fillV, List.cons_append, List.nil_append]
   repeat' (first | (apply aB (.indexAddr _ _ _); refine aK (mG rfl rfl rfl zq zb rfl) (aA rfl) ?_) | (apply aB (.load _ _); refine aK (bW rfl rfl rfl rfl rfl zg) (aA rfl) ?_) | (apply aB (.store _ _ _); refine aD (aN rfl rfl (aBm rfl) nofun zk zo (.inr rfl) rfl (aC rfl) zk) rfl ?_) | (apply aF; refine bM [(1000, 1000)] (hw1) hE (fun v hv => by (repeat (first | with_reducible refine aW ?_ | with_reducible refine bF ?_)); exact aT (aY hR hv)) ?_; rintro _ _ ⟨_, u1, hx1, rfl, rfl⟩; rw [hx1, bJ] at hR; have r2 := r1.to (cH hx1); have x2 := x1.suf (cH hx1); have hwh := xW r2 x2 w_semi <;> (intro _ _ h1 h2; simp only [aO, Nat.reduceBEq, aG, aL, aH] at h1 h2; subst h1 h2)) | refine qt ?_ | refine vy ?_ | refine xi ?_ | apply bU | (refine sQ ?_ ?_ <;> intro hb hq <;> try omega))
   refine mM (Bads _) ([(5, .box 259 [.d (.str w_noshow), .box 3 17])]) [(0, true), (1, true), (2, true), (3, false)] [4, 5] zp zp zp zg zw (fun v hv => by (repeat (first | with_reducible refine aW ?_ | with_reducible refine bF ?_)); exact aT hv) ?_
   simp only [planned, tailed, List.filterMap_cons, List.filterMap_nil, List.getElem?_cons_zero, List.getElem?_cons_succ, Option.map_some]
   repeat' (first | apply aZ | refine vt ?_ | (apply aM; refine mO [(1000, 1000)] (hwh) hE (fun v hv => mJ (aY hR hv)) ?_; rintro _ _ ⟨e, u2, hx2, rfl, rfl⟩; rw [hx2, bJ] at hR; have r3 := r2.to (eM hx2); have x3 := x2.suf (eM hx2) <;> (intro _ _ h1 h2; simp only [aO, Nat.reduceBEq, aG, aL, aH] at h1 h2; subst h1 h2; (try dsimp only [flatV, flat, D.plain, D.plainL]))) | (apply bG; refine bQ ?_) | (apply aU; refine bA ?_) | (apply aV; refine bE ?_) | (refine mQ ?_ ?_ <;> intro hb hq <;> try omega))
   repeat' (first | refine qn ?_ | refine vo ?_ | refine vq ?_ | apply bU | (refine sQ ?_ ?_ <;> intro hb hq <;> try omega))
   refine bK (⟨4, [a, b, c, e], u2, k, rfl, rfl, by omega, r3, x3, hR, rfl, rfl⟩) zb
 ·match es, hes with
  | [a, b, c, d], _ =>
   simp only [wsL, List.drop_succ_cons, List.drop_nil, partsP, bJ] at hR
   unfold numsP at hR
   have hq := aPp r1 w_quota 0 1000
   have q0 : decide (((4 : Nat) : Int) < 4) = false := rfl
   simp only [fillV, List.cons_append, List.nil_append]
   repeat' (first | (apply aF; refine bM [(1000, 1000)] (hq) hE (fun v hv => by (repeat (first | with_reducible refine aW ?_ | with_reducible refine bF ?_)); exact aT (aY hR hv)) ?_; rintro _ _ ⟨n1, u1, hx1, rfl, rfl⟩; rw [hx1, bJ] at hR; have r2 := r1.to (tW hx1); have hs1 := aPp r2 w_share 0 1000 <;> (intro _ _ h1 h2; simp only [aO, Nat.reduceBEq, aG, aL, aH] at h1 h2; subst h1 h2)) | (apply aF; refine bM [(1000, 1000)] (hs1) hE (fun v hv => by (repeat (first | with_reducible refine aW ?_ | with_reducible refine bF ?_)); exact aT (aY hR hv)) ?_; rintro _ _ ⟨n2, u2, hx2, rfl, rfl⟩; rw [hx2, bJ] at hR; have r3 := r2.to (tW hx2); have hc1 := aPp r3 w_change 1 1000 <;> (intro _ _ h1 h2; simp only [aO, Nat.reduceBEq, aG, aL, aH] at h1 h2; subst h1 h2)) | (apply aF; refine bM [(1000, 1000)] (hc1) hE (fun v hv => by (repeat (first | with_reducible refine aW ?_ | with_reducible refine bF ?_)); exact aT (aY hR hv)) ?_; rintro _ _ ⟨n3, u3, hx3, rfl, rfl⟩; rw [hx3, bJ] at hR; have r4 := r3.to (tW hx3); have hnx := iM r4 <;> (intro _ _ h1 h2; simp only [aO, Nat.reduceBEq, aG, aL, aH] at h1 h2; subst h1 h2)) | refine xi ?_ | apply bU | (refine sQ ?_ ?_ <;> intro hb hq <;> try omega) | (apply dH; refine eO ?_) | (apply dY; refine fG ?_))
   by_cases hk : (nxt u3).k = 3
   ·have c1 := fY (L := L) (l := u3) 12
    rw [← decide_eq_true hk] at c1
    have hR : R = .ok (mkBy nm ls [a, b, c, d] n1 n2 n3) u3 := by rw [hR]; simp [lastP, hk]
    repeat' (first | refine oQ [(1000, 1000)] (hnx) hE ?_ | refine oQ [(1000, 1000)] (c1) hE ?_ | refine vh ?_ | refine vx ?_ | apply bU | (refine sQ ?_ ?_ <;> intro hb hq <;> try omega) | (apply lU; refine pM ?_) | (apply jV; refine lE ?_))
    refine dD 3 1 rfl rfl (ToD.row _ _ _ _ _ rfl) rfl ?_
    repeat' (first | refine qv ?_ | refine xz ?_ | apply bU | (refine sQ ?_ ?_ <;> intro hb hq <;> try omega))
    refine lB ?_
    refine aP (psr L u3) (by rfl) rv (⟨_, _, hR, rfl, rfl⟩) sb okx
   ·have c1 := iF r4 12
    rw [← decide_eq_false hk] at c1
    have hR : R = .bad (nxt u3).p 12 := by rw [hR]; simp [lastP, hk]
    repeat' (first | refine oQ [(1000, 1000)] (hnx) hE ?_ | (apply aF; refine bM [(1000, 1000)] (c1) hE (fun v hv => by subst hv; (repeat (first | with_reducible refine aW ?_ | with_reducible refine bF ?_)); first | exact aT ⟨_, _, hR, rfl⟩ | exact aT ⟨_, _, rfl, rfl⟩ | exact aT rfl) (fun _ _ h => h.elim)) | refine vh ?_ | refine vx ?_ | apply bU | (refine sQ ?_ ?_ <;> intro hb hq <;> try omega) | (apply lU; refine pM ?_) | (apply jV; refine lE ?_))
end
end
section
open Go.RowKit
abbrev rpB (L : List Tok) (k e p : Int) : O := .box 240 [.d (.list 4 (L.map Tok.cells)), .d (.int k), .d (.int e), .d (.int p)]
abbrev rps (L l : List Tok) : Objs := [(1000, rpB L (atN L l) 0 0)]
abbrev rpe (L : List Tok) (k e p : Int) : Objs := [(1000, rpB L k e p)]
def RefO {α : Type} (R : Rd α) (val : α → V) (L : List Tok) : V → Objs → Prop := fun x o => (∃ a t, R = .ok a t ∧ x = val a ∧ o = rps L t) ∨ ∃ p e k a, R = .bad p e ∧ e ≠ 0 ∧ x = val a ∧ o = rpe L k e p
def ErrO {α : Type} (val : α → V) (L : List Tok) (k e p : Int) : V → Objs → Prop := fun x o => (∃ a, x = val a) ∧ o = rpe L k e p
abbrev strV : ByteArray → V := fun s => .d (.str s)
abbrev intV : Int → V := fun s => .d (.int s)
abbrev expV' : Ex → V := fun e => .d (.agg (exC e))
abbrev unitV : Unit → V := fun _ => .tup []
section
variable {L l : List Tok} {k e p : Int}
end
end
section
open Go.RowKit
theorem iS {α : Type} (f : α → Bool) {l : List α} {i : Nat} (h : i < l.length) : (l.take (i + 1)).all f = ((l.take i).all f && f l[i]) := by
 rw [List.take_succ_eq_append_getElem h, List.all_append]
 simp only [List.all_cons, List.all_nil, Bool.and_true]
end
end Go.Proofs.YtaodngiigdbgeaaGreatDoor
