/-
  Conditions: none.
-/
import Derived.Test.YtaodngiigdbgeaaGreatDoorMaa
import Derived.Test.YtaodngiigdbgeaaGreatDoorMal
import Derived.Test.YtaodngiigdbgeaaGreatDoorMam
import Derived.Test.YtaodngiigdbgeaaGreatDoorMas
set_option maxHeartbeats 16000000
set_option maxRecDepth 20000
set_option linter.unusedSimpArgs false
set_option linter.unusedVariables false
namespace Go.Proofs.YtaodngiigdbgeaaGreatDoor
section
open Go.RowKit
abbrev dpB (d : Nat) : Objs := [(1001, .box 3 [.d (.int d)])]
abbrev exO' (e : Ex) : O := .box 54 [.d (.int e.op), .d (.int e.num), .d (.int e.unit), .d (.str e.str), .d (.list 5 (Ex.rows e.args))]
end
section
open Go.RowKit
theorem aY {α β : Type} {R : Rd β} {x : Rd α} {f : α → List Tok → Rd β} (hR : R = x.then f) {v : Value} (hv : Bads x v) : Bads R v := by
 obtain ⟨p, e, rfl, h⟩ := hv
 exact ⟨p, e, by rw [hR]; rfl, h⟩
theorem cH {l t : List Tok} {w : ByteArray} {x : Unit} (h : want l w = .ok x t) : Suf l t := by
 obtain ⟨h1, rfl⟩ := mW h
 exact cD h1
theorem kV {l t : List Tok} {w : ByteArray} {x : Unit} (h : want l w = .ok x t) : t.length + 1 = l.length := by
 obtain ⟨h1, rfl⟩ := mW h
 exact Ends.less (oR h1).1
abbrev exO (R : Rd Ex) (L : List Tok) : V → Objs → Prop := Out R (fun e => .d (.agg (exC e))) (psr L)
structure RecOk (rec : Nat → List Tok → Rd Ex) (m : Nat) : Prop where
 suf : ∀ f l e t, rec f l = .ok e t → Suf l t
 run : ∀ (L l : List Tok) (form : Nat), Rdy L l → Texts l → l.length ≤ m → ObP 268 [.box 1000 0, .d (.int form)] (psr L l) [] (exO (rec form l) L) (Bads (rec form l))
theorem aJu (op : Int) (a b : Ex) : exC (two op a b) = [.int op, .int 0, .int 0, .str ⟨#[]⟩, .list 5 [exC a, exC b]] := by
 show [D.int op, D.int 0, D.int 0, D.str ⟨#[]⟩, D.list 5 (Ex.rows [a, b])] = _
 rw [lY]
 rfl
abbrev tokBox (t : Tok) : O := .box 265 [.d (.int t.k), .d (.str t.s), .d (.int t.n), .d (.int t.p)]
section
variable {rec : Nat → List Tok → Rd Ex} {m : Nat} {L l : List Tok}
theorem pprim (hrec : RecOk rec m) (r0 : Rdy L l) (x0 : Texts l) (hm : l.length ≤ m + 1) : ObP 323 [.box 1000 0] (psr L l) [] (exO (primP nameV rec l) L) (Bads (primP nameV rec l)) := by
 have hle := r0.le
 obtain ⟨R, hR⟩ : ∃ R, R = primP nameV rec l := ⟨_, rfl⟩
 rw [← hR]
 unfold primP at hR
 by_cases hk : (nxt l).k = 1
 ·have q1 : decide ((nxt l).k = 1) = true := decide_eq_true hk
  rw [if_pos hk] at hR
  have r1 := r0.to (mB (l := l) zb)
  refine bV Tryz.func323 rfl zg _ Tryz.ntmps323 (aC rfl) rfl (fun w Pr β κ hE => ?_)
  dsimp only [slotsV, Nat.zero_add, Nat.reduceAdd]
  repeat' (first | refine oQ [(1000, 1000)] (iM r0) hE ?_ | refine vb ?_ | refine vd ?_ | refine vw ?_ | refine vx ?_ | refine xf ?_ | refine xv ?_ | apply bU | (refine sQ ?_ ?_ <;> intro hb hq <;> try omega) | (refine wQ ?_ ?_ <;> intro hb hq <;> try omega))
  rw [r0.step]
  refine cC ([(3, tokBox (nxt l))]) [(0, true), (1, true), (2, true), (3, false), (4, true)] [5] zp zp zp zg zw ?_
  simp only [planned, tailed, List.filterMap_cons, List.filterMap_nil, List.getElem?_cons_zero, List.getElem?_cons_succ, Option.map_some]
  repeat' (first | apply aZ | refine vt ?_ | (apply aM; refine fO [(1000, 1000)] (punit r1) hE ?_; rintro _ _ ⟨rfl, rfl⟩ <;> (intro _ _ h1 h2; simp only [aO, Nat.reduceBEq, aG, aL, aH] at h1 h2; subst h1 h2; (try dsimp only [flatV, flat, D.plain, D.plainL]))) | (apply bG; refine bQ ?_) | (apply aU; refine bA ?_) | (apply aV; refine bE ?_) | (apply nS; refine qB ?_) | (refine mQ ?_ ?_ <;> intro hb hq <;> try omega))
  repeat' (first | refine vb ?_ | refine vd ?_ | refine vw ?_ | refine vx ?_ | refine xf ?_ | refine xv ?_ | apply bU | (refine sQ ?_ ?_ <;> intro hb hq <;> try omega) | (refine wQ ?_ ?_ <;> intro hb hq <;> try omega))
  refine dC 2 4 5 rfl rfl rfl ?_
  refine lB ?_
  refine aP (psr L (unitP (l.drop 1)).2) (by rfl) rv (⟨_, _, hR, rfl, rfl⟩) sb okx
 have q1 : decide ((nxt l).k = 1) = false := decide_eq_false hk
 rw [if_neg hk] at hR
 cases t1 : isT l w_true
 rotate_left
 ·rw [t1, if_pos rfl] at hR
  refine bV Tryz.func323 rfl zg _ Tryz.ntmps323 (aC rfl) rfl (fun w Pr β κ hE => ?_)
  dsimp only [slotsV, Nat.zero_add, Nat.reduceAdd]
  repeat' (first | refine oQ [(1000, 1000)] (iM r0) hE ?_ | refine oQ [(1000, 1000)] (lR r0 w_true t1) hE ?_ | refine vb ?_ | refine vd ?_ | refine vw ?_ | refine vx ?_ | refine xf ?_ | refine xv ?_ | apply bU | (refine sQ ?_ ?_ <;> intro hb hq <;> try omega) | (refine wQ ?_ ?_ <;> intro hb hq <;> try omega))
  refine dC 2 4 5 rfl rfl rfl ?_
  refine lB ?_
  refine aP (psr L (l.drop 1)) (by rfl) rv (⟨_, _, hR, rfl, rfl⟩) sb okx
 rw [t1, if_neg (by simp)] at hR
 cases t2 : isT l w_false
 rotate_left
 ·rw [t2, if_pos rfl] at hR
  refine bV Tryz.func323 rfl zg _ Tryz.ntmps323 (aC rfl) rfl (fun w Pr β κ hE => ?_)
  dsimp only [slotsV, Nat.zero_add, Nat.reduceAdd]
  repeat' (first | refine oQ [(1000, 1000)] (iM r0) hE ?_ | refine oQ [(1000, 1000)] (dP r0 w_true t1) hE ?_ | refine oQ [(1000, 1000)] (lR r0 w_false t2) hE ?_ | refine vb ?_ | refine vd ?_ | refine vw ?_ | refine vx ?_ | refine xf ?_ | refine xv ?_ | apply bU | (refine sQ ?_ ?_ <;> intro hb hq <;> try omega) | (refine wQ ?_ ?_ <;> intro hb hq <;> try omega))
  refine dC 2 4 5 rfl rfl rfl ?_
  refine lB ?_
  refine aP (psr L (l.drop 1)) (by rfl) rv (⟨_, _, hR, rfl, rfl⟩) sb okx
 rw [t2, if_neg (by simp)] at hR
 cases t3 : isT l w_trip
 rotate_left
 ·rw [t3, if_pos rfl] at hR
  have r1 := r0.to (cD t3)
  have x1 := x0.suf (cD t3)
  refine bV Tryz.func323 rfl zg _ Tryz.ntmps323 (aC rfl) rfl (fun w Pr β κ hE => ?_)
  dsimp only [slotsV, Nat.zero_add, Nat.reduceAdd]
  repeat' (first | refine oQ [(1000, 1000)] (iM r0) hE ?_ | refine oQ [(1000, 1000)] (dP r0 w_true t1) hE ?_ | refine oQ [(1000, 1000)] (dP r0 w_false t2) hE ?_ | refine oQ [(1000, 1000)] (lR r0 w_trip t3) hE ?_ | (apply aF; refine bM [(1000, 1000)] (aFe r1 x1) hE (fun v hv => by (repeat (first | with_reducible refine aW ?_ | with_reducible refine bF ?_)); exact aT (aY hR hv)) ?_; rintro _ _ ⟨s, u1, hx1, rfl, rfl⟩; rw [hx1, bJ] at hR <;> (intro _ _ h1 h2; simp only [aO, Nat.reduceBEq, aG, aL, aH] at h1 h2; subst h1 h2)) | refine vb ?_ | refine vd ?_ | refine vw ?_ | refine vx ?_ | refine xf ?_ | refine xv ?_ | apply bU | (refine sQ ?_ ?_ <;> intro hb hq <;> try omega) | (refine wQ ?_ ?_ <;> intro hb hq <;> try omega))
  refine dC 2 4 5 rfl rfl rfl ?_
  refine lB ?_
  refine aP (psr L u1) (by rfl) rv (⟨_, _, hR, rfl, rfl⟩) sb okx
 rw [t3, if_neg (by simp)] at hR
 cases t4 : isT l w_member
 rotate_left
 ·rw [t4, if_pos rfl] at hR
  have r1 := r0.to (cD t4)
  have x1 := x0.suf (cD t4)
  refine bV Tryz.func323 rfl zg _ Tryz.ntmps323 (aC rfl) rfl (fun w Pr β κ hE => ?_)
  dsimp only [slotsV, Nat.zero_add, Nat.reduceAdd]
  repeat' (first | refine oQ [(1000, 1000)] (iM r0) hE ?_ | refine oQ [(1000, 1000)] (dP r0 w_true t1) hE ?_ | refine oQ [(1000, 1000)] (dP r0 w_false t2) hE ?_ | refine oQ [(1000, 1000)] (dP r0 w_trip t3) hE ?_ | refine oQ [(1000, 1000)] (lR r0 w_member t4) hE ?_ | (apply aF; refine bM [(1000, 1000)] (aFe r1 x1) hE (fun v hv => by (repeat (first | with_reducible refine aW ?_ | with_reducible refine bF ?_)); exact aT (aY hR hv)) ?_; rintro _ _ ⟨s, u1, hx1, rfl, rfl⟩; rw [hx1, bJ] at hR <;> (intro _ _ h1 h2; simp only [aO, Nat.reduceBEq, aG, aL, aH] at h1 h2; subst h1 h2)) | refine vb ?_ | refine vd ?_ | refine vw ?_ | refine vx ?_ | refine xf ?_ | refine xv ?_ | apply bU | (refine sQ ?_ ?_ <;> intro hb hq <;> try omega) | (refine wQ ?_ ?_ <;> intro hb hq <;> try omega))
  refine dC 2 4 5 rfl rfl rfl ?_
  refine lB ?_
  refine aP (psr L u1) (by rfl) rv (⟨_, _, hR, rfl, rfl⟩) sb okx
 rw [t4, if_neg (by simp)] at hR
 have hmin := pis r0 w_min
 have hmax := pis r0 w_max
 cases t5 : isT l w_min
 rotate_left
 ·rw [t5, if_pos rfl] at hR
  have t6 := aBq t5 (show w_min ≠ w_max by decide)
  rw [t5] at hmin
  rw [t6] at hmax
  have hw1 := kA (r0.to (cD t5)) w_lp
  have r1 := r0.to (cD t5)
  have x1 := x0.suf (cD t5)
  have z1 := Ends.less (oR t5).1
  unfold both at hR
  refine bV Tryz.func323 rfl zg _ Tryz.ntmps323 (aC rfl) rfl (fun w Pr β κ hE => ?_)
  dsimp only [slotsV, Nat.zero_add, Nat.reduceAdd]
  repeat' (first | refine oQ [(1000, 1000)] (iM r0) hE ?_ | refine oQ [(1000, 1000)] (dP r0 w_true t1) hE ?_ | refine oQ [(1000, 1000)] (dP r0 w_false t2) hE ?_ | refine oQ [(1000, 1000)] (dP r0 w_trip t3) hE ?_ | refine oQ [(1000, 1000)] (dP r0 w_member t4) hE ?_ | refine oQ [(1000, 1000)] (hmin) hE ?_ | refine oQ [(1000, 1000)] (hmax) hE ?_ | refine vb ?_ | refine vd ?_ | refine vw ?_ | refine vx ?_ | refine xf ?_ | refine xv ?_ | apply bU | (refine sQ ?_ ?_ <;> intro hb hq <;> try omega) | (refine wQ ?_ ?_ <;> intro hb hq <;> try omega))
  rw [r0.step]
  repeat' (first | (apply aF; refine bM [(1000, 1000)] (hw1) hE (fun v hv => by (repeat (first | with_reducible refine aW ?_ | with_reducible refine bF ?_)); exact aT (aY hR hv)) ?_; rintro _ _ ⟨_, u1, hx1, rfl, rfl⟩; rw [hx1, bJ] at hR; have r2 := r1.to (cH hx1); have x2 := x1.suf (cH hx1); have z2 := kV hx1; have hr1 := hrec.run L u1 0 r2 x2 zb <;> (intro _ _ h1 h2; simp only [aO, Nat.reduceBEq, aG, aL, aH] at h1 h2; subst h1 h2)) | (apply aF; refine bM [(1000, 1000)] (hr1) hE (fun v hv => by (repeat (first | with_reducible refine aW ?_ | with_reducible refine bF ?_)); exact aT (aY hR hv)) ?_; rintro _ _ ⟨a, u2, hx2, rfl, rfl⟩; rw [hx2, bJ] at hR; have r3 := r2.to (hrec.suf _ _ _ _ hx2); have x3 := x2.suf (hrec.suf _ _ _ _ hx2); have z3 := eJ (hrec.suf _ _ _ _ hx2); have hw2 := kA r3 w_comma <;> (intro _ _ h1 h2; simp only [aO, Nat.reduceBEq, aG, aL, aH] at h1 h2; subst h1 h2)) | (apply aF; refine bM [(1000, 1000)] (hw2) hE (fun v hv => by (repeat (first | with_reducible refine aW ?_ | with_reducible refine bF ?_)); exact aT (aY hR hv)) ?_; rintro _ _ ⟨_, u3, hx3, rfl, rfl⟩; rw [hx3, bJ] at hR; have r4 := r3.to (cH hx3); have x4 := x3.suf (cH hx3); have z4 := kV hx3; have hr2 := hrec.run L u3 0 r4 x4 zb <;> (intro _ _ h1 h2; simp only [aO, Nat.reduceBEq, aG, aL, aH] at h1 h2; subst h1 h2)) | (apply aF; refine bM [(1000, 1000)] (hr2) hE (fun v hv => by (repeat (first | with_reducible refine aW ?_ | with_reducible refine bF ?_)); exact aT (aY hR hv)) ?_; rintro _ _ ⟨b, u4, hx4, rfl, rfl⟩; rw [hx4, bJ] at hR; have r5 := r4.to (hrec.suf _ _ _ _ hx4); have x5 := x4.suf (hrec.suf _ _ _ _ hx4); have hw3 := kA r5 w_rp <;> (intro _ _ h1 h2; simp only [aO, Nat.reduceBEq, aG, aL, aH] at h1 h2; subst h1 h2)) | (apply aF; refine bM [(1000, 1000)] (hw3) hE (fun v hv => by (repeat (first | with_reducible refine aW ?_ | with_reducible refine bF ?_)); exact aT (aY hR hv)) ?_; rintro _ _ ⟨_, u5, hx5, rfl, rfl⟩; rw [hx5, bJ] at hR <;> (intro _ _ h1 h2; simp only [aO, Nat.reduceBEq, aG, aL, aH] at h1 h2; subst h1 h2)) | refine vb ?_ | refine vd ?_ | refine vw ?_ | refine vx ?_ | refine xf ?_ | refine xv ?_ | apply bU | (refine sQ ?_ ?_ <;> intro hb hq <;> try omega) | (refine wQ ?_ ?_ <;> intro hb hq <;> try omega))
  refine lB ?_
  refine aP (psr L u5) (by rfl) rv (⟨_, _, hR, congrArg (fun q => V.d (.agg q)) (aJu _ a b).symm, rfl⟩) sb okx
 rw [t5, if_neg (by simp)] at hR
 rw [t5] at hmin
 cases t6 : isT l w_max
 rotate_left
 ·rw [t6, if_pos rfl] at hR
  rw [t6] at hmax
  have hw1 := kA (r0.to (cD t6)) w_lp
  have r1 := r0.to (cD t6)
  have x1 := x0.suf (cD t6)
  have z1 := Ends.less (oR t6).1
  unfold both at hR
  refine bV Tryz.func323 rfl zg _ Tryz.ntmps323 (aC rfl) rfl (fun w Pr β κ hE => ?_)
  dsimp only [slotsV, Nat.zero_add, Nat.reduceAdd]
  repeat' (first | refine oQ [(1000, 1000)] (iM r0) hE ?_ | refine oQ [(1000, 1000)] (dP r0 w_true t1) hE ?_ | refine oQ [(1000, 1000)] (dP r0 w_false t2) hE ?_ | refine oQ [(1000, 1000)] (dP r0 w_trip t3) hE ?_ | refine oQ [(1000, 1000)] (dP r0 w_member t4) hE ?_ | refine oQ [(1000, 1000)] (hmin) hE ?_ | refine oQ [(1000, 1000)] (hmax) hE ?_ | refine vb ?_ | refine vd ?_ | refine vw ?_ | refine vx ?_ | refine xf ?_ | refine xv ?_ | apply bU | (refine sQ ?_ ?_ <;> intro hb hq <;> try omega) | (refine wQ ?_ ?_ <;> intro hb hq <;> try omega))
  rw [r0.step]
  repeat' (first | (apply aF; refine bM [(1000, 1000)] (hw1) hE (fun v hv => by (repeat (first | with_reducible refine aW ?_ | with_reducible refine bF ?_)); exact aT (aY hR hv)) ?_; rintro _ _ ⟨_, u1, hx1, rfl, rfl⟩; rw [hx1, bJ] at hR; have r2 := r1.to (cH hx1); have x2 := x1.suf (cH hx1); have z2 := kV hx1; have hr1 := hrec.run L u1 0 r2 x2 zb <;> (intro _ _ h1 h2; simp only [aO, Nat.reduceBEq, aG, aL, aH] at h1 h2; subst h1 h2)) | (apply aF; refine bM [(1000, 1000)] (hr1) hE (fun v hv => by (repeat (first | with_reducible refine aW ?_ | with_reducible refine bF ?_)); exact aT (aY hR hv)) ?_; rintro _ _ ⟨a, u2, hx2, rfl, rfl⟩; rw [hx2, bJ] at hR; have r3 := r2.to (hrec.suf _ _ _ _ hx2); have x3 := x2.suf (hrec.suf _ _ _ _ hx2); have z3 := eJ (hrec.suf _ _ _ _ hx2); have hw2 := kA r3 w_comma <;> (intro _ _ h1 h2; simp only [aO, Nat.reduceBEq, aG, aL, aH] at h1 h2; subst h1 h2)) | (apply aF; refine bM [(1000, 1000)] (hw2) hE (fun v hv => by (repeat (first | with_reducible refine aW ?_ | with_reducible refine bF ?_)); exact aT (aY hR hv)) ?_; rintro _ _ ⟨_, u3, hx3, rfl, rfl⟩; rw [hx3, bJ] at hR; have r4 := r3.to (cH hx3); have x4 := x3.suf (cH hx3); have z4 := kV hx3; have hr2 := hrec.run L u3 0 r4 x4 zb <;> (intro _ _ h1 h2; simp only [aO, Nat.reduceBEq, aG, aL, aH] at h1 h2; subst h1 h2)) | (apply aF; refine bM [(1000, 1000)] (hr2) hE (fun v hv => by (repeat (first | with_reducible refine aW ?_ | with_reducible refine bF ?_)); exact aT (aY hR hv)) ?_; rintro _ _ ⟨b, u4, hx4, rfl, rfl⟩; rw [hx4, bJ] at hR; have r5 := r4.to (hrec.suf _ _ _ _ hx4); have x5 := x4.suf (hrec.suf _ _ _ _ hx4); have hw3 := kA r5 w_rp <;> (intro _ _ h1 h2; simp only [aO, Nat.reduceBEq, aG, aL, aH] at h1 h2; subst h1 h2)) | (apply aF; refine bM [(1000, 1000)] (hw3) hE (fun v hv => by (repeat (first | with_reducible refine aW ?_ | with_reducible refine bF ?_)); exact aT (aY hR hv)) ?_; rintro _ _ ⟨_, u5, hx5, rfl, rfl⟩; rw [hx5, bJ] at hR <;> (intro _ _ h1 h2; simp only [aO, Nat.reduceBEq, aG, aL, aH] at h1 h2; subst h1 h2)) | refine vb ?_ | refine vd ?_ | refine vw ?_ | refine vx ?_ | refine xf ?_ | refine xv ?_ | apply bU | (refine sQ ?_ ?_ <;> intro hb hq <;> try omega) | (refine wQ ?_ ?_ <;> intro hb hq <;> try omega))
  refine lB ?_
  refine aP (psr L u5) (by rfl) rv (⟨_, _, hR, congrArg (fun q => V.d (.agg q)) (aJu _ a b).symm, rfl⟩) sb okx
 rw [t6, if_neg (by simp)] at hR
 rw [t6] at hmax
 cases t7 : isT l w_lp
 rotate_left
 ·rw [t7, if_pos rfl] at hR
  have r1 := r0.to (cD t7)
  have x1 := x0.suf (cD t7)
  have z1 := Ends.less (oR t7).1
  have hr1 := hrec.run L _ 0 r1 x1 zb
  refine bV Tryz.func323 rfl zg _ Tryz.ntmps323 (aC rfl) rfl (fun w Pr β κ hE => ?_)
  dsimp only [slotsV, Nat.zero_add, Nat.reduceAdd]
  repeat' (first | refine oQ [(1000, 1000)] (iM r0) hE ?_ | refine oQ [(1000, 1000)] (dP r0 w_true t1) hE ?_ | refine oQ [(1000, 1000)] (dP r0 w_false t2) hE ?_ | refine oQ [(1000, 1000)] (dP r0 w_trip t3) hE ?_ | refine oQ [(1000, 1000)] (dP r0 w_member t4) hE ?_ | refine oQ [(1000, 1000)] (hmin) hE ?_ | refine oQ [(1000, 1000)] (hmax) hE ?_ | refine oQ [(1000, 1000)] (lR r0 w_lp t7) hE ?_ | (apply aF; refine bM [(1000, 1000)] (hr1) hE (fun v hv => by (repeat (first | with_reducible refine aW ?_ | with_reducible refine bF ?_)); exact aT (aY hR hv)) ?_; rintro _ _ ⟨a, u2, hx2, rfl, rfl⟩; rw [hx2, bJ] at hR; have r3 := r1.to (hrec.suf _ _ _ _ hx2); have hw2 := kA r3 w_rp <;> (intro _ _ h1 h2; simp only [aO, Nat.reduceBEq, aG, aL, aH] at h1 h2; subst h1 h2)) | (apply aF; refine bM [(1000, 1000)] (hw2) hE (fun v hv => by (repeat (first | with_reducible refine aW ?_ | with_reducible refine bF ?_)); exact aT (aY hR hv)) ?_; rintro _ _ ⟨_, u3, hx3, rfl, rfl⟩; rw [hx3, bJ] at hR <;> (intro _ _ h1 h2; simp only [aO, Nat.reduceBEq, aG, aL, aH] at h1 h2; subst h1 h2)) | refine vb ?_ | refine vd ?_ | refine vw ?_ | refine vx ?_ | refine xf ?_ | refine xv ?_ | apply bU | (refine sQ ?_ ?_ <;> intro hb hq <;> try omega) | (refine wQ ?_ ?_ <;> intro hb hq <;> try omega))
  refine lB ?_
  refine aP (psr L u3) (by rfl) rv (⟨_, _, hR, rfl, rfl⟩) sb okx
 rw [t7, if_neg (by simp)] at hR
 refine bV Tryz.func323 rfl zg _ Tryz.ntmps323 (aC rfl) rfl (fun w Pr β κ hE => ?_)
 dsimp only [slotsV, Nat.zero_add, Nat.reduceAdd]
 repeat' (first | refine oQ [(1000, 1000)] (iM r0) hE ?_ | refine oQ [(1000, 1000)] (dP r0 w_true t1) hE ?_ | refine oQ [(1000, 1000)] (dP r0 w_false t2) hE ?_ | refine oQ [(1000, 1000)] (dP r0 w_trip t3) hE ?_ | refine oQ [(1000, 1000)] (dP r0 w_member t4) hE ?_ | refine oQ [(1000, 1000)] (hmin) hE ?_ | refine oQ [(1000, 1000)] (hmax) hE ?_ | refine oQ [(1000, 1000)] (dP r0 w_lp t7) hE ?_ | (apply aF; refine bM [(1000, 1000)] (aFe r0 x0) hE (fun v hv => by (repeat (first | with_reducible refine aW ?_ | with_reducible refine bF ?_)); exact aT (aY hR hv)) ?_; rintro _ _ ⟨s, u1, hx1, rfl, rfl⟩; rw [hx1, bJ] at hR <;> (intro _ _ h1 h2; simp only [aO, Nat.reduceBEq, aG, aL, aH] at h1 h2; subst h1 h2)) | refine vb ?_ | refine vd ?_ | refine vw ?_ | refine vx ?_ | refine xf ?_ | refine xv ?_ | apply bU | (refine sQ ?_ ?_ <;> intro hb hq <;> try omega) | (refine wQ ?_ ?_ <;> intro hb hq <;> try omega))
 refine dC 2 4 5 rfl rfl rfl ?_
 refine lB ?_
 refine aP (psr L u1) (by rfl) rv (⟨_, _, hR, rfl, rfl⟩) sb okx
end
end
section
open Go.RowKit
theorem aVy (a b c : Ex) : exC (.mk 15 0 0 ⟨#[]⟩ [a, b, c]) = [.int 15, .int 0, .int 0, .str ⟨#[]⟩, .list 5 [exC a, exC b, exC c]] := by
 show [D.int 15, D.int 0, D.int 0, D.str ⟨#[]⟩, D.list 5 (Ex.rows [a, b, c])] = _
 rw [lY]
 rfl
theorem aIx (a : Ex) : exC (.mk 12 0 0 ⟨#[]⟩ [a]) = [.int 12, .int 0, .int 0, .str ⟨#[]⟩, .list 5 [exC a]] := by
 show [D.int 12, D.int 0, D.int 0, D.str ⟨#[]⟩, D.list 5 (Ex.rows [a])] = _
 rw [lY]
 rfl
abbrev exB (e : Ex) : O := .box 54 [.d (.int e.op), .d (.int e.num), .d (.int e.unit), .d (.str e.str), .d (.list 5 (Ex.rows e.args))]
abbrev pfO (R : Rd (Ex × Nat)) (L : List Tok) : V → Objs → Prop := Out R (fun q => .tup [.d (.agg (exC q.1)), .d (.int q.2)]) (psr L)
section
variable {rec : Nat → List Tok → Rd Ex} {m : Nat} {L l : List Tok}
theorem aUa (hrec : RecOk rec m) (r0 : Rdy L l) (x0 : Texts l) (hm : l.length ≤ m + 1) (form : Nat) : ObP 301 [.box 1000 0, .d (.int form)] (psr L l) [] (pfO (prfx (primP nameV) ifP notP rec form l) L) (Bads (prfx (primP nameV) ifP notP rec form l)) := by
 have hle := r0.le
 obtain ⟨R, hR⟩ : ∃ R, R = prfx (primP nameV) ifP notP rec form l := ⟨_, rfl⟩
 rw [← hR]
 unfold prfx at hR
 by_cases h0 : form = 0 ∧ isT l w_if = true
 ·obtain ⟨rfl, hT⟩ := h0
  rw [if_pos rfl] at hR
  simp only [ifP, hT, if_true] at hR
  simp only [qK] at hR
  have r1 := r0.to (cD hT)
  have x1 := x0.suf (cD hT)
  have z1 := Ends.less (oR hT).1
  have hr1 := hrec.run L _ 0 r1 x1 zb
  have q1 : decide (((0 : Nat) : Int) = 0) = true := rfl
  refine bV Tryz.func301 rfl zg _ Tryz.ntmps301 (aC rfl) rfl (fun w Pr β κ hE => ?_)
  dsimp only [slotsV, Nat.zero_add, Nat.reduceAdd]
  repeat' (first | refine oQ [(1000, 1000)] (lR r0 w_if hT) hE ?_ | (apply aF; refine bM [(1000, 1000)] (hr1) hE (fun v hv => by (repeat (first | with_reducible refine aW ?_ | with_reducible refine bF ?_)); exact aT (aY hR hv)) ?_; rintro _ _ ⟨a, u2, hx2, rfl, rfl⟩; rw [hx2, bJ] at hR; have r2 := r1.to (hrec.suf _ _ _ _ hx2); have x2 := x1.suf (hrec.suf _ _ _ _ hx2); have z2 := eJ (hrec.suf _ _ _ _ hx2); have hw1 := kA r2 w_then <;> (intro _ _ h1 h2; simp only [aO, Nat.reduceBEq, aG, aL, aH] at h1 h2; subst h1 h2)) | (apply aF; refine bM [(1000, 1000)] (hw1) hE (fun v hv => by (repeat (first | with_reducible refine aW ?_ | with_reducible refine bF ?_)); exact aT (aY hR hv)) ?_; rintro _ _ ⟨_, u3, hx3, rfl, rfl⟩; rw [hx3, bJ] at hR; have r3 := r2.to (cH hx3); have x3 := x2.suf (cH hx3); have z3 := kV hx3; have hr2 := hrec.run L u3 0 r3 x3 zb <;> (intro _ _ h1 h2; simp only [aO, Nat.reduceBEq, aG, aL, aH] at h1 h2; subst h1 h2)) | (apply aF; refine bM [(1000, 1000)] (hr2) hE (fun v hv => by (repeat (first | with_reducible refine aW ?_ | with_reducible refine bF ?_)); exact aT (aY hR hv)) ?_; rintro _ _ ⟨b, u4, hx4, rfl, rfl⟩; rw [hx4, bJ] at hR; have r4 := r3.to (hrec.suf _ _ _ _ hx4); have x4 := x3.suf (hrec.suf _ _ _ _ hx4); have z4 := eJ (hrec.suf _ _ _ _ hx4); have hw2 := kA r4 w_else <;> (intro _ _ h1 h2; simp only [aO, Nat.reduceBEq, aG, aL, aH] at h1 h2; subst h1 h2)) | (apply aF; refine bM [(1000, 1000)] (hw2) hE (fun v hv => by (repeat (first | with_reducible refine aW ?_ | with_reducible refine bF ?_)); exact aT (aY hR hv)) ?_; rintro _ _ ⟨_, u5, hx5, rfl, rfl⟩; rw [hx5, bJ] at hR; have r5 := r4.to (cH hx5); have x5 := x4.suf (cH hx5); have z5 := kV hx5; have hr3 := hrec.run L u5 0 r5 x5 zb <;> (intro _ _ h1 h2; simp only [aO, Nat.reduceBEq, aG, aL, aH] at h1 h2; subst h1 h2)) | refine nz ?_ | refine qx ?_ | refine vi ?_ | refine vj ?_ | refine xv ?_ | apply bU | (refine sQ ?_ ?_ <;> intro hb hq <;> try omega) | (refine wQ ?_ ?_ <;> intro hb hq <;> try omega))
  refine mM (Bads _) ([(6, exB a), (7, exB b)]) [(0, true), (1, true), (2, true), (3, false), (4, false), (5, false)] [6, 7] zp zp zp zg zw (fun v hv => by (repeat (first | with_reducible refine aW ?_ | with_reducible refine bF ?_)); exact aT hv) ?_
  simp only [planned, tailed, List.filterMap_cons, List.filterMap_nil, List.getElem?_cons_zero, List.getElem?_cons_succ, Option.map_some]
  repeat' (first | apply aZ | refine vt ?_ | (apply aR (.build _ _); refine vE zj (eH rfl zd jz) (aA rfl) ?_) | (apply aM; refine mO [(1000, 1000)] (hr3) hE (fun v hv => mJ (aY hR hv)) ?_; rintro _ _ ⟨c, u6, hx6, rfl, rfl⟩; rw [hx6, bJ, bJ] at hR <;> (intro _ _ h1 h2; simp only [aO, Nat.reduceBEq, aG, aL, aH] at h1 h2; subst h1 h2; (try dsimp only [flatV, flat, D.plain, D.plainL]))) | (apply bG; refine bQ ?_) | (apply aU; refine bA ?_) | (apply sO; refine vR ?_) | (apply aR (.buildSlice _ _ _); first | refine dK zj rfl zx zk rfl (aC rfl) (aA rfl) ?_ | refine eQ zj rfl zd ze zk zg zg (aA rfl) ?_) | (refine mQ ?_ ?_ <;> intro hb hq <;> try omega))
  repeat' (first | refine nz ?_ | refine qx ?_ | refine vi ?_ | refine vj ?_ | refine xv ?_ | apply bU | (refine sQ ?_ ?_ <;> intro hb hq <;> try omega) | (refine wQ ?_ ?_ <;> intro hb hq <;> try omega))
  refine lB ?_
  refine uO (psr L u6) (by rfl) rv rv (⟨_, _, hR, congrArg (fun q => V.tup [V.d (.agg q), .d (.int 0)]) (aVy a b c).symm, rfl⟩) sb okx
 have hif : (if form = 0 then ifP rec l else none) = none := by
  split
  ·rename_i hf
   have : ¬ isT l w_if = true := fun hc => h0 ⟨hf, hc⟩
   simp [ifP, this]
  ·rfl
 rw [hif] at hR
 simp only at hR
 by_cases h3 : form ≤ 3 ∧ isT l w_not = true
 ·obtain ⟨h3, hT⟩ := h3
  rw [if_pos h3] at hR
  simp only [notP, hT, if_true] at hR
  simp only [qK] at hR
  have r1 := r0.to (cD hT)
  have x1 := x0.suf (cD hT)
  have z1 := Ends.less (oR hT).1
  have hr1 := hrec.run L _ 3 r1 x1 zb
  have q2 : decide ((form : Int) ≤ 3) = true := decide_eq_true zb
  by_cases hf : form = 0
  ·have q1 : decide ((form : Int) = 0) = true := decide_eq_true zb
   have hTi : isT l w_if = false := aBq hT zg
   refine bV Tryz.func301 rfl zg _ Tryz.ntmps301 (aC rfl) rfl (fun w Pr β κ hE => ?_)
   dsimp only [slotsV, Nat.zero_add, Nat.reduceAdd]
   repeat' (first | refine oQ [(1000, 1000)] (dP r0 w_if hTi) hE ?_ | refine oQ [(1000, 1000)] (lR r0 w_not hT) hE ?_ | (apply aF; refine bM [(1000, 1000)] (hr1) hE (fun v hv => by (repeat (first | with_reducible refine aW ?_ | with_reducible refine bF ?_)); exact aT (aY hR hv)) ?_; rintro _ _ ⟨a, u2, hx2, rfl, rfl⟩; rw [hx2, bJ, bJ] at hR <;> (intro _ _ h1 h2; simp only [aO, Nat.reduceBEq, aG, aL, aH] at h1 h2; subst h1 h2)) | refine nz ?_ | refine qx ?_ | refine vi ?_ | refine vj ?_ | refine xv ?_ | apply bU | (refine sQ ?_ ?_ <;> intro hb hq <;> try omega) | (refine wQ ?_ ?_ <;> intro hb hq <;> try omega))
   refine lB ?_
   refine uO (psr L u2) (by rfl) rv rv (⟨_, _, hR, congrArg (fun q => V.tup [V.d (.agg q), .d (.int 3)]) (aIx a).symm, rfl⟩) sb okx
  ·have q1 : decide ((form : Int) = 0) = false := decide_eq_false zb
   refine bV Tryz.func301 rfl zg _ Tryz.ntmps301 (aC rfl) rfl (fun w Pr β κ hE => ?_)
   dsimp only [slotsV, Nat.zero_add, Nat.reduceAdd]
   repeat' (first | refine oQ [(1000, 1000)] (lR r0 w_not hT) hE ?_ | (apply aF; refine bM [(1000, 1000)] (hr1) hE (fun v hv => by (repeat (first | with_reducible refine aW ?_ | with_reducible refine bF ?_)); exact aT (aY hR hv)) ?_; rintro _ _ ⟨a, u2, hx2, rfl, rfl⟩; rw [hx2, bJ, bJ] at hR <;> (intro _ _ h1 h2; simp only [aO, Nat.reduceBEq, aG, aL, aH] at h1 h2; subst h1 h2)) | refine nz ?_ | refine qx ?_ | refine vi ?_ | refine vj ?_ | refine xv ?_ | apply bU | (refine sQ ?_ ?_ <;> intro hb hq <;> try omega) | (refine wQ ?_ ?_ <;> intro hb hq <;> try omega))
   refine lB ?_
   refine uO (psr L u2) (by rfl) rv rv (⟨_, _, hR, congrArg (fun q => V.tup [V.d (.agg q), .d (.int 3)]) (aIx a).symm, rfl⟩) sb okx
 have hnot : (if form ≤ 3 then notP rec l else none) = none := by
  split
  ·rename_i hf
   have : ¬ isT l w_not = true := fun hc => h3 ⟨hf, hc⟩
   simp [notP, this]
  ·rfl
 rw [hnot] at hR
 simp only at hR
 have hp := pprim hrec r0 x0 hm
 by_cases hf : form = 0
 ·have q1 : decide ((form : Int) = 0) = true := decide_eq_true zb
  have q2 : decide ((form : Int) ≤ 3) = true := decide_eq_true zb
  have hTi : isT l w_if = false := by
   cases hc : isT l w_if
   ·rfl
   ·exact absurd ⟨hf, hc⟩ h0
  have hTn : isT l w_not = false := by
   cases hc : isT l w_not
   ·rfl
   ·exact absurd ⟨by omega, hc⟩ h3
  refine bV Tryz.func301 rfl zg _ Tryz.ntmps301 (aC rfl) rfl (fun w Pr β κ hE => ?_)
  dsimp only [slotsV, Nat.zero_add, Nat.reduceAdd]
  repeat' (first | refine oQ [(1000, 1000)] (dP r0 w_if hTi) hE ?_ | refine oQ [(1000, 1000)] (dP r0 w_not hTn) hE ?_ | (apply aF; refine bM [(1000, 1000)] (hp) hE (fun v hv => by (repeat (first | with_reducible refine aW ?_ | with_reducible refine bF ?_)); exact aT (aY hR hv)) ?_; rintro _ _ ⟨a, u2, hx2, rfl, rfl⟩; rw [hx2, bJ] at hR <;> (intro _ _ h1 h2; simp only [aO, Nat.reduceBEq, aG, aL, aH] at h1 h2; subst h1 h2)) | refine nz ?_ | refine qx ?_ | refine vi ?_ | refine vj ?_ | refine xv ?_ | apply bU | (refine sQ ?_ ?_ <;> intro hb hq <;> try omega) | (refine wQ ?_ ?_ <;> intro hb hq <;> try omega))
  refine lB ?_
  refine uO (psr L u2) (by rfl) rv rv (⟨_, _, hR, rfl, rfl⟩) sb okx
 have q1 : decide ((form : Int) = 0) = false := decide_eq_false zb
 by_cases hf3 : form ≤ 3
 ·have q2 : decide ((form : Int) ≤ 3) = true := decide_eq_true zb
  have hTn : isT l w_not = false := by
   cases hc : isT l w_not
   ·rfl
   ·exact absurd ⟨hf3, hc⟩ h3
  refine bV Tryz.func301 rfl zg _ Tryz.ntmps301 (aC rfl) rfl (fun w Pr β κ hE => ?_)
  dsimp only [slotsV, Nat.zero_add, Nat.reduceAdd]
  repeat' (first | refine oQ [(1000, 1000)] (dP r0 w_not hTn) hE ?_ | (apply aF; refine bM [(1000, 1000)] (hp) hE (fun v hv => by (repeat (first | with_reducible refine aW ?_ | with_reducible refine bF ?_)); exact aT (aY hR hv)) ?_; rintro _ _ ⟨a, u2, hx2, rfl, rfl⟩; rw [hx2, bJ] at hR <;> (intro _ _ h1 h2; simp only [aO, Nat.reduceBEq, aG, aL, aH] at h1 h2; subst h1 h2)) | refine nz ?_ | refine qx ?_ | refine vi ?_ | refine vj ?_ | refine xv ?_ | apply bU | (refine sQ ?_ ?_ <;> intro hb hq <;> try omega) | (refine wQ ?_ ?_ <;> intro hb hq <;> try omega))
  refine lB ?_
  refine uO (psr L u2) (by rfl) rv rv (⟨_, _, hR, rfl, rfl⟩) sb okx
 ·have q2 : decide ((form : Int) ≤ 3) = false := decide_eq_false zb
  refine bV Tryz.func301 rfl zg _ Tryz.ntmps301 (aC rfl) rfl (fun w Pr β κ hE => ?_)
  dsimp only [slotsV, Nat.zero_add, Nat.reduceAdd]
  repeat' (first | (apply aF; refine bM [(1000, 1000)] (hp) hE (fun v hv => by (repeat (first | with_reducible refine aW ?_ | with_reducible refine bF ?_)); exact aT (aY hR hv)) ?_; rintro _ _ ⟨a, u2, hx2, rfl, rfl⟩; rw [hx2, bJ] at hR <;> (intro _ _ h1 h2; simp only [aO, Nat.reduceBEq, aG, aL, aH] at h1 h2; subst h1 h2)) | refine nz ?_ | refine qx ?_ | refine vi ?_ | refine vj ?_ | refine xv ?_ | apply bU | (refine sQ ?_ ?_ <;> intro hb hq <;> try omega) | (refine wQ ?_ ?_ <;> intro hb hq <;> try omega))
  refine lB ?_
  refine uO (psr L u2) (by rfl) rv rv (⟨_, _, hR, rfl, rfl⟩) sb okx
end
end
section
open Go.RowKit
theorem aHk {rec : Nat → List Tok → Rd Ex} (h : Parts rec symP) {f k k' own : Nat} {e : Ex} {l : List Tok} (ho : own ≤ 7) (hk : l.length < k) (hk' : l.length < k') : ploop symP rec f k own e l = ploop symP rec f k' own e l := by
 rw [xS h f (l.length + 1) l.length k own e l (Nat.le_refl _) hk zb ho, xS h f (l.length + 1) l.length k' own e l (Nat.le_refl _) hk' zb ho]
theorem aPq {rec : Nat → List Tok → Rd Ex} {f : Nat} {l t : List Tok} {x : Ex × Nat} (h : prfx (primP nameV) ifP notP rec f l = .ok x t) : x.2 ≤ 7 := by
 unfold prfx at h
 split at h
 ·obtain ⟨e, u, h1, h⟩ := bD h
  cases h
  simp
 ·split at h
  ·obtain ⟨e, u, h1, h⟩ := bD h
   cases h
   simp
  ·obtain ⟨e, u, h1, h⟩ := bD h
   cases h
   simp
theorem xV {rec : Nat → List Tok → Rd Ex} (hr : ∀ f l e t, rec f l = .ok e t → ∃ o, Der f l e o t) {f : Nat} {l t : List Tok} {x : Ex × Nat} (h : prfx (primP nameV) ifP notP rec f l = .ok x t) : Suf l t := (xU hr h).suf
theorem aJt (op : Int) (a b : Ex) : exB (two op a b) = .box 54 [.d (.int op), .d (.int 0), .d (.int 0), .d (.str ⟨#[]⟩), .d (.list 5 [exC a, exC b])] := by
 show O.box _ [.d (.int op), .d (.int 0), .d (.int 0), .d (.str ⟨#[]⟩), .d (.list 5 (Ex.rows [a, b]))] = _
 rw [lY]
 rfl
abbrev zeroB : O := .box 54 [.d (.int 0), .d (.int 0), .d (.int 0), .d (.str ⟨#[]⟩), .d (.val (.slice none 0 0))]
abbrev pB : O := .box 198 [.box 1000 0]
section
variable {rec : Nat → List Tok → Rd Ex} {m : Nat} {L l : List Tok}
def expV (rec : Nat → List Tok → Rd Ex) (form : Nat) (l : List Tok) : Rd Ex := (prfx (primP nameV) ifP notP rec form l).then fun x t => ploop symP rec form (t.length + 1) x.2 x.1 t
theorem aPl (hrec : RecOk rec m) (hpar : Parts rec symP) (hder : ∀ f l e t, rec f l = .ok e t → ∃ o, Der f l e o t) (r0 : Rdy L l) (x0 : Texts l) (hm : l.length ≤ m + 1) (form : Nat) : ObP 268 [.box 1000 0, .d (.int form)] (psr L l) [] (exO (expV rec form l) L) (Bads (expV rec form l)) := by
 obtain ⟨R, hR⟩ : ∃ R, R = expV rec form l := ⟨_, rfl⟩
 rw [← hR]
 unfold expV at hR
 have hp := aUa hrec r0 x0 hm form
 refine bV Tryz.func268 rfl zg _ Tryz.ntmps268 (aC rfl) rfl (fun w Pr β κ hE => ?_)
 dsimp only [slotsV, Nat.zero_add, Nat.reduceAdd]
 repeat' (first | (apply aB (.box _ _); refine aD (bR (hU rfl) nofun zk (aA rfl) rfl rfl) rfl ?_) | (apply aF; refine bM [(1000, 1000)] (hp) hE (fun v hv => by (repeat (first | with_reducible refine aW ?_ | with_reducible refine bF ?_)); exact aT (aY hR hv)) ?_; rintro _ _ ⟨⟨e0, own0⟩, t0, hx0, rfl, rfl⟩; rw [hx0, bJ] at hR; have r1 := r0.to (xV hder hx0); have x1 := x0.suf (xV hder hx0); have z1 := eJ (xV hder hx0); have o1 := aPq hx0 <;> (intro _ _ h1 h2; simp only [aO, Nat.reduceBEq, aG, aL, aH] at h1 h2; subst h1 h2)) | refine vj ?_ | refine vv ?_ | refine vx ?_ | refine xa ?_ | apply bU | (refine sQ ?_ ?_ <;> intro hb hq <;> try omega) | (apply cV; refine eD ?_))
 dsimp only at hR o1
 refine bB (fun N sl ob => ∃ (own : Nat) (e : Ex) (t : List Tok), N = t.length ∧ Rdy L t ∧ Texts t ∧ t.length ≤ m + 1 ∧ own ≤ 7 ∧ R = ploop symP rec form (t.length + 1) own e t ∧ sl = [(6, .d (.int own)), (5, .box 5 0), (4, .box 4 0), (2, .box 2 0), (1, .d (.int form))] ∧ ob = [(5, exB e), (4, zeroB), (2, pB), (1000, psB L (atN L t))]) (⟨own0, e0, t0, rfl, r1, x1, by omega, o1, hR, rfl, rfl⟩) ?_
 clear hx0 hR r1 x1 z1 o1
 rintro N sl ob ⟨own, e, t, rfl, r1, x1, hl, ho, hR, rfl, rfl⟩
 have hle := r1.le
 simp only [ploop] at hR
 repeat' (first | (apply aB (.makeFunc _ _ _); refine aK (eC rfl) (aA rfl) ?_) | refine kQ (hC) hE ?_ | (apply aF; refine cP [(1001, 2), (1000, 1000)] (aWp r1) hE ?_; rintro _ _ ⟨⟨r, rfl, hI⟩, rfl⟩ <;> (intro _ _ h1 h2; simp only [aO, Nat.reduceBEq, aG, aL, aH] at h1 h2; subst h1 h2)) | refine xz ?_ | apply bU | (apply cR; refine dI ?_) | (refine sQ ?_ ?_ <;> intro hb hq <;> try omega) | (apply gO; refine jB ?_))
 rcases hI with ⟨rfl, hs⟩ | ⟨i, ⟨w, op, gi⟩, hi8, rfl, hg0, hs, hlo, hhi⟩
 ·rw [hs] at hR
  simp only at hR
  repeat' (first | refine qv ?_ | refine xi ?_ | apply bU | (refine sQ ?_ ?_ <;> intro hb hq <;> try omega))
  refine lB ?_
  refine aP (psr L t) (by rfl) rv (⟨_, _, hR, rfl, rfl⟩) sb okx
 rw [hs] at hR
 simp only at hR hs hlo hhi
 obtain ⟨g, rfl⟩ : ∃ g : Nat, gi = g := ⟨gi.toNat, by omega⟩
 simp only [Int.toNat_natCast] at hR hs
 have hget : (opsL.map opC)[i]? = some [.str w, .int op, .int g] := by rw [List.getElem?_map, hg0]; rfl
 obtain ⟨wt, hT⟩ := aHx hs
 have r2 := r1.to (cD hT)
 have x2 := x1.suf (cD hT)
 have z2 := Ends.less (oR hT).1
 have n1 : decide ((i : Int) < 0) = false := decide_eq_false zb
 by_cases c1 : g < form
 ·rw [if_pos (.inl c1)] at hR
  have q1 : decide ((g : Int) < form) = true := decide_eq_true zb
  repeat' (first | refine kQ (hC) hE ?_ | (apply aB (.indexAddr _ _ _); refine aS hget ?_) | refine qb ?_ | refine vl ?_ | refine vy ?_ | refine xi ?_ | apply bU | (refine sQ ?_ ?_ <;> intro hb hq <;> try omega) | (refine wQ ?_ ?_ <;> intro hb hq <;> try omega))
  refine lB ?_
  refine aP (psr L t) (by rfl) rv (⟨_, _, hR, rfl, rfl⟩) sb okx
 have q1 : decide ((g : Int) < form) = false := decide_eq_false zb
 by_cases c2 : own < g
 ·rw [if_pos (.inr (.inl c2))] at hR
  have q2 : decide ((own : Int) < g) = true := decide_eq_true zb
  repeat' (first | refine kQ (hC) hE ?_ | (apply aB (.indexAddr _ _ _); refine aS hget ?_) | refine qb ?_ | refine vl ?_ | refine vy ?_ | refine xi ?_ | apply bU | (refine sQ ?_ ?_ <;> intro hb hq <;> try omega) | (refine wQ ?_ ?_ <;> intro hb hq <;> try omega))
  refine lB ?_
  refine aP (psr L t) (by rfl) rv (⟨_, _, hR, rfl, rfl⟩) sb okx
 have q2 : decide ((own : Int) < g) = false := decide_eq_false zb
 by_cases c3 : own = 4 ∧ g = 4
 ·rw [if_pos (.inr (.inr c3))] at hR
  have q3 : decide ((own : Int) = 4) = true := decide_eq_true zb
  have q4 : decide ((g : Int) = 4) = true := decide_eq_true zb
  repeat' (first | refine kQ (hC) hE ?_ | (apply aB (.indexAddr _ _ _); refine aS hget ?_) | refine qb ?_ | refine vl ?_ | refine vy ?_ | refine xi ?_ | apply bU | (refine sQ ?_ ?_ <;> intro hb hq <;> try omega) | (refine wQ ?_ ?_ <;> intro hb hq <;> try omega))
  refine lB ?_
  refine aP (psr L t) (by rfl) rv (⟨_, _, hR, rfl, rfl⟩) sb okx
 rw [if_neg zb] at hR
 have hr := hrec.run L (t.drop 1) (g + 1) r2 x2 zb
 rw [show ((g + 1 : Nat) : Int) = (g : Int) + 1 from rfl] at hr
 have hnext : ∀ (b : Ex) (u : List Tok), rec (g + 1) (t.drop 1) = .ok b u → R = ploop symP rec form (u.length + 1) g (two op e b) u ∧ Rdy L u ∧ Texts u ∧ u.length < t.length := fun b u hx => by
  have hsu := hrec.suf _ _ _ _ hx
  have hlu := eJ hsu
  rw [hx, bJ] at hR
  refine ⟨?_, r2.to hsu, x2.suf hsu, by omega⟩
  rw [hR]
  exact aHk hpar zb zb zb
 by_cases c4 : own = 4
 ·have q5 : decide ((own : Int) = 4) = true := decide_eq_true zb
  have q6 : decide ((g : Int) = 4) = false := decide_eq_false zb
  repeat' (first | refine kQ (hC) hE ?_ | (apply aB (.indexAddr _ _ _); refine aS hget ?_) | refine qb ?_ | refine vl ?_ | refine xf ?_ | refine xi ?_ | apply bU | (refine sQ ?_ ?_ <;> intro hb hq <;> try omega) | (refine wQ ?_ ?_ <;> intro hb hq <;> try omega) | (apply lT; refine pL ?_))
  rw [r1.step]
  refine mM (Bads _) ([(8, .box 311 [.d (.str w), .d (.int op), .d (.int g)]), (5, exB e), (2, pB)]) [(0, true), (1, true), (2, true), (3, true), (4, true), (5, true), (6, true), (7, false), (8, false), (9, false)] [10] zp zp zp zg zw (fun v hv => by (repeat (first | with_reducible refine aW ?_ | with_reducible refine bF ?_)); exact aT hv) ?_
  simp only [planned, tailed, List.filterMap_cons, List.filterMap_nil, List.getElem?_cons_zero, List.getElem?_cons_succ, Option.map_some]
  repeat' (first | apply aZ | refine vt ?_ | (apply aR (.build _ _); refine vE zj (eH rfl zd jz) (aA rfl) ?_) | (apply aM; refine mO [(1000, 1000)] (hr) hE (fun v hv => mJ (aY hR hv)) ?_; rintro _ _ ⟨b, u, hx, rfl, rfl⟩; obtain ⟨hR2, r3, x3, z3⟩ := hnext b u hx <;> (intro _ _ h1 h2; simp only [aO, Nat.reduceBEq, aG, aL, aH] at h1 h2; subst h1 h2; (try dsimp only [flatV, flat, D.plain, D.plainL]))) | (apply kG; refine nQ ?_) | (apply aU; refine bA ?_) | (apply aV; refine bE ?_) | (apply sO; refine vR ?_) | (apply aR (.buildSlice _ _ _); first | refine dK zj rfl zx zk rfl (aC rfl) (aA rfl) ?_ | refine eQ zj rfl zd ze zk zg zg (aA rfl) ?_) | (refine mQ ?_ ?_ <;> intro hb hq <;> try omega))
  repeat' (first | refine qb ?_ | refine qt ?_ | refine va ?_ | refine vb ?_ | refine xf ?_ | apply bU | (refine sQ ?_ ?_ <;> intro hb hq <;> try omega) | (refine wQ ?_ ?_ <;> intro hb hq <;> try omega) | (apply iG; refine jN ?_) | (apply gO; refine jB ?_) | (apply fC; refine gE ?_) | (apply fD; refine gF ?_))
  rw [← aJt]
  refine bK (⟨g, two op e b, u, rfl, r3, x3, by omega, by omega, hR2, rfl, rfl⟩) (z3)
 ·have q5 : decide ((own : Int) = 4) = false := decide_eq_false zb
  repeat' (first | refine kQ (hC) hE ?_ | (apply aB (.indexAddr _ _ _); refine aS hget ?_) | refine qb ?_ | refine vl ?_ | refine xf ?_ | refine xi ?_ | apply bU | (refine sQ ?_ ?_ <;> intro hb hq <;> try omega) | (refine wQ ?_ ?_ <;> intro hb hq <;> try omega) | (apply lT; refine pL ?_))
  rw [r1.step]
  refine mM (Bads _) ([(8, .box 311 [.d (.str w), .d (.int op), .d (.int g)]), (5, exB e), (2, pB)]) [(0, true), (1, true), (2, true), (3, true), (4, true), (5, true), (6, true), (7, false), (8, false), (9, false)] [10] zp zp zp zg zw (fun v hv => by (repeat (first | with_reducible refine aW ?_ | with_reducible refine bF ?_)); exact aT hv) ?_
  simp only [planned, tailed, List.filterMap_cons, List.filterMap_nil, List.getElem?_cons_zero, List.getElem?_cons_succ, Option.map_some]
  repeat' (first | apply aZ | refine vt ?_ | (apply aR (.build _ _); refine vE zj (eH rfl zd jz) (aA rfl) ?_) | (apply aM; refine mO [(1000, 1000)] (hr) hE (fun v hv => mJ (aY hR hv)) ?_; rintro _ _ ⟨b, u, hx, rfl, rfl⟩; obtain ⟨hR2, r3, x3, z3⟩ := hnext b u hx <;> (intro _ _ h1 h2; simp only [aO, Nat.reduceBEq, aG, aL, aH] at h1 h2; subst h1 h2; (try dsimp only [flatV, flat, D.plain, D.plainL]))) | (apply kG; refine nQ ?_) | (apply aU; refine bA ?_) | (apply aV; refine bE ?_) | (apply sO; refine vR ?_) | (apply aR (.buildSlice _ _ _); first | refine dK zj rfl zx zk rfl (aC rfl) (aA rfl) ?_ | refine eQ zj rfl zd ze zk zg zg (aA rfl) ?_) | (refine mQ ?_ ?_ <;> intro hb hq <;> try omega))
  repeat' (first | refine qb ?_ | refine qt ?_ | refine va ?_ | refine vb ?_ | refine xf ?_ | apply bU | (refine sQ ?_ ?_ <;> intro hb hq <;> try omega) | (refine wQ ?_ ?_ <;> intro hb hq <;> try omega) | (apply iG; refine jN ?_) | (apply gO; refine jB ?_) | (apply fC; refine gE ?_) | (apply fD; refine gF ?_))
  rw [← aJt]
  refine bK (⟨g, two op e b, u, rfl, r3, x3, by omega, by omega, hR2, rfl, rfl⟩) (z3)
end
theorem aPx (n : Nat) : Parts (rdE n) symP := xR (aQx nameV) n
theorem aHo {n f : Nat} {l t : List Tok} {e : Ex} (h : rdE n f l = .ok e t) : Suf l t := by
 obtain ⟨_, h⟩ := sS _ _ _ _ _ h
 exact h.suf
theorem aPy : ∀ n, RecOk (rdE (n + 1)) n
 | 0 => ⟨fun _ _ _ _ h => aHo h, fun _ _ _ h _ hl => absurd h.e.pos zb⟩
 | n + 1 => ⟨fun _ _ _ _ h => aHo h, fun _ _ form h hx hl => aPl (aPy n) (aPx _) (fun f l e t h => sS _ f l e t h) h hx hl form⟩
end
end Go.Proofs.YtaodngiigdbgeaaGreatDoor
