/-
  Conditions: none.
-/
import Derived.Test.YtaodngiigdbgeaaGreatDoorMaa
import Derived.Test.YtaodngiigdbgeaaGreatDoorMal
import Derived.Test.YtaodngiigdbgeaaGreatDoorMax
import Derived.Test.YtaodngiigdbgeaaGreatDoorMbb
import Derived.Test.YtaodngiigdbgeaaGreatDoorMbd
import Derived.Test.YtaodngiigdbgeaaGreatDoorMbf
import Derived.Test.YtaodngiigdbgeaaGreatDoorMbh
set_option maxHeartbeats 16000000
set_option maxRecDepth 20000
set_option linter.unusedSimpArgs false
set_option linter.unusedVariables false
namespace Go.Proofs.YtaodngiigdbgeaaGreatDoor
section
open Go.RowKit
theorem nN : ∀ l : List Int, (l.map fun n => [D.int n]).flatten = l.map D.int
 | [] => rfl
 | n :: l => by simp [nN l]
theorem aCw : ∀ {l : List Int} {i : Nat}, i < l.length → ∀ v : Int, (l.set i v).sum = l.sum - l.getD i 0 + v
 | [], _, h, _ => by simp at h
 | x :: l, 0, _, v => by simp; omega
 | x :: l, i + 1, h, v => by
  have := aCw (l := l) (i := i) (by simpa using h) v
  simp only [List.set_cons_succ, List.sum_cons, List.getD_cons_succ]
  omega
theorem aEg {a b : Int} {l : List Int} {j : Nat} (h : j < l.length) : inQ a b (l.take (j + 1)) = (inQ a b (l.take j) && inQ a b [l.getD j 0]) := by
 rw [Bool.eq_iff_iff, Bool.and_eq_true, eX, eX, eX, List.take_succ_eq_append_getElem h]
 have e : l.getD j 0 = l[j] := by rw [List.getD_eq_getElem?_getD, List.getElem?_eq_getElem h]; rfl
 rw [e]
 simp only [List.mem_append, List.mem_singleton]
 constructor
 ·exact fun k => ⟨fun n hn => k n (.inl hn), fun n hn => k n (.inr hn)⟩
 ·rintro ⟨k1, k2⟩ n (hn | hn)
  ·exact k1 n hn
  ·exact k2 n hn
def SSt.paid (s : SSt) (pu : List Int) (mo : Int) : SSt := { s with pu := pu, po := { s.po with mo := mo } }
theorem mP {s : SSt} (h : s.ok) {pu : List Int} {mo : Int} (hl : pu.length = s.pu.length) : (s.paid pu mo).ok :=
 ⟨h.ar, h.ars, h.se, h.ses, h.cs, h.pl, h.pls, h.dn, h.at_, h.pm, by show pu.length ≤ 1000000; rw [hl]; exact h.pu, h.fv, h.ve, h.ves, h.bl, h.bls⟩
theorem oH {s : SSt} (h : s.right = true) {pu : List Int} {mo : Int} (hl : pu.length = s.pu.length) : (s.paid pu mo).right = (inQ 0 1000000000000000 [mo] && inQ (-1000000000000000) 1000000000000000 pu) := by
 have hf := cB.1 h
 rw [Bool.eq_iff_iff, cB, Bool.and_eq_true]
 have hp := hf.po
 unfold SPool.right at hp
 simp only [Bool.and_eq_true] at hp
 constructor
 ·intro k
  have h2 := k.po
  unfold SPool.right at h2
  simp only [Bool.and_eq_true] at h2
  refine ⟨eX.2 fun n hn => eX.1 h2.1 n ?_, k.pu⟩
  rw [List.mem_singleton.1 hn]
  exact List.mem_cons_self
 ·rintro ⟨k1, k2⟩
  refine ⟨hf.ti, hf.nar, hf.nse, hf.ncs, hf.npl, hf.ndn, hf.nat, hf.npm, ?_, ?_, hf.nbl, hf.pl, hf.at_, hf.se, k2, hf.fv, ?_, hf.ar, hf.cs, fun p hp => ?_, hf.ve, hf.nve, fun b hb => ?_⟩
  ·show pu.length ≤ 4000
   rw [hl]; exact hf.npu
  ·show s.fv.length = pu.length
   rw [hl]; exact hf.nfv
  ·show SPool.right { s.po with mo := mo } = true
   unfold SPool.right
   simp only [Bool.and_eq_true]
   refine ⟨eX.2 fun n hn => ?_, hp.2⟩
   rcases List.mem_cons.1 hn with rfl | hn
   ·exact eX.1 k1 _ (by simp)
   ·exact eX.1 hp.1 n (List.mem_cons_of_mem _ hn)
  ·show p.right pu.length s.cs.length s.ve.length = true
   rw [hl]; exact hf.pm p hp
  ·show b.right pu.length = true
   rw [hl]; exact hf.bl b hb
theorem sL {s : SSt} (h : s.right = true) {pu : List Int} {mo : Int} (hs : mo + pu.sum = s.po.mo + s.pu.sum) : (s.paid pu mo).sum = if (s.paid pu mo).right then s.sum else 0 := by
 have e : s.sum = s.po.mo + s.pu.sum := by unfold SSt.sum; rw [h]; rfl
 rw [e]
 unfold SSt.sum
 split
 ·exact hs
 ·rfl
theorem wU {s : SSt} (h : s.right = true) {i : Nat} (hi : i < s.pu.length) : -1000000000000000 ≤ s.pu.getD i 0 ∧ s.pu.getD i 0 ≤ 1000000000000000 := eX.1 (cB.1 h).pu _ (fU hi)
theorem aGs {s : SSt} (h : s.right = true) : 0 ≤ s.po.mo ∧ s.po.mo ≤ 1000000000000000 := by
 have hp := (cB.1 h).po
 unfold SPool.right at hp
 simp only [Bool.and_eq_true] at hp
 exact eX.1 hp.1 _ (by simp)
end
section
open Go.RowKit
attribute [local irreducible] numW numsT listW listT textW intW flat8 preT
theorem iY {α : Type} {W : α → ByteArray} {l : List α} (hl : l.length ≤ 30000) (h : ∀ x ∈ l, (W x).size ≤ 10000000) : (listT W l).size ≤ 300000000021 := by
 have h1 := cZ (W := W) (M := 10000000) (l := l) zb h
 omega
theorem oO (s : SSt) (ho : s.ok) (hb : s.bare) : PureC 15 [.agg s.c] (· = .str s.said) := by
 obtain ⟨hb1, hb2, hb3, hb4, hb5, hb6, hb7⟩ := hb
 have cr := cW s ho
 unfold SSt.said
 cases hr : s.right
 ·rw [hr] at cr
  refine aE Tryz.func15 rfl zg _ Tryz.ntmps15 (aC rfl) (fun w Pr hE => ?_)
  dsimp only [slotsOf, Nat.zero_add, Nat.reduceAdd]
  repeat' (first | refine kQ (cr) hE ?_ | refine xh ?_ | refine xk ?_ | refine cQ ?_ | (refine sQ ?_ ?_ <;> intro hb hq <;> try omega))
  refine rt1 ?_
  rfl
 rw [hr] at cr
 rw [if_pos rfl]
 have hf := cB.1 hr
 clear hr
 have n1 := hf.nar
 have n2 := hf.nse
 have n3 := hf.ncs
 have n4 := hf.npl
 have n5 := hf.ndn
 have n6 := hf.nat
 have n7 := hf.npm
 have n8 := hf.npu
 have n9 := hf.nfv
 have n10 := hf.nbl
 have n11 := hf.nve
 have q1 : ∀ x ∈ s.ar, x.text.size ≤ 10000000 := fun x hx => aNc (hf.ar x hx)
 have q2 : ∀ x ∈ s.se, (seenT x).size ≤ 10000000 := fun x hx => aJp (hf.se x hx)
 have q3 : ∀ x ∈ s.cs, x.text.size ≤ 10000000 := fun x hx => aNm (hf.cs x hx)
 have q4 : ∀ x ∈ s.pl, x.text.size ≤ 10000000 := fun x hx => aJf (hf.plan hx)
 have w7 : ∀ p ∈ s.pm, p.wf := fun p hp => aCg zb zb zb (hf.pm p hp)
 have q7 : ∀ x ∈ s.pm, x.text.size ≤ 10000000 := fun x hx => aJg (w7 x hx)
 have q11 : ∀ x ∈ s.ve, x.text.size ≤ 10000000 := fun x hx => aRf (pQ hf.ve x hx) (ho.ves x hx)
 have q10 : ∀ x ∈ s.bl, x.text.size ≤ 10000000 := fun x hx => aNh (aBj zb (hf.bl x hx))
 have c1 := aEo s.ar zb q1 (fun x hx t ht => by rw [hb1] at hx; cases hx)
 have c2 := zY s.se zb q2 (fun x hx t ht => by rw [hb2] at hx; cases hx)
 have c3 := aEq s.cs zb q3 (fun x hx t ht => by rw [hb3] at hx; cases hx)
 have c4 := zW s.pl zb q4 (fun x hx t ht => by rw [hb4] at hx; cases hx)
 have c7 := zX s.pm zb q7 (fun x hx t ht => by rw [hb5] at hx; cases hx)
 have c11 := aEr s.ve zb q11 (fun x hx t ht => by rw [hb6] at hx; cases hx)
 have c10 := aEp s.bl zb q10 (fun x hx t ht => by rw [hb7] at hx; cases hx)
 have d1 := iB s.pu zb (kT hf.pu zg zg)
 have d2 := iB s.fv zb (kT hf.fv zg zg)
 have d3 := iB s.dn zb hf.done
 have d4 := iB s.at_ zb (kT hf.at_ zg zg)
 have hti : ∀ n ∈ [s.ti], nOk n := fX hf.ti zg zg
 have e1 := dT _ hf.pool (by simp) (by simp)
 have e2 := dT _ hti (by simp) (by simp)
 have l1 := iY zb q1
 have l2 := iY zb q2
 have l3 := iY zb q3
 have l4 := iY zb q4
 have l7 := iY zb q7
 have l11 := iY zb q11
 have l10 := iY zb q10
 have i1 := dG zb (kT hf.pu zg zg)
 have i2 := dG zb (kT hf.fv zg zg)
 have i3 := dG zb hf.done
 have i4 := dG zb (kT hf.at_ zg zg)
 have j1 := bX hf.pool
 have j2 := bX hti
 simp only [List.length_cons, List.length_nil] at j1 j2
 clear q1 q2 q3 q4 w7 q7 q11 q10 hti hf
 clear hb1 hb2 hb3 hb4 hb5 hb6 hb7
 unfold SSt.text SSt.moneyT
 generalize listT SArc.text s.ar = t1 at *
 generalize listT seenT s.se = t2 at *
 generalize listT SCar.text s.cs = t3 at *
 generalize listT SPlan.text s.pl = t4 at *
 generalize listT SProm.text s.pm = t7 at *
 generalize listT SVer.text s.ve = t11 at *
 generalize listT SBal.text s.bl = t10 at *
 generalize intsT s.pu = u1 at *
 generalize intsT s.fv = u2 at *
 generalize intsT s.dn = u3 at *
 generalize intsT s.at_ = u4 at *
 generalize numsT [s.po.mo, s.po.pr, s.po.ms, s.po.co, s.po.wi, s.po.to] = v1 at *
 generalize numsT [s.ti] = v2 at *
 have z1 : (u1 ++ v1).size = u1.size + v1.size := ByteArray.size_append
 have z2 : (u1 ++ v1 ++ u2).size = (u1 ++ v1).size + u2.size := ByteArray.size_append
 have z3 : (u3 ++ u4).size = u3.size + u4.size := ByteArray.size_append
 have y1 : (v2 ++ t1).size = v2.size + t1.size := ByteArray.size_append
 have y2 : (v2 ++ t1 ++ t2).size = (v2 ++ t1).size + t2.size := ByteArray.size_append
 have y3 : (v2 ++ t1 ++ t2 ++ t3).size = (v2 ++ t1 ++ t2).size + t3.size := ByteArray.size_append
 have y4 : (v2 ++ t1 ++ t2 ++ t3 ++ t4).size = (v2 ++ t1 ++ t2 ++ t3).size + t4.size := ByteArray.size_append
 have y5 : (v2 ++ t1 ++ t2 ++ t3 ++ t4 ++ (u3 ++ u4)).size = (v2 ++ t1 ++ t2 ++ t3 ++ t4).size + (u3 ++ u4).size := ByteArray.size_append
 have y6 : (v2 ++ t1 ++ t2 ++ t3 ++ t4 ++ (u3 ++ u4) ++ t7).size = (v2 ++ t1 ++ t2 ++ t3 ++ t4 ++ (u3 ++ u4)).size + t7.size := ByteArray.size_append
 have y7 : (v2 ++ t1 ++ t2 ++ t3 ++ t4 ++ (u3 ++ u4) ++ t7 ++ (u1 ++ v1 ++ u2)).size = (v2 ++ t1 ++ t2 ++ t3 ++ t4 ++ (u3 ++ u4) ++ t7).size + (u1 ++ v1 ++ u2).size := ByteArray.size_append
 have y8 : (v2 ++ t1 ++ t2 ++ t3 ++ t4 ++ (u3 ++ u4) ++ t7 ++ (u1 ++ v1 ++ u2) ++ t11).size = (v2 ++ t1 ++ t2 ++ t3 ++ t4 ++ (u3 ++ u4) ++ t7 ++ (u1 ++ v1 ++ u2)).size + t11.size := ByteArray.size_append
 refine aE Tryz.func15 rfl zg _ Tryz.ntmps15 (aC rfl) (fun w Pr hE => ?_)
 dsimp only [slotsOf, Nat.zero_add, Nat.reduceAdd]
 repeat' (first | refine kQ (cr) hE ?_ | refine kQ (c1) hE ?_ | refine kQ (c2) hE ?_ | refine kQ (c3) hE ?_ | refine kQ (c4) hE ?_ | refine kQ (c7) hE ?_ | refine nb ?_ | refine vq ?_ | refine vy ?_ | refine xk ?_ | (refine sQ ?_ ?_ <;> intro hb hq <;> try omega))
 clear cr c1 c2 c3 c4 c7
 refine vJ ((.free 0 (.free 1 (.free 3 (.free 4 (.free 5 (.free 6 (.free 7 (.free 8 (.free 9 (.free 10 (.free 11 (.free 12 (.free 13 (.free 14 (.free 18 (.free 19 (.fork (.alt 2 (.only 15 (.only 16 (.free 17 (.only 20 (.free 21 .tail))))) (.alt 15 (.only 2 (.only 16 (.free 17 (.only 20 (.free 21 .tail))))) .stop)))))))))))))))))))) [22] ([(8, .box 29 (s.po.c.map V.d)), (1, s.b)]) ([(55, .d (.str (u1 ++ v1 ++ u2))), (7, .d (.str t7)), (6, .d (.str t4)), (5, .d (.str t3)), (4, .d (.str t2)), (3, .d (.str t1)), (1, .box 1 0)]) ([(1, s.b)]) zp zp zp rfl zg zw (fun hrest => ?_) ?_
 ·simp only [tailed, List.filterMap_cons, List.filterMap_nil, List.getElem?_cons_zero, List.getElem?_cons_succ] at hrest
  repeat' (first | apply vB | apply aBe | exact vG | refine vC rfl ?_ | refine vF rfl ?_ | refine vD hrest zm zw | refine vt ?_ | (apply aM; refine bI (d1) hE ?_; rintro _ rfl; clear d1; (try dsimp only [flat, D.plain, D.plainL])) | (apply aM; refine bI (d2) hE ?_; rintro _ rfl; (try dsimp only [flat, D.plain, D.plainL])) | (apply aM; refine bI (e1) hE ?_; rintro _ rfl; (try dsimp only [flat, D.plain, D.plainL])) | (apply kG; refine nQ ?_) | (apply aU; refine bA ?_) | (apply aV; refine bE ?_) | (apply aR (.buildSlice _ _ _); first | refine dK zj rfl zx zk rfl (aC rfl) (aA rfl) ?_ | refine eQ zj rfl zd ze zk zg zg (aA rfl) ?_) | (apply aR (.alloc _); refine rI zj rfl zk rfl (aA rfl) rfl rfl rfl ?_) | (apply aR (.store _ _ _); first | refine dU zj rfl rfl rfl (dR rfl) nofun zk zo (.inl ⟨rfl, rfl⟩) rfl (aC rfl) zk ?_ | refine dU zj rfl rfl rfl (dR rfl) nofun zk zo (.inr rfl) rfl (aC rfl) zk ?_) | (refine mQ ?_ ?_ <;> intro hb hq <;> try omega))
 simp only [tailed, List.filterMap_cons, List.filterMap_nil, List.getElem?_cons_zero, List.getElem?_cons_succ]
 clear e1 d1 d2
 repeat' (first | (apply aB (.makeFunc _ _ _); refine aK (eC rfl) (aA rfl) ?_) | (apply aB (.store _ _ (.func _)); refine aD (aN (n := [nfun 110]) rfl rfl rfl nofun rfl (by intro z hz; rw [List.mem_singleton.1 hz]; rfl) (.inl ⟨rfl, rfl⟩) rfl (aC rfl) rfl) rfl ?_) | refine kQ (c11) hE ?_ | refine oQ [(1002, 11)] (c10) hE ?_ | refine np ?_ | refine ql ?_ | refine vd ?_ | refine vy ?_ | (refine sQ ?_ ?_ <;> intro hb hq <;> try omega))
 refine cC ([(1, s.b)]) [(0, true), (1, true), (3, true), (4, true), (2, false), (5, false), (6, true)] [7] zp zp zp zg zw ?_
 simp only [planned, tailed, List.filterMap_cons, List.filterMap_nil, List.getElem?_cons_zero, List.getElem?_cons_succ, Option.map_some]
 repeat' (first | apply aZ | refine vt ?_ | (apply aM; refine bI (d3) hE ?_; rintro _ rfl; clear d3; (try dsimp only [flat, D.plain, D.plainL])) | (apply aM; refine bI (d4) hE ?_; rintro _ rfl; (try dsimp only [flat, D.plain, D.plainL])) | (apply kG; refine nQ ?_) | (apply aU; refine bA ?_) | (apply aV; refine bE ?_) | (refine mQ ?_ ?_ <;> intro hb hq <;> try omega))
 repeat' (first | refine kQ (e2) hE ?_ | refine nx ?_ | refine vb ?_ | refine vd ?_ | refine cQ ?_ | (refine sQ ?_ ?_ <;> intro hb hq <;> try omega))
 refine rt1 ?_
 rfl
end
section
open Go.RowKit
attribute [local irreducible] numS textS itemsS
def zeroS : SSt := ⟨0, [], [], [], [], [], [], [], [], ⟨0, 0, 0, 0, 0, 0⟩, [], [], []⟩
noncomputable def readD (t : ByteArray) : D := if saidQ t = true then .tup [.agg (stateS t).v.c, .int 0] else .tup [.agg zeroS.c, .int 2]
section
variable {E : Entry} {sl : Slots} {ob : Objs} {dd : Option Nat} {t T : TypeId} {p : String} {af : Array Edge} {g : Option (Nat × Bool)}
theorem kK {i o j : Nat} {z : List Value} {fs : List (Nat × Nat × Nat)} (hx : look sl j = .box i o) (hT : ti t = .st z fs) (hl : ∀ u, dfill (fun i => (fs[i]?).map fun q => (q.1, q.2.1)) (z.map D.val) [(0, .val (.pointer u))] = some [.val (.pointer u)]) : Y E ⟨dd, .build t #[(0, .tmp j)], T, p, af, g⟩ sl ob (.agg [.box i o]) := fun a w Pr β κ h => by
 have hv := h.slots j
 rw [hx] at hv
 have key : ∀ v, RepV w Pr β κ v (.box i o) → ∃ u, v = .pointer u := fun v hv => by cases hv; exact ⟨_, rfl⟩
 obtain ⟨u, hu⟩ := key _ hv
 have h' : Good E ((j, .d (.val (.pointer u))) :: sl) ob a w Pr β κ := h.slot (by rw [hu]; exact .d _ _ (.val _))
 obtain ⟨v, hv2, hr⟩ := eH (d := dd) (T := T) (p := p) (af := af) (g := g) (parts := [(0, .tmp j)]) hT (PartsD.cons (by rw [show ev ((j, V.d (D.val (.pointer u))) :: sl) (.tmp j) = .d (.val (.pointer u)) from iK _ _ _]; exact ToD.d _) PartsD.nil) (hl u) a w Pr β κ h'
 have hag := hv2.d_inv
 cases hag with
 | agg cs _ hl2 hd =>
  match cs, hl2 with
  | [c0], _ =>
   have h0 := hd 0 c0 _ rfl rfl
   cases h0
   rw [hu] at hv
   exact ⟨_, .agg [_] [_] rfl (fun i v d h1 h2 => by
    match i with
    | 0 => cases h1; cases h2; exact hv), hr⟩
end
abbrev rdb4 : O := .box 85 [.box 8 0]
theorem aLt (t : ByteArray) (ht : t.size ≤ 900000) (hb : (stateS t).v.bare) : PureC 10 [.str t] (· = readD t) := by
 have c0 := aAy t
 have hS : stateS t = stateS t := rfl
 conv at hS => rhs; unfold stateS
 have c1 := fB [0] [.int 0, nilD, nilD, nilD, nilD, nilD, nilD, nilD, nilD, .int 0, .int 0, .int 0, .int 0, .int 0, .int 0, nilD, nilD, nilD] 33 t false zb zg zg
 have le1 := cF 1 t false
 simp only [List.length_cons, List.length_nil, Nat.zero_add] at c1
 have hv := dS 1 t false
 rcases h1 : numsS 1 t false with ⟨v, r1, b1⟩
 rw [h1] at hv c1 le1 hS
 obtain ⟨ti, rfl⟩ := rB hv
 simp only [setD, List.set_cons_zero, List.set_cons_succ, List.map_cons, List.map_nil] at c1
 dsimp only at le1 hS
 have c2 := aFg r1 b1 zb
 have lec2 := cG rO r1 b1
 rcases h2 : manyS arcS r1 b1 with ⟨ar, r2, b2⟩
 rw [h2] at c2 lec2 hS
 dsimp only at c2 lec2 hS
 have c3 := aCo r2 b2 zb
 have lec3 := cG pO r2 b2
 rcases h3 : manyS seenS r2 b2 with ⟨se, r3, b3⟩
 rw [h3] at c3 lec3 hS
 dsimp only at c3 lec3 hS
 have c4 := aFk r3 b3 zb
 have lec4 := cG vL r3 b3
 rcases h4 : manyS carS r3 b3 with ⟨cs, r4, b4⟩
 rw [h4] at c4 lec4 hS
 dsimp only at c4 lec4 hS
 have c5 := aCk r4 b4 zb
 have lec5 := cG pH r4 b4
 rcases h5 : manyS planS r4 b4 with ⟨pl, r5, b5⟩
 rw [h5] at c5 lec5 hS
 dsimp only at c5 lec5 hS
 have c6 := gL r5 b5 zb
 have lec6 := eS r5 b5
 rcases h6 : intsS r5 b5 with ⟨dn, r6, b6⟩
 rw [h6] at c6 lec6 hS
 dsimp only at c6 lec6 hS
 have c7 := gL r6 b6 zb
 have lec7 := eS r6 b6
 rcases h7 : intsS r6 b6 with ⟨at_, r7, b7⟩
 rw [h7] at c7 lec7 hS
 dsimp only at c7 lec7 hS
 have c8 := aCm r7 b7 zb
 have lec8 := cG sN r7 b7
 rcases h8 : manyS promS r7 b7 with ⟨pm, r8, b8⟩
 rw [h8] at c8 lec8 hS
 dsimp only at c8 lec8 hS
 have c9 := gL r8 b8 zb
 have lec9 := eS r8 b8
 rcases h9 : intsS r8 b8 with ⟨pu, r9, b9⟩
 rw [h9] at c9 lec9 hS
 dsimp only at c9 lec9 hS
 have c10 := fB [9, 10, 11, 12, 13, 14] [.int ti, .list 4 [], .list 1 [], .list 9 [], .list 4 [], intsL dn, intsL at_, .list 15 [], intsL pu, .int 0, .int 0, .int 0, .int 0, .int 0, .int 0, nilD, nilD, nilD] 33 r9 b9 zb zg (fun o ho => by simp only [List.mem_cons, List.not_mem_nil, or_false] at ho; simp only [List.length_cons, List.length_nil]; omega)
 have lec10 := cF 6 r9 b9
 simp only [List.length_cons, List.length_nil, Nat.zero_add, Nat.reduceAdd] at c10
 have hv2 := dS 6 r9 b9
 rcases h10 : numsS 6 r9 b9 with ⟨v, r10, b10⟩
 rw [h10] at hv2 c10 lec10 hS
 obtain ⟨p1, p2, p3, p4, p5, p6, rfl⟩ := aQr hv2
 simp only [setD, List.set_cons_zero, List.set_cons_succ, List.map_cons, List.map_nil] at c10
 dsimp only at lec10 hS
 have c11 := gL r10 b10 zb
 have lec11 := eS r10 b10
 rcases h11 : intsS r10 b10 with ⟨fv, r11, b11⟩
 rw [h11] at c11 lec11 hS
 dsimp only at c11 lec11 hS
 have c12 := aFo r11 b11 zb
 have lec12 := cG tD r11 b11
 rcases h12 : manyS verS r11 b11 with ⟨ve, r12, b12⟩
 rw [h12] at c12 lec12 hS
 dsimp only at c12 lec12 hS
 have c13 := aFi r12 b12 zb
 have lec13 := cG vK r12 b12
 rcases h13 : manyS balS r12 b12 with ⟨bl, r13, b13⟩
 rw [h13] at c13 lec13 hS
 dsimp only at c13 lec13 hS
 have c14 := aDu r13 b13
 rw [hS] at hb
 obtain ⟨b1_, b2_, b3_, b4_, b5_, b6_, b7_⟩ := hb
 dsimp only [List.getD_cons_zero, List.getD_cons_succ] at b1_ b2_ b3_ b4_ b5_ b6_ b7_
 replace c2 := c2 b1_
 replace c3 := c3 b2_
 replace c4 := c4 b3_
 replace c5 := c5 b4_
 replace c8 := c8 b5_
 replace c12 := c12 b6_
 replace c13 := c13 b7_
 subst b1_ b2_ b3_ b4_ b5_ b6_ b7_
 have hok := qJ ht
 have hR : readD t = readD t := rfl
 conv at hR => rhs; unfold readD saidQ
 rw [hS] at hR hok
 dsimp only [List.getD_cons_zero, List.getD_cons_succ] at hR hok
 have c15 := oO _ hok ⟨rfl, rfl, rfl, rfl, rfl, rfl, rfl⟩
 generalize hd : SSt.said _ = sd at c15 hR
 clear hok hd hS
 rw [hR]
 clear hR h1 h2 h3 h4 h5 h6 h7 h8 h9 h10 h11 h12 h13 hv hv2 le1 lec2 lec3 lec4 lec5 lec6 lec7 lec8 lec9 lec10 lec11 lec12 lec13
 refine aE Tryz.func10 rfl zg _ Tryz.ntmps10 (aC rfl) (fun w Pr hE => ?_)
 dsimp only [slotsOf, Nat.zero_add, Nat.reduceAdd]
 repeat' (first | (apply aB (.buildSlice 207 _ _); refine aD (eG rfl zt (by rfl) zg (aA rfl) (by rfl) (by rfl)) rfl ?_) | (apply aB (.load 85 _); refine aK (bW rfl rfl rfl rfl rfl zg) (aA rfl) ?_) | (apply aB (.build 85 _); refine aK (kK rfl rfl (fun u => by simp [dfill, putD, cellsD, Value.cells])) (aA rfl) ?_) | (apply aB (.makeFunc _ _ #[_]); refine aK (eC rfl) (aA rfl) ?_) | (apply aB (.store 85 _ _); refine aD (aN (k := 1) (n := [.box 8 0]) rfl rfl rfl nofun rfl zo (.inr rfl) rfl (aC rfl) rfl) rfl ?_) | refine oQ [(5, 8)] (c0) hE ?_ | refine oQ [(1000, 8), (1001, 12), (1002, 5)] (c1) hE ?_ | refine qo ?_ | refine vd ?_ | refine vy ?_ | refine cQ ?_ | (refine sQ ?_ ?_ <;> intro hb hq <;> try omega) | (apply fD; refine gF ?_))
 clear c0 c1
 refine cC ([(4, rdb4)]) [(0, true), (1, true), (2, true), (4, true), (5, true), (6, true), (3, false), (7, false), (8, true), (9, false)] [10, 11] zp zp zp zg zw ?_
 simp only [planned, tailed, List.filterMap_cons, List.filterMap_nil, List.getElem?_cons_zero, List.getElem?_cons_succ, Option.map_some]
 repeat' (first | apply aZ | refine vt ?_ | (apply aR (.load 85 _); refine bS zj (bW rfl rfl rfl rfl rfl zg) (aA rfl) ?_) | (apply aR (.store _ _ _); refine dU zj rfl rfl rfl (dR rfl) nofun zk zo (.inl ⟨rfl, rfl⟩) rfl (aC rfl) zk ?_) | (apply aR (.buildSlice 207 _ _); refine lA zj rfl zt (by rfl) zg (aA rfl) (by rfl) (by rfl) (by rfl) (by rfl) ?_) | (apply aM; refine fO [(1000, 8)] (c2) hE ?_; rintro _ _ ⟨rfl, rfl⟩ <;> (intro _ _ h1 h2; simp only [aO, Nat.reduceBEq, aG, aL, aH] at h1 h2; subst h1 h2; (try dsimp only [flatV, flat, D.plain, D.plainL]))) | (apply aM; refine fO [(1000, 8)] (c3) hE ?_; rintro _ _ ⟨rfl, rfl⟩ <;> (intro _ _ h1 h2; simp only [aO, Nat.reduceBEq, aG, aL, aH] at h1 h2; subst h1 h2; (try dsimp only [flatV, flat, D.plain, D.plainL]))) | (apply vW; refine aBv ?_) | (apply aU; refine bA ?_) | (apply aV; refine bE ?_) | (refine mQ ?_ ?_ <;> intro hb hq <;> try omega))
 repeat' (first | refine nx ?_ | refine ql ?_ | refine xd ?_ | (refine sQ ?_ ?_ <;> intro hb hq <;> try omega))
 clear c2 c3
 refine cC ([(4, rdb4)]) [(0, true), (1, true), (2, true), (4, true), (5, true), (6, true), (3, false), (7, false), (8, true), (9, false)] [10, 11] zp zp zp zg zw ?_
 simp only [planned, tailed, List.filterMap_cons, List.filterMap_nil, List.getElem?_cons_zero, List.getElem?_cons_succ, Option.map_some]
 repeat' (first | apply aZ | refine vt ?_ | (apply aR (.load 85 _); refine bS zj (bW rfl rfl rfl rfl rfl zg) (aA rfl) ?_) | (apply aR (.store _ _ _); refine dU zj rfl rfl rfl (dR rfl) nofun zk zo (.inl ⟨rfl, rfl⟩) rfl (aC rfl) zk ?_) | (apply aR (.buildSlice 207 _ _); refine lA zj rfl zt (by rfl) zg (aA rfl) (by rfl) (by rfl) (by rfl) (by rfl) ?_) | (apply aM; refine fO [(1000, 8)] (c4) hE ?_; rintro _ _ ⟨rfl, rfl⟩ <;> (intro _ _ h1 h2; simp only [aO, Nat.reduceBEq, aG, aL, aH] at h1 h2; subst h1 h2; (try dsimp only [flatV, flat, D.plain, D.plainL]))) | (apply aM; refine fO [(1000, 8)] (c5) hE ?_; rintro _ _ ⟨rfl, rfl⟩ <;> (intro _ _ h1 h2; simp only [aO, Nat.reduceBEq, aG, aL, aH] at h1 h2; subst h1 h2; (try dsimp only [flatV, flat, D.plain, D.plainL]))) | (apply vW; refine aBv ?_) | (apply aU; refine bA ?_) | (apply aV; refine bE ?_) | (refine mQ ?_ ?_ <;> intro hb hq <;> try omega))
 repeat' (first | refine nx ?_ | refine ql ?_ | refine xd ?_ | (refine sQ ?_ ?_ <;> intro hb hq <;> try omega))
 clear c4 c5
 refine cC ([(4, rdb4)]) [(0, true), (1, true), (3, true), (4, true), (2, false), (5, false), (6, true), (7, false)] [8, 9] zp zp zp zg zw ?_
 simp only [planned, tailed, List.filterMap_cons, List.filterMap_nil, List.getElem?_cons_zero, List.getElem?_cons_succ, Option.map_some]
 repeat' (first | apply aZ | refine vt ?_ | (apply aR (.load 85 _); refine bS zj (bW rfl rfl rfl rfl rfl zg) (aA rfl) ?_) | (apply aR (.store _ _ _); refine dU zj rfl rfl rfl (dR rfl) nofun zk zo (.inl ⟨rfl, rfl⟩) rfl (aC rfl) zk ?_) | (apply aR (.buildSlice 207 _ _); refine lA zj rfl zt (by rfl) zg (aA rfl) (by rfl) (by rfl) (by rfl) (by rfl) ?_) | (apply aM; refine fO [(1000, 8)] (c6) hE ?_; rintro _ _ ⟨rfl, rfl⟩; clear c6 <;> (intro _ _ h1 h2; simp only [aO, Nat.reduceBEq, aG, aL, aH] at h1 h2; subst h1 h2; (try dsimp only [flatV, flat, D.plain, D.plainL]))) | (apply aM; refine fO [(1000, 8)] (c7) hE ?_; rintro _ _ ⟨rfl, rfl⟩ <;> (intro _ _ h1 h2; simp only [aO, Nat.reduceBEq, aG, aL, aH] at h1 h2; subst h1 h2; (try dsimp only [flatV, flat, D.plain, D.plainL]))) | (apply aU; refine bA ?_) | (apply aV; refine bE ?_) | (refine mQ ?_ ?_ <;> intro hb hq <;> try omega))
 clear c7
 repeat' (first | (apply aB (.buildSlice 207 _ _); refine aD (eG rfl zt (by rfl) zg (aA rfl) (by rfl) (by rfl)) rfl ?_) | (apply aB (.load 85 _); refine aK (bW rfl rfl rfl rfl rfl zg) (aA rfl) ?_) | (apply aB (.build 85 _); refine aK (kK rfl rfl (fun u => by simp [dfill, putD, cellsD, Value.cells])) (aA rfl) ?_) | (apply aB (.makeFunc _ _ #[_]); refine aK (eC rfl) (aA rfl) ?_) | (apply aB (.store 85 _ _); refine aD (aN (k := 1) (n := [.box 8 0]) rfl rfl rfl nofun rfl zo (.inr rfl) rfl (aC rfl) rfl) rfl ?_) | refine oQ [(1000, 8)] (c8) hE ?_ | refine oQ [(1000, 8)] (c9) hE ?_ | refine qg ?_ | refine ql ?_ | refine xd ?_ | (refine sQ ?_ ?_ <;> intro hb hq <;> try omega))
 clear c8 c9
 refine cC ([(4, rdb4)]) [(0, true), (1, true), (2, true), (3, true), (4, true), (5, true), (6, true), (7, true), (8, true), (9, true), (10, true), (11, true), (12, true), (13, true), (14, true), (15, true), (16, true), (17, true), (18, true), (19, false), (20, false)] [] zp zp zp zg zw ?_
 simp only [planned, tailed, List.filterMap_cons, List.filterMap_nil, List.getElem?_cons_zero, List.getElem?_cons_succ, Option.map_some]
 repeat' (first | apply aZ | refine vt ?_ | (apply aR (.load 85 _); refine bS zj (bW rfl rfl rfl rfl rfl zg) (aA rfl) ?_) | (apply aR (.store _ _ _); refine dU zj rfl rfl rfl (dR rfl) nofun zk zo (.inl ⟨rfl, rfl⟩) rfl (aC rfl) zk ?_) | (apply aR (.buildSlice 207 _ _); refine lA zj rfl zt (by rfl) zg (aA rfl) (by rfl) (by rfl) (by rfl) (by rfl) ?_) | (apply aM; refine fO [(1000, 8), (1001, 71), (1002, 5)] (c10) hE ?_; rintro _ _ ⟨rfl, rfl⟩ <;> (intro _ _ h1 h2; simp only [aO, Nat.reduceBEq, aG, aL, aH] at h1 h2; subst h1 h2; (try dsimp only [flatV, flat, D.plain, D.plainL]))) | (apply bG; refine bQ ?_) | (apply aU; refine bA ?_) | (apply aV; refine bE ?_) | (apply lS; refine oG ?_) | (apply aR (.buildSlice _ _ _); first | refine dK zj rfl zx zk rfl (aC rfl) (aA rfl) ?_ | refine eQ zj rfl zd ze zk zg zg (aA rfl) ?_) | (refine mQ ?_ ?_ <;> intro hb hq <;> try omega))
 clear c10
 repeat' (first | (apply aB (.buildSlice 207 _ _); refine aD (eG rfl zt (by rfl) zg (aA rfl) (by rfl) (by rfl)) rfl ?_) | (apply aB (.load 85 _); refine aK (bW rfl rfl rfl rfl rfl zg) (aA rfl) ?_) | (apply aB (.build 85 _); refine aK (kK rfl rfl (fun u => by simp [dfill, putD, cellsD, Value.cells])) (aA rfl) ?_) | (apply aB (.makeFunc _ _ #[_]); refine aK (eC rfl) (aA rfl) ?_) | (apply aB (.store 85 _ _); refine aD (aN (k := 1) (n := [.box 8 0]) rfl rfl rfl nofun rfl zo (.inr rfl) rfl (aC rfl) rfl) rfl ?_) | refine oQ [(1000, 8)] (c11) hE ?_ | refine oQ [(1000, 8), (1005, 4)] (c12) hE ?_ | refine oQ [(1000, 8)] (c13) hE ?_ | refine ql ?_ | refine vd ?_ | refine vh ?_ | refine vo ?_ | (refine sQ ?_ ?_ <;> intro hb hq <;> try omega))
 clear c11 c12 c13
 generalize (!b13 && decide (r13 = emp)) = q2 at *
 cases q1 : decide (t = emp)
 rotate_left 1
 ·have q4 : decide (t = (⟨#[]⟩ : ByteArray)) = true := q1
  repeat' (first | refine xc ?_ | refine xd ?_ | refine xv ?_ | refine cQ ?_ | (refine sQ ?_ ?_ <;> intro hb hq <;> try omega) | (refine wQ ?_ ?_ <;> intro hb hq <;> try omega))
  refine aJ 2 1 rfl rfl (ToD.nil 4) rfl ?_
  refine aJ 2 2 rfl rfl (ToD.nil 1) rfl ?_
  refine aJ 2 3 rfl rfl (ToD.nil 9) rfl ?_
  refine aJ 2 4 rfl rfl (ToD.nil 4) rfl ?_
  refine aJ 2 5 rfl rfl (ToD.nil 1) rfl ?_
  refine aJ 2 6 rfl rfl (ToD.nil 1) rfl ?_
  refine aJ 2 7 rfl rfl (ToD.nil 15) rfl ?_
  refine aJ 2 8 rfl rfl (ToD.nil 1) rfl ?_
  refine aJ 2 15 rfl rfl (ToD.nil 1) rfl ?_
  refine aJ 2 16 rfl rfl (ToD.nil 2) rfl ?_
  refine aJ 2 17 rfl rfl (ToD.nil 4) rfl ?_
  refine mU (by rfl) (by first | exact ResX.tmp _ _ zx | exact ResX.cellA _ _ _ _ _ _ _ rfl rfl rfl zk rfl | exact ResX.cell1 _ _ _ _ _ _ rfl rfl rfl zx) (by first | exact ResX.tmp _ _ zx | exact ResX.cellA _ _ _ _ _ _ _ rfl rfl rfl zk rfl | exact ResX.cell1 _ _ _ _ _ _ rfl rfl rfl zx) ?_
  rfl
 have q4 : decide (t = (⟨#[]⟩ : ByteArray)) = false := q1
 cases q2
 ·skip
  repeat' (first | refine oQ [(1000, 8)] (c14) hE ?_ | refine xc ?_ | refine xd ?_ | refine xv ?_ | refine cQ ?_ | (refine sQ ?_ ?_ <;> intro hb hq <;> try omega) | (refine wQ ?_ ?_ <;> intro hb hq <;> try omega))
  refine aJ 2 1 rfl rfl (ToD.nil 4) rfl ?_
  refine aJ 2 2 rfl rfl (ToD.nil 1) rfl ?_
  refine aJ 2 3 rfl rfl (ToD.nil 9) rfl ?_
  refine aJ 2 4 rfl rfl (ToD.nil 4) rfl ?_
  refine aJ 2 5 rfl rfl (ToD.nil 1) rfl ?_
  refine aJ 2 6 rfl rfl (ToD.nil 1) rfl ?_
  refine aJ 2 7 rfl rfl (ToD.nil 15) rfl ?_
  refine aJ 2 8 rfl rfl (ToD.nil 1) rfl ?_
  refine aJ 2 15 rfl rfl (ToD.nil 1) rfl ?_
  refine aJ 2 16 rfl rfl (ToD.nil 2) rfl ?_
  refine aJ 2 17 rfl rfl (ToD.nil 4) rfl ?_
  refine mU (by rfl) (by first | exact ResX.tmp _ _ zx | exact ResX.cellA _ _ _ _ _ _ _ rfl rfl rfl zk rfl | exact ResX.cell1 _ _ _ _ _ _ rfl rfl rfl zx) (by first | exact ResX.tmp _ _ zx | exact ResX.cellA _ _ _ _ _ _ _ rfl rfl rfl zk rfl | exact ResX.cell1 _ _ _ _ _ _ rfl rfl rfl zx) ?_
  rfl
 cases q3 : decide (sd = t)
 ·have q5 : (!decide (sd = t)) = true := by rw [q3]; rfl
  repeat' (first | refine oQ [(1000, 8)] (c14) hE ?_ | refine kQ (c15) hE ?_ | refine xc ?_ | refine xd ?_ | refine xv ?_ | refine cQ ?_ | (refine sQ ?_ ?_ <;> intro hb hq <;> try omega) | (refine wQ ?_ ?_ <;> intro hb hq <;> try omega))
  refine aJ 2 1 rfl rfl (ToD.nil 4) rfl ?_
  refine aJ 2 2 rfl rfl (ToD.nil 1) rfl ?_
  refine aJ 2 3 rfl rfl (ToD.nil 9) rfl ?_
  refine aJ 2 4 rfl rfl (ToD.nil 4) rfl ?_
  refine aJ 2 5 rfl rfl (ToD.nil 1) rfl ?_
  refine aJ 2 6 rfl rfl (ToD.nil 1) rfl ?_
  refine aJ 2 7 rfl rfl (ToD.nil 15) rfl ?_
  refine aJ 2 8 rfl rfl (ToD.nil 1) rfl ?_
  refine aJ 2 15 rfl rfl (ToD.nil 1) rfl ?_
  refine aJ 2 16 rfl rfl (ToD.nil 2) rfl ?_
  refine aJ 2 17 rfl rfl (ToD.nil 4) rfl ?_
  refine mU (by rfl) (by first | exact ResX.tmp _ _ zx | exact ResX.cellA _ _ _ _ _ _ _ rfl rfl rfl zk rfl | exact ResX.cell1 _ _ _ _ _ _ rfl rfl rfl zx) (by first | exact ResX.tmp _ _ zx | exact ResX.cellA _ _ _ _ _ _ _ rfl rfl rfl zk rfl | exact ResX.cell1 _ _ _ _ _ _ rfl rfl rfl zx) ?_
  rfl
 ·have q5 : (!decide (sd = t)) = false := by rw [q3]; rfl
  repeat' (first | refine oQ [(1000, 8)] (c14) hE ?_ | refine kQ (c15) hE ?_ | refine vr ?_ | refine xc ?_ | refine xd ?_ | refine cQ ?_ | (refine sQ ?_ ?_ <;> intro hb hq <;> try omega) | (refine wQ ?_ ?_ <;> intro hb hq <;> try omega))
  refine mU (by rfl) (by first | exact ResX.tmp _ _ zx | exact ResX.cellA _ _ _ _ _ _ _ rfl rfl rfl zk rfl | exact ResX.cell1 _ _ _ _ _ _ rfl rfl rfl zx) (by first | exact ResX.tmp _ _ zx | exact ResX.cellA _ _ _ _ _ _ _ rfl rfl rfl zk rfl | exact ResX.cell1 _ _ _ _ _ _ rfl rfl rfl zx) ?_
  rfl
end
section
open Go.RowKit
inductive Wk : D → D → Prop where
 | same (x : D) : Wk x x
 | nil (s : Nat) : Wk (.val (.slice none 0 0)) (.list s [])
 | agg (l m : List D) (hl : l.length = m.length) (h : ∀ (i : Nat) (x y : D), l[i]? = some x → m[i]? = some y → Wk x y) : Wk (.agg l) (.agg m)
theorem Wk.rep {w : World} {Pr : Prot} {x y : D} (h : Wk x y) : ∀ v, RepD w Pr v x → RepD w Pr v y := by
 induction h with
 | same x => exact fun v h => h
 | nil s =>
  intro v h
  cases h
  exact .nil none 0 s (Nat.zero_le _)
 | agg l m hl hh ih =>
  intro v h
  cases h with
  | agg cs _ hc hd =>
   refine .agg cs m (hc.trans hl) (fun i v d h1 h2 => ?_)
   have hlt : i < l.length := by rw [hl]; exact (List.getElem?_eq_some_iff.1 h2).1
   exact ih i l[i] d (List.getElem?_eq_getElem hlt) h2 v (hd i v l[i] h1 (List.getElem?_eq_getElem hlt))
theorem PureC.wk {f : FuncId} {x y : D} {Post : D → Prop} (h : PureC f [y] Post) (hw : Wk x y) : PureC f [x] Post :=
 ⟨h.1, fun w Pr vs h1 h2 h3 h4 => h.2 w Pr vs h1 h2 h3 fun i v d hv hd => by
  match i with
  | 0 => cases hd; exact hw.rep v (h4 0 v x hv rfl)
  | i + 1 => simp at hd⟩
def WkL (l m : List D) : Prop := l.length = m.length ∧ ∀ (i : Nat) (x y : D), l[i]? = some x → m[i]? = some y → Wk x y
theorem yL : WkL [] [] := ⟨rfl, fun i a b h1 _ => by simp at h1⟩
theorem aX {x y : D} {l m : List D} (h : Wk x y) (hl : WkL l m) : WkL (x :: l) (y :: m) :=
 ⟨by simp [hl.1], fun i a b h1 h2 => by
  cases i with
  | zero => cases h1; cases h2; exact h
  | succ i => exact hl.2 i a b h1 h2⟩
theorem yK {l m : List D} (h : WkL l m) : Wk (.agg l) (.agg m) := .agg l m h.1 h.2
def exS : SSt := ⟨7, [], [], [], [], [], [], [], [5, -2], ⟨0, 0, 1, 1, 1, 0⟩, [3, -3], [], []⟩
def oneS : SSt := ⟨0, [], [], [], [], [], [], [], [], ⟨0, 0, 1, 1, 1, 0⟩, [], [], []⟩
abbrev oneA : List D := [.int 0, nilD, nilD, nilD, nilD, nilD, nilD, nilD, nilD, .int 0, .int 0, .int 1, .int 1, .int 1, .int 0, nilD, nilD, nilD]
abbrev zeroA : List D := [.int 0, nilD, nilD, nilD, nilD, nilD, nilD, nilD, nilD, .int 0, .int 0, .int 0, .int 0, .int 0, .int 0, nilD, nilD, nilD]
theorem aHh : Wk (.agg oneA) (.agg oneS.c) :=
 yK (aX (.same _) (aX (.nil 4) (aX (.nil 1) (aX (.nil 9) (aX (.nil 4) (aX (.nil 1) (aX (.nil 1) (aX (.nil 15) (aX (.nil 1) (aX (.same _) (aX (.same _) (aX (.same _) (aX (.same _) (aX (.same _) (aX (.same _) (aX (.nil 1) (aX (.nil 2) (aX (.nil 4) yL))))))))))))))))))
theorem wE : Wk (.agg zeroA) (.agg zeroS.c) :=
 yK (aX (.same _) (aX (.nil 4) (aX (.nil 1) (aX (.nil 9) (aX (.nil 4) (aX (.nil 1) (aX (.nil 1) (aX (.nil 15) (aX (.nil 1) (aX (.same _) (aX (.same _) (aX (.same _) (aX (.same _) (aX (.same _) (aX (.same _) (aX (.nil 1) (aX (.nil 2) (aX (.nil 4) yL))))))))))))))))))
theorem oP : exS.ok := by
 constructor <;> first | decide | (intro a ha; cases ha)
theorem aHg : oneS.ok := by
 constructor <;> first | decide | (intro a ha; cases ha)
theorem wD : zeroS.ok := by
 constructor <;> first | decide | (intro a ha; cases ha)
theorem pW : exS.bare := ⟨rfl, rfl, rfl, rfl, rfl, rfl, rfl⟩
theorem aFa : oneS.bare := ⟨rfl, rfl, rfl, rfl, rfl, rfl, rfl⟩
theorem aBc : zeroS.bare := ⟨rfl, rfl, rfl, rfl, rfl, rfl, rfl⟩
theorem jR : exS.right = true := by decide
theorem tU : oneS.right = true := by decide
theorem rH : zeroS.right = false := by decide
theorem aGr : exS.sum = 3 := by
 unfold SSt.sum
 rw [jR]
 rfl
theorem dig {n : Nat} (h : n < 10) : L (numW (n : Int)) = [UInt8.ofNat (48 + n), 59] := by
 rw [numW, if_neg zb, iN, it n h]
 rfl
theorem xN (n : Int) (l : List Int) : L (numsT (n :: l)) = L (numW n) ++ L (numsT l) := dO _ _ _
theorem xM : L (numsT []) = [] := rfl
theorem qX (l : List Int) : L (intsT l) = Lib.itoa l.length ++ 91 :: (flat8 intW l ++ [93]) := vQ l
theorem xJ {α : Type} (W : α → ByteArray) : L (listT W []) = [48, 59] := by
 show L (numW ((0 : Nat) : Int)) ++ flat8 W [] = _
 rw [dig zg]
 rfl
theorem sG {n : Nat} (h : 0 < n) (h9 : n < 10) : Lib.itoa (-(n : Int)) = [45, UInt8.ofNat (48 + n)] := by
 unfold Lib.itoa
 rw [if_pos zb, show (-(n : Int)).natAbs = n by omega, dec1 h9]
theorem i_m2 : Lib.itoa (-2) = [45, 50] := sG (n := 2) zg zg
theorem i_m3 : Lib.itoa (-3) = [45, 51] := sG (n := 3) zg zg
theorem i_0 : Lib.itoa 0 = [48] := it 0 zg
theorem i_2 : Lib.itoa 2 = [50] := it 2 zg
theorem i_3 : Lib.itoa 3 = [51] := it 3 zg
theorem i_5 : Lib.itoa 5 = [53] := it 5 zg
theorem n_0 : L (numW 0) = [48, 59] := dig (n := 0) zg
theorem n_1 : L (numW 1) = [49, 59] := dig (n := 1) zg
theorem n_7 : L (numW 7) = [55, 59] := dig (n := 7) zg
theorem xF : L (intsT []) = [48, 91, 93] := by
 rw [qX, show (([] : List Int).length : Int) = 0 from rfl, i_0]
 rfl
theorem aGw : L (intsT [5, -2]) = [50, 91, 53, 59, 45, 50, 59, 93] := by
 rw [qX, show (([5, -2] : List Int).length : Int) = 2 from rfl, i_2, dO, dO, iN, iN, i_5, i_m2]
 rfl
theorem aGv : L (intsT [3, -3]) = [50, 91, 51, 59, 45, 51, 59, 93] := by
 rw [qX, show (([3, -3] : List Int).length : Int) = 2 from rfl, i_2, dO, dO, iN, iN, i_3, i_m3]
 rfl
theorem rW : exS.said = ⟨#[55, 59, 48, 59, 48, 59, 48, 59, 48, 59, 48, 91, 93, 48, 91, 93, 48, 59, 50, 91, 53, 59, 45, 50, 59, 93, 48, 59, 48, 59, 49, 59, 49, 59, 49, 59, 48, 59, 50, 91, 51, 59, 45, 51, 59, 93, 48, 59, 48, 59]⟩ := by
 rw [kH (cB.1 jR)]
 refine mZ (a := exS.text) ?_
 show L exS.text = [55, 59, 48, 59, 48, 59, 48, 59, 48, 59, 48, 91, 93, 48, 91, 93, 48, 59, 50, 91, 53, 59, 45, 50, 59, 93, 48, 59, 48, 59, 49, 59, 49, 59, 49, 59, 48, 59, 50, 91, 51, 59, 45, 51, 59, 93, 48, 59, 48, 59]
 simp only [exS, SSt.text, SSt.moneyT, kR, xN, xM, xJ, xF, aGw, aGv, n_0, n_1, n_7]
 rfl
theorem xO : oneS.said = ⟨#[48, 59, 48, 59, 48, 59, 48, 59, 48, 59, 48, 91, 93, 48, 91, 93, 48, 59, 48, 91, 93, 48, 59, 48, 59, 49, 59, 49, 59, 49, 59, 48, 59, 48, 91, 93, 48, 59, 48, 59]⟩ := by
 rw [kH (cB.1 tU)]
 refine mZ (a := oneS.text) ?_
 show L oneS.text = [48, 59, 48, 59, 48, 59, 48, 59, 48, 59, 48, 91, 93, 48, 91, 93, 48, 59, 48, 91, 93, 48, 59, 48, 59, 49, 59, 49, 59, 49, 59, 48, 59, 48, 91, 93, 48, 59, 48, 59]
 simp only [oneS, SSt.text, SSt.moneyT, kR, xN, xM, xJ, xF, n_0, n_1]
 rfl
theorem vN : readD ⟨#[55, 59, 48, 59, 48, 59, 48, 59, 48, 59, 48, 91, 93, 48, 91, 93, 48, 59, 50, 91, 53, 59, 45, 50, 59, 93, 48, 59, 48, 59, 49, 59, 49, 59, 49, 59, 48, 59, 50, 91, 51, 59, 45, 51, 59, 93, 48, 59, 48, 59]⟩ = .tup [.agg exS.c, .int 0] ∧ (stateS ⟨#[55, 59, 48, 59, 48, 59, 48, 59, 48, 59, 48, 91, 93, 48, 91, 93, 48, 59, 50, 91, 53, 59, 45, 50, 59, 93, 48, 59, 48, 59, 49, 59, 49, 59, 49, 59, 48, 59, 50, 91, 51, 59, 45, 51, 59, 93, 48, 59, 48, 59]⟩).v.bare := by
 have h := yE jR oP
 rw [rW] at h
 unfold readD
 rw [if_pos h.1, h.2]
 exact ⟨rfl, pW⟩
theorem pD : PureC 25 [] (· = .agg exS.c) := by
 refine aE Tryz.func25 rfl zg _ Tryz.ntmps25 (aC rfl) (fun w Pr hE => ?_)
 dsimp only [slotsOf, Nat.zero_add, Nat.reduceAdd]
 repeat' (first | refine nx ?_ | refine nz ?_ | (apply fD; refine gF ?_))
 refine aJ 0 1 rfl rfl (ToD.nil 4) rfl ?_
 refine aJ 0 2 rfl rfl (ToD.nil 1) rfl ?_
 refine aJ 0 3 rfl rfl (ToD.nil 9) rfl ?_
 refine aJ 0 4 rfl rfl (ToD.nil 4) rfl ?_
 refine aJ 0 5 rfl rfl (ToD.nil 1) rfl ?_
 refine aJ 0 6 rfl rfl (ToD.nil 1) rfl ?_
 refine aJ 0 7 rfl rfl (ToD.nil 15) rfl ?_
 refine aJ 0 16 rfl rfl (ToD.nil 2) rfl ?_
 refine aJ 0 17 rfl rfl (ToD.nil 4) rfl ?_
 refine aQc (by rfl) (by first | exact ResX.tmp _ _ zx | exact ResX.cellA _ _ _ _ _ _ _ rfl rfl rfl zk rfl | exact ResX.cell1 _ _ _ _ _ _ rfl rfl rfl zx) ?_
 rfl
attribute [local irreducible] readD SSt.said
theorem qI : PureC 8 [] (· = .bool true) := by
 have c1 := (oO oneS aHg aFa).wk aHh
 have c2 := pD
 have c3 := oO exS oP pW
 have c4 := aLt ⟨#[55, 59, 48, 59, 48, 59, 48, 59, 48, 59, 48, 91, 93, 48, 91, 93, 48, 59, 50, 91, 53, 59, 45, 50, 59, 93, 48, 59, 48, 59, 49, 59, 49, 59, 49, 59, 48, 59, 50, 91, 51, 59, 45, 51, 59, 93, 48, 59, 48, 59]⟩ zg vN.2
 have c5 : PureC 12 [.agg exS.c, .agg exS.c] (· = .bool true) := aQg
 have c6 := (oO zeroS wD aBc).wk wE
 have c7 : PureC 17 [.agg exS.c, .agg exS.c] (· = .bool true) := aJo
 have c8 := cW exS oP
 have c9 := zO exS oP pW
 have c10 := jC exS oP
 rw [xO] at c1
 rw [rW] at c3
 rw [vN.1] at c4
 rw [jY.2 rH] at c6
 rw [jR] at c8
 rw [aGr] at c10
 have d1 : decide ((⟨#[48, 59, 48, 59, 48, 59, 48, 59, 48, 59, 48, 91, 93, 48, 91, 93, 48, 59, 48, 91, 93, 48, 59, 48, 59, 49, 59, 49, 59, 49, 59, 48, 59, 48, 91, 93, 48, 59, 48, 59]⟩ : ByteArray) = ⟨#[48, 59, 48, 59, 48, 59, 48, 59, 48, 59, 48, 91, 93, 48, 91, 93, 48, 59, 48, 91, 93, 48, 59, 48, 59, 49, 59, 49, 59, 49, 59, 48, 59, 48, 91, 93, 48, 59, 48, 59]⟩) = true := decide_eq_true rfl
 have d2 : decide ((⟨#[55, 59, 48, 59, 48, 59, 48, 59, 48, 59, 48, 91, 93, 48, 91, 93, 48, 59, 50, 91, 53, 59, 45, 50, 59, 93, 48, 59, 48, 59, 49, 59, 49, 59, 49, 59, 48, 59, 50, 91, 51, 59, 45, 51, 59, 93, 48, 59, 48, 59]⟩ : ByteArray) = ⟨#[55, 59, 48, 59, 48, 59, 48, 59, 48, 59, 48, 91, 93, 48, 91, 93, 48, 59, 50, 91, 53, 59, 45, 50, 59, 93, 48, 59, 48, 59, 49, 59, 49, 59, 49, 59, 48, 59, 50, 91, 51, 59, 45, 51, 59, 93, 48, 59, 48, 59]⟩) = true := decide_eq_true rfl
 have d3 : decide (emp = (⟨#[]⟩ : ByteArray)) = true := decide_eq_true rfl
 refine aE Tryz.func8 rfl zg _ Tryz.ntmps8 (aC rfl) (fun w Pr hE => ?_)
 dsimp only [slotsOf, Nat.zero_add, Nat.reduceAdd]
 repeat' (first | refine kQ (c4) hE ?_ | refine qo ?_ | refine xa ?_ | fail)
 refine cC ([(2, exS.b)]) [(0, true), (1, true), (2, false), (3, true), (4, true), (7, true), (5, false), (6, false), (8, true), (9, true), (10, true), (11, true), (12, true), (13, true), (14, true), (15, true), (16, false), (17, false), (18, true)] [19] zp zp zp zg zw ?_
 simp only [planned, tailed, List.filterMap_cons, List.filterMap_nil, List.getElem?_cons_zero, List.getElem?_cons_succ, Option.map_some]
 repeat' (first | apply aZ | refine vt ?_ | (apply aM; refine bI (c1) hE ?_; rintro _ rfl; clear c1; (try dsimp only [flat, D.plain, D.plainL])) | (apply aM; refine bI (c2) hE ?_; rintro _ rfl; (try dsimp only [flat, D.plain, D.plainL])) | (apply aM; refine bI (c3) hE ?_; rintro _ rfl; (try dsimp only [flat, D.plain, D.plainL])) | (apply aM; refine bI (c5) hE ?_; rintro _ rfl; (try dsimp only [flat, D.plain, D.plainL])) | (apply bG; refine bQ ?_) | (apply gD; refine iP ?_) | (apply aCh; refine aIu ?_) | (apply aU; refine bA ?_) | (apply nS; refine qB ?_) | (refine mQ ?_ ?_ <;> intro hb hq <;> try omega))
 repeat' (first | refine nv ?_ | refine vj ?_ | refine xv ?_ | (refine wQ ?_ ?_ <;> intro hb hq <;> try omega))
 refine cC ([(2, exS.b)]) [(0, true), (1, true), (2, true), (3, false), (4, true), (5, true), (6, true), (7, true), (8, false), (9, false), (10, true), (11, true), (12, true), (13, false), (14, true), (15, true), (18, true), (16, false), (17, false), (19, false), (20, true), (21, true), (22, true), (23, false), (24, true), (25, true)] [26] zp zp zp zg zw ?_
 simp only [planned, tailed, List.filterMap_cons, List.filterMap_nil, List.getElem?_cons_zero, List.getElem?_cons_succ, Option.map_some]
 repeat' (first | apply aZ | refine vt ?_ | (apply aM; refine bI (c6) hE ?_; rintro _ rfl; (try dsimp only [flat, D.plain, D.plainL])) | (apply aM; refine bI (c2) hE ?_; rintro _ rfl; (try dsimp only [flat, D.plain, D.plainL])) | (apply aM; refine bI (c7) hE ?_; rintro _ rfl; (try dsimp only [flat, D.plain, D.plainL])) | (apply aM; refine bI (c8) hE ?_; rintro _ rfl; (try dsimp only [flat, D.plain, D.plainL])) | (apply aM; refine bI (c9) hE ?_; rintro _ rfl; (try dsimp only [flat, D.plain, D.plainL])) | (apply aM; refine bI (c5) hE ?_; rintro _ rfl; (try dsimp only [flat, D.plain, D.plainL])) | (apply aM; refine bI (c10) hE ?_; rintro _ rfl; (try dsimp only [flat, D.plain, D.plainL])) | (apply bG; refine bQ ?_) | (apply gD; refine iP ?_) | (apply aCh; refine aIu ?_) | (apply aU; refine bA ?_) | (apply nS; refine qB ?_) | (refine mQ ?_ ?_ <;> intro hb hq <;> try omega))
 repeat' (first | refine nv ?_ | refine vj ?_ | refine xv ?_ | (refine wQ ?_ ?_ <;> intro hb hq <;> try omega))
 refine rt1 ?_
 rfl
end
end Go.Proofs.YtaodngiigdbgeaaGreatDoor
