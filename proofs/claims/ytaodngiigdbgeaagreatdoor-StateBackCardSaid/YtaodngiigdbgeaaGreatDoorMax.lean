/-
  Conditions: none.
-/
import Derived.Test.YtaodngiigdbgeaaGreatDoorMaa
import Derived.Test.YtaodngiigdbgeaaGreatDoorMaj
import Derived.Test.YtaodngiigdbgeaaGreatDoorMal
import Derived.Test.YtaodngiigdbgeaaGreatDoorMav
import Derived.Test.YtaodngiigdbgeaaGreatDoorMaw
set_option maxHeartbeats 16000000
set_option maxRecDepth 20000
set_option linter.unusedSimpArgs false
set_option linter.unusedVariables false
namespace Go.Proofs.YtaodngiigdbgeaaGreatDoor
section
open Go.RowKit
theorem aKc {E : Entry} {sl : Slots} {ob : Objs} {Q : Exit → Act → World → Prop} {K : Act → World → Prop} {c : List PanicEntry} (h : AQ E (.panic c) Q sl ob) : AQ E (.panic c) (Exit.then K Q) sl ob := ⟨h.run⟩
theorem aGi {E : Entry} {sl : Slots} {ob : Objs} {Q : Exit → Act → World → Prop} {id : Nat} {c : List PanicEntry} (h : AQ E (.panic c) Q sl ob) : AQ E (.panic c) (Exit.inBlock id Q) sl ob := ⟨h.run⟩
def parseD (r : By × Int × Int) : D := .tup [.agg (byC r.1), .int r.2.1, .int r.2.2]
theorem aAl (s : ByteArray) (hs : s.size ≤ 1000000) : PureC 24 [.str s] (· = parseD (parseV s)) := by
 have hopen := aPk s hs
 rcases hL : lexV s with ⟨L, p, e⟩
 have hV : parseV s = if e = 0 then (match bylawsP L with
  | .ok x _ => (x, 0, 0)
  | .bad q c => (By.zero, q, c)) else (By.zero, p, e) := by
  unfold parseV
  rw [hL]
  try rfl
 rw [hL] at hopen
 dsimp only at hopen
 by_cases he : e = 0
 ·subst he
  rw [if_pos rfl] at hV
  obtain ⟨h1, h2, h3, h4, h5, h6, h7⟩ := aLc hL
  have r0 := h4.rdy h5
  have at0 : ((atN L L : Nat) : Int) = 0 := by simp [atN]
  have hby := aTv r0 h6
  unfold psr at hby
  rw [at0] at hby
  have q0 : (!decide ((0 : Int) = 0)) = false := rfl
  refine uQ Tryz.func24 rfl zg _ Tryz.ntmps24 (aC rfl) (fun w Pr hE => ?_)
  dsimp only [slotsOf, Nat.zero_add, Nat.reduceAdd]
  repeat' (first | refine oQ [(16, 18)] (hopen) hE ?_ | (apply aB (.makeFunc _ _ _); refine aK (eC rfl) (aA rfl) ?_) | refine nx ?_ | apply bU | refine qx ?_ | refine vf ?_ | refine xa ?_ | (refine sQ ?_ ?_ <;> intro hb hq <;> try omega) | (apply gO; refine jB ?_))
  refine cX (sl' := [(17, .clo (.func 154) [.box 3 0, .box 4 0, .box 2 0]), (5, .box 18 0), (4, .box 4 0), (3, .box 3 0), (2, .box 2 0)]) (ob' := [(18, psB L 0), (2, zeroBy), (3, intB p), (4, errB 0)]) zm zw ?_
  refine aBd 2 1002 rfl rfl ?_
  refine cX (sl' := [(17, .clo (.func 154) [.box 3 0, .box 4 0, .box 1002 0]), (5, .box 18 0), (4, .box 4 0), (3, .box 3 0), (2, .box 1002 0)]) (ob' := [(18, psB L 0), (1002, zeroBy), (3, intB p), (4, errB 0)]) zm zw ?_
  refine aBd 3 1003 rfl rfl ?_
  refine cX (sl' := [(17, .clo (.func 154) [.box 1003 0, .box 4 0, .box 1002 0]), (5, .box 18 0), (4, .box 4 0), (3, .box 1003 0), (2, .box 1002 0)]) (ob' := [(18, psB L 0), (1002, zeroBy), (1003, intB p), (4, errB 0)]) zm zw ?_
  refine aBd 4 1004 rfl rfl ?_
  refine cX (sl' := [(17, .clo (.func 154) [.box 1003 0, .box 1004 0, .box 1002 0]), (5, .box 18 0), (4, .box 1004 0), (3, .box 1003 0), (2, .box 1002 0)]) (ob' := [(18, psB L 0), (1002, zeroBy), (1003, intB p), (1004, errB 0)]) zm zw ?_
  refine aBd 18 1000 rfl rfl ?_
  refine cX (sl' := [(17, .clo (.func 154) [.box 1003 0, .box 1004 0, .box 1002 0]), (5, .box 1000 0), (4, .box 1004 0), (3, .box 1003 0), (2, .box 1002 0)]) (ob' := [(1000, psB L 0), (1002, zeroBy), (1003, intB p), (1004, errB 0)]) zm zw ?_
  refine aMp rfl hE rfl rfl rfl (fun E' cs en eo hN hE' hdf hcl hcs => ?_)
  obtain ⟨w', Pr', n', ob0', β', κ', df'⟩ := E'
  dsimp only at en eo hdf hcs
  subst en eo hdf
  have hE := hE'
  rcases hx : bylawsP L with ⟨x, t⟩ | ⟨q, c⟩
  ·rw [hx] at hV hby
   have hok := aHi hby rfl
   repeat' (first | refine oQ [(1000, 1000)] (hok) hE ?_ | refine qr ?_ | apply bU | refine cQ ?_ | (refine sQ ?_ ?_ <;> intro hb hq <;> try omega))
   refine aIg (sl' := [(4, .box 1004 0), (3, .box 1003 0), (2, .box 1002 0)]) (ob' := [(1003, intB 0), (1004, errB 0), (1002, .box 56 ((byC x).map V.d))]) zm zw ?_
   refine aDp (.inl ⟨rfl, rfl⟩) rfl hN hE' rfl hcl hcs rfl (aLk 0 0 _ rfl) rfl rfl (fun E'' ob'' k1 k2 hN'' ho => ?_) (fun _ _ => trivial)
   subst ho
   rw [hV]
   exact aVm hN'' rfl (by first | exact ResX.tmp _ _ zx | exact ResX.cellA _ _ _ _ _ _ _ rfl rfl rfl zk rfl | exact ResX.cell1 _ _ _ _ _ _ rfl rfl rfl zx) (by first | exact ResX.tmp _ _ zx | exact ResX.cellA _ _ _ _ _ _ _ rfl rfl rfl zk rfl | exact ResX.cell1 _ _ _ _ _ _ rfl rfl rfl zx) (by first | exact ResX.tmp _ _ zx | exact ResX.cellA _ _ _ _ _ _ _ rfl rfl rfl zk rfl | exact ResX.cell1 _ _ _ _ _ _ rfl rfl rfl zx) rfl k1
  ·rw [hx] at hV hby
   have hbad := aJe hby rfl
   repeat' (first | refine qr ?_ | apply bU | refine cQ ?_ | (refine sQ ?_ ?_ <;> intro hb hq <;> try omega))
   refine aDh [(1000, 1000)] hbad rfl hE (aA rfl) (by (repeat (first | refine ArgsV.cons (.same _ _ rfl) ?_ | refine ArgsV.cons (.toD _ _ zn) ?_)); exact ArgsV.nil) ⟨bY rfl cU, rfl, rfl, rfl, rfl⟩ (fun v hv => ?_) (fun _ _ h => h.elim)
   subst hv
   repeat (first | refine aKc ?_ | refine aGi ?_)
   refine aIg (sl' := [(4, .box 1004 0), (3, .box 1003 0), (2, .box 1002 0)]) (ob' := [(1003, intB p), (1004, errB 0), (1002, zeroBy)]) zm zw ?_
   refine aDp (.inr ⟨_, rfl, rfl⟩) (yW q c) hN hE' rfl hcl hcs rfl (aHj q c p 0 _ rfl) rfl rfl (fun E'' ob'' k1 k2 hN'' ho => ?_) (fun _ _ => trivial)
   subst ho
   rw [hV]
   refine dC 1002 1 6 rfl rfl rfl ?_
   refine dC 1002 6 5 rfl rfl rfl ?_
   refine dC 1002 11 5 rfl rfl rfl ?_
   refine dC 1002 16 5 rfl rfl rfl ?_
   refine dC 1002 21 5 rfl rfl rfl ?_
   exact aVm hN'' rfl (by first | exact ResX.tmp _ _ zx | exact ResX.cellA _ _ _ _ _ _ _ rfl rfl rfl zk rfl | exact ResX.cell1 _ _ _ _ _ _ rfl rfl rfl zx) (by first | exact ResX.tmp _ _ zx | exact ResX.cellA _ _ _ _ _ _ _ rfl rfl rfl zk rfl | exact ResX.cell1 _ _ _ _ _ _ rfl rfl rfl zx) (by first | exact ResX.tmp _ _ zx | exact ResX.cellA _ _ _ _ _ _ _ rfl rfl rfl zk rfl | exact ResX.cell1 _ _ _ _ _ _ rfl rfl rfl zx) rfl k1
 ·rw [if_neg he] at hV
  have q0 : (!decide (e = 0)) = true := by simp [he]
  refine uQ Tryz.func24 rfl zg _ Tryz.ntmps24 (aC rfl) (fun w Pr hE => ?_)
  dsimp only [slotsOf, Nat.zero_add, Nat.reduceAdd]
  repeat' (first | refine oQ [(16, 18)] (hopen) hE ?_ | refine nx ?_ | apply bU | refine qx ?_ | refine vf ?_ | refine xa ?_ | (refine sQ ?_ ?_ <;> intro hb hq <;> try omega))
  refine cC ([(3, intB p), (4, errB e)]) [(0, true), (1, true), (2, true), (3, false)] [4, 5] zp zp zp zg zw ?_
  simp only [planned, tailed, List.filterMap_cons, List.filterMap_nil, List.getElem?_cons_zero, List.getElem?_cons_succ, Option.map_some]
  repeat' (first | apply aZ | refine vt ?_ | (apply aR (.store _ _ _); refine dU zj rfl rfl rfl (dR rfl) nofun zk zo (.inr rfl) rfl (aC rfl) zk ?_) | (apply aU; refine bA ?_) | (apply nS; refine qB ?_) | (refine mQ ?_ ?_ <;> intro hb hq <;> try omega))
  repeat' (first | refine nx ?_ | apply bU | refine qx ?_ | (refine sQ ?_ ?_ <;> intro hb hq <;> try omega) | (apply dY; refine fG ?_) | (apply fD; refine gF ?_))
  refine dC 2 1 6 rfl rfl rfl ?_
  refine dC 2 6 5 rfl rfl rfl ?_
  refine dC 2 11 5 rfl rfl rfl ?_
  refine dC 2 16 5 rfl rfl rfl ?_
  refine dC 2 21 5 rfl rfl rfl ?_
  refine aq_d0 (.inl rfl) ?_
  rw [hV]
  refine ret3x (by rfl) (by first | exact ResX.tmp _ _ zx | exact ResX.cellA _ _ _ _ _ _ _ rfl rfl rfl zk rfl | exact ResX.cell1 _ _ _ _ _ _ rfl rfl rfl zx) (by first | exact ResX.tmp _ _ zx | exact ResX.cellA _ _ _ _ _ _ _ rfl rfl rfl zk rfl | exact ResX.cell1 _ _ _ _ _ _ rfl rfl rfl zx) (by first | exact ResX.tmp _ _ zx | exact ResX.cellA _ _ _ _ _ _ _ rfl rfl rfl zk rfl | exact ResX.cell1 _ _ _ _ _ _ rfl rfl rfl zx) ?_
  rfl
end
section
open Go.RowKit
theorem aDq (a : SArc) (hl : a.lo.length ≤ 1000000) (hh : a.hi.length ≤ 1000000) : PureC 60 [.agg a.c] (· = .bool a.fine) := by
 have c1 := rN a zb zb
 have c2 := tS [a.f, a.t] (by simp)
 unfold SArc.fine
 generalize a.right = b1 at *
 generalize nodeQ [a.f, a.t] = b2 at *
 refine aE Tryz.func60 rfl zg _ Tryz.ntmps60 (aC rfl) (fun w Pr hE => ?_)
 dsimp only [slotsOf, Nat.zero_add, Nat.reduceAdd]
 repeat' (first | refine kQ (c1) hE ?_ | refine kQ (c2) hE ?_ | refine qa ?_ | refine vj ?_ | refine vw ?_ | (refine wQ ?_ ?_ <;> intro hb hq <;> try omega))
 all_goals refine rt1 ?_
 all_goals simp [*]
theorem aBk (c : SCar) : PureC 62 [.agg c.c] (· = .bool c.right) := by
 have c1 := jK 0 60 [c.se, c.ch, c.ba] (by simp)
 have c2 := jK 0 c.fu [c.cg] (by simp)
 have c3 := jK 0 3999 [c.ow] (by simp)
 have c4 := tS [c.no] (by simp)
 have c5 := jP [c.re, c.en] (by simp)
 unfold SCar.right
 generalize inQ 0 60 [c.se, c.ch, c.ba] = b1 at *
 generalize inQ 0 c.fu [c.cg] = b2 at *
 generalize inQ 0 3999 [c.ow] = b3 at *
 generalize nodeQ [c.no] = b4 at *
 generalize timeQ [c.re, c.en] = b5 at *
 refine aE Tryz.func62 rfl zg _ Tryz.ntmps62 (aC rfl) (fun w Pr hE => ?_)
 dsimp only [slotsOf, Nat.zero_add, Nat.reduceAdd]
 repeat' (first | (apply aF; refine bP (c1) hE ?_; rintro _ rfl; clear c1) | (apply aF; refine bP (c2) hE ?_; rintro _ rfl; clear c2) | refine kQ (c3) hE ?_ | refine kQ (c4) hE ?_ | refine kQ (c5) hE ?_ | refine qa ?_ | refine vi ?_ | refine vj ?_ | (refine wQ ?_ ?_ <;> intro hb hq <;> try omega))
 all_goals refine rt1 ?_
 all_goals simp [*]
theorem aCa (o : SObs) : PureC 66 [.agg o.c] (· = .bool o.right) := by
 have c1 := jP [o.s] (by simp)
 have c2 := jK 0 10000 [o.k] (by simp)
 unfold SObs.right
 generalize timeQ [o.s] = b1 at *
 generalize inQ 0 10000 [o.k] = b2 at *
 refine aE Tryz.func66 rfl zg _ Tryz.ntmps66 (aC rfl) (fun w Pr hE => ?_)
 dsimp only [slotsOf, Nat.zero_add, Nat.reduceAdd]
 repeat' (first | refine kQ (c1) hE ?_ | refine kQ (c2) hE ?_ | refine qa ?_ | refine vj ?_ | refine vw ?_ | (refine wQ ?_ ?_ <;> intro hb hq <;> try omega))
 all_goals refine rt1 ?_
 all_goals simp [*]
theorem yV (l : List SObs) (hl : l.length ≤ 1000000) : ObC 67 [.d (obsL l), .box 1006 0] obsO [] (fun r o => r = .d (.bool (seenQ l)) ∧ o = obsO) := by
 have c1 := aSb (l := l) (p := SObs.right) (hl := by omega) (hp := fun x _ b hb => by rw [hb]; exact aCa x)
 unfold seenQ
 generalize l.all SObs.right = b1 at *
 have hlm : (l.map SObs.c).length = l.length := List.length_map ..
 cases h1 : decide ((l.length : Int) ≤ 10000)
 ·skip
  refine aI Tryz.func67 rfl zg _ Tryz.ntmps67 (aC rfl) rfl (fun w Pr β κ hE => ?_)
  dsimp only [slotsV, Nat.zero_add, Nat.reduceAdd]
  repeat' (first | refine ng ?_ | refine qo ?_ | (refine wQ ?_ ?_ <;> intro hb hq <;> try omega) | (apply cV; refine eD ?_))
  refine aP (obsO) (by rfl) rv (⟨rfl, rfl⟩) sb okx
 ·skip
  refine aI Tryz.func67 rfl zg _ Tryz.ntmps67 (aC rfl) rfl (fun w Pr β κ hE => ?_)
  dsimp only [slotsV, Nat.zero_add, Nat.reduceAdd]
  repeat' (first | refine oQ [] (c1) hE ?_ | refine ng ?_ | refine qo ?_ | (refine wQ ?_ ?_ <;> intro hb hq <;> try omega) | (apply cV; refine eD ?_))
  refine aP (obsO) (by rfl) rv (⟨rfl, rfl⟩) sb okx
theorem yX (m : Int) (hm : 0 ≤ m ∧ m ≤ 1000000) (s : SStop) : ObC 184 [.d (.agg s.c), .box 1006 0] (intO m) [] (fun r o => r = .d (.bool (s.right m)) ∧ o = intO m) := by
 have c1 := jK 0 (m - 1) [s.r] (by simp)
 unfold SStop.right
 refine aI Tryz.func184 rfl zg _ Tryz.ntmps184 (aC rfl) rfl (fun w Pr β κ hE => ?_)
 dsimp only [slotsV, Nat.zero_add, Nat.reduceAdd]
 repeat' (first | refine kQ (c1) hE ?_ | refine vd ?_ | refine xk ?_ | (apply nE; refine qT ?_))
 refine aP (intO m) (by rfl) rv (⟨rfl, rfl⟩) sb okx
theorem aBr (l : SLeg) : PureC 185 [.agg l.c] (· = .bool l.right) := by
 have c1 := jK 0 l.h [l.l] (by simp)
 unfold SLeg.right
 generalize inQ 0 l.h [l.l] = b1 at *
 refine aE Tryz.func185 rfl zg _ Tryz.ntmps185 (aC rfl) (fun w Pr hE => ?_)
 dsimp only [slotsOf, Nat.zero_add, Nat.reduceAdd]
 repeat' (first | refine kQ (c1) hE ?_ | refine qa ?_ | refine vi ?_ | refine vj ?_ | (refine wQ ?_ ?_ <;> intro hb hq <;> try omega))
 all_goals refine rt1 ?_
 all_goals simp [*]
structure SPlan.ok (p : SPlan) : Prop where
 st : p.st.length ≤ 1000000
 le : p.le.length ≤ 1000000
 lv : p.lv.length ≤ 1000000
theorem yT (p : SPlan) (car m : Int) (hm : 0 ≤ m ∧ m ≤ 1000000) (ho : p.ok) : PureC 65 [.agg p.c, .int car, .int m] (· = .bool (p.right m car)) := by
 have h1 := ho.st
 have h2 := ho.le
 have h3 := ho.lv
 have c1 := aMv (m := m) (l := p.st) (p := SStop.right m) (hl := by omega) (hp := fun x _ b hb => by rw [hb]; exact yX m hm x)
 have c2 := aSa (l := p.le) (p := SLeg.right) (hl := by omega) (hp := fun x _ b hb => by rw [hb]; exact aBr x)
 have c3 := jP p.lv zb
 have m1 : (p.st.map SStop.c).length = p.st.length := List.length_map ..
 have m2 : (p.le.map SLeg.c).length = p.le.length := List.length_map ..
 have m3 : (p.lv.map fun n => [D.int n]).length = p.lv.length := List.length_map ..
 unfold SPlan.right
 generalize p.st.all (SStop.right m) = b1 at *
 generalize p.le.all SLeg.right = b2 at *
 generalize timeQ p.lv = b3 at *
 refine aE Tryz.func65 rfl zg _ Tryz.ntmps65 (aC rfl) (fun w Pr hE => ?_)
 dsimp only [slotsOf, Nat.zero_add, Nat.reduceAdd]
 repeat' (first | (apply aB (.makeFunc _ _ _); refine aK (eC rfl) (aA rfl) ?_) | refine oQ [(1006, 5)] (c1) hE ?_ | refine oQ [] (c2) hE ?_ | refine kQ (c3) hE ?_ | refine ng ?_ | refine vb ?_ | refine xp ?_ | (refine wQ ?_ ?_ <;> intro hb hq <;> try omega) | (apply lU; refine pM ?_) | (apply gO; refine jB ?_))
 all_goals refine rt1 ?_
 all_goals simp [*]
theorem yF (s : SShare) : PureC 192 [.agg s.c] (· = .bool s.right) := by
 have c1 := jK 1 20 [s.x] (by simp)
 have c2 := jK 0 2147483646 [s.y] (by simp)
 unfold SShare.right
 generalize inQ 1 20 [s.x] = b1 at *
 generalize inQ 0 2147483646 [s.y] = b2 at *
 refine aE Tryz.func192 rfl zg _ Tryz.ntmps192 (aC rfl) (fun w Pr hE => ?_)
 dsimp only [slotsOf, Nat.zero_add, Nat.reduceAdd]
 repeat' (first | (apply aF; refine bP (c1) hE ?_; rintro _ rfl; clear c1) | refine kQ (c2) hE ?_ | refine qa ?_ | refine vj ?_ | refine vw ?_ | (refine wQ ?_ ?_ <;> intro hb hq <;> try omega))
 all_goals refine rt1 ?_
 all_goals simp [*]
theorem yS (m : Int) (hm : 0 ≤ m ∧ m ≤ 1000000) (c : SCard) (hl : c.sh.length ≤ 1000000) : ObC 193 [.d (.agg c.c), .box 1006 0, .box 1007 0] (crdO m) [] (fun r o => r = .d (.bool (c.right m)) ∧ o = crdO m) := by
 have c1 := jK 0 (m - 1) [c.me] (by simp)
 have c2 := aJy (l := c.sh) (p := SShare.right) (hl := by omega) (hp := fun x _ b hb => by rw [hb]; exact yF x)
 have m1 : (c.sh.map SShare.c).length = c.sh.length := List.length_map ..
 unfold SCard.right
 generalize c.sh.all SShare.right = b2 at *
 generalize inQ 0 (m - 1) [c.me] = b1 at *
 cases b1
 ·skip
  refine aI Tryz.func193 rfl zg _ Tryz.ntmps193 (aC rfl) rfl (fun w Pr β κ hE => ?_)
  dsimp only [slotsV, Nat.zero_add, Nat.reduceAdd]
  repeat' (first | refine kQ (c1) hE ?_ | refine ng ?_ | refine qa ?_ | refine vj ?_ | (refine wQ ?_ ?_ <;> intro hb hq <;> try omega) | (apply nE; refine qT ?_))
  refine aP (crdO m) (by rfl) rv (⟨rfl, rfl⟩) sb okx
 cases h1 : decide ((c.sh.length : Int) ≤ 20)
 ·skip
  refine aI Tryz.func193 rfl zg _ Tryz.ntmps193 (aC rfl) rfl (fun w Pr β κ hE => ?_)
  dsimp only [slotsV, Nat.zero_add, Nat.reduceAdd]
  repeat' (first | refine kQ (c1) hE ?_ | refine ng ?_ | refine qa ?_ | refine vj ?_ | (refine wQ ?_ ?_ <;> intro hb hq <;> try omega) | (apply nE; refine qT ?_))
  refine aP (crdO m) (by rfl) rv (⟨rfl, rfl⟩) sb okx
 ·skip
  refine aI Tryz.func193 rfl zg _ Tryz.ntmps193 (aC rfl) rfl (fun w Pr β κ hE => ?_)
  dsimp only [slotsV, Nat.zero_add, Nat.reduceAdd]
  repeat' (first | refine kQ (c1) hE ?_ | refine oQ [] (c2) hE ?_ | refine ng ?_ | refine qa ?_ | refine vj ?_ | (refine wQ ?_ ?_ <;> intro hb hq <;> try omega) | (apply nE; refine qT ?_))
  refine aP (crdO m) (by rfl) rv (⟨rfl, rfl⟩) sb okx
structure SBal.ok (b : SBal) : Prop where
 t : b.t.size ≤ 1000000
 ca : b.ca.length ≤ 1000000
 sh : ∀ c ∈ b.ca, c.sh.length ≤ 1000000
theorem aBi (m : Int) (hm : 0 ≤ m ∧ m ≤ 1000000) (b : SBal) (ho : b.ok) : PureC 71 [.agg b.c, .int m] (· = .bool (b.right m)) := by
 have h1 := ho.t
 have h2 := ho.ca
 have c1 := jP [b.f] (by simp)
 have c2 := aMt (m := m) (l := b.ca) (p := SCard.right m) (hl := by omega) (hp := fun x hx b hb => by rw [hb]; exact yS m hm x (ho.sh x hx))
 have m1 : (b.ca.map SCard.c).length = b.ca.length := List.length_map ..
 unfold SBal.right
 generalize timeQ [b.f] = b1 at *
 generalize b.ca.all (SCard.right m) = b2 at *
 refine aE Tryz.func71 rfl zg _ Tryz.ntmps71 (aC rfl) (fun w Pr hE => ?_)
 dsimp only [slotsOf, Nat.zero_add, Nat.reduceAdd]
 repeat' (first | (apply aB (.makeFunc _ _ _); refine aK (eC rfl) (aA rfl) ?_) | (apply aB (.store _ _ (.func _)); refine aD (aN (n := [nfun 192]) rfl rfl rfl nofun rfl (by intro z hz; rw [List.mem_singleton.1 hz]; rfl) (.inl ⟨rfl, rfl⟩) rfl (aC rfl) rfl) rfl ?_) | refine kQ (c1) hE ?_ | refine oQ [(1006, 3), (1007, 5)] (c2) hE ?_ | refine ng ?_ | refine qp ?_ | refine vd ?_ | refine vj ?_ | refine vy ?_ | (refine wQ ?_ ?_ <;> intro hb hq <;> try omega))
 all_goals refine rt1 ?_
 all_goals simp [*]
theorem yR (m : Int) (hm : 0 ≤ m ∧ m ≤ 1000000) (b : SBal) (ho : b.ok) : ObC 70 [.d (.agg b.c), .box 1006 0] (intO m) [] (fun r o => r = .d (.bool (b.right m)) ∧ o = intO m) := by
 have c1 := aBi m hm b ho
 refine aI Tryz.func70 rfl zg _ Tryz.ntmps70 (aC rfl) rfl (fun w Pr β κ hE => ?_)
 dsimp only [slotsV, Nat.zero_add, Nat.reduceAdd]
 repeat' (first | refine kQ (c1) hE ?_ | refine xk ?_ | (apply cV; refine eD ?_))
 refine aP (intO m) (by rfl) rv (⟨rfl, rfl⟩) sb okx
def verNo (last : Int) (v : SVer) : Bool := !decide ((parseV v.t).2.2 = 0) || (!timeQ [v.f] || decide (v.f ≤ last))
def versQ : Int → List SVer → Bool
 | _, [] => true
 | last, v :: r => !verNo last v && versQ v.f r
def versRight (l : List SVer) : Bool := versQ (-1) l && decide ((l.length : Int) ≤ 60)
theorem yY (l : List SVer) (hl : l.length ≤ 1000000) (ht : ∀ v ∈ l, v.t.size ≤ 1000000) : PureC 75 [.list 2 (l.map SVer.c)] (· = .bool (versRight l)) := by
 have m1 : (l.map SVer.c).length = l.length := List.length_map ..
 unfold versRight
 obtain ⟨R, hR⟩ : ∃ R, R = versQ (-1) l := ⟨_, rfl⟩
 rw [← hR]
 refine aE Tryz.func75 rfl zg _ Tryz.ntmps75 (aC rfl) (fun w Pr hE => ?_)
 dsimp only [slotsOf, Nat.zero_add, Nat.reduceAdd]
 repeat' (first | refine qd ?_ | refine vj ?_ | (refine sQ ?_ ?_ <;> intro hb hq <;> try omega))
 refine bB (fun N sl ob => ∃ (i : Nat) (last : Int), N = l.length - i ∧ i ≤ l.length ∧ R = versQ last (l.drop i) ∧ sl = [(11, .d (.int i)), (10, .d (.int l.length)), (9, .d (.list 2 (l.map SVer.c))), (3, .d (.int last)), (0, .d (.list 2 (l.map SVer.c)))] ∧ ob = []) (⟨0, -1, rfl, Nat.zero_le _, hR, rfl, rfl⟩) ?_
 clear hR
 rintro N sl ob ⟨i, last, rfl, hi, hR, rfl, rfl⟩
 by_cases hlt : i < l.length
 ·have hg : (l.map SVer.c)[i]? = some (SVer.c l[i]) := by rw [bC hlt]
  have c1 := aAl l[i].t (ht _ (List.getElem_mem hlt))
  have c2 := jP [l[i].f] (by simp)
  have qi : decide ((i : Int) < (l.length : Int)) = true := decide_eq_true zb
  rw [List.drop_eq_getElem_cons hlt] at hR
  simp only [versQ, verNo] at hR
  generalize l[i] = v at *
  generalize parseV v.t = r at *
  obtain ⟨x, p, e⟩ := r
  unfold parseD at c1
  dsimp only at c1 hR
  generalize timeQ [v.f] = b1 at *
  cases h1 : !decide (e = 0)
  rotate_left 1
  ·have hR : R = false := by rw [hR, h1]; rfl
   subst hR
   repeat' (first | (apply aB (.indexAddr _ _ _); refine aS hg ?_) | refine kQ (c1) hE ?_ | refine qt ?_ | refine va ?_ | refine xa ?_ | refine xc ?_ | (refine sQ ?_ ?_ <;> intro hb hq <;> try omega) | (refine wQ ?_ ?_ <;> intro hb hq <;> try omega) | (apply oJ; refine sR ?_))
   refine rt1 ?_
   rfl
  cases b1
  ·have hR : R = false := by rw [hR, h1]; rfl
   subst hR
   repeat' (first | (apply aB (.indexAddr _ _ _); refine aS hg ?_) | refine kQ (c1) hE ?_ | refine kQ (c2) hE ?_ | refine qt ?_ | refine va ?_ | refine xa ?_ | refine xc ?_ | (refine sQ ?_ ?_ <;> intro hb hq <;> try omega) | (refine wQ ?_ ?_ <;> intro hb hq <;> try omega) | (apply oJ; refine sR ?_))
   refine rt1 ?_
   rfl
  cases h3 : decide (v.f ≤ last)
  rotate_left 1
  ·have hR : R = false := by rw [hR, h1, h3]; rfl
   subst hR
   repeat' (first | (apply aB (.indexAddr _ _ _); refine aS hg ?_) | refine kQ (c1) hE ?_ | refine kQ (c2) hE ?_ | refine qt ?_ | refine va ?_ | refine xa ?_ | refine xc ?_ | (refine sQ ?_ ?_ <;> intro hb hq <;> try omega) | (refine wQ ?_ ?_ <;> intro hb hq <;> try omega) | (apply oJ; refine sR ?_))
   refine rt1 ?_
   rfl
  have hR : R = versQ v.f (l.drop (i + 1)) := by rw [hR, h1, h3]; rfl
  repeat' (first | (apply aB (.indexAddr _ _ _); refine aS hg ?_) | refine kQ (c1) hE ?_ | refine kQ (c2) hE ?_ | refine qt ?_ | refine va ?_ | refine xa ?_ | refine xc ?_ | (refine sQ ?_ ?_ <;> intro hb hq <;> try omega) | (refine wQ ?_ ?_ <;> intro hb hq <;> try omega) | (apply oJ; refine sR ?_))
  repeat' (first | refine qn ?_ | (refine sQ ?_ ?_ <;> intro hb hq <;> try omega))
  refine bK (⟨i + 1, v.f, rfl, by omega, hR, rfl, rfl⟩) zb
 ·obtain rfl : i = l.length := by omega
  rw [List.drop_length] at hR
  have hR : R = true := hR
  subst hR
  repeat' (first | refine nq ?_ | (refine sQ ?_ ?_ <;> intro hb hq <;> try omega) | (apply oJ; refine sR ?_))
  refine rt1 ?_
  rfl
end
section
open Go.RowKit
def SSt.odd (s : SSt) : Bool := !timeQ [s.ti] || (decide (20000 < (s.ar.length : Int)) || (!decide ((s.se.length : Int) = s.ar.length) || (decide (600 < (s.cs.length : Int)) || (!decide ((s.pl.length : Int) = s.cs.length) || (!decide ((s.dn.length : Int) = s.cs.length) || (!decide ((s.at_.length : Int) = s.cs.length) || (decide (30000 < (s.pm.length : Int)) || (decide (4000 < (s.pu.length : Int)) || (!decide ((s.fv.length : Int) = s.pu.length) || decide (200 < (s.bl.length : Int)))))))))))
abbrev planZ : SPlan := ⟨0, [], [], []⟩
def planNo (s : SSt) (i : Nat) : Bool := !(s.pl.getD i planZ).right s.pm.length i || !inQ 0 (s.pl.getD i planZ).st.length [s.dn.getD i 0]
def SSt.plans (s : SSt) : Bool := (List.range s.pl.length).all fun i => !planNo s i
def SSt.money (s : SSt) : Bool := inQ (-1000000000000000) 1000000000000000 s.pu && (inQ (-1099511627776) 1099511627776 s.fv && s.po.right)
def SSt.rest (s : SSt) : Bool := s.money && (s.ar.all SArc.fine && (s.cs.all SCar.right && (s.pm.all (SProm.right s.pu.length s.cs.length s.ve.length) && (versRight s.ve && s.bl.all (SBal.right s.pu.length)))))
def SSt.right (s : SSt) : Bool := !s.odd && (s.plans && ((timeQ s.at_ && s.se.all seenQ) && s.rest))
structure SSt.ok (s : SSt) : Prop where
 ar : s.ar.length ≤ 1000000
 ars : ∀ a ∈ s.ar, a.lo.length ≤ 1000000 ∧ a.hi.length ≤ 1000000
 se : s.se.length ≤ 1000000
 ses : ∀ l ∈ s.se, l.length ≤ 1000000
 cs : s.cs.length ≤ 1000000
 pl : s.pl.length ≤ 1000000
 pls : ∀ p ∈ s.pl, p.ok
 dn : s.dn.length ≤ 1000000
 at_ : s.at_.length ≤ 1000000
 pm : s.pm.length ≤ 1000000
 pu : s.pu.length ≤ 1000000
 fv : s.fv.length ≤ 1000000
 ve : s.ve.length ≤ 1000000
 ves : ∀ v ∈ s.ve, v.t.size ≤ 1000000
 bl : s.bl.length ≤ 1000000
 bls : ∀ b ∈ s.bl, b.ok
theorem aCf (m : Int) (hm : 0 ≤ m ∧ m ≤ 1000000) (s : SSt) (ho : s.ok) (p : SProm) : ObC 64 [.d (.agg p.c), .box 1006 0, .box 1007 0] (prmO m s) [] (fun r o => r = .d (.bool (p.right m s.cs.length s.ve.length)) ∧ o = prmO m s) := by
 have h1 := ho.cs
 have h2 := ho.ve
 have c1 := jK 0 (m - 1) [p.q.me] (by simp)
 have c2 := tS [p.q.f, p.q.t] (by simp)
 have c3 := jP [p.q.ea, p.q.la, p.q.du, p.q.ri] (by simp)
 have c4 := jK 0 60 [p.q.se, p.q.ch, p.q.ba] (by simp)
 have c5 := jK (-1) ((s.cs.length : Int) - 1) [p.car] (by simp)
 have c6 := jK 0 ((s.ve.length : Int) - 1) [p.ve] (by simp)
 have c7 := jK 0 1000000000000000 [p.fa, p.ow] (by simp)
 have c8 := jK 0 4 [p.sg] (by simp)
 have m1 : (s.cs.map SCar.c).length = s.cs.length := List.length_map ..
 have m2 : (s.ve.map SVer.c).length = s.ve.length := List.length_map ..
 unfold SProm.right
 generalize inQ 0 (m - 1) [p.q.me] = b1 at *
 generalize nodeQ [p.q.f, p.q.t] = b2 at *
 generalize timeQ [p.q.ea, p.q.la, p.q.du, p.q.ri] = b3 at *
 generalize inQ 0 60 [p.q.se, p.q.ch, p.q.ba] = b4 at *
 generalize inQ (-1) ((s.cs.length : Int) - 1) [p.car] = b5 at *
 generalize inQ 0 ((s.ve.length : Int) - 1) [p.ve] = b6 at *
 generalize inQ 0 1000000000000000 [p.fa, p.ow] = b7 at *
 generalize inQ 0 4 [p.sg] = b8 at *
 refine aI Tryz.func64 rfl zg _ Tryz.ntmps64 (aC rfl) rfl (fun w Pr β κ hE => ?_)
 dsimp only [slotsV, Nat.zero_add, Nat.reduceAdd]
 repeat' (first | (apply aF; refine bP (c1) hE ?_; rintro _ rfl; clear c1) | refine kQ (c2) hE ?_ | refine kQ (c3) hE ?_ | refine kQ (c4) hE ?_ | refine qa ?_ | refine vi ?_ | refine vj ?_ | refine vy ?_ | (refine wQ ?_ ?_ <;> intro hb hq <;> try omega) | (apply nE; refine qT ?_))
 repeat' (first | (apply aF; refine bP (c5) hE ?_; rintro _ rfl; clear c5) | (apply aF; refine bP (c6) hE ?_; rintro _ rfl; clear c6) | (apply aF; refine bP (c7) hE ?_; rintro _ rfl; clear c7) | refine kQ (c8) hE ?_ | refine qo ?_ | refine vd ?_ | refine vw ?_ | (refine wQ ?_ ?_ <;> intro hb hq <;> try omega) | (apply nE; refine qT ?_) | (apply jA; refine lV ?_))
 all_goals refine aP (prmO m s) (by rfl) rv (⟨by simp [*], rfl⟩) sb okx
end
section
open Go.RowKit
theorem fU {α : Type} {l : List α} {i : Nat} {z : α} (h : i < l.length) : l.getD i z ∈ l := by
 rw [List.getD_eq_getElem?_getD, List.getElem?_eq_getElem h]
 exact List.getElem_mem h
theorem gT {α β : Type} {f : α → β} {l : List α} {i : Nat} {z : α} (h : i < l.length) : (l.map f)[i]? = some (f (l.getD i z)) := by
 rw [List.getElem?_map, List.getElem?_eq_getElem h, List.getD_eq_getElem?_getD, List.getElem?_eq_getElem h]
 rfl
theorem cW (s : SSt) (ho : s.ok) : PureC 13 [.agg s.c] (· = .bool s.right) := by
 have k1 := ho.ar
 have k2 := ho.se
 have k3 := ho.cs
 have k4 := ho.pl
 have k5 := ho.dn
 have k6 := ho.at_
 have k7 := ho.pm
 have k8 := ho.pu
 have k9 := ho.fv
 have k10 := ho.ve
 have k11 := ho.bl
 have ct := jP [s.ti] (by simp)
 have m1 : (s.ar.map SArc.c).length = s.ar.length := List.length_map ..
 have m2 : (s.se.map seenC).length = s.se.length := List.length_map ..
 have m3 : (s.cs.map SCar.c).length = s.cs.length := List.length_map ..
 have m4 : (s.pl.map SPlan.c).length = s.pl.length := List.length_map ..
 have m5 : (s.dn.map fun n => [D.int n]).length = s.dn.length := List.length_map ..
 have m6 : (s.at_.map fun n => [D.int n]).length = s.at_.length := List.length_map ..
 have m7 : (s.pm.map SProm.c).length = s.pm.length := List.length_map ..
 have m8 : (s.pu.map fun n => [D.int n]).length = s.pu.length := List.length_map ..
 have m9 : (s.fv.map fun n => [D.int n]).length = s.fv.length := List.length_map ..
 have m10 : (s.ve.map SVer.c).length = s.ve.length := List.length_map ..
 have m11 : (s.bl.map SBal.c).length = s.bl.length := List.length_map ..
 obtain ⟨R, hR⟩ : ∃ R, R = s.right := ⟨_, rfl⟩
 rw [← hR]
 unfold SSt.right SSt.odd at hR
 generalize timeQ [s.ti] = b1 at *
 cases b1
 ·have hR : R = false := by rw [hR]; rfl
  subst hR
  refine aE Tryz.func13 rfl zg _ Tryz.ntmps13 (aC rfl) (fun w Pr hE => ?_)
  dsimp only [slotsOf, Nat.zero_add, Nat.reduceAdd]
  repeat' (first | refine kQ (ct) hE ?_ | refine qa ?_ | refine qz ?_ | refine vy ?_ | refine xc ?_ | (refine sQ ?_ ?_ <;> intro hb hq <;> try omega) | (refine wQ ?_ ?_ <;> intro hb hq <;> try omega))
  refine rt1 ?_
  rfl
 cases h2 : decide (20000 < (s.ar.length : Int))
 rotate_left 1
 ·have hR : R = false := by rw [hR, h2]; rfl
  subst hR
  refine aE Tryz.func13 rfl zg _ Tryz.ntmps13 (aC rfl) (fun w Pr hE => ?_)
  dsimp only [slotsOf, Nat.zero_add, Nat.reduceAdd]
  repeat' (first | refine kQ (ct) hE ?_ | refine qa ?_ | refine qz ?_ | refine vy ?_ | refine xc ?_ | (refine sQ ?_ ?_ <;> intro hb hq <;> try omega) | (refine wQ ?_ ?_ <;> intro hb hq <;> try omega))
  refine rt1 ?_
  rfl
 cases h3 : !decide ((s.se.length : Int) = s.ar.length)
 rotate_left 1
 ·have hR : R = false := by rw [hR, h2, h3]; rfl
  subst hR
  refine aE Tryz.func13 rfl zg _ Tryz.ntmps13 (aC rfl) (fun w Pr hE => ?_)
  dsimp only [slotsOf, Nat.zero_add, Nat.reduceAdd]
  repeat' (first | refine kQ (ct) hE ?_ | refine qa ?_ | refine qz ?_ | refine vy ?_ | refine xc ?_ | (refine sQ ?_ ?_ <;> intro hb hq <;> try omega) | (refine wQ ?_ ?_ <;> intro hb hq <;> try omega))
  refine rt1 ?_
  rfl
 cases h4 : decide (600 < (s.cs.length : Int))
 rotate_left 1
 ·have hR : R = false := by rw [hR, h2, h3, h4]; rfl
  subst hR
  refine aE Tryz.func13 rfl zg _ Tryz.ntmps13 (aC rfl) (fun w Pr hE => ?_)
  dsimp only [slotsOf, Nat.zero_add, Nat.reduceAdd]
  repeat' (first | refine kQ (ct) hE ?_ | refine qa ?_ | refine qz ?_ | refine vy ?_ | refine xc ?_ | (refine sQ ?_ ?_ <;> intro hb hq <;> try omega) | (refine wQ ?_ ?_ <;> intro hb hq <;> try omega))
  refine rt1 ?_
  rfl
 cases h5 : !decide ((s.pl.length : Int) = s.cs.length)
 rotate_left 1
 ·have hR : R = false := by rw [hR, h2, h3, h4, h5]; rfl
  subst hR
  refine aE Tryz.func13 rfl zg _ Tryz.ntmps13 (aC rfl) (fun w Pr hE => ?_)
  dsimp only [slotsOf, Nat.zero_add, Nat.reduceAdd]
  repeat' (first | refine kQ (ct) hE ?_ | refine qa ?_ | refine qz ?_ | refine vy ?_ | refine xc ?_ | (refine sQ ?_ ?_ <;> intro hb hq <;> try omega) | (refine wQ ?_ ?_ <;> intro hb hq <;> try omega))
  refine rt1 ?_
  rfl
 cases h6 : !decide ((s.dn.length : Int) = s.cs.length)
 rotate_left 1
 ·have hR : R = false := by rw [hR, h2, h3, h4, h5, h6]; rfl
  subst hR
  refine aE Tryz.func13 rfl zg _ Tryz.ntmps13 (aC rfl) (fun w Pr hE => ?_)
  dsimp only [slotsOf, Nat.zero_add, Nat.reduceAdd]
  repeat' (first | refine kQ (ct) hE ?_ | refine qa ?_ | refine qz ?_ | refine vy ?_ | refine xc ?_ | (refine sQ ?_ ?_ <;> intro hb hq <;> try omega) | (refine wQ ?_ ?_ <;> intro hb hq <;> try omega))
  refine rt1 ?_
  rfl
 cases h7 : !decide ((s.at_.length : Int) = s.cs.length)
 rotate_left 1
 ·have hR : R = false := by rw [hR, h2, h3, h4, h5, h6, h7]; rfl
  subst hR
  refine aE Tryz.func13 rfl zg _ Tryz.ntmps13 (aC rfl) (fun w Pr hE => ?_)
  dsimp only [slotsOf, Nat.zero_add, Nat.reduceAdd]
  repeat' (first | refine kQ (ct) hE ?_ | refine qa ?_ | refine qz ?_ | refine vy ?_ | refine xc ?_ | (refine sQ ?_ ?_ <;> intro hb hq <;> try omega) | (refine wQ ?_ ?_ <;> intro hb hq <;> try omega))
  refine rt1 ?_
  rfl
 cases h8 : decide (30000 < (s.pm.length : Int))
 rotate_left 1
 ·have hR : R = false := by rw [hR, h2, h3, h4, h5, h6, h7, h8]; rfl
  subst hR
  refine aE Tryz.func13 rfl zg _ Tryz.ntmps13 (aC rfl) (fun w Pr hE => ?_)
  dsimp only [slotsOf, Nat.zero_add, Nat.reduceAdd]
  repeat' (first | refine kQ (ct) hE ?_ | refine qa ?_ | refine qz ?_ | refine vy ?_ | refine xc ?_ | (refine sQ ?_ ?_ <;> intro hb hq <;> try omega) | (refine wQ ?_ ?_ <;> intro hb hq <;> try omega))
  refine rt1 ?_
  rfl
 cases h9 : decide (4000 < (s.pu.length : Int))
 rotate_left 1
 ·have hR : R = false := by rw [hR, h2, h3, h4, h5, h6, h7, h8, h9]; rfl
  subst hR
  refine aE Tryz.func13 rfl zg _ Tryz.ntmps13 (aC rfl) (fun w Pr hE => ?_)
  dsimp only [slotsOf, Nat.zero_add, Nat.reduceAdd]
  repeat' (first | refine kQ (ct) hE ?_ | refine qa ?_ | refine qz ?_ | refine vy ?_ | refine xc ?_ | (refine sQ ?_ ?_ <;> intro hb hq <;> try omega) | (refine wQ ?_ ?_ <;> intro hb hq <;> try omega))
  refine rt1 ?_
  rfl
 cases h10 : !decide ((s.fv.length : Int) = s.pu.length)
 rotate_left 1
 ·have hR : R = false := by rw [hR, h2, h3, h4, h5, h6, h7, h8, h9, h10]; rfl
  subst hR
  refine aE Tryz.func13 rfl zg _ Tryz.ntmps13 (aC rfl) (fun w Pr hE => ?_)
  dsimp only [slotsOf, Nat.zero_add, Nat.reduceAdd]
  repeat' (first | refine kQ (ct) hE ?_ | refine qa ?_ | refine qz ?_ | refine vy ?_ | refine xc ?_ | (refine sQ ?_ ?_ <;> intro hb hq <;> try omega) | (refine wQ ?_ ?_ <;> intro hb hq <;> try omega))
  refine rt1 ?_
  rfl
 cases h11 : decide (200 < (s.bl.length : Int))
 rotate_left 1
 ·have hR : R = false := by rw [hR, h2, h3, h4, h5, h6, h7, h8, h9, h10, h11]; rfl
  subst hR
  refine aE Tryz.func13 rfl zg _ Tryz.ntmps13 (aC rfl) (fun w Pr hE => ?_)
  dsimp only [slotsOf, Nat.zero_add, Nat.reduceAdd]
  repeat' (first | refine kQ (ct) hE ?_ | refine qa ?_ | refine qz ?_ | refine vy ?_ | refine xc ?_ | (refine sQ ?_ ?_ <;> intro hb hq <;> try omega) | (refine wQ ?_ ?_ <;> intro hb hq <;> try omega))
  refine rt1 ?_
  rfl
 rw [h2, h3, h4, h5, h6, h7, h8, h9, h10, h11] at hR
 have hR : R = (s.plans && ((timeQ s.at_ && s.se.all seenQ) && s.rest)) := hR
 have hdn : s.dn.length = s.pl.length := by
  have e5 : (s.pl.length : Int) = s.cs.length := by simpa using h5
  have e6 : (s.dn.length : Int) = s.cs.length := by simpa using h6
  omega
 refine aE Tryz.func13 rfl zg _ Tryz.ntmps13 (aC rfl) (fun w Pr hE => ?_)
 dsimp only [slotsOf, Nat.zero_add, Nat.reduceAdd]
 repeat' (first | refine kQ (ct) hE ?_ | (apply aB (.makeFunc _ _ _); refine aK (eC rfl) (aA rfl) ?_) | (apply aB (.assign (.func _)); refine aK (aRm rfl) (aA rfl) ?_) | refine qp ?_ | refine qz ?_ | refine vd ?_ | refine vy ?_ | refine xc ?_ | (refine sQ ?_ ?_ <;> intro hb hq <;> try omega) | (refine wQ ?_ ?_ <;> intro hb hq <;> try omega))
 clear h2 h3 h4 h5 h6 h7 h8 h9 h10 h11 ct
 refine bB (fun N sl ob => ∃ i : Nat, N = s.pl.length - i ∧ i ≤ s.pl.length ∧ (∀ j < i, (!planNo s j) = true) ∧ sl = [(96, .d (.int i)), (95, .d (.int s.pl.length)), (94, .d (.list 4 (s.pl.map SPlan.c))), (6, .clo (.func 64) [.box 3 0, .box 1 0]), (5, nfun 62), (4, nfun 60), (3, .box 3 0), (1, .box 1 0)] ∧ ob = [(3, .box 3 [.d (.int s.pu.length)]), (1, s.b)]) (⟨0, rfl, Nat.zero_le _, fun j h => by omega, rfl, rfl⟩) ?_
 rintro N sl ob ⟨i, rfl, hi, ha, rfl, rfl⟩
 by_cases hlt : i < s.pl.length
 ·have hg := gT (f := SPlan.c) (z := planZ) hlt
  have hgd := jO (l := s.dn) (i := i) zb
  have hm := fU (z := planZ) hlt
  have hp := ho.pls _ hm
  have cpl := yT (s.pl.getD i planZ) i s.pm.length zb hp
  have cin := jK 0 (s.pl.getD i planZ).st.length [s.dn.getD i 0] (by simp)
  have hpn : planNo s i = (!(s.pl.getD i planZ).right s.pm.length i || !inQ 0 (s.pl.getD i planZ).st.length [s.dn.getD i 0]) := rfl
  have qi : decide ((i : Int) < (s.pl.length : Int)) = true := decide_eq_true zb
  have ms : ((s.pl.getD i planZ).st.map SStop.c).length = (s.pl.getD i planZ).st.length := List.length_map ..
  have hst := hp.st
  generalize s.pl.getD i planZ = p at *
  generalize s.dn.getD i 0 = d at *
  generalize p.right s.pm.length i = bp at *
  generalize inQ 0 p.st.length [d] = bi at *
  have n0 : (!false) = true := rfl
  have n1 : (!true) = false := rfl
  cases bp
  ·have hR : R = false := by
    have : s.plans = false := uA hlt (by rw [hpn]; rfl)
    rw [hR, this]
    rfl
   subst hR
   repeat' (first | (apply aB (.indexAddr _ _ _); refine aS hg ?_) | refine qf ?_ | refine vg ?_ | refine vy ?_ | (refine sQ ?_ ?_ <;> intro hb hq <;> try omega))
   refine cC ([(8, .box 66 [.d (.int p.car), .d (.list 2 (p.st.map SStop.c)), .d (.list 2 (p.le.map SLeg.c)), .d (intsL p.lv)]), (1, s.b)]) [(0, true), (1, true), (2, true), (3, true), (4, true), (5, false), (6, true), (7, true), (8, true), (9, true), (10, true), (11, true), (12, true), (13, true), (14, true), (15, true), (16, false), (17, false), (18, true), (19, true)] [] zp zp zp zg zw ?_
   simp only [planned, tailed, List.filterMap_cons, List.filterMap_nil, List.getElem?_cons_zero, List.getElem?_cons_succ, Option.map_some]
   repeat' (first | apply aZ | refine vt ?_ | (apply aM; refine bI (cpl) hE ?_; rintro _ rfl; (try dsimp only [flat, D.plain, D.plainL])) | (apply bG; refine bQ ?_) | (apply gD; refine iP ?_) | (apply rD; refine xK ?_) | (apply pI; refine uL ?_) | (apply dL; refine gC ?_) | (apply aU; refine bA ?_) | (apply aV; refine bE ?_) | (apply aR (.buildSlice _ _ _); first | refine dK zj rfl zx zk rfl (aC rfl) (aA rfl) ?_ | refine eQ zj rfl zd ze zk zg zg (aA rfl) ?_) | (refine mQ ?_ ?_ <;> intro hb hq <;> try omega))
   repeat' (first | refine qd ?_ | refine qt ?_ | refine vj ?_ | refine vm ?_ | (refine sQ ?_ ?_ <;> intro hb hq <;> try omega) | (refine wQ ?_ ?_ <;> intro hb hq <;> try omega))
   refine rt1 ?_
   rfl
  cases bi
  ·have hR : R = false := by
    have : s.plans = false := uA hlt (by rw [hpn]; rfl)
    rw [hR, this]
    rfl
   subst hR
   repeat' (first | (apply aB (.indexAddr _ _ _); refine aS hg ?_) | refine qf ?_ | refine vg ?_ | refine vy ?_ | (refine sQ ?_ ?_ <;> intro hb hq <;> try omega))
   refine cC ([(8, .box 66 [.d (.int p.car), .d (.list 2 (p.st.map SStop.c)), .d (.list 2 (p.le.map SLeg.c)), .d (intsL p.lv)]), (1, s.b)]) [(0, true), (1, true), (2, true), (3, true), (4, true), (5, false), (6, true), (7, true), (8, true), (9, true), (10, true), (11, true), (12, true), (13, true), (14, true), (15, true), (16, false), (17, false), (18, true), (19, true)] [] zp zp zp zg zw ?_
   simp only [planned, tailed, List.filterMap_cons, List.filterMap_nil, List.getElem?_cons_zero, List.getElem?_cons_succ, Option.map_some]
   repeat' (first | apply aZ | refine vt ?_ | (apply aR (.indexAddr _ _ _); refine bS zj (cT zx rfl rfl zq hgd) (aA rfl) ?_) | (apply aM; refine bI (cpl) hE ?_; rintro _ rfl; (try dsimp only [flat, D.plain, D.plainL])) | (apply aM; refine bI (cin) hE ?_; rintro _ rfl; (try dsimp only [flat, D.plain, D.plainL])) | (apply bG; refine bQ ?_) | (apply gD; refine iP ?_) | (apply rD; refine xK ?_) | (apply pI; refine uL ?_) | (apply dL; refine gC ?_) | (apply aU; refine bA ?_) | (apply aV; refine bE ?_) | (apply aR (.buildSlice _ _ _); first | refine dK zj rfl zx zk rfl (aC rfl) (aA rfl) ?_ | refine eQ zj rfl zd ze zk zg zg (aA rfl) ?_) | (refine mQ ?_ ?_ <;> intro hb hq <;> try omega))
   repeat' (first | refine qd ?_ | refine qt ?_ | refine vj ?_ | refine vm ?_ | (refine sQ ?_ ?_ <;> intro hb hq <;> try omega) | (refine wQ ?_ ?_ <;> intro hb hq <;> try omega))
   refine rt1 ?_
   rfl
  ·have hn : ∀ j < i + 1, (!planNo s j) = true := fun j hj => by
    rcases Nat.lt_succ_iff_lt_or_eq.1 hj with h | rfl
    ·exact ha j h
    ·rw [hpn]; rfl
   clear ha hR hpn
   repeat' (first | (apply aB (.indexAddr _ _ _); refine aS hg ?_) | refine qf ?_ | refine vg ?_ | refine vy ?_ | (refine sQ ?_ ?_ <;> intro hb hq <;> try omega))
   refine cC ([(8, .box 66 [.d (.int p.car), .d (.list 2 (p.st.map SStop.c)), .d (.list 2 (p.le.map SLeg.c)), .d (intsL p.lv)]), (1, s.b)]) [(0, true), (1, true), (2, true), (3, true), (4, true), (5, false), (6, true), (7, true), (8, true), (9, true), (10, true), (11, true), (12, true), (13, true), (14, true), (15, true), (16, false), (17, false), (18, true), (19, true)] [] zp zp zp zg zw ?_
   simp only [planned, tailed, List.filterMap_cons, List.filterMap_nil, List.getElem?_cons_zero, List.getElem?_cons_succ, Option.map_some]
   repeat' (first | apply aZ | refine vt ?_ | (apply aR (.indexAddr _ _ _); refine bS zj (cT zx rfl rfl zq hgd) (aA rfl) ?_) | (apply aM; refine bI (cpl) hE ?_; rintro _ rfl; (try dsimp only [flat, D.plain, D.plainL])) | (apply aM; refine bI (cin) hE ?_; rintro _ rfl; (try dsimp only [flat, D.plain, D.plainL])) | (apply bG; refine bQ ?_) | (apply gD; refine iP ?_) | (apply rD; refine xK ?_) | (apply pI; refine uL ?_) | (apply dL; refine gC ?_) | (apply aU; refine bA ?_) | (apply aV; refine bE ?_) | (apply aR (.buildSlice _ _ _); first | refine dK zj rfl zx zk rfl (aC rfl) (aA rfl) ?_ | refine eQ zj rfl zd ze zk zg zg (aA rfl) ?_) | (refine mQ ?_ ?_ <;> intro hb hq <;> try omega))
   repeat' (first | refine qt ?_ | refine vk ?_ | refine vm ?_ | refine xw ?_ | (refine sQ ?_ ?_ <;> intro hb hq <;> try omega) | (refine wQ ?_ ?_ <;> intro hb hq <;> try omega))
   refine bK (⟨i + 1, rfl, by omega, hn, rfl, rfl⟩) zb
 ·obtain rfl : i = s.pl.length := by omega
  have hpls : s.plans = true := xX ha
  rw [hpls, Bool.true_and] at hR
  have qi : decide ((s.pl.length : Int) < (s.pl.length : Int)) = false := decide_eq_false zb
  have ct2 := jP s.at_ zb
  have cse := aMu (l := s.se) (p := seenQ) (hl := by omega) (hp := fun x hx b hb => by rw [hb]; exact yV x (ho.ses x hx))
  have cm1 := jK (-1000000000000000) 1000000000000000 s.pu zb
  have cm2 := jK (-1099511627776) 1099511627776 s.fv zb
  have cpo := qQ s.po
  have car := aRx (l := s.ar) (p := SArc.fine) (hl := by omega) (hp := fun x hx b hb => by rw [hb]; exact aDq x (ho.ars x hx).1 (ho.ars x hx).2)
  have ccs := aRz (l := s.cs) (p := SCar.right) (hl := by omega) (hp := fun x hx b hb => by rw [hb]; exact aBk x)
  have cpm := aSc (m := s.pu.length) (s := s) (l := s.pm) (p := SProm.right s.pu.length s.cs.length s.ve.length) (hl := by omega) (hp := fun x hx b hb => by rw [hb]; exact aCf s.pu.length zb s ho x)
  have cve := yY s.ve zb ho.ves
  have cbl := aRy (m := s.pu.length) (l := s.bl) (p := SBal.right s.pu.length) (hl := by omega) (hp := fun x hx b hb => by rw [hb]; exact yR s.pu.length zb x (ho.bls x hx))
  unfold SSt.rest SSt.money at hR
  generalize timeQ s.at_ = b1 at *
  generalize s.se.all seenQ = b2 at *
  generalize inQ (-1000000000000000) 1000000000000000 s.pu = b3 at *
  generalize inQ (-1099511627776) 1099511627776 s.fv = b4 at *
  generalize s.po.right = b5 at *
  generalize s.ar.all SArc.fine = b6 at *
  generalize s.cs.all SCar.right = b7 at *
  generalize s.pm.all (SProm.right s.pu.length s.cs.length s.ve.length) = b8 at *
  generalize versRight s.ve = b9 at *
  generalize s.bl.all (SBal.right s.pu.length) = b10 at *
  subst hR
  repeat clear hR
  clear ha hlt hi hpls hdn
  repeat' (first | (apply aB (.store _ _ (.func _)); refine aD (aN (n := [nfun 66]) rfl rfl rfl nofun rfl (by intro z hz; rw [List.mem_singleton.1 hz]; rfl) (.inl ⟨rfl, rfl⟩) rfl (aC rfl) rfl) rfl ?_) | (apply aB (.makeFunc _ _ _); refine aK (eC rfl) (aA rfl) ?_) | refine kQ (ct2) hE ?_ | refine oQ [(1006, 9)] (cse) hE ?_ | refine qf ?_ | refine vm ?_ | refine vq ?_ | refine vy ?_ | (refine sQ ?_ ?_ <;> intro hb hq <;> try omega) | (refine wQ ?_ ?_ <;> intro hb hq <;> try omega) | (apply gO; refine jB ?_))
  all_goals first | skip
  repeat' (first | (apply aB (.makeFunc _ _ _); refine aK (eC rfl) (aA rfl) ?_) | (apply aF; refine bP (cm1) hE ?_; rintro _ rfl; clear cm1) | refine kQ (cm2) hE ?_ | refine kQ (cpo) hE ?_ | refine oQ [] (car) hE ?_ | refine oQ [] (ccs) hE ?_ | refine oQ [(1006, 3), (1007, 1)] (cpm) hE ?_ | refine kQ (cve) hE ?_ | refine oQ [(1006, 3)] (cbl) hE ?_ | refine nk ?_ | refine vj ?_ | refine xz ?_ | (refine sQ ?_ ?_ <;> intro hb hq <;> try omega) | (refine wQ ?_ ?_ <;> intro hb hq <;> try omega) | (apply gO; refine jB ?_))
  all_goals refine rt1 ?_
  all_goals try simp only [Bool.not_eq_true', Bool.not_eq_false'] at *
  all_goals simp [*]
end
end Go.Proofs.YtaodngiigdbgeaaGreatDoor
