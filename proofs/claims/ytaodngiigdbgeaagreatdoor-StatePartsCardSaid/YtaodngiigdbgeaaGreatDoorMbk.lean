/-
  Conditions: none.
-/
import Derived.Test.YtaodngiigdbgeaaGreatDoorMaa
import Derived.Test.YtaodngiigdbgeaaGreatDoorMal
import Derived.Test.YtaodngiigdbgeaaGreatDoorMbb
import Derived.Test.YtaodngiigdbgeaaGreatDoorMbf
import Derived.Test.YtaodngiigdbgeaaGreatDoorMbj
set_option maxHeartbeats 16000000
set_option maxRecDepth 20000
set_option linter.unusedSimpArgs false
set_option linter.unusedVariables false
namespace Go.Proofs.YtaodngiigdbgeaaGreatDoor
section
open Go.RowKit
abbrev cpyV (s : SSt) (k1 k2 k3 k4 : Nat) : List V := [.d (.int s.ti), .row 150 k1, .row 151 k2, .d (carsD s), .d (plansD s), .d (intsL s.dn), .d (intsL s.at_), .d (prmsD s), .row 152 k4, .d (.int s.po.mo), .d (.int s.po.pr), .d (.int s.po.ms), .d (.int s.po.co), .d (.int s.po.wi), .d (.int s.po.to), .d (intsL s.fv), .row 153 k3, .d (balsD s)]
abbrev cpyW (s : SSt) (k4 : Nat) (mo : Int) : List V := [.d (.int s.ti), .d (arcsD s), .d (seensD s), .d (carsD s), .d (plansD s), .d (intsL s.dn), .d (intsL s.at_), .d (prmsD s), .row 152 k4, .d (.int mo), .d (.int s.po.pr), .d (.int s.po.ms), .d (.int s.po.co), .d (.int s.po.wi), .d (.int s.po.to), .d (intsL s.fv), .d (versD s), .d (balsD s)]
abbrev vecI (k : Nat) (l : List Int) : O := .vec 3 1 k (l.map fun n => [D.int n])
theorem ones (l : List Int) : ∀ q ∈ l.map (fun n => [D.int n]), q.length = 1 := fun q hq => by
 obtain ⟨n, _, rfl⟩ := List.mem_map.1 hq
 rfl
theorem zT {l : List Int} {x : Nat} (h : x < l.length) : (l.map fun n => [D.int n]).flatten[x * 1]? = some (.int (l.getD x 0)) := by
 rw [Nat.mul_one, nN, List.getElem?_map, List.getElem?_eq_getElem h, List.getD_eq_getElem?_getD, List.getElem?_eq_getElem h]
 rfl
theorem aIq {l : List Int} {x : Nat} (h : x < l.length) : x * 1 < (l.map fun n => [D.int n]).flatten.length := by
 rw [Nat.mul_one, nN, List.length_map]
 exact h
theorem zV {l : List Int} {x : Nat} {v : Int} : ((l.set x v).map fun n => [D.int n]).length = (l.map fun n => [D.int n]).length := by simp
theorem zU {l : List Int} {x : Nat} {v : Int} : ((l.set x v).map fun n => [D.int n]).flatten = (l.map fun n => [D.int n]).flatten.set (x * 1) (.int v) := by
 rw [Nat.mul_one, nN, nN, List.map_set]
theorem smoneyLaw (a : SSt) (hc : a.came) (i k n : Int) (hi : 0 ≤ i ∧ i ≤ 255) (hk : 0 ≤ k ∧ k ≤ 255) (hn : isInt n) : PureC 5 [.agg a.c, .val (.int .u8 i), .val (.int .u8 k), .int n] (· = .bool true) := by
 have cs := qI
 have cf := sY a hc
 have m8 : (a.pu.map fun n => [D.int n]).length = a.pu.length := List.length_map ..
 refine aE Tryz.func5 rfl zg _ Tryz.ntmps5 (aC rfl) (fun w Pr hE => ?_)
 dsimp only [slotsOf, Nat.zero_add, Nat.reduceAdd]
 repeat' (first | refine kQ (cs) hE ?_ | (apply aF; refine bP (cf) hE ?_; rintro _ ⟨fb, rfl, hfb⟩; cases fb) | refine vj ?_ | refine vv ?_ | refine vx ?_ | refine xh ?_ | (refine sQ ?_ ?_ <;> intro hb hq <;> try omega))
 ·skip
  refine rt1 ?_
  rfl
 have hfew := hfb rfl
 have ho := hfew.ok
 have hpl := hfew.pu
 have cm := jC a ho
 have cr := cW a ho
 clear cs cf hfb
 cases hr : a.right
 ·rw [hr] at cr
  rw [show a.sum = 0 by unfold SSt.sum; rw [hr]; rfl] at cm
  repeat' (first | refine kQ (cm) hE ?_ | refine kQ (cr) hE ?_ | refine vj ?_ | refine vm ?_ | refine vr ?_ | refine vx ?_ | (refine sQ ?_ ?_ <;> intro hb hq <;> try omega) | (refine wQ ?_ ?_ <;> intro hb hq <;> try omega) | (apply cV; refine eD ?_))
  refine rt1 ?_
  rfl
 rw [hr] at cr
 have hes : a.sum = a.po.mo + a.pu.sum := by unfold SSt.sum; rw [hr]; rfl
 cases h1 : decide ((a.pu.length : Int) = 0)
 rotate_left 1
 ·have hz : a.pu = [] := by
   have := of_decide_eq_true h1
   exact List.eq_nil_of_length_eq_zero zb
  have h2 : decide ((0 : Int) < (a.pu.length : Int)) = false := decide_eq_false (by have := of_decide_eq_true h1; omega)
  have h3 : decide (a.sum = a.po.mo) = true := decide_eq_true (by rw [hes, hz]; simp)
  repeat' (first | refine kQ (cm) hE ?_ | refine kQ (cr) hE ?_ | refine qy ?_ | refine vc ?_ | refine vm ?_ | refine vn ?_ | (refine sQ ?_ ?_ <;> intro hb hq <;> try omega) | (refine wQ ?_ ?_ <;> intro hb hq <;> try omega))
  refine rt1 ?_
  rw [h3]
 have h0 : 0 < a.pu.length := by
  have := of_decide_eq_false h1
  omega
 have h2 : decide ((0 : Int) < (a.pu.length : Int)) = true := decide_eq_true zb
 cases h4 : decide (n < -1000000000000000)
 rotate_left 1
 ·skip
  repeat' (first | refine kQ (cm) hE ?_ | refine kQ (cr) hE ?_ | refine qy ?_ | refine vc ?_ | refine vm ?_ | refine vn ?_ | (refine sQ ?_ ?_ <;> intro hb hq <;> try omega) | (refine wQ ?_ ?_ <;> intro hb hq <;> try omega))
  refine rt1 ?_
  rfl
 cases h5 : decide (1000000000000000 < n)
 rotate_left 1
 ·skip
  repeat' (first | refine kQ (cm) hE ?_ | refine kQ (cr) hE ?_ | refine qy ?_ | refine vc ?_ | refine vm ?_ | refine vn ?_ | (refine sQ ?_ ?_ <;> intro hb hq <;> try omega) | (refine wQ ?_ ?_ <;> intro hb hq <;> try omega))
  refine rt1 ?_
  rfl
 have hn1 := of_decide_eq_false h4
 have hn2 := of_decide_eq_false h5
 have cc := wR a ho
 repeat' (first | refine kQ (cm) hE ?_ | refine kQ (cr) hE ?_ | refine qy ?_ | refine vc ?_ | refine vm ?_ | refine vn ?_ | (refine sQ ?_ ?_ <;> intro hb hq <;> try omega) | (refine wQ ?_ ?_ <;> intro hb hq <;> try omega))
 clear cm cr h1 h2 h4 h5
 obtain ⟨x, hx, hxl⟩ : ∃ x : Nat, i % (a.pu.length : Int) = x ∧ x < a.pu.length := by
  have e1 := Int.emod_nonneg i (show (a.pu.length : Int) ≠ 0 by omega)
  have e2 := Int.emod_lt_of_pos i (show (0 : Int) < a.pu.length by omega)
  exact ⟨(i % (a.pu.length : Int)).toNat, by omega, by omega⟩
 obtain ⟨y, hy, hyl⟩ : ∃ y : Nat, k % ((a.pu.length : Int) + 1) = y ∧ y ≤ a.pu.length := by
  have e1 := Int.emod_nonneg k (show ((a.pu.length : Int) + 1) ≠ 0 by omega)
  have e2 := Int.emod_lt_of_pos k (show (0 : Int) < (a.pu.length : Int) + 1 by omega)
  exact ⟨(k % ((a.pu.length : Int) + 1)).toNat, by omega, by omega⟩
 repeat' (first | (apply aF; refine cP [(9, 150), (47, 151), (141, 152), (151, 153)] (cc) hE ?_; rintro _ _ ⟨k1, k2, k3, k4, rfl, rfl⟩ <;> (intro _ _ h1 h2; simp only [aO, Nat.reduceBEq, aG, aL, aH] at h1 h2; subst h1 h2)) | (apply aB (.store _ _ _); refine aD (aN (k := 18) (n := cpyV a k1 k2 k3 k4) rfl rfl rfl nofun rfl zo (.inr rfl) rfl (aC rfl) rfl) rfl ?_) | (apply aB (.assign (.tmp 64)); rw [hx]; refine aK (hD jf) (aA rfl) ?_) | (apply aB (.assign (.tmp 71)); rw [hy]; refine aK (hD jf) (aA rfl) ?_) | refine qd ?_ | refine vb ?_ | refine vq ?_ | refine vy ?_ | (refine sQ ?_ ?_ <;> intro hb hq <;> try omega) | (apply aWu; refine r_rem ?_) | (apply aJi; refine aPv ?_))
 clear cc hx hy
 refine dQ 11 1 rfl rfl (.row _ _ _ _ _ rfl) rfl ?_
 refine dQ 11 2 rfl rfl (.row _ _ _ _ _ rfl) rfl ?_
 refine dQ 11 16 rfl rfl (.row _ _ _ _ _ rfl) rfl ?_
 refine aIi ([(13, .d (.int y)), (12, .d (.int x)), (11, .box 11 0), (10, .d (.int a.sum)), (9, .d (.bool true)), (4, .box 4 0), (3, .d (.int n))]) ([(152, vecI k4 a.pu), (11, .box 33 (cpyW a k4 a.po.mo)), (4, a.b)]) ?_
 clear k1 k2 k3
 have hat := zT hxl
 have hb := wU hr hxl
 have hm := aGs hr
 have hls : (a.pu.set x (a.pu.getD x 0 - n)).length = a.pu.length := List.length_set ..
 have hss := aCw hxl (a.pu.getD x 0 - n)
 generalize hv : a.pu.getD x 0 = v at *
 refine cC ([(152, vecI k4 a.pu), (11, .box 33 (cpyW a k4 a.po.mo))]) [(0, true), (1, true), (2, true), (3, true), (4, true), (5, true), (6, true), (7, true), (8, true), (9, true)] [10, 11] zp zp zp zg zw ?_
 simp only [planned, tailed, List.filterMap_cons, List.filterMap_nil, List.getElem?_cons_zero, List.getElem?_cons_succ, Option.map_some]
 repeat' (first | apply aZ | refine vt ?_ | (apply aR (.indexAddr _ _ _); refine bS zj (jZ (q := x) rfl rfl rfl rfl rfl jk rfl) (aA rfl) ?_) | (apply aR (.load 3 _); refine bS zj (kP rfl rfl hat rfl) (aA rfl) ?_) | (apply bG; refine bQ ?_) | (apply aPt; refine aVl ?_) | (apply dL; refine gC ?_) | (apply aU; refine bA ?_) | (apply aV; refine bE ?_) | (refine mQ ?_ ?_ <;> intro hb hq <;> try omega))
 repeat' (first | (apply aB (.indexAddr _ _ _); refine aK (jZ (q := x) rfl rfl rfl rfl rfl jk rfl) (aA rfl) ?_) | (apply aB (.store 3 _ _); refine aD (aCv (l' := (a.pu.set x (v - n)).map fun n => [D.int n]) rfl rfl (aIq hxl) (.d _) rfl rfl zV (ones _) zU) rfl ?_) | refine qr ?_ | refine vl ?_ | refine vx ?_ | (refine sQ ?_ ?_ <;> intro hb hq <;> try omega) | (apply nE; refine qT ?_))
 have hbx : ∀ j, j < a.pu.length → -2000000000000000 ≤ (a.pu.set x (v - n)).getD j 0 ∧ (a.pu.set x (v - n)).getD j 0 ≤ 2000000000000000 := fun j hj => by
  rw [List.getD_eq_getElem?_getD, List.getElem?_set]
  by_cases hjx : x = j
  ·rw [if_pos hjx, if_pos zb]
   show -2000000000000000 ≤ v - n ∧ v - n ≤ 2000000000000000
   omega
  ·rw [if_neg hjx, ← List.getD_eq_getElem?_getD]
   have := wU hr hj
   omega
 clear hat hv hb
 generalize hp1 : a.pu.set x (v - n) = p1 at *
 have m81 : (p1.map fun n => [D.int n]).length = p1.length := List.length_map ..
 by_cases hyn : y < a.pu.length
 ·have q13 : decide ((y : Int) < (a.pu.length : Int)) = true := decide_eq_true zb
  have hyp : y < p1.length := by omega
  have hat2 := zT hyp
  have hb2 := hbx y hyn
  have hls2 : (p1.set y (p1.getD y 0 + n)).length = p1.length := List.length_set ..
  have hss2 := aCw hyp (p1.getD y 0 + n)
  generalize hv2 : p1.getD y 0 = v2 at *
  repeat' (first | refine vq ?_ | refine xq ?_ | (refine sQ ?_ ?_ <;> intro hb hq <;> try omega))
  refine cC ([(152, vecI k4 p1), (11, .box 33 (cpyW a k4 a.po.mo))]) [(0, true), (1, true), (2, true), (3, true), (4, true), (5, true), (6, true), (7, true), (8, true), (9, true)] [10, 11] zp zp zp zg zw ?_
  simp only [planned, tailed, List.filterMap_cons, List.filterMap_nil, List.getElem?_cons_zero, List.getElem?_cons_succ, Option.map_some]
  repeat' (first | apply aZ | refine vt ?_ | (apply aR (.indexAddr _ _ _); refine bS zj (jZ (q := y) rfl rfl rfl rfl rfl jk rfl) (aA rfl) ?_) | (apply aR (.load 3 _); refine bS zj (kP rfl rfl hat2 rfl) (aA rfl) ?_) | (apply bG; refine bQ ?_) | (apply kG; refine nQ ?_) | (apply dL; refine gC ?_) | (apply aU; refine bA ?_) | (apply aV; refine bE ?_) | (refine mQ ?_ ?_ <;> intro hb hq <;> try omega))
  repeat' (first | (apply aB (.indexAddr _ _ _); refine aK (jZ (q := y) rfl rfl rfl rfl rfl jk rfl) (aA rfl) ?_) | (apply aB (.store 3 _ _); refine aD (aCv (l' := (p1.set y (v2 + n)).map fun n => [D.int n]) rfl rfl (aIq hyp) (.d _) rfl rfl zV (ones _) zU) rfl ?_) | refine qn ?_ | refine vl ?_ | (refine sQ ?_ ?_ <;> intro hb hq <;> try omega) | (apply dY; refine fG ?_))
  clear hat2 hv2 hbx q13
  generalize hp2 : p1.set y (v2 + n) = p2 at *
  have hlen : p2.length = a.pu.length := by omega
  have hsum : a.po.mo + p2.sum = a.po.mo + a.pu.sum := by omega
  clear hss hss2 hp1 hp2 hls hls2
  have g1 : decide (0 ≤ a.po.mo) = true := decide_eq_true hm.1
  have g2 : decide (a.po.mo ≤ 1000000000000000) = true := decide_eq_true hm.2
  have hf0 : inQ 0 1000000000000000 [a.po.mo] = true := by rw [uV, g1, g2]; rfl
  refine tI (nO 11 8 rfl rfl zg rfl rfl) ?_
  refine cX (sl' := [(108, .d (.int a.po.mo)), (11, .box 11 0), (10, .d (.int a.sum)), (9, .d (.bool true)), (4, .box 4 0)]) (ob' := [(11, (a.paid p2 a.po.mo).b), (4, a.b)]) zm zw ?_
  have g3 : decide ((a.paid p2 a.po.mo).po.mo ≤ 1000000000000000) = true := g2
  repeat' (first | refine vi ?_ | refine vq ?_ | refine xb ?_ | refine xz ?_ | (refine sQ ?_ ?_ <;> intro hb hq <;> try omega) | (refine wQ ?_ ?_ <;> intro hb hq <;> try omega))
  rw [g3]
  clear g1 g2 g3
  refine bB (fun N sl ob => ∃ (j : Nat) (f : Bool), N = (p2).length - j ∧ j ≤ (p2).length ∧ f = (true && inQ (-1000000000000000) 1000000000000000 ((p2).take j)) ∧ sl = [(15, .d (.int j)), (14, .d (.bool f)), (11, .box 11 0), (10, .d (.int a.sum)), (9, .d (.bool true)), (4, .box 4 0)] ∧ ob = [(11, (a.paid p2 a.po.mo).b), (4, a.b)]) (⟨0, true, rfl, Nat.zero_le _, rfl, rfl, rfl⟩) ?_
  rintro N sl ob ⟨j, f, rfl, hj, hf, rfl, rfl⟩
  by_cases hlt : j < (p2).length
  ·have hg := jO hlt
   have hnx := aEg (a := -1000000000000000) (b := 1000000000000000) hlt
   have hq1 := uV (-1000000000000000) 1000000000000000 ((p2).getD j 0)
   have qj : decide ((j : Int) < ((p2).length : Int)) = true := decide_eq_true zb
   generalize (p2).getD j 0 = v at *
   cases f
   ·skip
    repeat' (first | (apply aB (.indexAddr _ _ _); refine aS hg ?_) | refine vc ?_ | refine vi ?_ | refine vl ?_ | refine xb ?_ | (refine sQ ?_ ?_ <;> intro hb hq <;> try omega) | (refine wQ ?_ ?_ <;> intro hb hq <;> try omega))
    repeat' (first | refine vb ?_ | refine xz ?_ | (refine sQ ?_ ?_ <;> intro hb hq <;> try omega))
    refine bK (⟨j + 1, false, rfl, by omega, by rw [hnx, ← Bool.and_assoc, ← hf]; rfl, rfl, rfl⟩) zb
   ·cases g1 : decide (-1000000000000000 ≤ v)
    ·skip
     repeat' (first | (apply aB (.indexAddr _ _ _); refine aS hg ?_) | refine vc ?_ | refine vi ?_ | refine vl ?_ | refine xb ?_ | (refine sQ ?_ ?_ <;> intro hb hq <;> try omega) | (refine wQ ?_ ?_ <;> intro hb hq <;> try omega))
     repeat' (first | refine vb ?_ | refine xz ?_ | (refine sQ ?_ ?_ <;> intro hb hq <;> try omega))
     refine bK (⟨j + 1, false, rfl, by omega, by rw [hnx, hq1, g1, ← Bool.and_assoc, ← hf]; rfl, rfl, rfl⟩) zb
    ·cases g2 : decide (v ≤ 1000000000000000)
     ·have g2' : decide (v ≤ 1000000000000000) = false := g2
      repeat' (first | (apply aB (.indexAddr _ _ _); refine aS hg ?_) | refine vc ?_ | refine vi ?_ | refine vl ?_ | refine xb ?_ | (refine sQ ?_ ?_ <;> intro hb hq <;> try omega) | (refine wQ ?_ ?_ <;> intro hb hq <;> try omega))
      rw [g2']
      repeat' (first | refine vb ?_ | refine vi ?_ | refine vl ?_ | refine xz ?_ | (refine sQ ?_ ?_ <;> intro hb hq <;> try omega) | (refine wQ ?_ ?_ <;> intro hb hq <;> try omega) | (apply jW; refine mT ?_))
      refine bK (⟨j + 1, false, rfl, by omega, by rw [hnx, hq1, g1, g2, ← Bool.and_assoc, ← hf]; rfl, rfl, rfl⟩) zb
     ·have g2' : decide (v ≤ 1000000000000000) = true := g2
      repeat' (first | (apply aB (.indexAddr _ _ _); refine aS hg ?_) | refine vc ?_ | refine vi ?_ | refine vl ?_ | refine xb ?_ | (refine sQ ?_ ?_ <;> intro hb hq <;> try omega) | (refine wQ ?_ ?_ <;> intro hb hq <;> try omega))
      rw [g2']
      repeat' (first | refine vb ?_ | refine vi ?_ | refine vl ?_ | refine xz ?_ | (refine sQ ?_ ?_ <;> intro hb hq <;> try omega) | (refine wQ ?_ ?_ <;> intro hb hq <;> try omega) | (apply jW; refine mT ?_))
      refine bK (⟨j + 1, true, rfl, by omega, by rw [hnx, hq1, g1, g2, ← Bool.and_assoc, ← hf]; rfl, rfl, rfl⟩) zb
  obtain rfl : j = (p2).length := by omega
  have qj : decide (((p2).length : Int) < ((p2).length : Int)) = false := decide_eq_false zb
  rw [List.take_length] at hf
  have hbr : (a.paid p2 a.po.mo).right = f := by rw [hf, oH hr hlen, hf0]
  have cr2 := cW (a.paid p2 a.po.mo) (mP ho hlen)
  have cm2 := jC (a.paid p2 a.po.mo) (mP ho hlen)
  rw [hbr] at cr2
  rw [sL hr hsum, hbr] at cm2
  clear hf hbr
  cases f
  ·rw [if_neg (by simp)] at cm2
   repeat' (first | refine kQ (cr2) hE ?_ | refine kQ (cm2) hE ?_ | refine qy ?_ | refine vc ?_ | refine xc ?_ | (refine sQ ?_ ?_ <;> intro hb hq <;> try omega) | (refine wQ ?_ ?_ <;> intro hb hq <;> try omega))
   refine rt1 ?_
   rfl
  ·rw [if_pos rfl] at cm2
   have ds : decide (a.sum = a.sum) = true := decide_eq_true rfl
   repeat' (first | refine kQ (cr2) hE ?_ | refine kQ (cm2) hE ?_ | refine qy ?_ | refine vc ?_ | refine xc ?_ | (refine sQ ?_ ?_ <;> intro hb hq <;> try omega) | (refine wQ ?_ ?_ <;> intro hb hq <;> try omega))
   refine rt1 ?_
   first | rfl | rw [ds]
 ·have q13 : decide ((y : Int) < (a.pu.length : Int)) = false := decide_eq_false zb
  repeat' (first | refine xd ?_ | refine xq ?_ | (refine sQ ?_ ?_ <;> intro hb hq <;> try omega) | (apply lT; refine pL ?_))
  clear hbx q13
  have hlen : p1.length = a.pu.length := by omega
  have hsum : a.po.mo + n + p1.sum = a.po.mo + a.pu.sum := by omega
  clear hss hp1 hls
  refine tI (nO 11 8 rfl rfl zg rfl rfl) ?_
  refine cX (sl' := [(108, .d (.int (a.po.mo + n))), (11, .box 11 0), (10, .d (.int a.sum)), (9, .d (.bool true)), (4, .box 4 0)]) (ob' := [(11, (a.paid p1 (a.po.mo + n)).b), (4, a.b)]) zm zw ?_
  generalize a.po.mo + n = mo at *
  cases g1 : decide (0 ≤ mo)
  ·have hf0 : inQ 0 1000000000000000 [mo] = false := by rw [uV, g1]; rfl
   repeat' (first | refine vi ?_ | refine vq ?_ | refine xb ?_ | refine xz ?_ | (refine sQ ?_ ?_ <;> intro hb hq <;> try omega) | (refine wQ ?_ ?_ <;> intro hb hq <;> try omega))
   clear g1
   refine bB (fun N sl ob => ∃ (j : Nat) (f : Bool), N = (p1).length - j ∧ j ≤ (p1).length ∧ f = (false && inQ (-1000000000000000) 1000000000000000 ((p1).take j)) ∧ sl = [(15, .d (.int j)), (14, .d (.bool f)), (11, .box 11 0), (10, .d (.int a.sum)), (9, .d (.bool true)), (4, .box 4 0)] ∧ ob = [(11, (a.paid p1 mo).b), (4, a.b)]) (⟨0, false, rfl, Nat.zero_le _, rfl, rfl, rfl⟩) ?_
   rintro N sl ob ⟨j, f, rfl, hj, hf, rfl, rfl⟩
   rw [Bool.false_and] at hf
   by_cases hlt : j < (p1).length
   ·have hg := jO hlt
    have qj : decide ((j : Int) < ((p1).length : Int)) = true := decide_eq_true zb
    generalize (p1).getD j 0 = v at *
    subst hf
    repeat' (first | (apply aB (.indexAddr _ _ _); refine aS hg ?_) | refine vc ?_ | refine vi ?_ | refine vl ?_ | refine xb ?_ | (refine sQ ?_ ?_ <;> intro hb hq <;> try omega) | (refine wQ ?_ ?_ <;> intro hb hq <;> try omega))
    repeat' (first | refine vb ?_ | refine xz ?_ | (refine sQ ?_ ?_ <;> intro hb hq <;> try omega))
    refine bK (⟨j + 1, false, rfl, by omega, by rw [Bool.false_and], rfl, rfl⟩) zb
   rw [← Bool.false_and (inQ (-1000000000000000) 1000000000000000 ((p1).take j))] at hf
   obtain rfl : j = (p1).length := by omega
   have qj : decide (((p1).length : Int) < ((p1).length : Int)) = false := decide_eq_false zb
   rw [List.take_length] at hf
   have hbr : (a.paid p1 mo).right = f := by rw [hf, oH hr hlen, hf0]
   have cr2 := cW (a.paid p1 mo) (mP ho hlen)
   have cm2 := jC (a.paid p1 mo) (mP ho hlen)
   rw [hbr] at cr2
   rw [sL hr hsum, hbr] at cm2
   clear hf hbr
   cases f
   ·rw [if_neg (by simp)] at cm2
    repeat' (first | refine kQ (cr2) hE ?_ | refine kQ (cm2) hE ?_ | refine qy ?_ | refine vc ?_ | refine xc ?_ | (refine sQ ?_ ?_ <;> intro hb hq <;> try omega) | (refine wQ ?_ ?_ <;> intro hb hq <;> try omega))
    refine rt1 ?_
    rfl
   ·rw [if_pos rfl] at cm2
    have ds : decide (a.sum = a.sum) = true := decide_eq_true rfl
    repeat' (first | refine kQ (cr2) hE ?_ | refine kQ (cm2) hE ?_ | refine qy ?_ | refine vc ?_ | refine xc ?_ | (refine sQ ?_ ?_ <;> intro hb hq <;> try omega) | (refine wQ ?_ ?_ <;> intro hb hq <;> try omega))
    refine rt1 ?_
    first | rfl | rw [ds]
  cases g2 : decide (mo ≤ 1000000000000000)
  ·have hf0 : inQ 0 1000000000000000 [mo] = false := by rw [uV, g1, g2]; rfl
   have g3 : decide ((a.paid p1 mo).po.mo ≤ 1000000000000000) = false := g2
   repeat' (first | refine vi ?_ | refine vq ?_ | refine xb ?_ | refine xz ?_ | (refine sQ ?_ ?_ <;> intro hb hq <;> try omega) | (refine wQ ?_ ?_ <;> intro hb hq <;> try omega))
   rw [g3]
   clear g1 g2 g3
   refine bB (fun N sl ob => ∃ (j : Nat) (f : Bool), N = (p1).length - j ∧ j ≤ (p1).length ∧ f = (false && inQ (-1000000000000000) 1000000000000000 ((p1).take j)) ∧ sl = [(15, .d (.int j)), (14, .d (.bool f)), (11, .box 11 0), (10, .d (.int a.sum)), (9, .d (.bool true)), (4, .box 4 0)] ∧ ob = [(11, (a.paid p1 mo).b), (4, a.b)]) (⟨0, false, rfl, Nat.zero_le _, rfl, rfl, rfl⟩) ?_
   rintro N sl ob ⟨j, f, rfl, hj, hf, rfl, rfl⟩
   rw [Bool.false_and] at hf
   by_cases hlt : j < (p1).length
   ·have hg := jO hlt
    have qj : decide ((j : Int) < ((p1).length : Int)) = true := decide_eq_true zb
    generalize (p1).getD j 0 = v at *
    subst hf
    repeat' (first | (apply aB (.indexAddr _ _ _); refine aS hg ?_) | refine vc ?_ | refine vi ?_ | refine vl ?_ | refine xb ?_ | (refine sQ ?_ ?_ <;> intro hb hq <;> try omega) | (refine wQ ?_ ?_ <;> intro hb hq <;> try omega))
    repeat' (first | refine vb ?_ | refine xz ?_ | (refine sQ ?_ ?_ <;> intro hb hq <;> try omega))
    refine bK (⟨j + 1, false, rfl, by omega, by rw [Bool.false_and], rfl, rfl⟩) zb
   rw [← Bool.false_and (inQ (-1000000000000000) 1000000000000000 ((p1).take j))] at hf
   obtain rfl : j = (p1).length := by omega
   have qj : decide (((p1).length : Int) < ((p1).length : Int)) = false := decide_eq_false zb
   rw [List.take_length] at hf
   have hbr : (a.paid p1 mo).right = f := by rw [hf, oH hr hlen, hf0]
   have cr2 := cW (a.paid p1 mo) (mP ho hlen)
   have cm2 := jC (a.paid p1 mo) (mP ho hlen)
   rw [hbr] at cr2
   rw [sL hr hsum, hbr] at cm2
   clear hf hbr
   cases f
   ·rw [if_neg (by simp)] at cm2
    repeat' (first | refine kQ (cr2) hE ?_ | refine kQ (cm2) hE ?_ | refine qy ?_ | refine vc ?_ | refine xc ?_ | (refine sQ ?_ ?_ <;> intro hb hq <;> try omega) | (refine wQ ?_ ?_ <;> intro hb hq <;> try omega))
    refine rt1 ?_
    rfl
   ·rw [if_pos rfl] at cm2
    have ds : decide (a.sum = a.sum) = true := decide_eq_true rfl
    repeat' (first | refine kQ (cr2) hE ?_ | refine kQ (cm2) hE ?_ | refine qy ?_ | refine vc ?_ | refine xc ?_ | (refine sQ ?_ ?_ <;> intro hb hq <;> try omega) | (refine wQ ?_ ?_ <;> intro hb hq <;> try omega))
    refine rt1 ?_
    first | rfl | rw [ds]
  ·have hf0 : inQ 0 1000000000000000 [mo] = true := by rw [uV, g1, g2]; rfl
   have g3 : decide ((a.paid p1 mo).po.mo ≤ 1000000000000000) = true := g2
   repeat' (first | refine vi ?_ | refine vq ?_ | refine xb ?_ | refine xz ?_ | (refine sQ ?_ ?_ <;> intro hb hq <;> try omega) | (refine wQ ?_ ?_ <;> intro hb hq <;> try omega))
   rw [g3]
   clear g1 g2 g3
   refine bB (fun N sl ob => ∃ (j : Nat) (f : Bool), N = (p1).length - j ∧ j ≤ (p1).length ∧ f = (true && inQ (-1000000000000000) 1000000000000000 ((p1).take j)) ∧ sl = [(15, .d (.int j)), (14, .d (.bool f)), (11, .box 11 0), (10, .d (.int a.sum)), (9, .d (.bool true)), (4, .box 4 0)] ∧ ob = [(11, (a.paid p1 mo).b), (4, a.b)]) (⟨0, true, rfl, Nat.zero_le _, rfl, rfl, rfl⟩) ?_
   rintro N sl ob ⟨j, f, rfl, hj, hf, rfl, rfl⟩
   by_cases hlt : j < (p1).length
   ·have hg := jO hlt
    have hnx := aEg (a := -1000000000000000) (b := 1000000000000000) hlt
    have hq1 := uV (-1000000000000000) 1000000000000000 ((p1).getD j 0)
    have qj : decide ((j : Int) < ((p1).length : Int)) = true := decide_eq_true zb
    generalize (p1).getD j 0 = v at *
    cases f
    ·skip
     repeat' (first | (apply aB (.indexAddr _ _ _); refine aS hg ?_) | refine vc ?_ | refine vi ?_ | refine vl ?_ | refine xb ?_ | (refine sQ ?_ ?_ <;> intro hb hq <;> try omega) | (refine wQ ?_ ?_ <;> intro hb hq <;> try omega))
     repeat' (first | refine vb ?_ | refine xz ?_ | (refine sQ ?_ ?_ <;> intro hb hq <;> try omega))
     refine bK (⟨j + 1, false, rfl, by omega, by rw [hnx, ← Bool.and_assoc, ← hf]; rfl, rfl, rfl⟩) zb
    ·cases g1 : decide (-1000000000000000 ≤ v)
     ·skip
      repeat' (first | (apply aB (.indexAddr _ _ _); refine aS hg ?_) | refine vc ?_ | refine vi ?_ | refine vl ?_ | refine xb ?_ | (refine sQ ?_ ?_ <;> intro hb hq <;> try omega) | (refine wQ ?_ ?_ <;> intro hb hq <;> try omega))
      repeat' (first | refine vb ?_ | refine xz ?_ | (refine sQ ?_ ?_ <;> intro hb hq <;> try omega))
      refine bK (⟨j + 1, false, rfl, by omega, by rw [hnx, hq1, g1, ← Bool.and_assoc, ← hf]; rfl, rfl, rfl⟩) zb
     ·cases g2 : decide (v ≤ 1000000000000000)
      ·have g2' : decide (v ≤ 1000000000000000) = false := g2
       repeat' (first | (apply aB (.indexAddr _ _ _); refine aS hg ?_) | refine vc ?_ | refine vi ?_ | refine vl ?_ | refine xb ?_ | (refine sQ ?_ ?_ <;> intro hb hq <;> try omega) | (refine wQ ?_ ?_ <;> intro hb hq <;> try omega))
       rw [g2']
       repeat' (first | refine vb ?_ | refine vi ?_ | refine vl ?_ | refine xz ?_ | (refine sQ ?_ ?_ <;> intro hb hq <;> try omega) | (refine wQ ?_ ?_ <;> intro hb hq <;> try omega) | (apply jW; refine mT ?_))
       refine bK (⟨j + 1, false, rfl, by omega, by rw [hnx, hq1, g1, g2, ← Bool.and_assoc, ← hf]; rfl, rfl, rfl⟩) zb
      ·have g2' : decide (v ≤ 1000000000000000) = true := g2
       repeat' (first | (apply aB (.indexAddr _ _ _); refine aS hg ?_) | refine vc ?_ | refine vi ?_ | refine vl ?_ | refine xb ?_ | (refine sQ ?_ ?_ <;> intro hb hq <;> try omega) | (refine wQ ?_ ?_ <;> intro hb hq <;> try omega))
       rw [g2']
       repeat' (first | refine vb ?_ | refine vi ?_ | refine vl ?_ | refine xz ?_ | (refine sQ ?_ ?_ <;> intro hb hq <;> try omega) | (refine wQ ?_ ?_ <;> intro hb hq <;> try omega) | (apply jW; refine mT ?_))
       refine bK (⟨j + 1, true, rfl, by omega, by rw [hnx, hq1, g1, g2, ← Bool.and_assoc, ← hf]; rfl, rfl, rfl⟩) zb
   obtain rfl : j = (p1).length := by omega
   have qj : decide (((p1).length : Int) < ((p1).length : Int)) = false := decide_eq_false zb
   rw [List.take_length] at hf
   have hbr : (a.paid p1 mo).right = f := by rw [hf, oH hr hlen, hf0]
   have cr2 := cW (a.paid p1 mo) (mP ho hlen)
   have cm2 := jC (a.paid p1 mo) (mP ho hlen)
   rw [hbr] at cr2
   rw [sL hr hsum, hbr] at cm2
   clear hf hbr
   cases f
   ·rw [if_neg (by simp)] at cm2
    repeat' (first | refine kQ (cr2) hE ?_ | refine kQ (cm2) hE ?_ | refine qy ?_ | refine vc ?_ | refine xc ?_ | (refine sQ ?_ ?_ <;> intro hb hq <;> try omega) | (refine wQ ?_ ?_ <;> intro hb hq <;> try omega))
    refine rt1 ?_
    rfl
   ·rw [if_pos rfl] at cm2
    have ds : decide (a.sum = a.sum) = true := decide_eq_true rfl
    repeat' (first | refine kQ (cr2) hE ?_ | refine kQ (cm2) hE ?_ | refine qy ?_ | refine vc ?_ | refine xc ?_ | (refine sQ ?_ ?_ <;> intro hb hq <;> try omega) | (refine wQ ?_ ?_ <;> intro hb hq <;> try omega))
    refine rt1 ?_
    first | rfl | rw [ds]
end
section
open Go.RowKit
def SSt.timed (s : SSt) (t : Int) : SSt := { s with ti := t }
def SSt.arced (s : SSt) (x : SArc) : SSt := { s with ar := s.ar ++ [x], se := s.se ++ [[]] }
def SSt.pooled (s : SSt) (p : SPool) : SSt := { s with po := p }
def SSt.versed (s : SSt) (v : SVer) : SSt := { s with ve := s.ve ++ [v] }
theorem aQz {s : SSt} (h : s.ok) (t : Int) : (s.timed t).ok := ⟨h.ar, h.ars, h.se, h.ses, h.cs, h.pl, h.pls, h.dn, h.at_, h.pm, h.pu, h.fv, h.ve, h.ves, h.bl, h.bls⟩
theorem aLn {s : SSt} (h : s.ok) (p : SPool) : (s.pooled p).ok := ⟨h.ar, h.ars, h.se, h.ses, h.cs, h.pl, h.pls, h.dn, h.at_, h.pm, h.pu, h.fv, h.ve, h.ves, h.bl, h.bls⟩
theorem aGc {s : SSt} (h : s.right = true) (t : Int) : (s.timed t).right = timeQ [t] := by
 have hf := cB.1 h
 rw [Bool.eq_iff_iff, cB]
 constructor
 ·exact fun k => k.ti
 ·exact fun k => ⟨k, hf.nar, hf.nse, hf.ncs, hf.npl, hf.ndn, hf.nat, hf.npm, hf.npu, hf.nfv, hf.nbl, hf.pl, hf.at_, hf.se, hf.pu, hf.fv, hf.po, hf.ar, hf.cs, hf.pm, hf.ve, hf.nve, hf.bl⟩
theorem aCc {s : SSt} (h : s.right = true) (p : SPool) : (s.pooled p).right = p.right := by
 have hf := cB.1 h
 rw [Bool.eq_iff_iff, cB]
 constructor
 ·exact fun k => k.po
 ·exact fun k => ⟨hf.ti, hf.nar, hf.nse, hf.ncs, hf.npl, hf.ndn, hf.nat, hf.npm, hf.npu, hf.nfv, hf.nbl, hf.pl, hf.at_, hf.se, hf.pu, hf.fv, k, hf.ar, hf.cs, hf.pm, hf.ve, hf.nve, hf.bl⟩
theorem aDr {s : SSt} (h : s.right = true) (hn : s.ar.length < 20000) (x : SArc) : (s.arced x).right = x.fine := by
 have hf := cB.1 h
 rw [Bool.eq_iff_iff, cB]
 constructor
 ·exact fun k => k.ar x (List.mem_append_right _ (List.mem_singleton_self x))
 ·intro k
  refine ⟨hf.ti, ?_, ?_, hf.ncs, hf.npl, hf.ndn, hf.nat, hf.npm, hf.npu, hf.nfv, hf.nbl, hf.pl, hf.at_, fun l hl => ?_, hf.pu, hf.fv, hf.po, fun a ha => ?_, hf.cs, hf.pm, hf.ve, hf.nve, hf.bl⟩
  ·show (s.ar ++ [x]).length ≤ 20000
   rw [List.length_append, List.length_singleton]; omega
  ·show (s.se ++ [[]]).length = (s.ar ++ [x]).length
   rw [List.length_append, List.length_append, hf.nse]; rfl
  ·rcases List.mem_append.1 hl with hl | hl
   ·exact hf.se l hl
   ·rw [List.mem_singleton.1 hl]; rfl
  ·rcases List.mem_append.1 ha with ha | ha
   ·exact hf.ar a ha
   ·rw [List.mem_singleton.1 ha]; exact k
theorem aAv (v : SVer) : ∀ (l : List SVer) (last : Int), versQ last (l ++ [v]) = (versQ last l && !verNo (l.foldl (fun _ x => x.f) last) v)
 | [], last => by simp [versQ]
 | x :: l, last => by
  rw [List.cons_append]
  simp only [versQ, List.foldl_cons, aAv v l, Bool.and_assoc]
theorem aAw : ∀ {l : List SVer} {last : Int}, versQ last l = true → last ≤ l.foldl (fun _ x => x.f) last ∧ ∀ x ∈ l, x.f ≤ l.foldl (fun _ x => x.f) last
 | [], last, _ => ⟨Int.le_refl _, fun x hx => by cases hx⟩
 | y :: l, last, h => by
  simp only [versQ, Bool.and_eq_true, verNo, Bool.not_eq_true', Bool.or_eq_false_iff, decide_eq_false_iff_not] at h
  obtain ⟨k1, k2⟩ := aAw h.2
  refine ⟨?_, fun x hx => ?_⟩
  ·show last ≤ l.foldl (fun _ x => x.f) y.f
   omega
  ·rcases List.mem_cons.1 hx with rfl | hx
   ·exact k1
   ·exact k2 x hx
theorem aEk : ∀ (l : List SVer) (last : Int), l.foldl (fun _ x => x.f) last = last ∨ ∃ x ∈ l, l.foldl (fun _ x => x.f) last = x.f
 | [], _ => .inl rfl
 | y :: l, last => by
  rcases aEk l y.f with h | ⟨x, hx, h⟩
  ·exact .inr ⟨y, List.mem_cons_self, h⟩
  ·exact .inr ⟨x, List.mem_cons_of_mem _ hx, h⟩
def afterQ (v : SVer) (l : List SVer) : Bool := l.all fun x => decide (x.f < v.f)
theorem aDd {s : SSt} (h : s.right = true) (hn : s.ve.length < 60) (v : SVer) : (s.versed v).right = (decide ((parseV v.t).2.2 = 0) && (afterQ v s.ve && timeQ [v.f])) := by
 have hf := cB.1 h
 have hv := aAv v s.ve (-1)
 rw [hf.ve, Bool.true_and] at hv
 obtain ⟨k1, k2⟩ := aAw hf.ve
 have k3 := aEk s.ve (-1)
 have key : (!verNo (s.ve.foldl (fun _ x => x.f) (-1)) v) = (decide ((parseV v.t).2.2 = 0) && (afterQ v s.ve && timeQ [v.f])) := by
  rw [Bool.eq_iff_iff]
  unfold verNo afterQ
  simp only [Bool.not_eq_true', Bool.or_eq_false_iff, Bool.not_eq_false', decide_eq_false_iff_not, decide_eq_true_eq, Bool.and_eq_true, List.all_eq_true]
  constructor
  ·rintro ⟨h1, h2, h3⟩
   exact ⟨h1, fun x hx => by have := k2 x hx; omega, h2⟩
  ·rintro ⟨h1, h2, h3⟩
   refine ⟨h1, h3, fun hle => ?_⟩
   rcases k3 with e | ⟨x, hx, e⟩
   ·have := eX.1 h3 v.f (by simp)
    omega
   ·have := h2 x hx
    omega
 rw [← key, Bool.eq_iff_iff, cB]
 constructor
 ·intro k
  have := k.ve
  rw [show (s.versed v).ve = s.ve ++ [v] from rfl, hv] at this
  exact this
 ·intro k
  refine ⟨hf.ti, hf.nar, hf.nse, hf.ncs, hf.npl, hf.ndn, hf.nat, hf.npm, hf.npu, hf.nfv, hf.nbl, hf.pl, hf.at_, hf.se, hf.pu, hf.fv, hf.po, hf.ar, hf.cs, fun p hp => ?_, ?_, ?_, hf.bl⟩
  ·have := hf.pm p hp
   show p.right s.pu.length s.cs.length ((s.ve ++ [v]).length : Int) = true
   unfold SProm.right at this ⊢
   simp only [Bool.and_eq_true] at this ⊢
   obtain ⟨q1, q2, q3, q4⟩ := this
   refine ⟨q1, q2, ?_, q4⟩
   refine eX.2 fun n hn => ?_
   have := eX.1 q3 n hn
   rw [List.length_append, List.length_singleton]
   omega
  ·show versQ (-1) (s.ve ++ [v]) = true
   rw [hv]; exact k
  ·show (s.ve ++ [v]).length ≤ 60
   rw [List.length_append, List.length_singleton]; omega
end
end Go.Proofs.YtaodngiigdbgeaaGreatDoor
