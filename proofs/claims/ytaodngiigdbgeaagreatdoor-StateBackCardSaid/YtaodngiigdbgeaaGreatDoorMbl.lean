/-
  Conditions: none.
-/
import Derived.Test.YtaodngiigdbgeaaGreatDoorMaa
import Derived.Test.YtaodngiigdbgeaaGreatDoorMal
import Derived.Test.YtaodngiigdbgeaaGreatDoorMbk
set_option maxHeartbeats 16000000
set_option maxRecDepth 20000
set_option linter.unusedSimpArgs false
set_option linter.unusedVariables false
namespace Go.Proofs.YtaodngiigdbgeaaGreatDoor
section
open Go.RowKit
structure WorldE (x y : SSt) : Prop where
 ar : x.ar = y.ar
 se : x.se = y.se
 dn : x.dn = y.dn
 at_ : x.at_ = y.at_
 cs : x.cs = y.cs
 pl : x.pl = y.pl
 pm : x.pm = y.pm
theorem qZ {a b : Nat} (h : (!decide ((a : Int) = b)) = true) : a ≠ b := by
 rintro rfl
 simp at h
theorem qY {a b : Nat} (h : (!decide ((a : Int) = b)) = false) : a = b := by
 have : (a : Int) = b := by simpa using h
 omega
theorem aLu (x y : SSt) (ho : x.ok) (R : Bool) (hno : ¬ WorldE x y → R = false) (hyes : WorldE x y → R = true) : PureC 56 [.agg x.c, .agg y.c] (· = .bool R) := by
 have k1 := ho.ar
 have k2 := ho.se
 have k3 := ho.cs
 have k4 := ho.pl
 have k7 := ho.pm
 have c1 := jX x.dn y.dn ho.dn
 have c2 := jX x.at_ y.at_ ho.at_
 have m1 : (x.ar.map SArc.c).length = x.ar.length := List.length_map ..
 have m2 : (x.se.map seenC).length = x.se.length := List.length_map ..
 have m3 : (x.cs.map SCar.c).length = x.cs.length := List.length_map ..
 have m4 : (x.pl.map SPlan.c).length = x.pl.length := List.length_map ..
 have m7 : (x.pm.map SProm.c).length = x.pm.length := List.length_map ..
 have m11 : (y.ar.map SArc.c).length = y.ar.length := List.length_map ..
 have m12 : (y.se.map seenC).length = y.se.length := List.length_map ..
 have m13 : (y.cs.map SCar.c).length = y.cs.length := List.length_map ..
 have m14 : (y.pl.map SPlan.c).length = y.pl.length := List.length_map ..
 have m17 : (y.pm.map SProm.c).length = y.pm.length := List.length_map ..
 obtain ⟨d1, e1⟩ : ∃ d, d = decide (x.dn = y.dn) := ⟨_, rfl⟩
 obtain ⟨d2, e2⟩ : ∃ d, d = decide (x.at_ = y.at_) := ⟨_, rfl⟩
 rw [← e1] at c1
 rw [← e2] at c2
 cases h1 : !decide ((x.ar.length : Int) = y.ar.length)
 rotate_left 1
 ·have hR := hno (fun h => qZ h1 (by rw [h.ar]))
  refine aE Tryz.func56 rfl zg _ Tryz.ntmps56 (aC rfl) (fun w Pr hE => ?_)
  dsimp only [slotsOf, Nat.zero_add, Nat.reduceAdd]
  repeat' (first | (apply aF; refine bP (c1) hE ?_; rintro _ rfl; clear c1) | refine kQ (c2) hE ?_ | refine vk ?_ | refine xc ?_ | refine xp ?_ | (refine sQ ?_ ?_ <;> intro hb hq <;> try omega) | (refine wQ ?_ ?_ <;> intro hb hq <;> try omega))
  refine rt1 ?_
  exact (congrArg D.bool hR).symm
 cases h2 : !decide ((x.se.length : Int) = y.se.length)
 rotate_left 1
 ·have hR := hno (fun h => qZ h2 (by rw [h.se]))
  refine aE Tryz.func56 rfl zg _ Tryz.ntmps56 (aC rfl) (fun w Pr hE => ?_)
  dsimp only [slotsOf, Nat.zero_add, Nat.reduceAdd]
  repeat' (first | (apply aF; refine bP (c1) hE ?_; rintro _ rfl; clear c1) | refine kQ (c2) hE ?_ | refine vk ?_ | refine xc ?_ | refine xp ?_ | (refine sQ ?_ ?_ <;> intro hb hq <;> try omega) | (refine wQ ?_ ?_ <;> intro hb hq <;> try omega))
  refine rt1 ?_
  exact (congrArg D.bool hR).symm
 cases d1
 ·have hR := hno (fun h => by simp [h.dn] at e1)
  refine aE Tryz.func56 rfl zg _ Tryz.ntmps56 (aC rfl) (fun w Pr hE => ?_)
  dsimp only [slotsOf, Nat.zero_add, Nat.reduceAdd]
  repeat' (first | (apply aF; refine bP (c1) hE ?_; rintro _ rfl; clear c1) | refine kQ (c2) hE ?_ | refine vk ?_ | refine xc ?_ | refine xp ?_ | (refine sQ ?_ ?_ <;> intro hb hq <;> try omega) | (refine wQ ?_ ?_ <;> intro hb hq <;> try omega))
  refine rt1 ?_
  exact (congrArg D.bool hR).symm
 cases d2
 ·have hR := hno (fun h => by simp [h.at_] at e2)
  refine aE Tryz.func56 rfl zg _ Tryz.ntmps56 (aC rfl) (fun w Pr hE => ?_)
  dsimp only [slotsOf, Nat.zero_add, Nat.reduceAdd]
  repeat' (first | (apply aF; refine bP (c1) hE ?_; rintro _ rfl; clear c1) | refine kQ (c2) hE ?_ | refine vk ?_ | refine xc ?_ | refine xp ?_ | (refine sQ ?_ ?_ <;> intro hb hq <;> try omega) | (refine wQ ?_ ?_ <;> intro hb hq <;> try omega))
  refine rt1 ?_
  exact (congrArg D.bool hR).symm
 cases h3 : !decide ((x.cs.length : Int) = y.cs.length)
 rotate_left 1
 ·have hR := hno (fun h => qZ h3 (by rw [h.cs]))
  refine aE Tryz.func56 rfl zg _ Tryz.ntmps56 (aC rfl) (fun w Pr hE => ?_)
  dsimp only [slotsOf, Nat.zero_add, Nat.reduceAdd]
  repeat' (first | (apply aF; refine bP (c1) hE ?_; rintro _ rfl; clear c1) | refine kQ (c2) hE ?_ | refine vk ?_ | refine xc ?_ | refine xp ?_ | (refine sQ ?_ ?_ <;> intro hb hq <;> try omega) | (refine wQ ?_ ?_ <;> intro hb hq <;> try omega))
  refine rt1 ?_
  exact (congrArg D.bool hR).symm
 cases h4 : !decide ((x.pl.length : Int) = y.pl.length)
 rotate_left 1
 ·have hR := hno (fun h => qZ h4 (by rw [h.pl]))
  refine aE Tryz.func56 rfl zg _ Tryz.ntmps56 (aC rfl) (fun w Pr hE => ?_)
  dsimp only [slotsOf, Nat.zero_add, Nat.reduceAdd]
  repeat' (first | (apply aF; refine bP (c1) hE ?_; rintro _ rfl; clear c1) | refine kQ (c2) hE ?_ | refine vk ?_ | refine xc ?_ | refine xp ?_ | (refine sQ ?_ ?_ <;> intro hb hq <;> try omega) | (refine wQ ?_ ?_ <;> intro hb hq <;> try omega))
  refine rt1 ?_
  exact (congrArg D.bool hR).symm
 cases h5 : !decide ((x.pm.length : Int) = y.pm.length)
 rotate_left 1
 ·have hR := hno (fun h => qZ h5 (by rw [h.pm]))
  refine aE Tryz.func56 rfl zg _ Tryz.ntmps56 (aC rfl) (fun w Pr hE => ?_)
  dsimp only [slotsOf, Nat.zero_add, Nat.reduceAdd]
  repeat' (first | (apply aF; refine bP (c1) hE ?_; rintro _ rfl; clear c1) | refine kQ (c2) hE ?_ | refine vk ?_ | refine xc ?_ | refine xp ?_ | (refine sQ ?_ ?_ <;> intro hb hq <;> try omega) | (refine wQ ?_ ?_ <;> intro hb hq <;> try omega))
  refine rt1 ?_
  exact (congrArg D.bool hR).symm
 have e1 : x.dn = y.dn := by simpa using e1
 have e2 : x.at_ = y.at_ := by simpa using e2
 refine aE Tryz.func56 rfl zg _ Tryz.ntmps56 (aC rfl) (fun w Pr hE => ?_)
 dsimp only [slotsOf, Nat.zero_add, Nat.reduceAdd]
 repeat' (first | (apply aF; refine bP (c1) hE ?_; rintro _ rfl; clear c1) | refine kQ (c2) hE ?_ | refine vk ?_ | refine xc ?_ | refine xp ?_ | (refine sQ ?_ ?_ <;> intro hb hq <;> try omega) | (refine wQ ?_ ?_ <;> intro hb hq <;> try omega))
 have l1 := qY h1
 have l2 := qY h2
 have l3 := qY h3
 have l4 := qY h4
 have l5 := qY h5
 clear h1 h2 h3 h4 h5
 refine bB (fun N sl ob => ∃ k : Nat, N = x.ar.length - k ∧ k ≤ x.ar.length ∧ (∀ j, j < k → x.ar[j]? = y.ar[j]?) ∧ sl = [(5, .d (.int k)), (3, .box 3 0), (2, .box 2 0)] ∧ ob = [(3, y.b), (2, x.b)]) (⟨0, rfl, Nat.zero_le _, fun j hj => by omega, rfl, rfl⟩) ?_
 rintro N sl ob ⟨k, rfl, hk, hp, rfl, rfl⟩
 by_cases hlt : k < x.ar.length
 ·have hlt2 : k < y.ar.length := by omega
  have hg1 : (x.ar.map SArc.c)[k]? = some (SArc.c x.ar[k]) := by rw [bC hlt]
  have hg2 : (y.ar.map SArc.c)[k]? = some (SArc.c y.ar[k]) := by rw [bC hlt2]
  have qi : decide ((k : Int) < (x.ar.length : Int)) = true := decide_eq_true zb
  have hnx := eK hlt hlt2 hp
  have hne : ¬ x.ar[k] = y.ar[k] → ¬ WorldE x y := fun h e => h (by simp [e.ar])
  have hln := ho.ars _ (List.getElem_mem hlt)
  generalize x.ar[k] = u at *
  generalize y.ar[k] = v at *
  have f3 := jX u.lo v.lo hln.1
  have f4 := jX u.hi v.hi hln.2
  obtain ⟨g3, w3⟩ : ∃ d, d = decide (u.lo = v.lo) := ⟨_, rfl⟩
  obtain ⟨g4, w4⟩ : ∃ d, d = decide (u.hi = v.hi) := ⟨_, rfl⟩
  rw [← w3] at f3
  rw [← w4] at f4
  cases w1 : !decide (u.f = v.f)
  rotate_left 1
  ·have hR := hno (hne (fun e => by simp [e] at w1))
   repeat' (first | (apply aB (.indexAddr _ _ _); refine aS hg1 ?_) | (apply aB (.indexAddr _ _ _); refine aS hg2 ?_) | refine vc ?_ | refine vl ?_ | refine vy ?_ | refine xc ?_ | (refine sQ ?_ ?_ <;> intro hb hq <;> try omega) | (refine wQ ?_ ?_ <;> intro hb hq <;> try omega))
   refine rt1 ?_
   exact (congrArg D.bool hR).symm
  cases w2 : !decide (u.t = v.t)
  rotate_left 1
  ·have hR := hno (hne (fun e => by simp [e] at w2))
   repeat' (first | (apply aB (.indexAddr _ _ _); refine aS hg1 ?_) | (apply aB (.indexAddr _ _ _); refine aS hg2 ?_) | refine vc ?_ | refine vl ?_ | refine vy ?_ | refine xc ?_ | (refine sQ ?_ ?_ <;> intro hb hq <;> try omega) | (refine wQ ?_ ?_ <;> intro hb hq <;> try omega))
   refine rt1 ?_
   exact (congrArg D.bool hR).symm
  cases g3
  ·have hR := hno (hne (fun e => by simp [e] at w3))
   repeat' (first | (apply aB (.indexAddr _ _ _); refine aS hg1 ?_) | (apply aB (.indexAddr _ _ _); refine aS hg2 ?_) | refine kQ (f3) hE ?_ | refine vc ?_ | refine vl ?_ | refine vy ?_ | refine xc ?_ | (refine sQ ?_ ?_ <;> intro hb hq <;> try omega) | (refine wQ ?_ ?_ <;> intro hb hq <;> try omega))
   refine rt1 ?_
   exact (congrArg D.bool hR).symm
  cases g4
  ·have hR := hno (hne (fun e => by simp [e] at w4))
   repeat' (first | (apply aB (.indexAddr _ _ _); refine aS hg1 ?_) | (apply aB (.indexAddr _ _ _); refine aS hg2 ?_) | (apply aF; refine bP (f3) hE ?_; rintro _ rfl; clear f3) | refine kQ (f4) hE ?_ | refine vc ?_ | refine vl ?_ | refine vy ?_ | refine xc ?_ | (refine sQ ?_ ?_ <;> intro hb hq <;> try omega) | (refine wQ ?_ ?_ <;> intro hb hq <;> try omega))
   refine rt1 ?_
   exact (congrArg D.bool hR).symm
  have w1' : decide (u.f = v.f) = true := by simpa only [Bool.not_eq_false'] using w1
  have w2' : decide (u.t = v.t) = true := by simpa only [Bool.not_eq_false'] using w2
  have he : u = v := of_decide_eq_true (by
   rw [← aSf]
   unfold arcE
   rw [w1', w2', ← w3, ← w4]
   rfl)
  repeat' (first | (apply aB (.indexAddr _ _ _); refine aS hg1 ?_) | (apply aB (.indexAddr _ _ _); refine aS hg2 ?_) | (apply aF; refine bP (f3) hE ?_; rintro _ rfl; clear f3) | refine kQ (f4) hE ?_ | refine vl ?_ | refine vm ?_ | refine vy ?_ | refine xq ?_ | (refine sQ ?_ ?_ <;> intro hb hq <;> try omega) | (refine wQ ?_ ?_ <;> intro hb hq <;> try omega) | (apply kZ; refine oS ?_))
  repeat' (first | refine vb ?_ | refine xz ?_ | (refine sQ ?_ ?_ <;> intro hb hq <;> try omega))
  refine bK (⟨k + 1, rfl, by omega, hnx he, rfl, rfl⟩) zb
 obtain rfl : k = x.ar.length := by omega
 have qi : decide ((x.ar.length : Int) < (x.ar.length : Int)) = false := decide_eq_false zb
 have a_ar : x.ar = y.ar := fL l1 hp
 repeat' (first | refine nq ?_ | refine vq ?_ | (refine sQ ?_ ?_ <;> intro hb hq <;> try omega))
 clear hp hk qi
 refine bB (fun N sl ob => ∃ k : Nat, N = x.se.length - k ∧ k ≤ x.se.length ∧ (∀ j, j < k → x.se[j]? = y.se[j]?) ∧ sl = [(8, .d (.int k)), (3, .box 3 0), (2, .box 2 0)] ∧ ob = [(3, y.b), (2, x.b)]) (⟨0, rfl, Nat.zero_le _, fun j hj => by omega, rfl, rfl⟩) ?_
 rintro N sl ob ⟨k, rfl, hk, hp, rfl, rfl⟩
 by_cases hlt : k < x.se.length
 ·have hlt2 : k < y.se.length := by omega
  have hg1 : (x.se.map seenC)[k]? = some (seenC x.se[k]) := by rw [bC hlt]
  have hg2 : (y.se.map seenC)[k]? = some (seenC y.se[k]) := by rw [bC hlt2]
  have qi : decide ((k : Int) < (x.se.length : Int)) = true := decide_eq_true zb
  have hnx := eK hlt hlt2 hp
  have hne : ¬ x.se[k] = y.se[k] → ¬ WorldE x y := fun h e => h (by simp [e.se])
  have c3 := aUh x.se[k] y.se[k] (ho.ses _ (List.getElem_mem hlt))
  generalize x.se[k] = u at *
  generalize y.se[k] = v at *
  by_cases he : u = v
  ·rw [decide_eq_true he] at c3
   repeat' (first | refine vq ?_ | refine xq ?_ | (refine sQ ?_ ?_ <;> intro hb hq <;> try omega))
   refine dF [(0, true), (1, true), (2, true), (3, true), (4, true), (5, true), (6, true), (7, true), (8, true), (9, true), (10, false), (11, true)] [] zp zp zp zg ?_
   simp only [planned, tailed, List.filterMap_cons, List.filterMap_nil, List.getElem?_cons_zero, List.getElem?_cons_succ, Option.map_some]
   repeat' (first | apply aZ | refine vt ?_ | (apply aR (.indexAddr _ _ _); refine bS zj (cT zx rfl rfl zq hg1) (aA rfl) ?_) | (apply aR (.indexAddr _ _ _); refine bS zj (cT zx rfl rfl zq hg2) (aA rfl) ?_) | (apply aM; refine bI (c3) hE ?_; rintro _ rfl; (try dsimp only [flat, D.plain, D.plainL])) | (apply bG; refine bQ ?_) | (apply rD; refine xK ?_) | (apply dL; refine gC ?_) | (apply aU; refine bA ?_) | (apply aV; refine bE ?_) | (refine mQ ?_ ?_ <;> intro hb hq <;> try omega))
   repeat' (first | refine vb ?_ | refine vl ?_ | refine xz ?_ | (refine sQ ?_ ?_ <;> intro hb hq <;> try omega) | (apply nD; refine qS ?_))
   refine bK (⟨k + 1, rfl, by omega, hnx he, rfl, rfl⟩) zb
  ·rw [decide_eq_false he] at c3
   have hR := hno (hne he)
   repeat' (first | refine vq ?_ | refine xq ?_ | (refine sQ ?_ ?_ <;> intro hb hq <;> try omega))
   refine dF [(0, true), (1, true), (2, true), (3, true), (4, true), (5, true), (6, true), (7, true), (8, true), (9, true), (10, false), (11, true)] [] zp zp zp zg ?_
   simp only [planned, tailed, List.filterMap_cons, List.filterMap_nil, List.getElem?_cons_zero, List.getElem?_cons_succ, Option.map_some]
   repeat' (first | apply aZ | refine vt ?_ | (apply aR (.indexAddr _ _ _); refine bS zj (cT zx rfl rfl zq hg1) (aA rfl) ?_) | (apply aR (.indexAddr _ _ _); refine bS zj (cT zx rfl rfl zq hg2) (aA rfl) ?_) | (apply aM; refine bI (c3) hE ?_; rintro _ rfl; (try dsimp only [flat, D.plain, D.plainL])) | (apply bG; refine bQ ?_) | (apply rD; refine xK ?_) | (apply dL; refine gC ?_) | (apply aU; refine bA ?_) | (apply aV; refine bE ?_) | (refine mQ ?_ ?_ <;> intro hb hq <;> try omega))
   repeat' (first | refine vl ?_ | refine xe ?_ | refine xz ?_ | (refine sQ ?_ ?_ <;> intro hb hq <;> try omega))
   refine rt1 ?_
   exact (congrArg D.bool hR).symm
 obtain rfl : k = x.se.length := by omega
 have qi : decide ((x.se.length : Int) < (x.se.length : Int)) = false := decide_eq_false zb
 have a_se : x.se = y.se := fL l2 hp
 repeat' (first | refine nq ?_ | refine vq ?_ | (refine sQ ?_ ?_ <;> intro hb hq <;> try omega))
 clear hp hk qi
 refine bB (fun N sl ob => ∃ k : Nat, N = x.cs.length - k ∧ k ≤ x.cs.length ∧ (∀ j, j < k → x.cs[j]? = y.cs[j]?) ∧ sl = [(9, .d (.int k)), (3, .box 3 0), (2, .box 2 0)] ∧ ob = [(3, y.b), (2, x.b)]) (⟨0, rfl, Nat.zero_le _, fun j hj => by omega, rfl, rfl⟩) ?_
 rintro N sl ob ⟨k, rfl, hk, hp, rfl, rfl⟩
 by_cases hlt : k < x.cs.length
 ·have hlt2 : k < y.cs.length := by omega
  have hg1 : (x.cs.map SCar.c)[k]? = some (SCar.c x.cs[k]) := by rw [bC hlt]
  have hg2 : (y.cs.map SCar.c)[k]? = some (SCar.c y.cs[k]) := by rw [bC hlt2]
  have qi : decide ((k : Int) < (x.cs.length : Int)) = true := decide_eq_true zb
  have hnx := eK hlt hlt2 hp
  have hne : ¬ x.cs[k] = y.cs[k] → ¬ WorldE x y := fun h e => h (by simp [e.cs])
  generalize x.cs[k] = u at *
  generalize y.cs[k] = v at *
  by_cases he : u = v
  ·have w1 : (!eqL u.c v.c) = false := by rw [aNl]; simp [he]
   repeat' (first | refine vq ?_ | refine xq ?_ | (refine sQ ?_ ?_ <;> intro hb hq <;> try omega))
   refine dF [(0, true), (1, true), (2, true), (3, true), (4, true), (5, true), (6, true), (7, true), (8, true), (9, true), (10, true)] [] zp zp zp zg ?_
   simp only [planned, tailed, List.filterMap_cons, List.filterMap_nil, List.getElem?_cons_zero, List.getElem?_cons_succ, Option.map_some]
   repeat' (first | apply aZ | refine vt ?_ | (apply aR (.indexAddr _ _ _); refine bS zj (cT zx rfl rfl zq hg1) (aA rfl) ?_) | (apply aR (.indexAddr _ _ _); refine bS zj (cT zx rfl rfl zq hg2) (aA rfl) ?_) | (apply bG; refine bQ ?_) | (apply dW; refine fV ?_) | (apply dL; refine gC ?_) | (apply aU; refine bA ?_) | (apply aV; refine bE ?_) | (refine mQ ?_ ?_ <;> intro hb hq <;> try omega))
   repeat' (first | refine vl ?_ | refine xo ?_ | refine xz ?_ | (refine sQ ?_ ?_ <;> intro hb hq <;> try omega))
   refine bK (⟨k + 1, rfl, by omega, hnx he, rfl, rfl⟩) zb
  ·have w1 : (!eqL u.c v.c) = true := by rw [aNl]; simp [he]
   have hR := hno (hne he)
   repeat' (first | refine vq ?_ | refine xq ?_ | (refine sQ ?_ ?_ <;> intro hb hq <;> try omega))
   refine dF [(0, true), (1, true), (2, true), (3, true), (4, true), (5, true), (6, true), (7, true), (8, true), (9, true), (10, true)] [] zp zp zp zg ?_
   simp only [planned, tailed, List.filterMap_cons, List.filterMap_nil, List.getElem?_cons_zero, List.getElem?_cons_succ, Option.map_some]
   repeat' (first | apply aZ | refine vt ?_ | (apply aR (.indexAddr _ _ _); refine bS zj (cT zx rfl rfl zq hg1) (aA rfl) ?_) | (apply aR (.indexAddr _ _ _); refine bS zj (cT zx rfl rfl zq hg2) (aA rfl) ?_) | (apply bG; refine bQ ?_) | (apply dW; refine fV ?_) | (apply dL; refine gC ?_) | (apply aU; refine bA ?_) | (apply aV; refine bE ?_) | (refine mQ ?_ ?_ <;> intro hb hq <;> try omega))
   repeat' (first | refine vf ?_ | refine vl ?_ | refine xz ?_ | (refine sQ ?_ ?_ <;> intro hb hq <;> try omega))
   refine rt1 ?_
   exact (congrArg D.bool hR).symm
 obtain rfl : k = x.cs.length := by omega
 have qi : decide ((x.cs.length : Int) < (x.cs.length : Int)) = false := decide_eq_false zb
 have a_cs : x.cs = y.cs := fL l3 hp
 repeat' (first | refine nq ?_ | refine vq ?_ | (refine sQ ?_ ?_ <;> intro hb hq <;> try omega))
 clear hp hk qi
 refine bB (fun N sl ob => ∃ k : Nat, N = x.pl.length - k ∧ k ≤ x.pl.length ∧ (∀ j, j < k → x.pl[j]? = y.pl[j]?) ∧ sl = [(10, .d (.int k)), (3, .box 3 0), (2, .box 2 0)] ∧ ob = [(3, y.b), (2, x.b)]) (⟨0, rfl, Nat.zero_le _, fun j hj => by omega, rfl, rfl⟩) ?_
 rintro N sl ob ⟨k, rfl, hk, hp, rfl, rfl⟩
 by_cases hlt : k < x.pl.length
 ·have hlt2 : k < y.pl.length := by omega
  have hg1 : (x.pl.map SPlan.c)[k]? = some (SPlan.c x.pl[k]) := by rw [bC hlt]
  have hg2 : (y.pl.map SPlan.c)[k]? = some (SPlan.c y.pl[k]) := by rw [bC hlt2]
  have qi : decide ((k : Int) < (x.pl.length : Int)) = true := decide_eq_true zb
  have hnx := eK hlt hlt2 hp
  have hne : ¬ x.pl[k] = y.pl[k] → ¬ WorldE x y := fun h e => h (by simp [e.pl])
  have c3 := aQf x.pl[k] y.pl[k] (ho.pls _ (List.getElem_mem hlt))
  generalize x.pl[k] = u at *
  generalize y.pl[k] = v at *
  by_cases he : u = v
  ·rw [decide_eq_true he] at c3
   repeat' (first | refine vq ?_ | refine xq ?_ | (refine sQ ?_ ?_ <;> intro hb hq <;> try omega))
   refine dF [(0, true), (1, true), (2, true), (3, true), (4, true), (5, true), (6, true), (7, true), (8, true), (9, true), (10, false), (11, true)] [] zp zp zp zg ?_
   simp only [planned, tailed, List.filterMap_cons, List.filterMap_nil, List.getElem?_cons_zero, List.getElem?_cons_succ, Option.map_some]
   repeat' (first | apply aZ | refine vt ?_ | (apply aR (.indexAddr _ _ _); refine bS zj (cT zx rfl rfl zq hg1) (aA rfl) ?_) | (apply aR (.indexAddr _ _ _); refine bS zj (cT zx rfl rfl zq hg2) (aA rfl) ?_) | (apply aM; refine bI (c3) hE ?_; rintro _ rfl; (try dsimp only [flat, D.plain, D.plainL])) | (apply bG; refine bQ ?_) | (apply rD; refine xK ?_) | (apply dL; refine gC ?_) | (apply aU; refine bA ?_) | (apply aV; refine bE ?_) | (refine mQ ?_ ?_ <;> intro hb hq <;> try omega))
   repeat' (first | refine vb ?_ | refine vl ?_ | refine xz ?_ | (refine sQ ?_ ?_ <;> intro hb hq <;> try omega) | (apply nD; refine qS ?_))
   refine bK (⟨k + 1, rfl, by omega, hnx he, rfl, rfl⟩) zb
  ·rw [decide_eq_false he] at c3
   have hR := hno (hne he)
   repeat' (first | refine vq ?_ | refine xq ?_ | (refine sQ ?_ ?_ <;> intro hb hq <;> try omega))
   refine dF [(0, true), (1, true), (2, true), (3, true), (4, true), (5, true), (6, true), (7, true), (8, true), (9, true), (10, false), (11, true)] [] zp zp zp zg ?_
   simp only [planned, tailed, List.filterMap_cons, List.filterMap_nil, List.getElem?_cons_zero, List.getElem?_cons_succ, Option.map_some]
   repeat' (first | apply aZ | refine vt ?_ | (apply aR (.indexAddr _ _ _); refine bS zj (cT zx rfl rfl zq hg1) (aA rfl) ?_) | (apply aR (.indexAddr _ _ _); refine bS zj (cT zx rfl rfl zq hg2) (aA rfl) ?_) | (apply aM; refine bI (c3) hE ?_; rintro _ rfl; (try dsimp only [flat, D.plain, D.plainL])) | (apply bG; refine bQ ?_) | (apply rD; refine xK ?_) | (apply dL; refine gC ?_) | (apply aU; refine bA ?_) | (apply aV; refine bE ?_) | (refine mQ ?_ ?_ <;> intro hb hq <;> try omega))
   repeat' (first | refine vl ?_ | refine xe ?_ | refine xz ?_ | (refine sQ ?_ ?_ <;> intro hb hq <;> try omega))
   refine rt1 ?_
   exact (congrArg D.bool hR).symm
 obtain rfl : k = x.pl.length := by omega
 have qi : decide ((x.pl.length : Int) < (x.pl.length : Int)) = false := decide_eq_false zb
 have a_pl : x.pl = y.pl := fL l4 hp
 repeat' (first | refine nq ?_ | refine vq ?_ | (refine sQ ?_ ?_ <;> intro hb hq <;> try omega))
 clear hp hk qi
 refine bB (fun N sl ob => ∃ k : Nat, N = x.pm.length - k ∧ k ≤ x.pm.length ∧ (∀ j, j < k → x.pm[j]? = y.pm[j]?) ∧ sl = [(11, .d (.int k)), (3, .box 3 0), (2, .box 2 0)] ∧ ob = [(3, y.b), (2, x.b)]) (⟨0, rfl, Nat.zero_le _, fun j hj => by omega, rfl, rfl⟩) ?_
 rintro N sl ob ⟨k, rfl, hk, hp, rfl, rfl⟩
 by_cases hlt : k < x.pm.length
 ·have hlt2 : k < y.pm.length := by omega
  have hg1 : (x.pm.map SProm.c)[k]? = some (SProm.c x.pm[k]) := by rw [bC hlt]
  have hg2 : (y.pm.map SProm.c)[k]? = some (SProm.c y.pm[k]) := by rw [bC hlt2]
  have qi : decide ((k : Int) < (x.pm.length : Int)) = true := decide_eq_true zb
  have hnx := eK hlt hlt2 hp
  have hne : ¬ x.pm[k] = y.pm[k] → ¬ WorldE x y := fun h e => h (by simp [e.pm])
  generalize x.pm[k] = u at *
  generalize y.pm[k] = v at *
  by_cases he : u = v
  ·have w1 : (!(eqL (SReq.c u.q) (SReq.c v.q) && eqL [.int u.car, .int u.ve, .int u.fa, .int u.sg, .int u.ow] [.int v.car, .int v.ve, .int v.fa, .int v.sg, .int v.ow])) = false := by rw [aPr]; simp [he]
   repeat' (first | refine vq ?_ | refine xq ?_ | (refine sQ ?_ ?_ <;> intro hb hq <;> try omega))
   refine dF [(0, true), (1, true), (2, true), (3, true), (4, true), (5, true), (6, true), (7, true), (8, true), (9, true), (10, true)] [] zp zp zp zg ?_
   simp only [planned, tailed, List.filterMap_cons, List.filterMap_nil, List.getElem?_cons_zero, List.getElem?_cons_succ, Option.map_some]
   repeat' (first | apply aZ | refine vt ?_ | (apply aR (.indexAddr _ _ _); refine bS zj (cT zx rfl rfl zq hg1) (aA rfl) ?_) | (apply aR (.indexAddr _ _ _); refine bS zj (cT zx rfl rfl zq hg2) (aA rfl) ?_) | (apply aR (.binOp .neq _ _ _ _); refine bS zj (aRt (l1 := SReq.c u.q) (l2 := [.int u.car, .int u.ve, .int u.fa, .int u.sg, .int u.ow]) (m1 := SReq.c v.q) (m2 := [.int v.car, .int v.ve, .int v.fa, .int v.sg, .int v.ow]) rfl rfl rfl rfl za za za za zp rfl) (aA rfl) ?_) | (apply bG; refine bQ ?_) | (apply dW; refine fV ?_) | (apply dL; refine gC ?_) | (apply aU; refine bA ?_) | (apply aV; refine bE ?_) | (refine mQ ?_ ?_ <;> intro hb hq <;> try omega))
   repeat' (first | refine vl ?_ | refine xo ?_ | refine xz ?_ | (refine sQ ?_ ?_ <;> intro hb hq <;> try omega))
   refine bK (⟨k + 1, rfl, by omega, hnx he, rfl, rfl⟩) zb
  ·have w1 : (!(eqL (SReq.c u.q) (SReq.c v.q) && eqL [.int u.car, .int u.ve, .int u.fa, .int u.sg, .int u.ow] [.int v.car, .int v.ve, .int v.fa, .int v.sg, .int v.ow])) = true := by rw [aPr]; simp [he]
   have hR := hno (hne he)
   repeat' (first | refine vq ?_ | refine xq ?_ | (refine sQ ?_ ?_ <;> intro hb hq <;> try omega))
   refine dF [(0, true), (1, true), (2, true), (3, true), (4, true), (5, true), (6, true), (7, true), (8, true), (9, true), (10, true)] [] zp zp zp zg ?_
   simp only [planned, tailed, List.filterMap_cons, List.filterMap_nil, List.getElem?_cons_zero, List.getElem?_cons_succ, Option.map_some]
   repeat' (first | apply aZ | refine vt ?_ | (apply aR (.indexAddr _ _ _); refine bS zj (cT zx rfl rfl zq hg1) (aA rfl) ?_) | (apply aR (.indexAddr _ _ _); refine bS zj (cT zx rfl rfl zq hg2) (aA rfl) ?_) | (apply aR (.binOp .neq _ _ _ _); refine bS zj (aRt (l1 := SReq.c u.q) (l2 := [.int u.car, .int u.ve, .int u.fa, .int u.sg, .int u.ow]) (m1 := SReq.c v.q) (m2 := [.int v.car, .int v.ve, .int v.fa, .int v.sg, .int v.ow]) rfl rfl rfl rfl za za za za zp rfl) (aA rfl) ?_) | (apply bG; refine bQ ?_) | (apply dW; refine fV ?_) | (apply dL; refine gC ?_) | (apply aU; refine bA ?_) | (apply aV; refine bE ?_) | (refine mQ ?_ ?_ <;> intro hb hq <;> try omega))
   repeat' (first | refine vf ?_ | refine vl ?_ | refine xz ?_ | (refine sQ ?_ ?_ <;> intro hb hq <;> try omega))
   refine rt1 ?_
   exact (congrArg D.bool hR).symm
 obtain rfl : k = x.pm.length := by omega
 have qi : decide ((x.pm.length : Int) < (x.pm.length : Int)) = false := decide_eq_false zb
 have a_pm : x.pm = y.pm := fL l5 hp
 repeat' (first | refine nq ?_ | refine vq ?_ | (refine sQ ?_ ?_ <;> intro hb hq <;> try omega))
 have hR := hyes ⟨a_ar, a_se, e1, e2, a_cs, a_pl, a_pm⟩
 refine rt1 ?_
 exact (congrArg D.bool hR).symm
end
section
open Go.RowKit
theorem aHr {x y : SSt} (w : WorldE x y) (h1 : x.ti = y.ti) (h2 : x.pu = y.pu) (h3 : x.po = y.po) (h4 : x.fv = y.fv) (h5 : x.ve = y.ve) (h6 : x.bl = y.bl) : x = y := by
 obtain ⟨w1, w2, w3, w4, w5, w6, w7⟩ := w
 cases x; cases y
 simp only at *
 subst h1 h2 h3 h4 h5 h6 w1 w2 w3 w4 w5 w6 w7
 rfl
theorem aIa (x : SSt) : WorldE x x := ⟨rfl, rfl, rfl, rfl, rfl, rfl, rfl⟩
open Classical in
theorem qG (x y : SSt) (ho : x.ok) : PureC 12 [.agg x.c, .agg y.c] (· = .bool (decide (x = y))) := by
 obtain ⟨R, hR⟩ : ∃ R, R = decide (x = y) := ⟨_, rfl⟩
 rw [← hR]
 have hno : ¬ x = y → R = false := fun h => by rw [hR]; exact decide_eq_false h
 have hyes : x = y → R = true := fun h => by rw [hR]; exact decide_eq_true h
 clear hR
 have k1 := ho.ve
 have k2 := ho.bl
 obtain ⟨W, hW⟩ : ∃ W, W = decide (WorldE x y) := ⟨_, rfl⟩
 have cw := aLu x y ho W (fun h => by rw [hW]; exact decide_eq_false h) (fun h => by rw [hW]; exact decide_eq_true h)
 have c1 := jX x.pu y.pu ho.pu
 have c2 := jX x.fv y.fv ho.fv
 have m1 : (x.ve.map SVer.c).length = x.ve.length := List.length_map ..
 have m2 : (x.bl.map SBal.c).length = x.bl.length := List.length_map ..
 have m11 : (y.ve.map SVer.c).length = y.ve.length := List.length_map ..
 have m12 : (y.bl.map SBal.c).length = y.bl.length := List.length_map ..
 obtain ⟨d1, e1⟩ : ∃ d, d = decide (x.pu = y.pu) := ⟨_, rfl⟩
 obtain ⟨d2, e2⟩ : ∃ d, d = decide (x.fv = y.fv) := ⟨_, rfl⟩
 obtain ⟨d3, e3⟩ : ∃ d, d = decide (x.po = y.po) := ⟨_, rfl⟩
 have ep : (!eqL x.po.c y.po.c) = !d3 := by rw [aCb, e3]
 rw [← e1] at c1
 rw [← e2] at c2
 cases h1 : !decide (x.ti = y.ti)
 rotate_left 1
 ·obtain rfl := hno (fun h => by simp [h] at h1)
  refine aE Tryz.func12 rfl zg _ Tryz.ntmps12 (aC rfl) (fun w Pr hE => ?_)
  dsimp only [slotsOf, Nat.zero_add, Nat.reduceAdd]
  repeat' (first | (apply aB (.binOp .neq 29 _ _ _); refine aK (mF rfl rfl za za zp ep) (aA rfl) ?_) | refine kQ (cw) hE ?_ | (apply aF; refine bP (c1) hE ?_; rintro _ rfl; clear c1) | refine kQ (c2) hE ?_ | refine vk ?_ | refine xc ?_ | refine xp ?_ | (refine sQ ?_ ?_ <;> intro hb hq <;> try omega) | (refine wQ ?_ ?_ <;> intro hb hq <;> try omega))
  refine rt1 ?_
  rfl
 cases W
 ·obtain rfl := hno (fun h => by rw [h] at hW; simp [aIa] at hW)
  refine aE Tryz.func12 rfl zg _ Tryz.ntmps12 (aC rfl) (fun w Pr hE => ?_)
  dsimp only [slotsOf, Nat.zero_add, Nat.reduceAdd]
  repeat' (first | (apply aB (.binOp .neq 29 _ _ _); refine aK (mF rfl rfl za za zp ep) (aA rfl) ?_) | refine kQ (cw) hE ?_ | (apply aF; refine bP (c1) hE ?_; rintro _ rfl; clear c1) | refine kQ (c2) hE ?_ | refine vk ?_ | refine xc ?_ | refine xp ?_ | (refine sQ ?_ ?_ <;> intro hb hq <;> try omega) | (refine wQ ?_ ?_ <;> intro hb hq <;> try omega))
  refine rt1 ?_
  rfl
 cases d1
 ·obtain rfl := hno (fun h => by simp [h] at e1)
  refine aE Tryz.func12 rfl zg _ Tryz.ntmps12 (aC rfl) (fun w Pr hE => ?_)
  dsimp only [slotsOf, Nat.zero_add, Nat.reduceAdd]
  repeat' (first | (apply aB (.binOp .neq 29 _ _ _); refine aK (mF rfl rfl za za zp ep) (aA rfl) ?_) | refine kQ (cw) hE ?_ | (apply aF; refine bP (c1) hE ?_; rintro _ rfl; clear c1) | refine kQ (c2) hE ?_ | refine vk ?_ | refine xc ?_ | refine xp ?_ | (refine sQ ?_ ?_ <;> intro hb hq <;> try omega) | (refine wQ ?_ ?_ <;> intro hb hq <;> try omega))
  refine rt1 ?_
  rfl
 cases d3
 ·obtain rfl := hno (fun h => by simp [h] at e3)
  refine aE Tryz.func12 rfl zg _ Tryz.ntmps12 (aC rfl) (fun w Pr hE => ?_)
  dsimp only [slotsOf, Nat.zero_add, Nat.reduceAdd]
  repeat' (first | (apply aB (.binOp .neq 29 _ _ _); refine aK (mF rfl rfl za za zp ep) (aA rfl) ?_) | refine kQ (cw) hE ?_ | (apply aF; refine bP (c1) hE ?_; rintro _ rfl; clear c1) | refine kQ (c2) hE ?_ | refine vk ?_ | refine xc ?_ | refine xp ?_ | (refine sQ ?_ ?_ <;> intro hb hq <;> try omega) | (refine wQ ?_ ?_ <;> intro hb hq <;> try omega))
  refine rt1 ?_
  rfl
 cases d2
 ·obtain rfl := hno (fun h => by simp [h] at e2)
  refine aE Tryz.func12 rfl zg _ Tryz.ntmps12 (aC rfl) (fun w Pr hE => ?_)
  dsimp only [slotsOf, Nat.zero_add, Nat.reduceAdd]
  repeat' (first | (apply aB (.binOp .neq 29 _ _ _); refine aK (mF rfl rfl za za zp ep) (aA rfl) ?_) | refine kQ (cw) hE ?_ | (apply aF; refine bP (c1) hE ?_; rintro _ rfl; clear c1) | refine kQ (c2) hE ?_ | refine vk ?_ | refine xc ?_ | refine xp ?_ | (refine sQ ?_ ?_ <;> intro hb hq <;> try omega) | (refine wQ ?_ ?_ <;> intro hb hq <;> try omega))
  refine rt1 ?_
  rfl
 cases h2 : !decide ((x.ve.length : Int) = y.ve.length)
 rotate_left 1
 ·obtain rfl := hno (fun h => qZ h2 (by rw [h]))
  refine aE Tryz.func12 rfl zg _ Tryz.ntmps12 (aC rfl) (fun w Pr hE => ?_)
  dsimp only [slotsOf, Nat.zero_add, Nat.reduceAdd]
  repeat' (first | (apply aB (.binOp .neq 29 _ _ _); refine aK (mF rfl rfl za za zp ep) (aA rfl) ?_) | refine kQ (cw) hE ?_ | (apply aF; refine bP (c1) hE ?_; rintro _ rfl; clear c1) | refine kQ (c2) hE ?_ | refine vk ?_ | refine xc ?_ | refine xp ?_ | (refine sQ ?_ ?_ <;> intro hb hq <;> try omega) | (refine wQ ?_ ?_ <;> intro hb hq <;> try omega))
  refine rt1 ?_
  rfl
 cases h3 : !decide ((x.bl.length : Int) = y.bl.length)
 rotate_left 1
 ·obtain rfl := hno (fun h => qZ h3 (by rw [h]))
  refine aE Tryz.func12 rfl zg _ Tryz.ntmps12 (aC rfl) (fun w Pr hE => ?_)
  dsimp only [slotsOf, Nat.zero_add, Nat.reduceAdd]
  repeat' (first | (apply aB (.binOp .neq 29 _ _ _); refine aK (mF rfl rfl za za zp ep) (aA rfl) ?_) | refine kQ (cw) hE ?_ | (apply aF; refine bP (c1) hE ?_; rintro _ rfl; clear c1) | refine kQ (c2) hE ?_ | refine vk ?_ | refine xc ?_ | refine xp ?_ | (refine sQ ?_ ?_ <;> intro hb hq <;> try omega) | (refine wQ ?_ ?_ <;> intro hb hq <;> try omega))
  refine rt1 ?_
  rfl
 have e0 : x.ti = y.ti := by simpa using h1
 have e1 : x.pu = y.pu := of_decide_eq_true e1.symm
 have e2 : x.fv = y.fv := of_decide_eq_true e2.symm
 have e3 : x.po = y.po := of_decide_eq_true e3.symm
 have eW : WorldE x y := of_decide_eq_true hW.symm
 have l2 := qY h2
 have l3 := qY h3
 refine aE Tryz.func12 rfl zg _ Tryz.ntmps12 (aC rfl) (fun w Pr hE => ?_)
 dsimp only [slotsOf, Nat.zero_add, Nat.reduceAdd]
 repeat' (first | (apply aB (.binOp .neq 29 _ _ _); refine aK (mF rfl rfl za za zp ep) (aA rfl) ?_) | refine kQ (cw) hE ?_ | (apply aF; refine bP (c1) hE ?_; rintro _ rfl; clear c1) | refine kQ (c2) hE ?_ | refine vk ?_ | refine xc ?_ | refine xp ?_ | (refine sQ ?_ ?_ <;> intro hb hq <;> try omega) | (refine wQ ?_ ?_ <;> intro hb hq <;> try omega))
 clear h1 h2 h3 cw c2 ep hW
 refine bB (fun N sl ob => ∃ k : Nat, N = x.ve.length - k ∧ k ≤ x.ve.length ∧ (∀ j, j < k → x.ve[j]? = y.ve[j]?) ∧ sl = [(5, .d (.int k)), (3, .box 3 0), (2, .box 2 0)] ∧ ob = [(3, y.b), (2, x.b)]) (⟨0, rfl, Nat.zero_le _, fun j hj => by omega, rfl, rfl⟩) ?_
 rintro N sl ob ⟨k, rfl, hk, hp, rfl, rfl⟩
 by_cases hlt : k < x.ve.length
 ·have hlt2 : k < y.ve.length := by omega
  have hg1 : (x.ve.map SVer.c)[k]? = some (SVer.c x.ve[k]) := by rw [bC hlt]
  have hg2 : (y.ve.map SVer.c)[k]? = some (SVer.c y.ve[k]) := by rw [bC hlt2]
  have qi : decide ((k : Int) < (x.ve.length : Int)) = true := decide_eq_true zb
  have hnx := eK hlt hlt2 hp
  have hne : ¬ x.ve[k] = y.ve[k] → ¬ x = y := fun h e => h (by simp [e])
  generalize x.ve[k] = u at *
  generalize y.ve[k] = v at *
  by_cases he : u = v
  ·have w1 : (!eqL u.c v.c) = false := by rw [aRe]; simp [he]
   repeat' (first | refine vq ?_ | refine xq ?_ | (refine sQ ?_ ?_ <;> intro hb hq <;> try omega))
   refine dF [(0, true), (1, true), (2, true), (3, true), (4, true), (5, true), (6, true), (7, true), (8, true), (9, true), (10, true)] [] zp zp zp zg ?_
   simp only [planned, tailed, List.filterMap_cons, List.filterMap_nil, List.getElem?_cons_zero, List.getElem?_cons_succ, Option.map_some]
   repeat' (first | apply aZ | refine vt ?_ | (apply aR (.indexAddr _ _ _); refine bS zj (cT zx rfl rfl zq hg1) (aA rfl) ?_) | (apply aR (.indexAddr _ _ _); refine bS zj (cT zx rfl rfl zq hg2) (aA rfl) ?_) | (apply bG; refine bQ ?_) | (apply dW; refine fV ?_) | (apply dL; refine gC ?_) | (apply aU; refine bA ?_) | (apply aV; refine bE ?_) | (refine mQ ?_ ?_ <;> intro hb hq <;> try omega))
   repeat' (first | refine vl ?_ | refine xo ?_ | refine xz ?_ | (refine sQ ?_ ?_ <;> intro hb hq <;> try omega))
   refine bK (⟨k + 1, rfl, by omega, hnx he, rfl, rfl⟩) zb
  ·have w1 : (!eqL u.c v.c) = true := by rw [aRe]; simp [he]
   obtain rfl := hno (hne he)
   repeat' (first | refine vq ?_ | refine xq ?_ | (refine sQ ?_ ?_ <;> intro hb hq <;> try omega))
   refine dF [(0, true), (1, true), (2, true), (3, true), (4, true), (5, true), (6, true), (7, true), (8, true), (9, true), (10, true)] [] zp zp zp zg ?_
   simp only [planned, tailed, List.filterMap_cons, List.filterMap_nil, List.getElem?_cons_zero, List.getElem?_cons_succ, Option.map_some]
   repeat' (first | apply aZ | refine vt ?_ | (apply aR (.indexAddr _ _ _); refine bS zj (cT zx rfl rfl zq hg1) (aA rfl) ?_) | (apply aR (.indexAddr _ _ _); refine bS zj (cT zx rfl rfl zq hg2) (aA rfl) ?_) | (apply bG; refine bQ ?_) | (apply dW; refine fV ?_) | (apply dL; refine gC ?_) | (apply aU; refine bA ?_) | (apply aV; refine bE ?_) | (refine mQ ?_ ?_ <;> intro hb hq <;> try omega))
   repeat' (first | refine vf ?_ | refine vl ?_ | refine xz ?_ | (refine sQ ?_ ?_ <;> intro hb hq <;> try omega))
   refine rt1 ?_
   rfl
 obtain rfl : k = x.ve.length := by omega
 have qi : decide ((x.ve.length : Int) < (x.ve.length : Int)) = false := decide_eq_false zb
 have a_ve : x.ve = y.ve := fL l2 hp
 repeat' (first | refine nq ?_ | refine vq ?_ | (refine sQ ?_ ?_ <;> intro hb hq <;> try omega))
 clear hp hk qi
 refine bB (fun N sl ob => ∃ k : Nat, N = x.bl.length - k ∧ k ≤ x.bl.length ∧ (∀ j, j < k → x.bl[j]? = y.bl[j]?) ∧ sl = [(6, .d (.int k)), (3, .box 3 0), (2, .box 2 0)] ∧ ob = [(3, y.b), (2, x.b)]) (⟨0, rfl, Nat.zero_le _, fun j hj => by omega, rfl, rfl⟩) ?_
 rintro N sl ob ⟨k, rfl, hk, hp, rfl, rfl⟩
 by_cases hlt : k < x.bl.length
 ·have hlt2 : k < y.bl.length := by omega
  have hg1 : (x.bl.map SBal.c)[k]? = some (SBal.c x.bl[k]) := by rw [bC hlt]
  have hg2 : (y.bl.map SBal.c)[k]? = some (SBal.c y.bl[k]) := by rw [bC hlt2]
  have qi : decide ((k : Int) < (x.bl.length : Int)) = true := decide_eq_true zb
  have hnx := eK hlt hlt2 hp
  have hne : ¬ x.bl[k] = y.bl[k] → ¬ x = y := fun h e => h (by simp [e])
  have hln := ho.bls _ (List.getElem_mem hlt)
  generalize x.bl[k] = u at *
  generalize y.bl[k] = v at *
  have f4 := aLr u.ca v.ca hln.ca hln.sh
  obtain ⟨g4, w4⟩ : ∃ d, d = decide (u.ca = v.ca) := ⟨_, rfl⟩
  rw [← w4] at f4
  cases w1 : !decide (u.t = v.t)
  rotate_left 1
  ·obtain rfl := hno (hne (fun e => by simp [e] at w1))
   repeat' (first | (apply aB (.indexAddr _ _ _); refine aS hg1 ?_) | (apply aB (.indexAddr _ _ _); refine aS hg2 ?_) | refine vc ?_ | refine vl ?_ | refine vy ?_ | refine xc ?_ | (refine sQ ?_ ?_ <;> intro hb hq <;> try omega) | (refine wQ ?_ ?_ <;> intro hb hq <;> try omega))
   refine rt1 ?_
   rfl
  cases w2 : !decide (u.f = v.f)
  rotate_left 1
  ·obtain rfl := hno (hne (fun e => by simp [e] at w2))
   repeat' (first | (apply aB (.indexAddr _ _ _); refine aS hg1 ?_) | (apply aB (.indexAddr _ _ _); refine aS hg2 ?_) | refine vc ?_ | refine vl ?_ | refine vy ?_ | refine xc ?_ | (refine sQ ?_ ?_ <;> intro hb hq <;> try omega) | (refine wQ ?_ ?_ <;> intro hb hq <;> try omega))
   refine rt1 ?_
   rfl
  cases w3 : !(u.cl == v.cl)
  rotate_left 1
  ·obtain rfl := hno (hne (fun e => by simp [e] at w3))
   repeat' (first | (apply aB (.indexAddr _ _ _); refine aS hg1 ?_) | (apply aB (.indexAddr _ _ _); refine aS hg2 ?_) | refine vc ?_ | refine vl ?_ | refine vy ?_ | refine xc ?_ | (refine sQ ?_ ?_ <;> intro hb hq <;> try omega) | (refine wQ ?_ ?_ <;> intro hb hq <;> try omega))
   refine rt1 ?_
   rfl
  cases g4
  ·obtain rfl := hno (hne (fun e => by simp [e] at w4))
   repeat' (first | (apply aB (.indexAddr _ _ _); refine aS hg1 ?_) | (apply aB (.indexAddr _ _ _); refine aS hg2 ?_) | refine kQ (f4) hE ?_ | refine vc ?_ | refine vl ?_ | refine vy ?_ | refine xc ?_ | (refine sQ ?_ ?_ <;> intro hb hq <;> try omega) | (refine wQ ?_ ?_ <;> intro hb hq <;> try omega))
   refine rt1 ?_
   rfl
  have w1' : decide (u.t = v.t) = true := by simpa only [Bool.not_eq_false'] using w1
  have w2' : decide (u.f = v.f) = true := by simpa only [Bool.not_eq_false'] using w2
  have w3' : (u.cl == v.cl) = true := by simpa only [Bool.not_eq_false'] using w3
  have he : u = v := of_decide_eq_true (by
   rw [← aSh]
   unfold balE
   rw [w1', w2', w3', ← w4]
   rfl)
  repeat' (first | (apply aB (.indexAddr _ _ _); refine aS hg1 ?_) | (apply aB (.indexAddr _ _ _); refine aS hg2 ?_) | refine kQ (f4) hE ?_ | refine vl ?_ | refine vm ?_ | refine vy ?_ | refine xq ?_ | (refine sQ ?_ ?_ <;> intro hb hq <;> try omega) | (refine wQ ?_ ?_ <;> intro hb hq <;> try omega) | (apply kZ; refine oS ?_))
  repeat' (first | refine vb ?_ | refine xz ?_ | (refine sQ ?_ ?_ <;> intro hb hq <;> try omega))
  refine bK (⟨k + 1, rfl, by omega, hnx he, rfl, rfl⟩) zb
 obtain rfl : k = x.bl.length := by omega
 have qi : decide ((x.bl.length : Int) < (x.bl.length : Int)) = false := decide_eq_false zb
 have a_bl : x.bl = y.bl := fL l3 hp
 obtain rfl := hyes (aHr eW e0 e1 e3 e2 a_ve a_bl)
 repeat' (first | refine nq ?_ | refine vq ?_ | (refine sQ ?_ ?_ <;> intro hb hq <;> try omega))
 refine rt1 ?_
 rfl
end
end Go.Proofs.YtaodngiigdbgeaaGreatDoor
