/-
  Conditions: none.
-/
import Derived.Test.YtaodngiigdbgeaaGreatDoorMaa
import Derived.Test.YtaodngiigdbgeaaGreatDoorMal
import Derived.Test.YtaodngiigdbgeaaGreatDoorMan
import Derived.Test.YtaodngiigdbgeaaGreatDoorMbf
import Derived.Test.YtaodngiigdbgeaaGreatDoorMbg
set_option maxHeartbeats 16000000
set_option maxRecDepth 20000
set_option linter.unusedSimpArgs false
set_option linter.unusedVariables false
namespace Go.Proofs.YtaodngiigdbgeaaGreatDoor
section
open Go.RowKit
theorem jX (a b : List Int) (ha : a.length ≤ 1000000) : PureC 57 [.list 1 (a.map (fun n : Int => [D.int n])), .list 1 (b.map (fun n : Int => [D.int n]))] (· = .bool (decide (a = b))) := by
 have hm1 : (a.map (fun n : Int => [D.int n])).length = a.length := List.length_map ..
 have hm2 : (b.map (fun n : Int => [D.int n])).length = b.length := List.length_map ..
 by_cases hl : a.length = b.length
 rotate_left 1
 ·have h1 : (!decide ((a.length : Int) = b.length)) = true := by
   have : ¬ (a.length : Int) = b.length := by omega
   simp [this]
  have hne : ¬ a = b := by rintro rfl; exact hl rfl
  refine aE Tryz.func57 rfl zg _ Tryz.ntmps57 (aC rfl) (fun w Pr hE => ?_)
  dsimp only [slotsOf, Nat.zero_add, Nat.reduceAdd]
  repeat' (first | refine qd ?_ | refine vf ?_ | (refine sQ ?_ ?_ <;> intro hb hq <;> try omega))
  refine rt1 ?_
  simp [hne]
 ·have h1 : (!decide ((a.length : Int) = b.length)) = false := by simp [hl]
  refine aE Tryz.func57 rfl zg _ Tryz.ntmps57 (aC rfl) (fun w Pr hE => ?_)
  dsimp only [slotsOf, Nat.zero_add, Nat.reduceAdd]
  repeat' (first | refine qd ?_ | refine vf ?_ | (refine sQ ?_ ?_ <;> intro hb hq <;> try omega))
  clear h1
  refine bB (fun N sl ob => ∃ k : Nat, N = a.length - k ∧ k ≤ a.length ∧ (∀ j, j < k → a[j]? = b[j]?) ∧ sl = [(5, .d (.int k)), (0, .d (.list 1 (a.map (fun n : Int => [D.int n])))), (1, .d (.list 1 (b.map (fun n : Int => [D.int n]))))] ∧ ob = []) (⟨0, rfl, Nat.zero_le _, fun j hj => by omega, rfl, rfl⟩) ?_
  rintro N sl ob ⟨k, rfl, hk, hp, rfl, rfl⟩
  by_cases hlt : k < a.length
  ·have hlt2 : k < b.length := by omega
   have hg1 : (a.map (fun n : Int => [D.int n]))[k]? = some ((fun n : Int => [D.int n]) a[k]) := by rw [bC hlt]
   have hg2 : (b.map (fun n : Int => [D.int n]))[k]? = some ((fun n : Int => [D.int n]) b[k]) := by rw [bC hlt2]
   have qi : decide ((k : Int) < (a.length : Int)) = true := decide_eq_true zb
   have hnx := eK hlt hlt2 hp
   have hne : ¬ a[k] = b[k] → ¬ a = b := fun h e => h (by simp [e])
   generalize a[k] = x at *
   generalize b[k] = y at *
   by_cases he : x = y
   ·have e1 : (!decide (x = y)) = false := by simp [he]
    repeat' (first | refine xq ?_ | (refine sQ ?_ ?_ <;> intro hb hq <;> try omega))
    refine dF [(0, true), (1, true), (2, true), (3, true), (4, true), (5, true), (6, true), (7, true), (8, true)] [] zp zp zp zg ?_
    simp only [planned, tailed, List.filterMap_cons, List.filterMap_nil, List.getElem?_cons_zero, List.getElem?_cons_succ, Option.map_some]
    repeat' (first | apply aZ | refine vt ?_ | (apply aR (.indexAddr _ _ _); refine bS zj (cT zx rfl rfl zq hg1) (aA rfl) ?_) | (apply aR (.indexAddr _ _ _); refine bS zj (cT zx rfl rfl zq hg2) (aA rfl) ?_) | (apply bG; refine bQ ?_) | (apply dW; refine fV ?_) | (apply dL; refine gC ?_) | (apply aU; refine bA ?_) | (refine mQ ?_ ?_ <;> intro hb hq <;> try omega))
    repeat' (first | refine vg ?_ | refine xo ?_ | refine xz ?_ | (refine sQ ?_ ?_ <;> intro hb hq <;> try omega))
    refine bK (⟨k + 1, rfl, by omega, hnx he, rfl, rfl⟩) zb
   ·have e1 : (!decide (x = y)) = true := by simp [he]
    have hne := hne he
    repeat' (first | refine xq ?_ | (refine sQ ?_ ?_ <;> intro hb hq <;> try omega))
    refine dF [(0, true), (1, true), (2, true), (3, true), (4, true), (5, true), (6, true), (7, true), (8, true)] [] zp zp zp zg ?_
    simp only [planned, tailed, List.filterMap_cons, List.filterMap_nil, List.getElem?_cons_zero, List.getElem?_cons_succ, Option.map_some]
    repeat' (first | apply aZ | refine vt ?_ | (apply aR (.indexAddr _ _ _); refine bS zj (cT zx rfl rfl zq hg1) (aA rfl) ?_) | (apply aR (.indexAddr _ _ _); refine bS zj (cT zx rfl rfl zq hg2) (aA rfl) ?_) | (apply bG; refine bQ ?_) | (apply dW; refine fV ?_) | (apply dL; refine gC ?_) | (apply aU; refine bA ?_) | (refine mQ ?_ ?_ <;> intro hb hq <;> try omega))
    repeat' (first | refine vf ?_ | refine vg ?_ | refine xz ?_ | (refine sQ ?_ ?_ <;> intro hb hq <;> try omega))
    refine rt1 ?_
    simp [hne]
  ·obtain rfl : k = a.length := by omega
   have qi : decide ((a.length : Int) < (a.length : Int)) = false := decide_eq_false zb
   have hab : a = b := fL hl hp
   repeat' (first | refine nq ?_ | (refine sQ ?_ ?_ <;> intro hb hq <;> try omega))
   refine rt1 ?_
   simp [hab]
theorem aUh (a b : List SObs) (ha : a.length ≤ 1000000) : PureC 180 [.list 2 (a.map SObs.c), .list 2 (b.map SObs.c)] (· = .bool (decide (a = b))) := by
 have hm1 : (a.map SObs.c).length = a.length := List.length_map ..
 have hm2 : (b.map SObs.c).length = b.length := List.length_map ..
 by_cases hl : a.length = b.length
 rotate_left 1
 ·have h1 : (!decide ((a.length : Int) = b.length)) = true := by
   have : ¬ (a.length : Int) = b.length := by omega
   simp [this]
  have hne : ¬ a = b := by rintro rfl; exact hl rfl
  refine aE Tryz.func180 rfl zg _ Tryz.ntmps180 (aC rfl) (fun w Pr hE => ?_)
  dsimp only [slotsOf, Nat.zero_add, Nat.reduceAdd]
  repeat' (first | refine qd ?_ | refine vf ?_ | (refine sQ ?_ ?_ <;> intro hb hq <;> try omega))
  refine rt1 ?_
  simp [hne]
 ·have h1 : (!decide ((a.length : Int) = b.length)) = false := by simp [hl]
  refine aE Tryz.func180 rfl zg _ Tryz.ntmps180 (aC rfl) (fun w Pr hE => ?_)
  dsimp only [slotsOf, Nat.zero_add, Nat.reduceAdd]
  repeat' (first | refine qd ?_ | refine vf ?_ | (refine sQ ?_ ?_ <;> intro hb hq <;> try omega))
  clear h1
  refine bB (fun N sl ob => ∃ k : Nat, N = a.length - k ∧ k ≤ a.length ∧ (∀ j, j < k → a[j]? = b[j]?) ∧ sl = [(5, .d (.int k)), (0, .d (.list 2 (a.map SObs.c))), (1, .d (.list 2 (b.map SObs.c)))] ∧ ob = []) (⟨0, rfl, Nat.zero_le _, fun j hj => by omega, rfl, rfl⟩) ?_
  rintro N sl ob ⟨k, rfl, hk, hp, rfl, rfl⟩
  by_cases hlt : k < a.length
  ·have hlt2 : k < b.length := by omega
   have hg1 : (a.map SObs.c)[k]? = some (SObs.c a[k]) := by rw [bC hlt]
   have hg2 : (b.map SObs.c)[k]? = some (SObs.c b[k]) := by rw [bC hlt2]
   have qi : decide ((k : Int) < (a.length : Int)) = true := decide_eq_true zb
   have hnx := eK hlt hlt2 hp
   have hne : ¬ a[k] = b[k] → ¬ a = b := fun h e => h (by simp [e])
   generalize a[k] = x at *
   generalize b[k] = y at *
   by_cases he : x = y
   ·have e1 : (!eqL x.c y.c) = false := by rw [aPh]; simp [he]
    repeat' (first | refine xq ?_ | (refine sQ ?_ ?_ <;> intro hb hq <;> try omega))
    refine dF [(0, true), (1, true), (2, true), (3, true), (4, true), (5, true), (6, true), (7, true), (8, true)] [] zp zp zp zg ?_
    simp only [planned, tailed, List.filterMap_cons, List.filterMap_nil, List.getElem?_cons_zero, List.getElem?_cons_succ, Option.map_some]
    repeat' (first | apply aZ | refine vt ?_ | (apply aR (.indexAddr _ _ _); refine bS zj (cT zx rfl rfl zq hg1) (aA rfl) ?_) | (apply aR (.indexAddr _ _ _); refine bS zj (cT zx rfl rfl zq hg2) (aA rfl) ?_) | (apply bG; refine bQ ?_) | (apply dW; refine fV ?_) | (apply dL; refine gC ?_) | (apply aU; refine bA ?_) | (refine mQ ?_ ?_ <;> intro hb hq <;> try omega))
    repeat' (first | refine vg ?_ | refine xo ?_ | refine xz ?_ | (refine sQ ?_ ?_ <;> intro hb hq <;> try omega))
    refine bK (⟨k + 1, rfl, by omega, hnx he, rfl, rfl⟩) zb
   ·have e1 : (!eqL x.c y.c) = true := by rw [aPh]; simp [he]
    have hne := hne he
    repeat' (first | refine xq ?_ | (refine sQ ?_ ?_ <;> intro hb hq <;> try omega))
    refine dF [(0, true), (1, true), (2, true), (3, true), (4, true), (5, true), (6, true), (7, true), (8, true)] [] zp zp zp zg ?_
    simp only [planned, tailed, List.filterMap_cons, List.filterMap_nil, List.getElem?_cons_zero, List.getElem?_cons_succ, Option.map_some]
    repeat' (first | apply aZ | refine vt ?_ | (apply aR (.indexAddr _ _ _); refine bS zj (cT zx rfl rfl zq hg1) (aA rfl) ?_) | (apply aR (.indexAddr _ _ _); refine bS zj (cT zx rfl rfl zq hg2) (aA rfl) ?_) | (apply bG; refine bQ ?_) | (apply dW; refine fV ?_) | (apply dL; refine gC ?_) | (apply aU; refine bA ?_) | (refine mQ ?_ ?_ <;> intro hb hq <;> try omega))
    repeat' (first | refine vf ?_ | refine vg ?_ | refine xz ?_ | (refine sQ ?_ ?_ <;> intro hb hq <;> try omega))
    refine rt1 ?_
    simp [hne]
  ·obtain rfl : k = a.length := by omega
   have qi : decide ((a.length : Int) < (a.length : Int)) = false := decide_eq_false zb
   have hab : a = b := fL hl hp
   repeat' (first | refine nq ?_ | (refine sQ ?_ ?_ <;> intro hb hq <;> try omega))
   refine rt1 ?_
   simp [hab]
theorem aQh (a b : List SStop) (ha : a.length ≤ 1000000) : PureC 232 [.list 2 (a.map SStop.c), .list 2 (b.map SStop.c)] (· = .bool (decide (a = b))) := by
 have hm1 : (a.map SStop.c).length = a.length := List.length_map ..
 have hm2 : (b.map SStop.c).length = b.length := List.length_map ..
 by_cases hl : a.length = b.length
 rotate_left 1
 ·have h1 : (!decide ((a.length : Int) = b.length)) = true := by
   have : ¬ (a.length : Int) = b.length := by omega
   simp [this]
  have hne : ¬ a = b := by rintro rfl; exact hl rfl
  refine aE Tryz.func232 rfl zg _ Tryz.ntmps232 (aC rfl) (fun w Pr hE => ?_)
  dsimp only [slotsOf, Nat.zero_add, Nat.reduceAdd]
  repeat' (first | refine qd ?_ | refine vf ?_ | (refine sQ ?_ ?_ <;> intro hb hq <;> try omega))
  refine rt1 ?_
  simp [hne]
 ·have h1 : (!decide ((a.length : Int) = b.length)) = false := by simp [hl]
  refine aE Tryz.func232 rfl zg _ Tryz.ntmps232 (aC rfl) (fun w Pr hE => ?_)
  dsimp only [slotsOf, Nat.zero_add, Nat.reduceAdd]
  repeat' (first | refine qd ?_ | refine vf ?_ | (refine sQ ?_ ?_ <;> intro hb hq <;> try omega))
  clear h1
  refine bB (fun N sl ob => ∃ k : Nat, N = a.length - k ∧ k ≤ a.length ∧ (∀ j, j < k → a[j]? = b[j]?) ∧ sl = [(5, .d (.int k)), (0, .d (.list 2 (a.map SStop.c))), (1, .d (.list 2 (b.map SStop.c)))] ∧ ob = []) (⟨0, rfl, Nat.zero_le _, fun j hj => by omega, rfl, rfl⟩) ?_
  rintro N sl ob ⟨k, rfl, hk, hp, rfl, rfl⟩
  by_cases hlt : k < a.length
  ·have hlt2 : k < b.length := by omega
   have hg1 : (a.map SStop.c)[k]? = some (SStop.c a[k]) := by rw [bC hlt]
   have hg2 : (b.map SStop.c)[k]? = some (SStop.c b[k]) := by rw [bC hlt2]
   have qi : decide ((k : Int) < (a.length : Int)) = true := decide_eq_true zb
   have hnx := eK hlt hlt2 hp
   have hne : ¬ a[k] = b[k] → ¬ a = b := fun h e => h (by simp [e])
   generalize a[k] = x at *
   generalize b[k] = y at *
   by_cases he : x = y
   ·have e1 : (!eqL x.c y.c) = false := by rw [aJr]; simp [he]
    repeat' (first | refine xq ?_ | (refine sQ ?_ ?_ <;> intro hb hq <;> try omega))
    refine dF [(0, true), (1, true), (2, true), (3, true), (4, true), (5, true), (6, true), (7, true), (8, true)] [] zp zp zp zg ?_
    simp only [planned, tailed, List.filterMap_cons, List.filterMap_nil, List.getElem?_cons_zero, List.getElem?_cons_succ, Option.map_some]
    repeat' (first | apply aZ | refine vt ?_ | (apply aR (.indexAddr _ _ _); refine bS zj (cT zx rfl rfl zq hg1) (aA rfl) ?_) | (apply aR (.indexAddr _ _ _); refine bS zj (cT zx rfl rfl zq hg2) (aA rfl) ?_) | (apply bG; refine bQ ?_) | (apply dW; refine fV ?_) | (apply dL; refine gC ?_) | (apply aU; refine bA ?_) | (refine mQ ?_ ?_ <;> intro hb hq <;> try omega))
    repeat' (first | refine vg ?_ | refine xo ?_ | refine xz ?_ | (refine sQ ?_ ?_ <;> intro hb hq <;> try omega))
    refine bK (⟨k + 1, rfl, by omega, hnx he, rfl, rfl⟩) zb
   ·have e1 : (!eqL x.c y.c) = true := by rw [aJr]; simp [he]
    have hne := hne he
    repeat' (first | refine xq ?_ | (refine sQ ?_ ?_ <;> intro hb hq <;> try omega))
    refine dF [(0, true), (1, true), (2, true), (3, true), (4, true), (5, true), (6, true), (7, true), (8, true)] [] zp zp zp zg ?_
    simp only [planned, tailed, List.filterMap_cons, List.filterMap_nil, List.getElem?_cons_zero, List.getElem?_cons_succ, Option.map_some]
    repeat' (first | apply aZ | refine vt ?_ | (apply aR (.indexAddr _ _ _); refine bS zj (cT zx rfl rfl zq hg1) (aA rfl) ?_) | (apply aR (.indexAddr _ _ _); refine bS zj (cT zx rfl rfl zq hg2) (aA rfl) ?_) | (apply bG; refine bQ ?_) | (apply dW; refine fV ?_) | (apply dL; refine gC ?_) | (apply aU; refine bA ?_) | (refine mQ ?_ ?_ <;> intro hb hq <;> try omega))
    repeat' (first | refine vf ?_ | refine vg ?_ | refine xz ?_ | (refine sQ ?_ ?_ <;> intro hb hq <;> try omega))
    refine rt1 ?_
    simp [hne]
  ·obtain rfl : k = a.length := by omega
   have qi : decide ((a.length : Int) < (a.length : Int)) = false := decide_eq_false zb
   have hab : a = b := fL hl hp
   repeat' (first | refine nq ?_ | (refine sQ ?_ ?_ <;> intro hb hq <;> try omega))
   refine rt1 ?_
   simp [hab]
theorem aUf (a b : List SLeg) (ha : a.length ≤ 1000000) : PureC 233 [.list 2 (a.map SLeg.c), .list 2 (b.map SLeg.c)] (· = .bool (decide (a = b))) := by
 have hm1 : (a.map SLeg.c).length = a.length := List.length_map ..
 have hm2 : (b.map SLeg.c).length = b.length := List.length_map ..
 by_cases hl : a.length = b.length
 rotate_left 1
 ·have h1 : (!decide ((a.length : Int) = b.length)) = true := by
   have : ¬ (a.length : Int) = b.length := by omega
   simp [this]
  have hne : ¬ a = b := by rintro rfl; exact hl rfl
  refine aE Tryz.func233 rfl zg _ Tryz.ntmps233 (aC rfl) (fun w Pr hE => ?_)
  dsimp only [slotsOf, Nat.zero_add, Nat.reduceAdd]
  repeat' (first | refine qd ?_ | refine vf ?_ | (refine sQ ?_ ?_ <;> intro hb hq <;> try omega))
  refine rt1 ?_
  simp [hne]
 ·have h1 : (!decide ((a.length : Int) = b.length)) = false := by simp [hl]
  refine aE Tryz.func233 rfl zg _ Tryz.ntmps233 (aC rfl) (fun w Pr hE => ?_)
  dsimp only [slotsOf, Nat.zero_add, Nat.reduceAdd]
  repeat' (first | refine qd ?_ | refine vf ?_ | (refine sQ ?_ ?_ <;> intro hb hq <;> try omega))
  clear h1
  refine bB (fun N sl ob => ∃ k : Nat, N = a.length - k ∧ k ≤ a.length ∧ (∀ j, j < k → a[j]? = b[j]?) ∧ sl = [(5, .d (.int k)), (0, .d (.list 2 (a.map SLeg.c))), (1, .d (.list 2 (b.map SLeg.c)))] ∧ ob = []) (⟨0, rfl, Nat.zero_le _, fun j hj => by omega, rfl, rfl⟩) ?_
  rintro N sl ob ⟨k, rfl, hk, hp, rfl, rfl⟩
  by_cases hlt : k < a.length
  ·have hlt2 : k < b.length := by omega
   have hg1 : (a.map SLeg.c)[k]? = some (SLeg.c a[k]) := by rw [bC hlt]
   have hg2 : (b.map SLeg.c)[k]? = some (SLeg.c b[k]) := by rw [bC hlt2]
   have qi : decide ((k : Int) < (a.length : Int)) = true := decide_eq_true zb
   have hnx := eK hlt hlt2 hp
   have hne : ¬ a[k] = b[k] → ¬ a = b := fun h e => h (by simp [e])
   generalize a[k] = x at *
   generalize b[k] = y at *
   by_cases he : x = y
   ·have e1 : (!eqL x.c y.c) = false := by rw [aOn]; simp [he]
    repeat' (first | refine xq ?_ | (refine sQ ?_ ?_ <;> intro hb hq <;> try omega))
    refine dF [(0, true), (1, true), (2, true), (3, true), (4, true), (5, true), (6, true), (7, true), (8, true)] [] zp zp zp zg ?_
    simp only [planned, tailed, List.filterMap_cons, List.filterMap_nil, List.getElem?_cons_zero, List.getElem?_cons_succ, Option.map_some]
    repeat' (first | apply aZ | refine vt ?_ | (apply aR (.indexAddr _ _ _); refine bS zj (cT zx rfl rfl zq hg1) (aA rfl) ?_) | (apply aR (.indexAddr _ _ _); refine bS zj (cT zx rfl rfl zq hg2) (aA rfl) ?_) | (apply bG; refine bQ ?_) | (apply dW; refine fV ?_) | (apply dL; refine gC ?_) | (apply aU; refine bA ?_) | (refine mQ ?_ ?_ <;> intro hb hq <;> try omega))
    repeat' (first | refine vg ?_ | refine xo ?_ | refine xz ?_ | (refine sQ ?_ ?_ <;> intro hb hq <;> try omega))
    refine bK (⟨k + 1, rfl, by omega, hnx he, rfl, rfl⟩) zb
   ·have e1 : (!eqL x.c y.c) = true := by rw [aOn]; simp [he]
    have hne := hne he
    repeat' (first | refine xq ?_ | (refine sQ ?_ ?_ <;> intro hb hq <;> try omega))
    refine dF [(0, true), (1, true), (2, true), (3, true), (4, true), (5, true), (6, true), (7, true), (8, true)] [] zp zp zp zg ?_
    simp only [planned, tailed, List.filterMap_cons, List.filterMap_nil, List.getElem?_cons_zero, List.getElem?_cons_succ, Option.map_some]
    repeat' (first | apply aZ | refine vt ?_ | (apply aR (.indexAddr _ _ _); refine bS zj (cT zx rfl rfl zq hg1) (aA rfl) ?_) | (apply aR (.indexAddr _ _ _); refine bS zj (cT zx rfl rfl zq hg2) (aA rfl) ?_) | (apply bG; refine bQ ?_) | (apply dW; refine fV ?_) | (apply dL; refine gC ?_) | (apply aU; refine bA ?_) | (refine mQ ?_ ?_ <;> intro hb hq <;> try omega))
    repeat' (first | refine vf ?_ | refine vg ?_ | refine xz ?_ | (refine sQ ?_ ?_ <;> intro hb hq <;> try omega))
    refine rt1 ?_
    simp [hne]
  ·obtain rfl : k = a.length := by omega
   have qi : decide ((a.length : Int) < (a.length : Int)) = false := decide_eq_false zb
   have hab : a = b := fL hl hp
   repeat' (first | refine nq ?_ | (refine sQ ?_ ?_ <;> intro hb hq <;> try omega))
   refine rt1 ?_
   simp [hab]
theorem aUg (a b : List Int) (ha : a.length ≤ 1000000) : PureC 234 [.list 1 (a.map (fun n : Int => [D.int n])), .list 1 (b.map (fun n : Int => [D.int n]))] (· = .bool (decide (a = b))) := by
 have hm1 : (a.map (fun n : Int => [D.int n])).length = a.length := List.length_map ..
 have hm2 : (b.map (fun n : Int => [D.int n])).length = b.length := List.length_map ..
 by_cases hl : a.length = b.length
 rotate_left 1
 ·have h1 : (!decide ((a.length : Int) = b.length)) = true := by
   have : ¬ (a.length : Int) = b.length := by omega
   simp [this]
  have hne : ¬ a = b := by rintro rfl; exact hl rfl
  refine aE Tryz.func234 rfl zg _ Tryz.ntmps234 (aC rfl) (fun w Pr hE => ?_)
  dsimp only [slotsOf, Nat.zero_add, Nat.reduceAdd]
  repeat' (first | refine qd ?_ | refine vf ?_ | (refine sQ ?_ ?_ <;> intro hb hq <;> try omega))
  refine rt1 ?_
  simp [hne]
 ·have h1 : (!decide ((a.length : Int) = b.length)) = false := by simp [hl]
  refine aE Tryz.func234 rfl zg _ Tryz.ntmps234 (aC rfl) (fun w Pr hE => ?_)
  dsimp only [slotsOf, Nat.zero_add, Nat.reduceAdd]
  repeat' (first | refine qd ?_ | refine vf ?_ | (refine sQ ?_ ?_ <;> intro hb hq <;> try omega))
  clear h1
  refine bB (fun N sl ob => ∃ k : Nat, N = a.length - k ∧ k ≤ a.length ∧ (∀ j, j < k → a[j]? = b[j]?) ∧ sl = [(5, .d (.int k)), (0, .d (.list 1 (a.map (fun n : Int => [D.int n])))), (1, .d (.list 1 (b.map (fun n : Int => [D.int n]))))] ∧ ob = []) (⟨0, rfl, Nat.zero_le _, fun j hj => by omega, rfl, rfl⟩) ?_
  rintro N sl ob ⟨k, rfl, hk, hp, rfl, rfl⟩
  by_cases hlt : k < a.length
  ·have hlt2 : k < b.length := by omega
   have hg1 : (a.map (fun n : Int => [D.int n]))[k]? = some ((fun n : Int => [D.int n]) a[k]) := by rw [bC hlt]
   have hg2 : (b.map (fun n : Int => [D.int n]))[k]? = some ((fun n : Int => [D.int n]) b[k]) := by rw [bC hlt2]
   have qi : decide ((k : Int) < (a.length : Int)) = true := decide_eq_true zb
   have hnx := eK hlt hlt2 hp
   have hne : ¬ a[k] = b[k] → ¬ a = b := fun h e => h (by simp [e])
   generalize a[k] = x at *
   generalize b[k] = y at *
   by_cases he : x = y
   ·have e1 : (!decide (x = y)) = false := by simp [he]
    repeat' (first | refine xq ?_ | (refine sQ ?_ ?_ <;> intro hb hq <;> try omega))
    refine dF [(0, true), (1, true), (2, true), (3, true), (4, true), (5, true), (6, true), (7, true), (8, true)] [] zp zp zp zg ?_
    simp only [planned, tailed, List.filterMap_cons, List.filterMap_nil, List.getElem?_cons_zero, List.getElem?_cons_succ, Option.map_some]
    repeat' (first | apply aZ | refine vt ?_ | (apply aR (.indexAddr _ _ _); refine bS zj (cT zx rfl rfl zq hg1) (aA rfl) ?_) | (apply aR (.indexAddr _ _ _); refine bS zj (cT zx rfl rfl zq hg2) (aA rfl) ?_) | (apply bG; refine bQ ?_) | (apply dW; refine fV ?_) | (apply dL; refine gC ?_) | (apply aU; refine bA ?_) | (refine mQ ?_ ?_ <;> intro hb hq <;> try omega))
    repeat' (first | refine vg ?_ | refine xo ?_ | refine xz ?_ | (refine sQ ?_ ?_ <;> intro hb hq <;> try omega))
    refine bK (⟨k + 1, rfl, by omega, hnx he, rfl, rfl⟩) zb
   ·have e1 : (!decide (x = y)) = true := by simp [he]
    have hne := hne he
    repeat' (first | refine xq ?_ | (refine sQ ?_ ?_ <;> intro hb hq <;> try omega))
    refine dF [(0, true), (1, true), (2, true), (3, true), (4, true), (5, true), (6, true), (7, true), (8, true)] [] zp zp zp zg ?_
    simp only [planned, tailed, List.filterMap_cons, List.filterMap_nil, List.getElem?_cons_zero, List.getElem?_cons_succ, Option.map_some]
    repeat' (first | apply aZ | refine vt ?_ | (apply aR (.indexAddr _ _ _); refine bS zj (cT zx rfl rfl zq hg1) (aA rfl) ?_) | (apply aR (.indexAddr _ _ _); refine bS zj (cT zx rfl rfl zq hg2) (aA rfl) ?_) | (apply bG; refine bQ ?_) | (apply dW; refine fV ?_) | (apply dL; refine gC ?_) | (apply aU; refine bA ?_) | (refine mQ ?_ ?_ <;> intro hb hq <;> try omega))
    repeat' (first | refine vf ?_ | refine vg ?_ | refine xz ?_ | (refine sQ ?_ ?_ <;> intro hb hq <;> try omega))
    refine rt1 ?_
    simp [hne]
  ·obtain rfl : k = a.length := by omega
   have qi : decide ((a.length : Int) < (a.length : Int)) = false := decide_eq_false zb
   have hab : a = b := fL hl hp
   repeat' (first | refine nq ?_ | (refine sQ ?_ ?_ <;> intro hb hq <;> try omega))
   refine rt1 ?_
   simp [hab]
end
section
open Go.RowKit
abbrev exDx : List D := [.int 7, .list 4 [], .list 1 [], .list 9 [], .list 4 [], intsL [], intsL [], .list 15 [], intsL [5, -2], .int 0, .int 0, .int 1, .int 1, .int 1, .int 0, intsL [3, -3], .list 2 [], .list 4 []]
abbrev exBx : O := .box 33 (exDx.map V.d)
theorem aJo : PureC 17 [.agg exDx, .agg exDx] (· = .bool true) := by
 have c1 := aNr
 have c2 := aKq
 have c3 := aNs
 have c4 := aKr
 have d1 := aBl [] [] zg
 have d3 := aSq
 have d4 := aSr
 have d5 := aSs
 have d6 := aBl [5, -2] [5, -2] zg
 have d7 := aBl [3, -3] [3, -3] zg
 have ep := aCb ⟨0, 0, 1, 1, 1, 0⟩ ⟨0, 0, 1, 1, 1, 0⟩
 rw [decide_eq_true rfl] at d1 d6 d7 ep
 have q0 : decide ((7 : Int) = 7) = true := rfl
 refine aE Tryz.func17 rfl zg _ Tryz.ntmps17 (aC rfl) (fun w Pr hE => ?_)
 dsimp only [slotsOf, Nat.zero_add, Nat.reduceAdd]
 repeat' (first | (apply aB (.makeFunc _ _ _); refine aK (eC rfl) (aA rfl) ?_) | (apply aB (.store _ _ (.func _)); refine aD (aN (n := [nfun 129]) rfl rfl rfl nofun rfl (by intro z hz; rw [List.mem_singleton.1 hz]; rfl) (.inl ⟨rfl, rfl⟩) rfl (aC rfl) rfl) rfl ?_) | refine kQ (c1) hE ?_ | refine kQ (c2) hE ?_ | refine oQ [(1002, 7)] (c3) hE ?_ | refine vq ?_ | refine vy ?_ | refine xk ?_ | (apply gO; refine jB ?_))
 clear c1 c2 c3
 repeat' (first | refine kQ (c4) hE ?_ | refine kQ (d1) hE ?_ | refine kQ (d3) hE ?_ | refine kQ (d4) hE ?_ | refine kQ (d5) hE ?_ | refine nk ?_ | refine qo ?_ | (refine wQ ?_ ?_ <;> intro hb hq <;> try omega))
 repeat' (first | (apply aB (.binOp .eql _ _ _ _); refine aK (aRr rfl rfl za za zp ep) (aA rfl) ?_) | (apply aF; refine bP (d6) hE ?_; rintro _ rfl; clear d6) | refine kQ (d7) hE ?_ | refine nk ?_ | refine vj ?_ | refine vr ?_ | (refine wQ ?_ ?_ <;> intro hb hq <;> try omega))
 refine rt1 ?_
 rfl
theorem aLv : PureC 56 [.agg exDx, .agg exDx] (· = .bool true) := by
 have c1 := jX [] [] zg
 rw [decide_eq_true rfl] at c1
 have h1 : (!decide ((0 : Int) = 0)) = false := rfl
 have qi : decide ((0 : Int) < (0 : Int)) = false := rfl
 refine aE Tryz.func56 rfl zg _ Tryz.ntmps56 (aC rfl) (fun w Pr hE => ?_)
 dsimp only [slotsOf, Nat.zero_add, Nat.reduceAdd]
 repeat' (first | refine kQ (c1) hE ?_ | refine vk ?_ | refine xc ?_ | refine xp ?_ | (refine sQ ?_ ?_ <;> intro hb hq <;> try omega) | (refine wQ ?_ ?_ <;> intro hb hq <;> try omega))
 refine bB (fun N sl ob => N = 0 ∧ sl = [(5, .d (.int 0)), (3, .box 3 0), (2, .box 2 0)] ∧ ob = [(3, exBx), (2, exBx)]) (⟨rfl, rfl, rfl⟩) ?_
 rintro N sl ob ⟨rfl, rfl, rfl⟩
 repeat' (first | refine nq ?_ | refine vq ?_ | (refine sQ ?_ ?_ <;> intro hb hq <;> try omega))
 refine bB (fun N sl ob => N = 0 ∧ sl = [(8, .d (.int 0)), (3, .box 3 0), (2, .box 2 0)] ∧ ob = [(3, exBx), (2, exBx)]) (⟨rfl, rfl, rfl⟩) ?_
 rintro N sl ob ⟨rfl, rfl, rfl⟩
 repeat' (first | refine nq ?_ | refine vq ?_ | (refine sQ ?_ ?_ <;> intro hb hq <;> try omega))
 refine bB (fun N sl ob => N = 0 ∧ sl = [(9, .d (.int 0)), (3, .box 3 0), (2, .box 2 0)] ∧ ob = [(3, exBx), (2, exBx)]) (⟨rfl, rfl, rfl⟩) ?_
 rintro N sl ob ⟨rfl, rfl, rfl⟩
 repeat' (first | refine nq ?_ | refine vq ?_ | (refine sQ ?_ ?_ <;> intro hb hq <;> try omega))
 refine bB (fun N sl ob => N = 0 ∧ sl = [(10, .d (.int 0)), (3, .box 3 0), (2, .box 2 0)] ∧ ob = [(3, exBx), (2, exBx)]) (⟨rfl, rfl, rfl⟩) ?_
 rintro N sl ob ⟨rfl, rfl, rfl⟩
 repeat' (first | refine nq ?_ | refine vq ?_ | (refine sQ ?_ ?_ <;> intro hb hq <;> try omega))
 refine bB (fun N sl ob => N = 0 ∧ sl = [(11, .d (.int 0)), (3, .box 3 0), (2, .box 2 0)] ∧ ob = [(3, exBx), (2, exBx)]) (⟨rfl, rfl, rfl⟩) ?_
 rintro N sl ob ⟨rfl, rfl, rfl⟩
 repeat' (first | refine nq ?_ | refine vq ?_ | (refine sQ ?_ ?_ <;> intro hb hq <;> try omega))
 refine rt1 ?_
 rfl
theorem aQg : PureC 12 [.agg exDx, .agg exDx] (· = .bool true) := by
 have cw := aLv
 have c1 := jX [5, -2] [5, -2] zg
 have c2 := jX [3, -3] [3, -3] zg
 have ep : (!eqL (SPool.c ⟨0, 0, 1, 1, 1, 0⟩) (SPool.c ⟨0, 0, 1, 1, 1, 0⟩)) = false := by rw [aCb]; rfl
 rw [decide_eq_true rfl] at c1 c2
 have h1 : (!decide ((0 : Int) = 0)) = false := rfl
 have h7 : (!decide ((7 : Int) = 7)) = false := rfl
 have qi : decide ((0 : Int) < (0 : Int)) = false := rfl
 refine aE Tryz.func12 rfl zg _ Tryz.ntmps12 (aC rfl) (fun w Pr hE => ?_)
 dsimp only [slotsOf, Nat.zero_add, Nat.reduceAdd]
 repeat' (first | (apply aB (.binOp .neq 29 _ _ _); refine aK (mF rfl rfl za za zp ep) (aA rfl) ?_) | refine kQ (cw) hE ?_ | (apply aF; refine bP (c1) hE ?_; rintro _ rfl; clear c1) | refine kQ (c2) hE ?_ | refine vk ?_ | refine xc ?_ | refine xp ?_ | (refine sQ ?_ ?_ <;> intro hb hq <;> try omega) | (refine wQ ?_ ?_ <;> intro hb hq <;> try omega))
 clear cw c2 ep
 refine bB (fun N sl ob => N = 0 ∧ sl = [(5, .d (.int 0)), (3, .box 3 0), (2, .box 2 0)] ∧ ob = [(3, exBx), (2, exBx)]) (⟨rfl, rfl, rfl⟩) ?_
 rintro N sl ob ⟨rfl, rfl, rfl⟩
 repeat' (first | refine nq ?_ | refine vq ?_ | (refine sQ ?_ ?_ <;> intro hb hq <;> try omega))
 refine bB (fun N sl ob => N = 0 ∧ sl = [(6, .d (.int 0)), (3, .box 3 0), (2, .box 2 0)] ∧ ob = [(3, exBx), (2, exBx)]) (⟨rfl, rfl, rfl⟩) ?_
 rintro N sl ob ⟨rfl, rfl, rfl⟩
 repeat' (first | refine nq ?_ | refine vq ?_ | (refine sQ ?_ ?_ <;> intro hb hq <;> try omega))
 refine rt1 ?_
 rfl
end
section
open Go.RowKit
theorem aKk (l : List SArc) (hl : l.length ≤ 1000000) : ObC 139 [.d (.list 4 (l.map SArc.c))] [] [5] (fun x o => x = .row 5 1 ∧ o = [(5, .vec 46 4 1 (l.map SArc.c))]) := by
 refine aI Tryz.func139 rfl zg _ Tryz.ntmps139 (aC rfl) rfl (fun w Pr β κ hE => ?_)
 dsimp only [slotsV, Nat.zero_add, Nat.reduceAdd]
 repeat' (first | (apply aB (.binOp .eql _ _ _ _); refine kS zx Tryz.underlying22 (aA rfl) (fun b hb0 => ?_)) | (apply aB (.buildSlice _ _ _); refine aD (eA rfl (aA rfl) rfl) rfl ?_; refine iR 5 rfl ?_) | (apply aB (.call { callee := .builtin .append, args := _, argTypes := _ }); refine aD (gA rfl rfl zx rfl rfl (gK l aIz) zg zf zf (aA rfl)) rfl ?_) | refine vj ?_ | refine vr ?_ | refine xy ?_ | refine cQ ?_ | (refine sQ ?_ ?_ <;> intro hb hq <;> try omega))
 ·have he : l.map SArc.c = [] := hb0 jw
  rw [he]
  refine rK 2 5 46 4 rfl rfl (aA rfl) ?_
  refine rM 5 rfl ?_
  refine vH 5 2 rfl rfl ?_
  refine aP ([(5, .vec 46 4 1 [])]) (by rfl) rv (⟨rfl, rfl⟩) sb okx
 ·skip
  refine aP ([(5, .vec 46 4 1 (l.map SArc.c))]) (by rfl) rv (⟨rfl, rfl⟩) sb okx
theorem aGo (l : List (List SObs)) (hl : l.length ≤ 1000000) : ObC 146 [.d (.list 1 (l.map seenC))] [] [5] (fun x o => x = .row 5 1 ∧ o = [(5, .vec 60 1 1 (l.map seenC))]) := by
 refine aI Tryz.func146 rfl zg _ Tryz.ntmps146 (aC rfl) rfl (fun w Pr β κ hE => ?_)
 dsimp only [slotsV, Nat.zero_add, Nat.reduceAdd]
 repeat' (first | (apply aB (.binOp .eql _ _ _ _); refine kS zx Tryz.underlying23 (aA rfl) (fun b hb0 => ?_)) | (apply aB (.buildSlice _ _ _); refine aD (eA rfl (aA rfl) rfl) rfl ?_; refine iR 5 rfl ?_) | (apply aB (.call { callee := .builtin .append, args := _, argTypes := _ }); refine aD (gA rfl rfl zx rfl rfl (gK l aFc) zg zf zf (aA rfl)) rfl ?_) | refine vj ?_ | refine vr ?_ | refine xy ?_ | refine cQ ?_ | (refine sQ ?_ ?_ <;> intro hb hq <;> try omega))
 ·have he : l.map seenC = [] := hb0 jw
  rw [he]
  refine rK 2 5 60 1 rfl rfl (aA rfl) ?_
  refine rM 5 rfl ?_
  refine vH 5 2 rfl rfl ?_
  refine aP ([(5, .vec 60 1 1 [])]) (by rfl) rv (⟨rfl, rfl⟩) sb okx
 ·skip
  refine aP ([(5, .vec 60 1 1 (l.map seenC))]) (by rfl) rv (⟨rfl, rfl⟩) sb okx
theorem aGn (l : List SPlan) (hl : l.length ≤ 1000000) : ObC 141 [.d (.list 4 (l.map SPlan.c))] [] [5] (fun x o => x = .row 5 1 ∧ o = [(5, .vec 66 4 1 (l.map SPlan.c))]) := by
 refine aI Tryz.func141 rfl zg _ Tryz.ntmps141 (aC rfl) rfl (fun w Pr β κ hE => ?_)
 dsimp only [slotsV, Nat.zero_add, Nat.reduceAdd]
 repeat' (first | (apply aB (.binOp .eql _ _ _ _); refine kS zx Tryz.underlying25 (aA rfl) (fun b hb0 => ?_)) | (apply aB (.buildSlice _ _ _); refine aD (eA rfl (aA rfl) rfl) rfl ?_; refine iR 5 rfl ?_) | (apply aB (.call { callee := .builtin .append, args := _, argTypes := _ }); refine aD (gA rfl rfl zx rfl rfl (gK l aFb) zg zf zf (aA rfl)) rfl ?_) | refine vj ?_ | refine vr ?_ | refine xy ?_ | refine cQ ?_ | (refine sQ ?_ ?_ <;> intro hb hq <;> try omega))
 ·have he : l.map SPlan.c = [] := hb0 jw
  rw [he]
  refine rK 2 5 66 4 rfl rfl (aA rfl) ?_
  refine rM 5 rfl ?_
  refine vH 5 2 rfl rfl ?_
  refine aP ([(5, .vec 66 4 1 [])]) (by rfl) rv (⟨rfl, rfl⟩) sb okx
 ·skip
  refine aP ([(5, .vec 66 4 1 (l.map SPlan.c))]) (by rfl) rv (⟨rfl, rfl⟩) sb okx
theorem aKl (l : List SBal) (hl : l.length ≤ 1000000) : ObC 145 [.d (.list 4 (l.map SBal.c))] [] [5] (fun x o => x = .row 5 1 ∧ o = [(5, .vec 75 4 1 (l.map SBal.c))]) := by
 refine aI Tryz.func145 rfl zg _ Tryz.ntmps145 (aC rfl) rfl (fun w Pr β κ hE => ?_)
 dsimp only [slotsV, Nat.zero_add, Nat.reduceAdd]
 repeat' (first | (apply aB (.binOp .eql _ _ _ _); refine kS zx Tryz.underlying31 (aA rfl) (fun b hb0 => ?_)) | (apply aB (.buildSlice _ _ _); refine aD (eA rfl (aA rfl) rfl) rfl ?_; refine iR 5 rfl ?_) | (apply aB (.call { callee := .builtin .append, args := _, argTypes := _ }); refine aD (gA rfl rfl zx rfl rfl (gK l aJa) zg zf zf (aA rfl)) rfl ?_) | refine vj ?_ | refine vr ?_ | refine xy ?_ | refine cQ ?_ | (refine sQ ?_ ?_ <;> intro hb hq <;> try omega))
 ·have he : l.map SBal.c = [] := hb0 jw
  rw [he]
  refine rK 2 5 75 4 rfl rfl (aA rfl) ?_
  refine rM 5 rfl ?_
  refine vH 5 2 rfl rfl ?_
  refine aP ([(5, .vec 75 4 1 [])]) (by rfl) rv (⟨rfl, rfl⟩) sb okx
 ·skip
  refine aP ([(5, .vec 75 4 1 (l.map SBal.c))]) (by rfl) rv (⟨rfl, rfl⟩) sb okx
theorem aKm (l : List SCar) (hl : l.length ≤ 1000000) : PureC 140 [.list 9 (l.map SCar.c)] (· = .list 9 (l.map SCar.c)) := by
 refine aE Tryz.func140 rfl zg _ Tryz.ntmps140 (aC rfl) (fun w Pr hE => ?_)
 dsimp only [slotsOf, Nat.zero_add, Nat.reduceAdd]
 repeat' (first | (apply aB (.binOp .eql _ _ _ _); refine kS zx Tryz.underlying24 (aA rfl) (fun b hb0 => ?_)) | (apply aB (.buildSlice _ _ _); refine aD (eA rfl (aA rfl) rfl) rfl ?_) | (apply aB (.call { callee := .builtin .append, args := _, argTypes := _ }); refine aD (cY rfl rfl zx rfl rfl (gK l aJb) zg zf zf (aA rfl)) rfl ?_) | refine vj ?_ | refine vr ?_ | refine xy ?_ | refine cQ ?_ | (refine sQ ?_ ?_ <;> intro hb hq <;> try omega))
 ·refine gG (by rfl) (ToD.nil 9) ?_
  rw [show l.map SCar.c = [] from hb0 jw]
 ·skip
  refine rt1 ?_
  rfl
theorem aKn (l : List SProm) (hl : l.length ≤ 1000000) : PureC 142 [.list 15 (l.map SProm.c)] (· = .list 15 (l.map SProm.c)) := by
 refine aE Tryz.func142 rfl zg _ Tryz.ntmps142 (aC rfl) (fun w Pr hE => ?_)
 dsimp only [slotsOf, Nat.zero_add, Nat.reduceAdd]
 repeat' (first | (apply aB (.binOp .eql _ _ _ _); refine kS zx Tryz.underlying27 (aA rfl) (fun b hb0 => ?_)) | (apply aB (.buildSlice _ _ _); refine aD (eA rfl (aA rfl) rfl) rfl ?_) | (apply aB (.call { callee := .builtin .append, args := _, argTypes := _ }); refine aD (cY rfl rfl zx rfl rfl (gK l aJc) zg zf zf (aA rfl)) rfl ?_) | refine vj ?_ | refine vr ?_ | refine xy ?_ | refine cQ ?_ | (refine sQ ?_ ?_ <;> intro hb hq <;> try omega))
 ·refine gG (by rfl) (ToD.nil 15) ?_
  rw [show l.map SProm.c = [] from hb0 jw]
 ·skip
  refine rt1 ?_
  rfl
theorem aKo (l : List SVer) (hl : l.length ≤ 1000000) : PureC 144 [.list 2 (l.map SVer.c)] (· = .list 2 (l.map SVer.c)) := by
 refine aE Tryz.func144 rfl zg _ Tryz.ntmps144 (aC rfl) (fun w Pr hE => ?_)
 dsimp only [slotsOf, Nat.zero_add, Nat.reduceAdd]
 repeat' (first | (apply aB (.binOp .eql _ _ _ _); refine kS zx Tryz.underlying30 (aA rfl) (fun b hb0 => ?_)) | (apply aB (.buildSlice _ _ _); refine aD (eA rfl (aA rfl) rfl) rfl ?_) | (apply aB (.call { callee := .builtin .append, args := _, argTypes := _ }); refine aD (cY rfl rfl zx rfl rfl (gK l aJd) zg zf zf (aA rfl)) rfl ?_) | refine vj ?_ | refine vr ?_ | refine xy ?_ | refine cQ ?_ | (refine sQ ?_ ?_ <;> intro hb hq <;> try omega))
 ·refine gG (by rfl) (ToD.nil 2) ?_
  rw [show l.map SVer.c = [] from hb0 jw]
 ·skip
  refine rt1 ?_
  rfl
theorem kC (l : List Int) (hl : l.length ≤ 1000000) : PureC 143 [.list 1 (l.map (fun n : Int => [D.int n]))] (· = .list 1 (l.map (fun n : Int => [D.int n]))) := by
 refine aE Tryz.func143 rfl zg _ Tryz.ntmps143 (aC rfl) (fun w Pr hE => ?_)
 dsimp only [slotsOf, Nat.zero_add, Nat.reduceAdd]
 repeat' (first | (apply aB (.binOp .eql _ _ _ _); refine kS zx Tryz.underlying26 (aA rfl) (fun b hb0 => ?_)) | (apply aB (.buildSlice _ _ _); refine aD (eA rfl (aA rfl) rfl) rfl ?_) | (apply aB (.call { callee := .builtin .append, args := _, argTypes := _ }); refine aD (cY rfl rfl zx rfl rfl (uM l) zg zf zf (aA rfl)) rfl ?_) | refine vj ?_ | refine vr ?_ | refine xy ?_ | refine cQ ?_ | (refine sQ ?_ ?_ <;> intro hb hq <;> try omega))
 ·refine gG (by rfl) (ToD.nil 1) ?_
  rw [show l.map (fun n : Int => [D.int n]) = [] from hb0 jw]
 ·skip
  refine rt1 ?_
  rfl
end
section
open Go.RowKit
abbrev cz0 (s : SSt) : O := stB s (.d (arcsD s)) (.d (seensD s)) (.d (carsD s)) (.d (plansD s)) (.d (intsL s.dn)) (.d (intsL s.at_)) (.d (prmsD s)) (.d (intsL s.pu)) (.d (intsL s.fv)) (.d (versD s)) (.d (balsD s))
abbrev czA (s : SSt) : O := stB s (.row 13 1) (.d (seensD s)) (.d (carsD s)) (.row 19 1) (.d (intsL s.dn)) (.d (intsL s.at_)) (.d (prmsD s)) (.d (intsL s.pu)) (.d (intsL s.fv)) (.d (versD s)) (.d (balsD s))
abbrev czB (s : SSt) : O := stB s (.row 13 1) (.d (seensD s)) (.d (carsD s)) (.row 19 1) (.d (intsL s.dn)) (.d (intsL s.at_)) (.d (prmsD s)) (.d (intsL s.pu)) (.d (intsL s.fv)) (.d (versD s)) (.row 38 1)
abbrev czC (s : SSt) : O := stB s (.row 13 1) (.row 51 1) (.d (carsD s)) (.row 19 1) (.d (intsL s.dn)) (.d (intsL s.at_)) (.d (prmsD s)) (.d (intsL s.pu)) (.d (intsL s.fv)) (.d (versD s)) (.row 38 1)
abbrev czD (s : SSt) : O := stB s (.d (arcsD s)) (.d (seensD s)) (.d (carsD s)) (.d (plansD s)) (.d (intsL s.dn)) (.d (intsL s.at_)) (.d (prmsD s)) (.d (intsL s.pu)) (.d (intsL s.fv)) (.d (versD s)) (.row 38 1)
theorem zO (s : SSt) (ho : s.ok) (hb : s.bare) : PureC 18 [.agg s.c] (· = .agg s.c) := by
 obtain ⟨hb1, hb2, hb3, hb4, hb5, hb6, hb7⟩ := hb
 have z1 : s.se.length = 0 := by rw [hb2]; rfl
 have z2 : s.ar.length = 0 := by rw [hb1]; rfl
 have z3 : s.pl.length = 0 := by rw [hb4]; rfl
 have z4 : s.bl.length = 0 := by rw [hb7]; rfl
 have k1 := ho.ar
 have k2 := ho.se
 have k3 := ho.cs
 have k4 := ho.pl
 have k5 := ho.dn
 have k6 := ho.at_
 have k7 := ho.pm
 have k8 := ho.pu
 have k9 := ho.fv
 have k10 := ho.ve
 have k11 := ho.bl
 have c1 := aKk s.ar k1
 have c2 := aKm s.cs k3
 have c3 := aGn s.pl k4
 have c4 := aKn s.pm k7
 have c5 := kC s.pu k8
 have c6 := kC s.fv k9
 have c7 := aKo s.ve k10
 have c8 := aKl s.bl k11
 have c9 := kC s.dn k5
 have c10 := kC s.at_ k6
 have c11 := aGo s.se k2
 refine aE Tryz.func18 rfl zg _ Tryz.ntmps18 (aC rfl) (fun w Pr hE => ?_)
 dsimp only [slotsOf, Nat.zero_add, Nat.reduceAdd]
 repeat' (first | refine vv ?_ | refine vx ?_ | (refine sQ ?_ ?_ <;> intro hb hq <;> try omega) | (apply gX; refine iX ?_))
 refine aBh ([(2, stZ), (1, cz0 s)]) [(0, true), (1, true), (3, true), (4, true), (6, true), (7, true), (9, true), (10, true), (2, false), (12, true), (5, false), (8, false), (11, false)] [13, 14, 15, 16, 17, 18, 19] zp zp zp zg zw ?_
 simp only [planned, tailed, List.filterMap_cons, List.filterMap_nil, List.getElem?_cons_zero, List.getElem?_cons_succ, Option.map_some]
 repeat' (first | apply aZ | refine vt ?_ | (apply aM; refine sD [(5, 13)] (c1) hE ?_; rintro _ _ ⟨rfl, rfl⟩ <;> (intro _ _ h1 h2; simp only [aO, Nat.reduceBEq, aG, aL, aH] at h1 h2; subst h1 h2)) | (apply aM; refine sD [(5, 19)] (c3) hE ?_; rintro _ _ ⟨rfl, rfl⟩ <;> (intro _ _ h1 h2; simp only [aO, Nat.reduceBEq, aG, aL, aH] at h1 h2; subst h1 h2)) | (apply aM; refine bI (c2) hE ?_; rintro _ rfl; (try dsimp only [flat, D.plain, D.plainL])) | (apply aM; refine bI (c4) hE ?_; rintro _ rfl; (try dsimp only [flat, D.plain, D.plainL])) | (apply aU; refine bA ?_) | (apply aV; refine bE ?_) | (refine mQ ?_ ?_ <;> intro hb hq <;> try omega))
 repeat' (first | (apply aB (.store _ _ _); refine aD (aN rfl rfl (dM rfl) nofun zk zo (.inl ⟨rfl, rfl⟩) rfl (aC rfl) zk) rfl ?_) | refine xd ?_ | refine xz ?_ | (refine sQ ?_ ?_ <;> intro hb hq <;> try omega))
 refine aBh ([(2, stZ), (1, czA s)]) [(0, true), (1, true), (3, true), (4, true), (6, true), (7, true), (9, true), (10, true), (2, false), (12, true), (5, false), (8, false), (11, false)] [13, 14, 15, 16, 17, 18, 19] zp zp zp zg zw ?_
 simp only [planned, tailed, List.filterMap_cons, List.filterMap_nil, List.getElem?_cons_zero, List.getElem?_cons_succ, Option.map_some]
 repeat' (first | apply aZ | refine vt ?_ | (apply aM; refine sD [(5, 38)] (c8) hE ?_; rintro _ _ ⟨rfl, rfl⟩ <;> (intro _ _ h1 h2; simp only [aO, Nat.reduceBEq, aG, aL, aH] at h1 h2; subst h1 h2)) | (apply aM; refine bI ((kC _ ?_)) hE ?_; (all_goals (try first | omega | assumption)); rintro _ rfl; (try dsimp only [flat, D.plain, D.plainL])) | (apply aM; refine bI (c7) hE ?_; rintro _ rfl; (try dsimp only [flat, D.plain, D.plainL])) | (apply aU; refine bA ?_) | (apply aV; refine bE ?_) | (refine mQ ?_ ?_ <;> intro hb hq <;> try omega))
 repeat' (first | (apply aB (.store _ _ _); refine aD (aN rfl rfl (dM rfl) nofun zk zo (.inl ⟨rfl, rfl⟩) rfl (aC rfl) zk) rfl ?_) | refine xd ?_ | refine xz ?_ | (refine sQ ?_ ?_ <;> intro hb hq <;> try omega))
 refine aBh ([(2, stZ), (1, czB s)]) [(0, true), (1, true), (3, true), (4, true), (6, true), (7, true), (2, false), (9, true), (5, false), (8, false)] [10, 11, 12, 13, 14] zp zp zp zg zw ?_
 simp only [planned, tailed, List.filterMap_cons, List.filterMap_nil, List.getElem?_cons_zero, List.getElem?_cons_succ, Option.map_some]
 repeat' (first | apply aZ | refine vt ?_ | (apply aM; refine sD [(5, 51)] (c11) hE ?_; rintro _ _ ⟨rfl, rfl⟩ <;> (intro _ _ h1 h2; simp only [aO, Nat.reduceBEq, aG, aL, aH] at h1 h2; subst h1 h2)) | (apply aM; refine bI ((kC _ ?_)) hE ?_; (all_goals (try first | omega | assumption)); rintro _ rfl; (try dsimp only [flat, D.plain, D.plainL])) | (apply aU; refine bA ?_) | (apply aV; refine bE ?_) | (refine mQ ?_ ?_ <;> intro hb hq <;> try omega))
 repeat' (first | (apply aB (.store _ _ _); refine aD (aN rfl rfl (dM rfl) nofun zk zo (.inl ⟨rfl, rfl⟩) rfl (aC rfl) zk) rfl ?_) | (apply aB (.call { callee := .builtin .len, args := _, argTypes := _ }); refine aK (gY rfl rfl rfl ⟨_, _, _, _, rfl⟩ jg) (aA rfl) ?_) | refine vh ?_ | refine vk ?_ | refine xd ?_ | (refine sQ ?_ ?_ <;> intro hb hq <;> try omega))
 have qse : decide ((0 : Int) < (s.se.length : Int)) = false := decide_eq_false zb
 refine bB (fun N sl ob => N = 0 ∧ sl = [(58, .d (.int 0)), (57, .d (.int s.se.length)), (2, .box 2 0), (1, .box 1 0)] ∧ ob = [(51, seeO s), (38, balO s), (19, plaO s), (13, arcO s), (2, stZ), (1, czC s)]) (⟨rfl, rfl, rfl⟩) ?_
 rintro N sl ob ⟨rfl, rfl, rfl⟩
 repeat' (first | (apply aB (.call { callee := .builtin .len, args := _, argTypes := _ }); refine aK (gY rfl rfl rfl ⟨_, _, _, _, rfl⟩ jg) (aA rfl) ?_) | refine vq ?_ | refine xq ?_ | (refine sQ ?_ ?_ <;> intro hb hq <;> try omega))
 have qar : decide ((0 : Int) < (s.ar.length : Int)) = false := decide_eq_false zb
 refine bB (fun N sl ob => N = 0 ∧ sl = [(75, .d (.int 0)), (74, .d (.int s.ar.length)), (2, .box 2 0), (1, .box 1 0)] ∧ ob = [(51, seeO s), (38, balO s), (19, plaO s), (13, arcO s), (2, stZ), (1, czC s)]) (⟨rfl, rfl, rfl⟩) ?_
 rintro N sl ob ⟨rfl, rfl, rfl⟩
 repeat' (first | (apply aB (.call { callee := .builtin .len, args := _, argTypes := _ }); refine aK (gY rfl rfl rfl ⟨_, _, _, _, rfl⟩ jg) (aA rfl) ?_) | refine vq ?_ | refine xq ?_ | (refine sQ ?_ ?_ <;> intro hb hq <;> try omega))
 have qpl : decide ((0 : Int) < (s.pl.length : Int)) = false := decide_eq_false zb
 refine bB (fun N sl ob => N = 0 ∧ sl = [(102, .d (.int 0)), (101, .d (.int s.pl.length)), (2, .box 2 0), (1, .box 1 0)] ∧ ob = [(51, seeO s), (38, balO s), (19, plaO s), (13, arcO s), (2, stZ), (1, czC s)]) (⟨rfl, rfl, rfl⟩) ?_
 rintro N sl ob ⟨rfl, rfl, rfl⟩
 repeat' (first | (apply aB (.call { callee := .builtin .len, args := _, argTypes := _ }); refine aK (gY rfl rfl rfl ⟨_, _, _, _, rfl⟩ jg) (aA rfl) ?_) | refine vq ?_ | refine xq ?_ | (refine sQ ?_ ?_ <;> intro hb hq <;> try omega))
 refine gN 13 rfl ?_
 refine gN 19 rfl ?_
 refine gN 51 rfl ?_
 refine dQ 1 1 rfl rfl (.row _ _ _ _ _ rfl) rfl ?_
 refine dQ 1 2 rfl rfl (.row _ _ _ _ _ rfl) rfl ?_
 refine dQ 1 4 rfl rfl (.row _ _ _ _ _ rfl) rfl ?_
 refine aIi ([(137, .d (.int 0)), (136, .d (.int s.bl.length)), (2, .box 2 0), (1, .box 1 0)]) ([(38, balO s), (2, stZ), (1, czD s)]) ?_
 refine gN 38 rfl ?_
 refine dQ 1 17 rfl rfl (.row _ _ _ _ _ rfl) rfl ?_
 refine bB (fun N sl ob => N = 0 ∧ sl = [(137, .d (.int 0)), (136, .d (.int s.bl.length)), (2, .box 2 0), (1, .box 1 0)] ∧ ob = [(2, stZ), (1, cz0 s)]) (⟨rfl, rfl, rfl⟩) ?_
 rintro N sl ob ⟨rfl, rfl, rfl⟩
 have qi : decide ((0 : Int) < (s.bl.length : Int)) = false := decide_eq_false zb
 repeat' (first | refine qv ?_ | refine va ?_ | (refine sQ ?_ ?_ <;> intro hb hq <;> try omega))
 refine aQc (by rfl) (by first | exact ResX.tmp _ _ zx | exact ResX.cellA _ _ _ _ _ _ _ rfl rfl rfl zk rfl | exact ResX.cell1 _ _ _ _ _ _ rfl rfl rfl zx) ?_
 rfl
end
end Go.Proofs.YtaodngiigdbgeaaGreatDoor
