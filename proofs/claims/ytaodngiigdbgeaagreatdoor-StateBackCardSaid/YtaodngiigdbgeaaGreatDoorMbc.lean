/-
  Conditions: none.
-/
import Derived.Test.YtaodngiigdbgeaaGreatDoorMaa
import Derived.Test.YtaodngiigdbgeaaGreatDoorMal
import Derived.Test.YtaodngiigdbgeaaGreatDoorMam
import Derived.Test.YtaodngiigdbgeaaGreatDoorMbb
set_option maxHeartbeats 16000000
set_option maxRecDepth 20000
set_option linter.unusedSimpArgs false
set_option linter.unusedVariables false
namespace Go.Proofs.YtaodngiigdbgeaaGreatDoor
section
open Go.RowKit
theorem wY {α : Type} {W : α → ByteArray} {l : List α} {j : Nat} (h : j < l.length) : flat8 W (l.take (j + 1)) = flat8 W (l.take j) ++ (W l[j]).data.toList := by
 unfold flat8
 rw [List.take_add_one, List.getElem?_eq_getElem h]
 simp only [Option.toList_some, List.map_append, List.map_cons, List.map_nil, List.flatten_append, List.flatten_cons, List.flatten_nil, List.append_nil]
theorem wZ {α : Type} {W : α → ByteArray} {M : Nat} {l : List α} (j : Nat) (h : ∀ x ∈ l, (W x).size ≤ M) : (flat8 W (l.take j)).length ≤ M * l.length := by
 have h1 := pE (W := W) (l := l.take j) (fun x hx => h x (List.mem_of_mem_take hx))
 have h2 : M * (l.take j).length ≤ M * l.length := Nat.mul_le_mul_left _ (by rw [List.length_take]; omega)
 omega
def preT {α : Type} (T : α → ByteArray) (l : List α) (j : Nat) : List UInt8 := L (numW l.length) ++ flat8 T (l.take j)
theorem fS {α : Type} {T : α → ByteArray} {l : List α} {j : Nat} (h : j < l.length) : preT T l (j + 1) = preT T l j ++ (T l[j]).data.toList := by
 unfold preT
 rw [wY h, List.append_assoc]
theorem fT {α : Type} {T : α → ByteArray} {l : List α} : preT T l 0 = [] ++ (numW l.length).data.toList := by
 unfold preT
 rw [show flat8 T (l.take 0) = [] by unfold flat8; rfl, List.append_nil, List.nil_append]
theorem gV {α : Type} {T : α → ByteArray} {l : List α} : preT T l l.length = L (listT T l) := by
 unfold preT
 rw [List.take_length]
 rfl
theorem gW {α : Type} {T : α → ByteArray} {l : List α} (j : Nat) (hl : l.length ≤ 30000) (h : ∀ x ∈ l, (T x).size ≤ 10000000) : (preT T l j).length ≤ 300000000021 := by
 have h1 := wZ (W := T) j h
 have h2 := fW (n := (l.length : Int)) ⟨by omega, by omega⟩
 unfold preT
 rw [List.length_append, jD]
 omega
theorem iW {α : Type} {T : α → ByteArray} {l : List α} {j : Nat} : preT T l j ≠ [] := by
 intro e
 have h1 : (preT T l j).length = 0 := by rw [e]; rfl
 unfold preT at h1
 rw [List.length_append, numW, if_neg zb, iN, List.length_append] at h1
 simp at h1
theorem aTi {l : List Int} {i : Nat} (h : i < l.length) : (l.map fun n => [D.int n])[i]? = some [D.int l[i]] := by rw [bC h]
attribute [local irreducible] numW flat8
theorem dT (l : List Int) (hk : ∀ n ∈ l, nOk n) (h0 : 0 < l.length) (hl : l.length ≤ 1000) : PureC 89 [intsL l] (· = .str (numsT l)) := by
 have hb := fun j => wZ (W := numW) j (fun n hn => fW (hk n hn))
 have hm : (l.map fun n => [D.int n]).length = l.length := List.length_map ..
 refine aE Tryz.func89 rfl zg _ Tryz.ntmps89 (aC rfl) (fun w Pr hE => ?_)
 dsimp only [slotsOf, Nat.zero_add, Nat.reduceAdd]
 repeat' (first | refine qd ?_ | refine vj ?_ | (refine sQ ?_ ?_ <;> intro hb hq <;> try omega) | (apply gX; refine iX ?_))
 refine aKe 3 1 4 5 1 rfl rfl rfl (aA rfl) rfl rfl ?_
 refine bB (fun N sl ob => ∃ (j k : Nat) (A : V), N = l.length - j ∧ j ≤ l.length ∧ ((j = 0 ∧ A = .d (.val (.pointer none))) ∨ (0 < j ∧ A = .box 3 0)) ∧ sl = [(8, .d (.int j)), (7, .d (.int l.length)), (6, .d (intsL l)), (3, .box 3 0)] ∧ ob = [(3, .box 244 [A, .row 4 k]), (4, .row 5 1 k (byteD (flat8 numW (l.take j))))]) (⟨0, 0, .d (.val (.pointer none)), rfl, Nat.zero_le _, .inl ⟨rfl, rfl⟩, rfl, by rw [show flat8 numW (l.take 0) = [] by unfold flat8; rfl]⟩) ?_
 rintro N sl ob ⟨j, k, A, rfl, hj, hA, rfl, rfl⟩
 have hbj := hb j
 by_cases hlt : j < l.length
 ·have hg := aTi hlt
  have hkj := hk l[j] (List.getElem_mem hlt)
  have hsz := fW hkj
  have c1 := gM l[j] (by have := hkj.1; omega) hkj.2
  have hnx := wY (W := numW) hlt
  have c2 := fun u => bH u k (flat8 numW (l.take j)) (numW l[j]) zb
  rw [← hnx] at c2
  have qi : decide ((j : Int) < (l.length : Int)) = true := decide_eq_true zb
  generalize l[j] = x at *
  clear hnx hbj hb hk hkj
  rcases hA with ⟨rfl, rfl⟩ | ⟨hj0, rfl⟩
  ·have c3 := c2 false
   repeat' (first | (apply aB (.indexAddr _ _ _); refine aS hg ?_) | refine kQ (c1) hE ?_ | refine oQ [(1000, 3), (1001, 4)] (c3) hE ?_ | refine qf ?_ | refine vg ?_ | (refine sQ ?_ ?_ <;> intro hb hq <;> try omega))
   repeat' (first | refine qn ?_ | (refine sQ ?_ ?_ <;> intro hb hq <;> try omega))
   refine bK (⟨0 + 1, k + 1, _, rfl, by omega, .inr ⟨by omega, rfl⟩, rfl, rfl⟩) zb
  ·have c3 := c2 true
   repeat' (first | (apply aB (.indexAddr _ _ _); refine aS hg ?_) | refine kQ (c1) hE ?_ | refine oQ [(1000, 3), (1001, 4)] (c3) hE ?_ | refine qf ?_ | refine vg ?_ | (refine sQ ?_ ?_ <;> intro hb hq <;> try omega))
   repeat' (first | refine qn ?_ | (refine sQ ?_ ?_ <;> intro hb hq <;> try omega))
   refine bK (⟨j + 1, k + 1, _, rfl, by omega, .inr ⟨by omega, rfl⟩, rfl, rfl⟩) zb
 ·obtain rfl : j = l.length := by omega
  rcases hA with ⟨hj0, rfl⟩ | ⟨hj0, rfl⟩
  ·omega
  have hne : flat8 numW l ≠ [] := by
   intro e
   have h1 := wX (W := numW) (l := l) (fun n hn => by rw [vT (hk n hn), ← jD, iN, List.length_append]; simp)
   have h2 : (flat8 numW l).length = 0 := by rw [e]; rfl
   omega
  have c3 := eB k (flat8 numW l) hne
  have qi : decide ((l.length : Int) < (l.length : Int)) = false := decide_eq_false zb
  rw [List.take_length]
  repeat' (first | refine oQ [(1000, 3), (1001, 4)] (c3) hE ?_ | refine xm ?_ | (refine sQ ?_ ?_ <;> intro hb hq <;> try omega))
  refine rt1 ?_
  rfl
attribute [local irreducible] preT
theorem aEo  (l : List SArc) (hl : l.length ≤ 30000) (hs : ∀ x ∈ l, (SArc.text x).size ≤ 10000000) (hp : ∀ x ∈ l, ∀ t, t = SArc.text x → PureC 88 [.agg x.c] (· = .str t)) : PureC 87 [.list 4 (l.map SArc.c), .val (.func (.func 88) #[] #[])] (· = .str (listT SArc.text l)) := by
 have hb := fun j => gW (T := SArc.text) j hl hs
 have hm : (l.map SArc.c).length = l.length := List.length_map ..
 have hz := fW (n := (l.length : Int)) ⟨by omega, by omega⟩
 have c0 := gM (l.length : Int) zb zb
 have c00 := bH false 0 [] (numW l.length) jv
 rw [← fT (T := SArc.text) (l := l)] at c00
 refine aE Tryz.func87 rfl zg _ Tryz.ntmps87 (aC rfl) (fun w Pr hE => ?_)
 dsimp only [slotsOf, Nat.zero_add, Nat.reduceAdd]
 repeat' (first | refine xn ?_ | refine xz ?_ | (refine sQ ?_ ?_ <;> intro hb hq <;> try omega))
 refine eV 5 1 6 5 1 rfl rfl rfl (aA rfl) rfl rfl ?_
 repeat' (first | refine kQ (c0) hE ?_ | refine oQ [(1000, 5), (1001, 6)] (c00) hE ?_ | refine vh ?_ | refine vk ?_ | (refine sQ ?_ ?_ <;> intro hb hq <;> try omega))
 clear c0 c00 hz
 refine bB (fun N sl ob => ∃ j k : Nat, N = l.length - j ∧ j ≤ l.length ∧ sl = [(14, .d (.int j)), (13, .d (.int l.length)), (12, .d (.list 4 (l.map SArc.c))), (5, .box 5 0), (1, nfun 88)] ∧ ob = [(5, .box 244 [.box 5 0, .row 6 k]), (6, .row 5 1 k (byteD (preT SArc.text l j)))]) (⟨0, 1, rfl, Nat.zero_le _, rfl, rfl⟩) ?_
 rintro N sl ob ⟨j, k, rfl, hj, rfl, rfl⟩
 have hbj := hb j
 by_cases hlt : j < l.length
 ·have hg : (l.map SArc.c)[j]? = some (SArc.c l[j]) := by rw [bC hlt]
  have hm2 := List.getElem_mem hlt
  have hsz := hs _ hm2
  have c1 := hp _ hm2 _ rfl
  have c2 := bH true k (preT SArc.text l j) (SArc.text l[j]) zb
  rw [← fS hlt] at c2
  have qi : decide ((j : Int) < (l.length : Int)) = true := decide_eq_true zb
  generalize l[j] = x at *
  generalize SArc.text x = t at *
  clear hbj hb hsz hm2
  repeat' (first | (apply aB (.indexAddr _ _ _); refine aS hg ?_) | refine kQ (c1) hE ?_ | refine oQ [(1000, 5), (1001, 6)] (c2) hE ?_ | refine vg ?_ | refine vy ?_ | refine xi ?_ | (refine sQ ?_ ?_ <;> intro hb hq <;> try omega))
  repeat' (first | refine qn ?_ | (refine sQ ?_ ?_ <;> intro hb hq <;> try omega))
  refine bK (⟨j + 1, k + 1, rfl, by omega, rfl, rfl⟩) zb
 ·obtain rfl : j = l.length := by omega
  have c3 := eB k (preT SArc.text l l.length) iW
  rw [show (⟨(preT SArc.text l l.length).toArray⟩ : ByteArray) = listT SArc.text l by rw [gV]] at c3
  have qi : decide ((l.length : Int) < (l.length : Int)) = false := decide_eq_false zb
  repeat' (first | refine oQ [(1000, 5), (1001, 6)] (c3) hE ?_ | refine xm ?_ | (refine sQ ?_ ?_ <;> intro hb hq <;> try omega))
  refine rt1 ?_
  rfl
end
section
open Go.RowKit
attribute [local irreducible] numW numsT listW listT textW intW
theorem iB (l : List Int) (hl : l.length ≤ 1000000) (hb : ∀ n ∈ l, isInt n) : PureC 90 [intsL l] (· = .str (intsT l)) := aMk l hl hb
theorem aAt (p : Bool) : PureC 101 [.bool p] (· = .int (bitQ p)) := by
 refine aE Tryz.func101 rfl zg _ Tryz.ntmps101 (aC rfl) (fun w Pr hE => ?_)
 dsimp only [slotsOf, Nat.zero_add, Nat.reduceAdd]
 cases p
 ·skip
  repeat' (first | refine qo ?_ | refine cQ ?_ | (refine sQ ?_ ?_ <;> intro hb hq <;> try omega))
  refine rt1 ?_
  rfl
 ·skip
  repeat' (first | refine qo ?_ | refine cQ ?_ | (refine sQ ?_ ?_ <;> intro hb hq <;> try omega))
  refine rt1 ?_
  rfl
theorem aNb (a : SArc) (h : a.fine = true) : PureC 88 [.agg a.c] (· = .str a.text) := by
 obtain ⟨hw, hl, hh⟩ := aGj h
 have hn : ∀ n ∈ [a.f, a.t], nOk n := by have := hw.f; have := hw.t; simp_all
 have c1 := dT [a.f, a.t] hn (by simp) (by simp)
 have c2 := iB a.lo zb hw.lo
 have c3 := iB a.hi zb hw.hi
 have s1 := bX hn
 have s2 := dG (l := a.lo) zb hw.lo
 have s3 := dG (l := a.hi) zb hw.hi
 simp only [List.length_cons, List.length_nil] at s1
 unfold SArc.text
 generalize numsT [a.f, a.t] = x at *
 generalize intsT a.lo = y at *
 generalize intsT a.hi = z at *
 have z1 : (x ++ y).size = x.size + y.size := ByteArray.size_append
 refine aE Tryz.func88 rfl zg _ Tryz.ntmps88 (aC rfl) (fun w Pr hE => ?_)
 dsimp only [slotsOf, Nat.zero_add, Nat.reduceAdd]
 repeat' (first | refine xk ?_ | fail)
 refine cC ([(1, .box 46 [.d (.int a.f), .d (.int a.t), .d (intsL a.lo), .d (intsL a.hi)])]) [(0, true), (1, true), (2, true), (3, true), (6, true), (7, true), (10, true), (11, true), (4, false), (5, false), (8, false), (9, true), (12, false), (13, true)] [14] zp zp zp zg zw ?_
 simp only [planned, tailed, List.filterMap_cons, List.filterMap_nil, List.getElem?_cons_zero, List.getElem?_cons_succ, Option.map_some]
 repeat' (first | apply aZ | refine vt ?_ | (apply aM; refine bI (c1) hE ?_; rintro _ rfl; (try dsimp only [flat, D.plain, D.plainL])) | (apply aM; refine bI (c2) hE ?_; rintro _ rfl; clear c2; (try dsimp only [flat, D.plain, D.plainL])) | (apply aM; refine bI (c3) hE ?_; rintro _ rfl; (try dsimp only [flat, D.plain, D.plainL])) | (apply kG; refine nQ ?_) | (apply aU; refine bA ?_) | (apply aV; refine bE ?_) | (apply aR (.buildSlice _ _ _); first | refine dK zj rfl zx zk rfl (aC rfl) (aA rfl) ?_ | refine eQ zj rfl zd ze zk zg zg (aA rfl) ?_) | (refine mQ ?_ ?_ <;> intro hb hq <;> try omega))
 repeat' (first | refine np ?_ | refine vd ?_ | fail)
 refine rt1 ?_
 rfl
theorem aPg (a : SObs) (h : a.wf) : PureC 94 [.agg a.c] (· = .str a.text) := by
 have hn : ∀ n ∈ [a.s, a.k], nOk n := by have := h.s; have := h.k; simp_all
 have c1 := dT [a.s, a.k] hn (by simp) (by simp)
 unfold SObs.text
 refine aE Tryz.func94 rfl zg _ Tryz.ntmps94 (aC rfl) (fun w Pr hE => ?_)
 dsimp only [slotsOf, Nat.zero_add, Nat.reduceAdd]
 repeat' (first | refine kQ (c1) hE ?_ | refine vd ?_ | refine xk ?_ | fail)
 refine rt1 ?_
 rfl
theorem aNk (a : SCar) (h : a.wf) : PureC 96 [.agg a.c] (· = .str a.text) := by
 have hn : ∀ n ∈ [a.ow, a.no, a.re, a.en, a.se, a.ch, a.ba, a.cg, a.fu], nOk n := h.n
 have c1 := dT [a.ow, a.no, a.re, a.en, a.se, a.ch, a.ba, a.cg, a.fu] hn (by simp) (by simp)
 unfold SCar.text
 refine aE Tryz.func96 rfl zg _ Tryz.ntmps96 (aC rfl) (fun w Pr hE => ?_)
 dsimp only [slotsOf, Nat.zero_add, Nat.reduceAdd]
 repeat' (first | refine kQ (c1) hE ?_ | refine vd ?_ | refine xk ?_ | fail)
 refine rt1 ?_
 rfl
theorem aOm (a : SLeg) (h : a.wf) : PureC 103 [.agg a.c] (· = .str a.text) := by
 have hn : ∀ n ∈ [a.l, a.h], nOk n := by have := h.l; have := h.h; simp_all
 have c1 := dT [a.l, a.h] hn (by simp) (by simp)
 unfold SLeg.text
 refine aE Tryz.func103 rfl zg _ Tryz.ntmps103 (aC rfl) (fun w Pr hE => ?_)
 dsimp only [slotsOf, Nat.zero_add, Nat.reduceAdd]
 repeat' (first | refine kQ (c1) hE ?_ | refine vd ?_ | refine xk ?_ | fail)
 refine rt1 ?_
 rfl
theorem aHt (a : SShare) (h : a.wf) : PureC 112 [.agg a.c] (· = .str a.text) := by
 have hn : ∀ n ∈ [a.x, a.y], nOk n := by have := h.x; have := h.y; simp_all
 have c1 := dT [a.x, a.y] hn (by simp) (by simp)
 unfold SShare.text
 refine aE Tryz.func112 rfl zg _ Tryz.ntmps112 (aC rfl) (fun w Pr hE => ?_)
 dsimp only [slotsOf, Nat.zero_add, Nat.reduceAdd]
 repeat' (first | refine kQ (c1) hE ?_ | refine vd ?_ | refine xk ?_ | fail)
 refine rt1 ?_
 rfl
theorem aMe (a : SStop) (h : a.wf) : PureC 100 [.agg a.c] (· = .str a.text) := by
 have hn : ∀ n ∈ [a.r, bitQ a.p], nOk n := by have := pC a.p; simp [SStop.wf] at h; simp [h, this]
 have c1 := dT [a.r, bitQ a.p] hn (by simp) (by simp)
 have c2 := aAt a.p
 unfold SStop.text
 generalize bitQ a.p = q at *
 refine aE Tryz.func100 rfl zg _ Tryz.ntmps100 (aC rfl) (fun w Pr hE => ?_)
 dsimp only [slotsOf, Nat.zero_add, Nat.reduceAdd]
 repeat' (first | refine xk ?_ | fail)
 refine cC ([(1, .box 68 [.d (.int a.r), .d (.bool a.p)])]) [(0, true), (1, true), (2, true), (3, true), (4, false), (5, false), (6, false)] [7] zp zp zp zg zw ?_
 simp only [planned, tailed, List.filterMap_cons, List.filterMap_nil, List.getElem?_cons_zero, List.getElem?_cons_succ, Option.map_some]
 repeat' (first | apply aZ | refine vt ?_ | (apply aM; refine bI (c1) hE ?_; rintro _ rfl; (try dsimp only [flat, D.plain, D.plainL])) | (apply aM; refine bI (c2) hE ?_; rintro _ rfl; (try dsimp only [flat, D.plain, D.plainL])) | (apply aU; refine bA ?_) | (apply aV; refine bE ?_) | (apply aR (.buildSlice _ _ _); first | refine dK zj rfl zx zk rfl (aC rfl) (aA rfl) ?_ | refine eQ zj rfl zd ze zk zg zg (aA rfl) ?_) | (refine mQ ?_ ?_ <;> intro hb hq <;> try omega))
 repeat' (first | refine qg ?_ | refine vd ?_ | fail)
 refine rt1 ?_
 rfl
theorem aRd (a : SVer) (h : nOk a.f) (ht : a.t.size ≤ 1000000) : PureC 108 [.agg a.c] (· = .str a.text) := by
 have hn : ∀ n ∈ [a.f], nOk n := by simp_all
 have c1 := dT [a.f] hn (by simp) (by simp)
 have c2 := aAz a.t zb
 have s1 := bX hn
 have s2 := nX ht
 simp only [List.length_cons, List.length_nil] at s1
 unfold SVer.text
 generalize numsT [a.f] = x at *
 generalize textW a.t = y at *
 refine aE Tryz.func108 rfl zg _ Tryz.ntmps108 (aC rfl) (fun w Pr hE => ?_)
 dsimp only [slotsOf, Nat.zero_add, Nat.reduceAdd]
 repeat' (first | refine xk ?_ | fail)
 refine cC ([(1, .box 48 [.d (.int a.f), .d (.str a.t)])]) [(0, true), (1, true), (4, true), (5, true), (2, false), (3, false), (6, false), (7, true)] [8] zp zp zp zg zw ?_
 simp only [planned, tailed, List.filterMap_cons, List.filterMap_nil, List.getElem?_cons_zero, List.getElem?_cons_succ, Option.map_some]
 repeat' (first | apply aZ | refine vt ?_ | (apply aM; refine bI (c1) hE ?_; rintro _ rfl; (try dsimp only [flat, D.plain, D.plainL])) | (apply aM; refine bI (c2) hE ?_; rintro _ rfl; (try dsimp only [flat, D.plain, D.plainL])) | (apply kG; refine nQ ?_) | (apply aU; refine bA ?_) | (apply aV; refine bE ?_) | (apply aR (.buildSlice _ _ _); first | refine dK zj rfl zx zk rfl (aC rfl) (aA rfl) ?_ | refine eQ zj rfl zd ze zk zg zg (aA rfl) ?_) | (refine mQ ?_ ?_ <;> intro hb hq <;> try omega))
 repeat' (first | refine np ?_ | refine vd ?_ | fail)
 refine rt1 ?_
 rfl
end
section
open Go.RowKit
attribute [local irreducible] numW numsT listW listT textW intW flat8 preT
theorem aOt  (l : List SObs) (hl : l.length ≤ 30000) (hs : ∀ x ∈ l, (SObs.text x).size ≤ 10000000) (hp : ∀ x ∈ l, ∀ t, t = SObs.text x → PureC 94 [.agg x.c] (· = .str t)) : PureC 93 [.list 2 (l.map SObs.c), .val (.func (.func 94) #[] #[])] (· = .str (listT SObs.text l)) := by
 have hb := fun j => gW (T := SObs.text) j hl hs
 have hm : (l.map SObs.c).length = l.length := List.length_map ..
 have hz := fW (n := (l.length : Int)) ⟨by omega, by omega⟩
 have c0 := gM (l.length : Int) zb zb
 have c00 := bH false 0 [] (numW l.length) jv
 rw [← fT (T := SObs.text) (l := l)] at c00
 refine aE Tryz.func93 rfl zg _ Tryz.ntmps93 (aC rfl) (fun w Pr hE => ?_)
 dsimp only [slotsOf, Nat.zero_add, Nat.reduceAdd]
 repeat' (first | refine xn ?_ | refine xz ?_ | (refine sQ ?_ ?_ <;> intro hb hq <;> try omega))
 refine eV 5 1 6 5 1 rfl rfl rfl (aA rfl) rfl rfl ?_
 repeat' (first | refine kQ (c0) hE ?_ | refine oQ [(1000, 5), (1001, 6)] (c00) hE ?_ | refine vh ?_ | refine vk ?_ | (refine sQ ?_ ?_ <;> intro hb hq <;> try omega))
 clear c0 c00 hz
 refine bB (fun N sl ob => ∃ j k : Nat, N = l.length - j ∧ j ≤ l.length ∧ sl = [(14, .d (.int j)), (13, .d (.int l.length)), (12, .d (.list 2 (l.map SObs.c))), (5, .box 5 0), (1, nfun 94)] ∧ ob = [(5, .box 244 [.box 5 0, .row 6 k]), (6, .row 5 1 k (byteD (preT SObs.text l j)))]) (⟨0, 1, rfl, Nat.zero_le _, rfl, rfl⟩) ?_
 rintro N sl ob ⟨j, k, rfl, hj, rfl, rfl⟩
 have hbj := hb j
 by_cases hlt : j < l.length
 ·have hg : (l.map SObs.c)[j]? = some (SObs.c l[j]) := by rw [bC hlt]
  have hm2 := List.getElem_mem hlt
  have hsz := hs _ hm2
  have c1 := hp _ hm2 _ rfl
  have c2 := bH true k (preT SObs.text l j) (SObs.text l[j]) zb
  rw [← fS hlt] at c2
  have qi : decide ((j : Int) < (l.length : Int)) = true := decide_eq_true zb
  generalize l[j] = x at *
  generalize SObs.text x = t at *
  clear hbj hb hsz hm2
  repeat' (first | (apply aB (.indexAddr _ _ _); refine aS hg ?_) | refine kQ (c1) hE ?_ | refine oQ [(1000, 5), (1001, 6)] (c2) hE ?_ | refine vg ?_ | refine vy ?_ | refine xi ?_ | (refine sQ ?_ ?_ <;> intro hb hq <;> try omega))
  repeat' (first | refine qn ?_ | (refine sQ ?_ ?_ <;> intro hb hq <;> try omega))
  refine bK (⟨j + 1, k + 1, rfl, by omega, rfl, rfl⟩) zb
 ·obtain rfl : j = l.length := by omega
  have c3 := eB k (preT SObs.text l l.length) iW
  rw [show (⟨(preT SObs.text l l.length).toArray⟩ : ByteArray) = listT SObs.text l by rw [gV]] at c3
  have qi : decide ((l.length : Int) < (l.length : Int)) = false := decide_eq_false zb
  repeat' (first | refine oQ [(1000, 5), (1001, 6)] (c3) hE ?_ | refine xm ?_ | (refine sQ ?_ ?_ <;> intro hb hq <;> try omega))
  refine rt1 ?_
  rfl
theorem aLg  (l : List SStop) (hl : l.length ≤ 30000) (hs : ∀ x ∈ l, (SStop.text x).size ≤ 10000000) (hp : ∀ x ∈ l, ∀ t, t = SStop.text x → PureC 100 [.agg x.c] (· = .str t)) : PureC 99 [.list 2 (l.map SStop.c), .val (.func (.func 100) #[] #[])] (· = .str (listT SStop.text l)) := by
 have hb := fun j => gW (T := SStop.text) j hl hs
 have hm : (l.map SStop.c).length = l.length := List.length_map ..
 have hz := fW (n := (l.length : Int)) ⟨by omega, by omega⟩
 have c0 := gM (l.length : Int) zb zb
 have c00 := bH false 0 [] (numW l.length) jv
 rw [← fT (T := SStop.text) (l := l)] at c00
 refine aE Tryz.func99 rfl zg _ Tryz.ntmps99 (aC rfl) (fun w Pr hE => ?_)
 dsimp only [slotsOf, Nat.zero_add, Nat.reduceAdd]
 repeat' (first | refine xn ?_ | refine xz ?_ | (refine sQ ?_ ?_ <;> intro hb hq <;> try omega))
 refine eV 5 1 6 5 1 rfl rfl rfl (aA rfl) rfl rfl ?_
 repeat' (first | refine kQ (c0) hE ?_ | refine oQ [(1000, 5), (1001, 6)] (c00) hE ?_ | refine vh ?_ | refine vk ?_ | (refine sQ ?_ ?_ <;> intro hb hq <;> try omega))
 clear c0 c00 hz
 refine bB (fun N sl ob => ∃ j k : Nat, N = l.length - j ∧ j ≤ l.length ∧ sl = [(14, .d (.int j)), (13, .d (.int l.length)), (12, .d (.list 2 (l.map SStop.c))), (5, .box 5 0), (1, nfun 100)] ∧ ob = [(5, .box 244 [.box 5 0, .row 6 k]), (6, .row 5 1 k (byteD (preT SStop.text l j)))]) (⟨0, 1, rfl, Nat.zero_le _, rfl, rfl⟩) ?_
 rintro N sl ob ⟨j, k, rfl, hj, rfl, rfl⟩
 have hbj := hb j
 by_cases hlt : j < l.length
 ·have hg : (l.map SStop.c)[j]? = some (SStop.c l[j]) := by rw [bC hlt]
  have hm2 := List.getElem_mem hlt
  have hsz := hs _ hm2
  have c1 := hp _ hm2 _ rfl
  have c2 := bH true k (preT SStop.text l j) (SStop.text l[j]) zb
  rw [← fS hlt] at c2
  have qi : decide ((j : Int) < (l.length : Int)) = true := decide_eq_true zb
  generalize l[j] = x at *
  generalize SStop.text x = t at *
  clear hbj hb hsz hm2
  repeat' (first | (apply aB (.indexAddr _ _ _); refine aS hg ?_) | refine kQ (c1) hE ?_ | refine oQ [(1000, 5), (1001, 6)] (c2) hE ?_ | refine vg ?_ | refine vy ?_ | refine xi ?_ | (refine sQ ?_ ?_ <;> intro hb hq <;> try omega))
  repeat' (first | refine qn ?_ | (refine sQ ?_ ?_ <;> intro hb hq <;> try omega))
  refine bK (⟨j + 1, k + 1, rfl, by omega, rfl, rfl⟩) zb
 ·obtain rfl : j = l.length := by omega
  have c3 := eB k (preT SStop.text l l.length) iW
  rw [show (⟨(preT SStop.text l l.length).toArray⟩ : ByteArray) = listT SStop.text l by rw [gV]] at c3
  have qi : decide ((l.length : Int) < (l.length : Int)) = false := decide_eq_false zb
  repeat' (first | refine oQ [(1000, 5), (1001, 6)] (c3) hE ?_ | refine xm ?_ | (refine sQ ?_ ?_ <;> intro hb hq <;> try omega))
  refine rt1 ?_
  rfl
theorem aOs  (l : List SLeg) (hl : l.length ≤ 30000) (hs : ∀ x ∈ l, (SLeg.text x).size ≤ 10000000) (hp : ∀ x ∈ l, ∀ t, t = SLeg.text x → PureC 103 [.agg x.c] (· = .str t)) : PureC 102 [.list 2 (l.map SLeg.c), .val (.func (.func 103) #[] #[])] (· = .str (listT SLeg.text l)) := by
 have hb := fun j => gW (T := SLeg.text) j hl hs
 have hm : (l.map SLeg.c).length = l.length := List.length_map ..
 have hz := fW (n := (l.length : Int)) ⟨by omega, by omega⟩
 have c0 := gM (l.length : Int) zb zb
 have c00 := bH false 0 [] (numW l.length) jv
 rw [← fT (T := SLeg.text) (l := l)] at c00
 refine aE Tryz.func102 rfl zg _ Tryz.ntmps102 (aC rfl) (fun w Pr hE => ?_)
 dsimp only [slotsOf, Nat.zero_add, Nat.reduceAdd]
 repeat' (first | refine xn ?_ | refine xz ?_ | (refine sQ ?_ ?_ <;> intro hb hq <;> try omega))
 refine eV 5 1 6 5 1 rfl rfl rfl (aA rfl) rfl rfl ?_
 repeat' (first | refine kQ (c0) hE ?_ | refine oQ [(1000, 5), (1001, 6)] (c00) hE ?_ | refine vh ?_ | refine vk ?_ | (refine sQ ?_ ?_ <;> intro hb hq <;> try omega))
 clear c0 c00 hz
 refine bB (fun N sl ob => ∃ j k : Nat, N = l.length - j ∧ j ≤ l.length ∧ sl = [(14, .d (.int j)), (13, .d (.int l.length)), (12, .d (.list 2 (l.map SLeg.c))), (5, .box 5 0), (1, nfun 103)] ∧ ob = [(5, .box 244 [.box 5 0, .row 6 k]), (6, .row 5 1 k (byteD (preT SLeg.text l j)))]) (⟨0, 1, rfl, Nat.zero_le _, rfl, rfl⟩) ?_
 rintro N sl ob ⟨j, k, rfl, hj, rfl, rfl⟩
 have hbj := hb j
 by_cases hlt : j < l.length
 ·have hg : (l.map SLeg.c)[j]? = some (SLeg.c l[j]) := by rw [bC hlt]
  have hm2 := List.getElem_mem hlt
  have hsz := hs _ hm2
  have c1 := hp _ hm2 _ rfl
  have c2 := bH true k (preT SLeg.text l j) (SLeg.text l[j]) zb
  rw [← fS hlt] at c2
  have qi : decide ((j : Int) < (l.length : Int)) = true := decide_eq_true zb
  generalize l[j] = x at *
  generalize SLeg.text x = t at *
  clear hbj hb hsz hm2
  repeat' (first | (apply aB (.indexAddr _ _ _); refine aS hg ?_) | refine kQ (c1) hE ?_ | refine oQ [(1000, 5), (1001, 6)] (c2) hE ?_ | refine vg ?_ | refine vy ?_ | refine xi ?_ | (refine sQ ?_ ?_ <;> intro hb hq <;> try omega))
  repeat' (first | refine qn ?_ | (refine sQ ?_ ?_ <;> intro hb hq <;> try omega))
  refine bK (⟨j + 1, k + 1, rfl, by omega, rfl, rfl⟩) zb
 ·obtain rfl : j = l.length := by omega
  have c3 := eB k (preT SLeg.text l l.length) iW
  rw [show (⟨(preT SLeg.text l l.length).toArray⟩ : ByteArray) = listT SLeg.text l by rw [gV]] at c3
  have qi : decide ((l.length : Int) < (l.length : Int)) = false := decide_eq_false zb
  repeat' (first | refine oQ [(1000, 5), (1001, 6)] (c3) hE ?_ | refine xm ?_ | (refine sQ ?_ ?_ <;> intro hb hq <;> try omega))
  refine rt1 ?_
  rfl
theorem aHb  (l : List SShare) (hl : l.length ≤ 30000) (hs : ∀ x ∈ l, (SShare.text x).size ≤ 10000000) (hp : ∀ x ∈ l, ∀ t, t = SShare.text x → PureC 112 [.agg x.c] (· = .str t)) : PureC 111 [.list 2 (l.map SShare.c), .val (.func (.func 112) #[] #[])] (· = .str (listT SShare.text l)) := by
 have hb := fun j => gW (T := SShare.text) j hl hs
 have hm : (l.map SShare.c).length = l.length := List.length_map ..
 have hz := fW (n := (l.length : Int)) ⟨by omega, by omega⟩
 have c0 := gM (l.length : Int) zb zb
 have c00 := bH false 0 [] (numW l.length) jv
 rw [← fT (T := SShare.text) (l := l)] at c00
 refine aE Tryz.func111 rfl zg _ Tryz.ntmps111 (aC rfl) (fun w Pr hE => ?_)
 dsimp only [slotsOf, Nat.zero_add, Nat.reduceAdd]
 repeat' (first | refine xn ?_ | refine xz ?_ | (refine sQ ?_ ?_ <;> intro hb hq <;> try omega))
 refine eV 5 1 6 5 1 rfl rfl rfl (aA rfl) rfl rfl ?_
 repeat' (first | refine kQ (c0) hE ?_ | refine oQ [(1000, 5), (1001, 6)] (c00) hE ?_ | refine vh ?_ | refine vk ?_ | (refine sQ ?_ ?_ <;> intro hb hq <;> try omega))
 clear c0 c00 hz
 refine bB (fun N sl ob => ∃ j k : Nat, N = l.length - j ∧ j ≤ l.length ∧ sl = [(14, .d (.int j)), (13, .d (.int l.length)), (12, .d (.list 2 (l.map SShare.c))), (5, .box 5 0), (1, nfun 112)] ∧ ob = [(5, .box 244 [.box 5 0, .row 6 k]), (6, .row 5 1 k (byteD (preT SShare.text l j)))]) (⟨0, 1, rfl, Nat.zero_le _, rfl, rfl⟩) ?_
 rintro N sl ob ⟨j, k, rfl, hj, rfl, rfl⟩
 have hbj := hb j
 by_cases hlt : j < l.length
 ·have hg : (l.map SShare.c)[j]? = some (SShare.c l[j]) := by rw [bC hlt]
  have hm2 := List.getElem_mem hlt
  have hsz := hs _ hm2
  have c1 := hp _ hm2 _ rfl
  have c2 := bH true k (preT SShare.text l j) (SShare.text l[j]) zb
  rw [← fS hlt] at c2
  have qi : decide ((j : Int) < (l.length : Int)) = true := decide_eq_true zb
  generalize l[j] = x at *
  generalize SShare.text x = t at *
  clear hbj hb hsz hm2
  repeat' (first | (apply aB (.indexAddr _ _ _); refine aS hg ?_) | refine kQ (c1) hE ?_ | refine oQ [(1000, 5), (1001, 6)] (c2) hE ?_ | refine vg ?_ | refine vy ?_ | refine xi ?_ | (refine sQ ?_ ?_ <;> intro hb hq <;> try omega))
  repeat' (first | refine qn ?_ | (refine sQ ?_ ?_ <;> intro hb hq <;> try omega))
  refine bK (⟨j + 1, k + 1, rfl, by omega, rfl, rfl⟩) zb
 ·obtain rfl : j = l.length := by omega
  have c3 := eB k (preT SShare.text l l.length) iW
  rw [show (⟨(preT SShare.text l l.length).toArray⟩ : ByteArray) = listT SShare.text l by rw [gV]] at c3
  have qi : decide ((l.length : Int) < (l.length : Int)) = false := decide_eq_false zb
  repeat' (first | refine oQ [(1000, 5), (1001, 6)] (c3) hE ?_ | refine xm ?_ | (refine sQ ?_ ?_ <;> intro hb hq <;> try omega))
  refine rt1 ?_
  rfl
theorem aLy (l : List SObs) (h : seenQ l = true) : PureC 92 [obsL l] (· = .str (seenT l)) := by
 obtain ⟨h1, h2⟩ := aCt h
 have c1 := aOt l zb (fun x hx => by have := aHe (h1.2 x hx); omega) (fun x hx t ht => by rw [ht]; exact aPg x (h1.2 x hx))
 unfold seenT
 refine aE Tryz.func92 rfl zg _ Tryz.ntmps92 (aC rfl) (fun w Pr hE => ?_)
 dsimp only [slotsOf, Nat.zero_add, Nat.reduceAdd]
 repeat' (first | refine kQ (c1) hE ?_ | refine qo ?_ | fail)
 refine rt1 ?_
 rfl
theorem aLm (p : SPlan) (h : p.wf ∧ p.st.length ≤ 80 ∧ p.le.length ≤ 80 ∧ p.lv.length ≤ 81) : PureC 98 [.agg p.c] (· = .str p.text) := by
 obtain ⟨h, h1, h2, h3⟩ := h
 have hn : ∀ n ∈ [p.car], nOk n := by have := h.car; simp_all
 have c1 := aLg p.st zb (fun x hx => by have := wA (h.st x hx); omega) (fun x hx t ht => by rw [ht]; exact aMe x (h.st x hx))
 have c2 := aOs p.le zb (fun x hx => by have := aBs (h.le x hx); omega) (fun x hx t ht => by rw [ht]; exact aOm x (h.le x hx))
 have c3 := iB p.lv zb h.lv
 have c0 := dT [p.car] hn (by simp) (by simp)
 have s0 := bX hn
 have s1 := cZ (W := SStop.text) h.ls (fun x hx => wA (h.st x hx))
 have s2 := cZ (W := SLeg.text) h.ll (fun x hx => aBs (h.le x hx))
 have s3 := dG h.lw h.lv
 simp only [List.length_cons, List.length_nil] at s0
 unfold SPlan.text
 generalize numsT [p.car] = x0 at *
 generalize listT SStop.text p.st = x1 at *
 generalize listT SLeg.text p.le = x2 at *
 generalize intsT p.lv = x3 at *
 have z1 : (x0 ++ x1).size = x0.size + x1.size := ByteArray.size_append
 have z2 : (x0 ++ x1 ++ x2).size = (x0 ++ x1).size + x2.size := ByteArray.size_append
 refine aE Tryz.func98 rfl zg _ Tryz.ntmps98 (aC rfl) (fun w Pr hE => ?_)
 dsimp only [slotsOf, Nat.zero_add, Nat.reduceAdd]
 repeat' (first | refine kQ (c1) hE ?_ | refine vq ?_ | refine xk ?_ | fail)
 refine cC ([(1, .box 66 [.d (.int p.car), .d (.list 2 (p.st.map SStop.c)), .d (.list 2 (p.le.map SLeg.c)), .d (intsL p.lv)])]) [(0, true), (1, true), (4, true), (6, true), (7, true), (10, true), (11, true), (2, false), (3, false), (5, true), (8, false), (9, true), (12, false), (13, true)] [14] zp zp zp zg zw ?_
 simp only [planned, tailed, List.filterMap_cons, List.filterMap_nil, List.getElem?_cons_zero, List.getElem?_cons_succ, Option.map_some]
 repeat' (first | apply aZ | refine vt ?_ | (apply aM; refine bI (c0) hE ?_; rintro _ rfl; (try dsimp only [flat, D.plain, D.plainL])) | (apply aM; refine bI (c2) hE ?_; rintro _ rfl; (try dsimp only [flat, D.plain, D.plainL])) | (apply aM; refine bI (c3) hE ?_; rintro _ rfl; (try dsimp only [flat, D.plain, D.plainL])) | (apply bG; refine bQ ?_) | (apply kG; refine nQ ?_) | (apply aU; refine bA ?_) | (apply aV; refine bE ?_) | (apply aR (.buildSlice _ _ _); first | refine dK zj rfl zx zk rfl (aC rfl) (aA rfl) ?_ | refine eQ zj rfl zd ze zk zg zg (aA rfl) ?_) | (refine mQ ?_ ?_ <;> intro hb hq <;> try omega))
 repeat' (first | refine nx ?_ | refine vb ?_ | refine vd ?_ | fail)
 refine rt1 ?_
 rfl
theorem aLq (p : SProm) (h : p.wf) : PureC 105 [.agg p.c] (· = .str p.text) := by
 have c1 := dT _ h.n (by simp) (by simp)
 have c2 := uE p.car h.car.1 h.car.2
 have c3 := dT _ h.m (by simp) (by simp)
 have s1 := bX h.n
 have s2 := rX h.car
 have s3 := bX h.m
 simp only [List.length_cons, List.length_nil] at s1 s3
 unfold SProm.text
 generalize numsT [p.q.me, p.q.f, p.q.t, p.q.ea, p.q.la, p.q.du, p.q.ri, p.q.se, p.q.ch, p.q.ba] = x1 at *
 generalize intW p.car = x2 at *
 generalize numsT [p.ve, p.fa, p.sg, p.ow] = x3 at *
 have z1 : (x1 ++ x2).size = x1.size + x2.size := ByteArray.size_append
 refine aE Tryz.func105 rfl zg _ Tryz.ntmps105 (aC rfl) (fun w Pr hE => ?_)
 dsimp only [slotsOf, Nat.zero_add, Nat.reduceAdd]
 repeat' (first | refine vq ?_ | refine vy ?_ | refine xk ?_ | fail)
 refine vJ ((.free 0 (.free 1 (.free 2 (.free 3 (.free 4 (.free 5 (.free 6 (.free 7 (.free 8 (.free 9 (.free 10 (.free 11 (.free 12 (.free 13 (.free 14 (.free 15 (.free 16 (.free 17 (.free 18 (.free 19 (.free 22 (.free 23 (.free 26 (.free 27 (.free 28 (.free 29 (.free 30 (.free 31 (.free 32 (.free 33 (.fork (.alt 20 (.fork (.alt 21 (.fork (.alt 24 (.free 25 (.only 34 (.only 35 (.free 36 .tail)))) (.alt 34 (.only 24 (.free 25 (.only 35 (.free 36 .tail)))) .stop))) (.alt 34 (.only 21 (.only 24 (.free 25 (.only 35 (.free 36 .tail))))) .stop))) (.alt 34 (.only 20 (.only 21 (.only 24 (.free 25 (.only 35 (.free 36 .tail)))))) .stop)))))))))))))))))))))))))))))))))) [37] ([(3, .box 70 (p.q.c.map V.d)), (1, .box 72 (p.c.map V.d))]) ([(42, .d (.str (x1 ++ x2 ++ x3)))]) ([]) zp zp zp rfl zg zw (fun hrest => ?_) ?_
 ·simp only [tailed, List.filterMap_cons, List.filterMap_nil, List.getElem?_cons_zero, List.getElem?_cons_succ] at hrest
  repeat' (first | apply vB | apply aBe | exact vG | refine vC rfl ?_ | refine vF rfl ?_ | refine vD hrest zm zw | refine vt ?_ | (apply aM; refine bI (c1) hE ?_; rintro _ rfl; clear c1; (try dsimp only [flat, D.plain, D.plainL])) | (apply aM; refine bI (c2) hE ?_; rintro _ rfl; (try dsimp only [flat, D.plain, D.plainL])) | (apply aM; refine bI (c3) hE ?_; rintro _ rfl; (try dsimp only [flat, D.plain, D.plainL])) | (apply kG; refine nQ ?_) | (apply aU; refine bA ?_) | (apply aV; refine bE ?_) | (apply aR (.buildSlice _ _ _); first | refine dK zj rfl zx zk rfl (aC rfl) (aA rfl) ?_ | refine eQ zj rfl zd ze zk zg zg (aA rfl) ?_) | (apply aR (.alloc _); refine rI zj rfl zk rfl (aA rfl) rfl rfl rfl ?_) | (apply aR (.store _ _ _); first | refine dU zj rfl rfl rfl (dR rfl) nofun zk zo (.inl ⟨rfl, rfl⟩) rfl (aC rfl) zk ?_ | refine dU zj rfl rfl rfl (dR rfl) nofun zk zo (.inr rfl) rfl (aC rfl) zk ?_) | (refine mQ ?_ ?_ <;> intro hb hq <;> try omega))
 simp only [tailed, List.filterMap_cons, List.filterMap_nil, List.getElem?_cons_zero, List.getElem?_cons_succ]
 repeat' (first | refine np ?_ | refine vd ?_ | fail)
 refine rt1 ?_
 rfl
theorem aKi (c : SCard) (h : c.wf) (hl : c.sh.length ≤ 20) : PureC 110 [.agg c.c] (· = .str c.text) := by
 have hn : ∀ n ∈ [c.me], nOk n := by have := h.me; simp_all
 have c0 := dT [c.me] hn (by simp) (by simp)
 have c1 := aHb c.sh zb (fun x hx => by have := yG (h.sh x hx); omega) (fun x hx t ht => by rw [ht]; exact aHt x (h.sh x hx))
 have s0 := bX hn
 have s1 := cZ (W := SShare.text) h.l (fun x hx => yG (h.sh x hx))
 simp only [List.length_cons, List.length_nil] at s0
 unfold SCard.text
 generalize numsT [c.me] = x0 at *
 generalize listT SShare.text c.sh = x1 at *
 refine aE Tryz.func110 rfl zg _ Tryz.ntmps110 (aC rfl) (fun w Pr hE => ?_)
 dsimp only [slotsOf, Nat.zero_add, Nat.reduceAdd]
 repeat' (first | refine xk ?_ | fail)
 refine cC ([(1, .box 78 [.d (.int c.me), .d (.list 2 (c.sh.map SShare.c))])]) [(0, true), (1, true), (4, true), (5, true), (2, false), (3, false), (6, false), (7, true)] [8] zp zp zp zg zw ?_
 simp only [planned, tailed, List.filterMap_cons, List.filterMap_nil, List.getElem?_cons_zero, List.getElem?_cons_succ, Option.map_some]
 repeat' (first | apply aZ | refine vt ?_ | (apply aM; refine bI (c0) hE ?_; rintro _ rfl; (try dsimp only [flat, D.plain, D.plainL])) | (apply aM; refine bI (c1) hE ?_; rintro _ rfl; (try dsimp only [flat, D.plain, D.plainL])) | (apply kG; refine nQ ?_) | (apply aU; refine bA ?_) | (apply aV; refine bE ?_) | (apply aR (.buildSlice _ _ _); first | refine dK zj rfl zx zk rfl (aC rfl) (aA rfl) ?_ | refine eQ zj rfl zd ze zk zg zg (aA rfl) ?_) | (refine mQ ?_ ?_ <;> intro hb hq <;> try omega))
 repeat' (first | refine np ?_ | refine vd ?_ | fail)
 refine rt1 ?_
 rfl
end
end Go.Proofs.YtaodngiigdbgeaaGreatDoor
