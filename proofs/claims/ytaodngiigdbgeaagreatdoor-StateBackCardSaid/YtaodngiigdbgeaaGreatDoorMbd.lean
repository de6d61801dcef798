/-
  Conditions: none.
-/
import Derived.Test.YtaodngiigdbgeaaGreatDoorMaa
import Derived.Test.YtaodngiigdbgeaaGreatDoorMal
import Derived.Test.YtaodngiigdbgeaaGreatDoorMam
import Derived.Test.YtaodngiigdbgeaaGreatDoorMan
import Derived.Test.YtaodngiigdbgeaaGreatDoorMba
import Derived.Test.YtaodngiigdbgeaaGreatDoorMbb
import Derived.Test.YtaodngiigdbgeaaGreatDoorMbc
set_option maxHeartbeats 16000000
set_option maxRecDepth 20000
set_option linter.unusedSimpArgs false
set_option linter.unusedVariables false
namespace Go.Proofs.YtaodngiigdbgeaaGreatDoor
section
open Go.RowKit
attribute [local irreducible] numW numsT listW listT textW intW flat8 preT
theorem zY  (l : List (List SObs)) (hl : l.length ≤ 30000) (hs : ∀ x ∈ l, (seenT x).size ≤ 10000000) (hp : ∀ x ∈ l, ∀ t, t = seenT x → PureC 92 [obsL x] (· = .str t)) : PureC 91 [.list 1 (l.map seenC), .val (.func (.func 92) #[] #[])] (· = .str (listT seenT l)) := by
 have hb := fun j => gW (T := seenT) j hl hs
 have hm : (l.map seenC).length = l.length := List.length_map ..
 have hz := fW (n := (l.length : Int)) ⟨by omega, by omega⟩
 have c0 := gM (l.length : Int) zb zb
 have c00 := bH false 0 [] (numW l.length) jv
 rw [← fT (T := seenT) (l := l)] at c00
 refine aE Tryz.func91 rfl zg _ Tryz.ntmps91 (aC rfl) (fun w Pr hE => ?_)
 dsimp only [slotsOf, Nat.zero_add, Nat.reduceAdd]
 repeat' (first | refine xn ?_ | refine xz ?_ | (refine sQ ?_ ?_ <;> intro hb hq <;> try omega))
 refine eV 5 1 6 5 1 rfl rfl rfl (aA rfl) rfl rfl ?_
 repeat' (first | refine kQ (c0) hE ?_ | refine oQ [(1000, 5), (1001, 6)] (c00) hE ?_ | refine vh ?_ | refine vk ?_ | (refine sQ ?_ ?_ <;> intro hb hq <;> try omega))
 clear c0 c00 hz
 refine bB (fun N sl ob => ∃ j k : Nat, N = l.length - j ∧ j ≤ l.length ∧ sl = [(14, .d (.int j)), (13, .d (.int l.length)), (12, .d (.list 1 (l.map seenC))), (5, .box 5 0), (1, nfun 92)] ∧ ob = [(5, .box 244 [.box 5 0, .row 6 k]), (6, .row 5 1 k (byteD (preT seenT l j)))]) (⟨0, 1, rfl, Nat.zero_le _, rfl, rfl⟩) ?_
 rintro N sl ob ⟨j, k, rfl, hj, rfl, rfl⟩
 have hbj := hb j
 by_cases hlt : j < l.length
 ·have hg : (l.map seenC)[j]? = some (seenC l[j]) := by rw [bC hlt]
  have hm2 := List.getElem_mem hlt
  have hsz := hs _ hm2
  have c1 := hp _ hm2 _ rfl
  have c2 := bH true k (preT seenT l j) (seenT l[j]) zb
  rw [← fS hlt] at c2
  have qi : decide ((j : Int) < (l.length : Int)) = true := decide_eq_true zb
  generalize l[j] = x at *
  generalize seenT x = t at *
  clear hbj hb hsz hm2
  repeat' (first | (apply aB (.indexAddr _ _ _); refine aS hg ?_) | refine kQ (c1) hE ?_ | refine oQ [(1000, 5), (1001, 6)] (c2) hE ?_ | refine qf ?_ | refine vg ?_ | (refine sQ ?_ ?_ <;> intro hb hq <;> try omega))
  repeat' (first | refine qn ?_ | (refine sQ ?_ ?_ <;> intro hb hq <;> try omega))
  refine bK (⟨j + 1, k + 1, rfl, by omega, rfl, rfl⟩) zb
 ·obtain rfl : j = l.length := by omega
  have c3 := eB k (preT seenT l l.length) iW
  rw [show (⟨(preT seenT l l.length).toArray⟩ : ByteArray) = listT seenT l by rw [gV]] at c3
  have qi : decide ((l.length : Int) < (l.length : Int)) = false := decide_eq_false zb
  repeat' (first | refine oQ [(1000, 5), (1001, 6)] (c3) hE ?_ | refine xm ?_ | (refine sQ ?_ ?_ <;> intro hb hq <;> try omega))
  refine rt1 ?_
  rfl
theorem aEq  (l : List SCar) (hl : l.length ≤ 30000) (hs : ∀ x ∈ l, (SCar.text x).size ≤ 10000000) (hp : ∀ x ∈ l, ∀ t, t = SCar.text x → PureC 96 [.agg x.c] (· = .str t)) : PureC 95 [.list 9 (l.map SCar.c), .val (.func (.func 96) #[] #[])] (· = .str (listT SCar.text l)) := by
 have hb := fun j => gW (T := SCar.text) j hl hs
 have hm : (l.map SCar.c).length = l.length := List.length_map ..
 have hz := fW (n := (l.length : Int)) ⟨by omega, by omega⟩
 have c0 := gM (l.length : Int) zb zb
 have c00 := bH false 0 [] (numW l.length) jv
 rw [← fT (T := SCar.text) (l := l)] at c00
 refine aE Tryz.func95 rfl zg _ Tryz.ntmps95 (aC rfl) (fun w Pr hE => ?_)
 dsimp only [slotsOf, Nat.zero_add, Nat.reduceAdd]
 repeat' (first | refine xn ?_ | refine xz ?_ | (refine sQ ?_ ?_ <;> intro hb hq <;> try omega))
 refine eV 5 1 6 5 1 rfl rfl rfl (aA rfl) rfl rfl ?_
 repeat' (first | refine kQ (c0) hE ?_ | refine oQ [(1000, 5), (1001, 6)] (c00) hE ?_ | refine vh ?_ | refine vk ?_ | (refine sQ ?_ ?_ <;> intro hb hq <;> try omega))
 clear c0 c00 hz
 refine bB (fun N sl ob => ∃ j k : Nat, N = l.length - j ∧ j ≤ l.length ∧ sl = [(14, .d (.int j)), (13, .d (.int l.length)), (12, .d (.list 9 (l.map SCar.c))), (5, .box 5 0), (1, nfun 96)] ∧ ob = [(5, .box 244 [.box 5 0, .row 6 k]), (6, .row 5 1 k (byteD (preT SCar.text l j)))]) (⟨0, 1, rfl, Nat.zero_le _, rfl, rfl⟩) ?_
 rintro N sl ob ⟨j, k, rfl, hj, rfl, rfl⟩
 have hbj := hb j
 by_cases hlt : j < l.length
 ·have hg : (l.map SCar.c)[j]? = some (SCar.c l[j]) := by rw [bC hlt]
  have hm2 := List.getElem_mem hlt
  have hsz := hs _ hm2
  have c1 := hp _ hm2 _ rfl
  have c2 := bH true k (preT SCar.text l j) (SCar.text l[j]) zb
  rw [← fS hlt] at c2
  have qi : decide ((j : Int) < (l.length : Int)) = true := decide_eq_true zb
  generalize l[j] = x at *
  generalize SCar.text x = t at *
  clear hbj hb hsz hm2
  repeat' (first | (apply aB (.indexAddr _ _ _); refine aS hg ?_) | refine kQ (c1) hE ?_ | refine oQ [(1000, 5), (1001, 6)] (c2) hE ?_ | refine vg ?_ | refine vy ?_ | refine xi ?_ | (refine sQ ?_ ?_ <;> intro hb hq <;> try omega))
  repeat' (first | refine qn ?_ | (refine sQ ?_ ?_ <;> intro hb hq <;> try omega))
  refine bK (⟨j + 1, k + 1, rfl, by omega, rfl, rfl⟩) zb
 ·obtain rfl : j = l.length := by omega
  have c3 := eB k (preT SCar.text l l.length) iW
  rw [show (⟨(preT SCar.text l l.length).toArray⟩ : ByteArray) = listT SCar.text l by rw [gV]] at c3
  have qi : decide ((l.length : Int) < (l.length : Int)) = false := decide_eq_false zb
  repeat' (first | refine oQ [(1000, 5), (1001, 6)] (c3) hE ?_ | refine xm ?_ | (refine sQ ?_ ?_ <;> intro hb hq <;> try omega))
  refine rt1 ?_
  rfl
theorem zW  (l : List SPlan) (hl : l.length ≤ 30000) (hs : ∀ x ∈ l, (SPlan.text x).size ≤ 10000000) (hp : ∀ x ∈ l, ∀ t, t = SPlan.text x → PureC 98 [.agg x.c] (· = .str t)) : PureC 97 [.list 4 (l.map SPlan.c), .val (.func (.func 98) #[] #[])] (· = .str (listT SPlan.text l)) := by
 have hb := fun j => gW (T := SPlan.text) j hl hs
 have hm : (l.map SPlan.c).length = l.length := List.length_map ..
 have hz := fW (n := (l.length : Int)) ⟨by omega, by omega⟩
 have c0 := gM (l.length : Int) zb zb
 have c00 := bH false 0 [] (numW l.length) jv
 rw [← fT (T := SPlan.text) (l := l)] at c00
 refine aE Tryz.func97 rfl zg _ Tryz.ntmps97 (aC rfl) (fun w Pr hE => ?_)
 dsimp only [slotsOf, Nat.zero_add, Nat.reduceAdd]
 repeat' (first | refine xn ?_ | refine xz ?_ | (refine sQ ?_ ?_ <;> intro hb hq <;> try omega))
 refine eV 5 1 6 5 1 rfl rfl rfl (aA rfl) rfl rfl ?_
 repeat' (first | refine kQ (c0) hE ?_ | refine oQ [(1000, 5), (1001, 6)] (c00) hE ?_ | refine vh ?_ | refine vk ?_ | (refine sQ ?_ ?_ <;> intro hb hq <;> try omega))
 clear c0 c00 hz
 refine bB (fun N sl ob => ∃ j k : Nat, N = l.length - j ∧ j ≤ l.length ∧ sl = [(14, .d (.int j)), (13, .d (.int l.length)), (12, .d (.list 4 (l.map SPlan.c))), (5, .box 5 0), (1, nfun 98)] ∧ ob = [(5, .box 244 [.box 5 0, .row 6 k]), (6, .row 5 1 k (byteD (preT SPlan.text l j)))]) (⟨0, 1, rfl, Nat.zero_le _, rfl, rfl⟩) ?_
 rintro N sl ob ⟨j, k, rfl, hj, rfl, rfl⟩
 have hbj := hb j
 by_cases hlt : j < l.length
 ·have hg : (l.map SPlan.c)[j]? = some (SPlan.c l[j]) := by rw [bC hlt]
  have hm2 := List.getElem_mem hlt
  have hsz := hs _ hm2
  have c1 := hp _ hm2 _ rfl
  have c2 := bH true k (preT SPlan.text l j) (SPlan.text l[j]) zb
  rw [← fS hlt] at c2
  have qi : decide ((j : Int) < (l.length : Int)) = true := decide_eq_true zb
  generalize l[j] = x at *
  generalize SPlan.text x = t at *
  clear hbj hb hsz hm2
  repeat' (first | (apply aB (.indexAddr _ _ _); refine aS hg ?_) | refine kQ (c1) hE ?_ | refine oQ [(1000, 5), (1001, 6)] (c2) hE ?_ | refine vg ?_ | refine vy ?_ | refine xi ?_ | (refine sQ ?_ ?_ <;> intro hb hq <;> try omega))
  repeat' (first | refine qn ?_ | (refine sQ ?_ ?_ <;> intro hb hq <;> try omega))
  refine bK (⟨j + 1, k + 1, rfl, by omega, rfl, rfl⟩) zb
 ·obtain rfl : j = l.length := by omega
  have c3 := eB k (preT SPlan.text l l.length) iW
  rw [show (⟨(preT SPlan.text l l.length).toArray⟩ : ByteArray) = listT SPlan.text l by rw [gV]] at c3
  have qi : decide ((l.length : Int) < (l.length : Int)) = false := decide_eq_false zb
  repeat' (first | refine oQ [(1000, 5), (1001, 6)] (c3) hE ?_ | refine xm ?_ | (refine sQ ?_ ?_ <;> intro hb hq <;> try omega))
  refine rt1 ?_
  rfl
theorem zX  (l : List SProm) (hl : l.length ≤ 30000) (hs : ∀ x ∈ l, (SProm.text x).size ≤ 10000000) (hp : ∀ x ∈ l, ∀ t, t = SProm.text x → PureC 105 [.agg x.c] (· = .str t)) : PureC 104 [.list 15 (l.map SProm.c), .val (.func (.func 105) #[] #[])] (· = .str (listT SProm.text l)) := by
 have hb := fun j => gW (T := SProm.text) j hl hs
 have hm : (l.map SProm.c).length = l.length := List.length_map ..
 have hz := fW (n := (l.length : Int)) ⟨by omega, by omega⟩
 have c0 := gM (l.length : Int) zb zb
 have c00 := bH false 0 [] (numW l.length) jv
 rw [← fT (T := SProm.text) (l := l)] at c00
 refine aE Tryz.func104 rfl zg _ Tryz.ntmps104 (aC rfl) (fun w Pr hE => ?_)
 dsimp only [slotsOf, Nat.zero_add, Nat.reduceAdd]
 repeat' (first | refine xn ?_ | refine xz ?_ | (refine sQ ?_ ?_ <;> intro hb hq <;> try omega))
 refine eV 5 1 6 5 1 rfl rfl rfl (aA rfl) rfl rfl ?_
 repeat' (first | refine kQ (c0) hE ?_ | refine oQ [(1000, 5), (1001, 6)] (c00) hE ?_ | refine vh ?_ | refine vk ?_ | (refine sQ ?_ ?_ <;> intro hb hq <;> try omega))
 clear c0 c00 hz
 refine bB (fun N sl ob => ∃ j k : Nat, N = l.length - j ∧ j ≤ l.length ∧ sl = [(14, .d (.int j)), (13, .d (.int l.length)), (12, .d (.list 15 (l.map SProm.c))), (5, .box 5 0), (1, nfun 105)] ∧ ob = [(5, .box 244 [.box 5 0, .row 6 k]), (6, .row 5 1 k (byteD (preT SProm.text l j)))]) (⟨0, 1, rfl, Nat.zero_le _, rfl, rfl⟩) ?_
 rintro N sl ob ⟨j, k, rfl, hj, rfl, rfl⟩
 have hbj := hb j
 by_cases hlt : j < l.length
 ·have hg : (l.map SProm.c)[j]? = some (SProm.c l[j]) := by rw [bC hlt]
  have hm2 := List.getElem_mem hlt
  have hsz := hs _ hm2
  have c1 := hp _ hm2 _ rfl
  have c2 := bH true k (preT SProm.text l j) (SProm.text l[j]) zb
  rw [← fS hlt] at c2
  have qi : decide ((j : Int) < (l.length : Int)) = true := decide_eq_true zb
  generalize l[j] = x at *
  generalize SProm.text x = t at *
  clear hbj hb hsz hm2
  repeat' (first | (apply aB (.indexAddr _ _ _); refine aS hg ?_) | refine kQ (c1) hE ?_ | refine oQ [(1000, 5), (1001, 6)] (c2) hE ?_ | refine vg ?_ | refine vy ?_ | refine xi ?_ | (refine sQ ?_ ?_ <;> intro hb hq <;> try omega))
  repeat' (first | refine qn ?_ | (refine sQ ?_ ?_ <;> intro hb hq <;> try omega))
  refine bK (⟨j + 1, k + 1, rfl, by omega, rfl, rfl⟩) zb
 ·obtain rfl : j = l.length := by omega
  have c3 := eB k (preT SProm.text l l.length) iW
  rw [show (⟨(preT SProm.text l l.length).toArray⟩ : ByteArray) = listT SProm.text l by rw [gV]] at c3
  have qi : decide ((l.length : Int) < (l.length : Int)) = false := decide_eq_false zb
  repeat' (first | refine oQ [(1000, 5), (1001, 6)] (c3) hE ?_ | refine xm ?_ | (refine sQ ?_ ?_ <;> intro hb hq <;> try omega))
  refine rt1 ?_
  rfl
theorem aEr  (l : List SVer) (hl : l.length ≤ 30000) (hs : ∀ x ∈ l, (SVer.text x).size ≤ 10000000) (hp : ∀ x ∈ l, ∀ t, t = SVer.text x → PureC 108 [.agg x.c] (· = .str t)) : PureC 107 [.list 2 (l.map SVer.c), .val (.func (.func 108) #[] #[])] (· = .str (listT SVer.text l)) := by
 have hb := fun j => gW (T := SVer.text) j hl hs
 have hm : (l.map SVer.c).length = l.length := List.length_map ..
 have hz := fW (n := (l.length : Int)) ⟨by omega, by omega⟩
 have c0 := gM (l.length : Int) zb zb
 have c00 := bH false 0 [] (numW l.length) jv
 rw [← fT (T := SVer.text) (l := l)] at c00
 refine aE Tryz.func107 rfl zg _ Tryz.ntmps107 (aC rfl) (fun w Pr hE => ?_)
 dsimp only [slotsOf, Nat.zero_add, Nat.reduceAdd]
 repeat' (first | refine xn ?_ | refine xz ?_ | (refine sQ ?_ ?_ <;> intro hb hq <;> try omega))
 refine eV 5 1 6 5 1 rfl rfl rfl (aA rfl) rfl rfl ?_
 repeat' (first | refine kQ (c0) hE ?_ | refine oQ [(1000, 5), (1001, 6)] (c00) hE ?_ | refine vh ?_ | refine vk ?_ | (refine sQ ?_ ?_ <;> intro hb hq <;> try omega))
 clear c0 c00 hz
 refine bB (fun N sl ob => ∃ j k : Nat, N = l.length - j ∧ j ≤ l.length ∧ sl = [(14, .d (.int j)), (13, .d (.int l.length)), (12, .d (.list 2 (l.map SVer.c))), (5, .box 5 0), (1, nfun 108)] ∧ ob = [(5, .box 244 [.box 5 0, .row 6 k]), (6, .row 5 1 k (byteD (preT SVer.text l j)))]) (⟨0, 1, rfl, Nat.zero_le _, rfl, rfl⟩) ?_
 rintro N sl ob ⟨j, k, rfl, hj, rfl, rfl⟩
 have hbj := hb j
 by_cases hlt : j < l.length
 ·have hg : (l.map SVer.c)[j]? = some (SVer.c l[j]) := by rw [bC hlt]
  have hm2 := List.getElem_mem hlt
  have hsz := hs _ hm2
  have c1 := hp _ hm2 _ rfl
  have c2 := bH true k (preT SVer.text l j) (SVer.text l[j]) zb
  rw [← fS hlt] at c2
  have qi : decide ((j : Int) < (l.length : Int)) = true := decide_eq_true zb
  generalize l[j] = x at *
  generalize SVer.text x = t at *
  clear hbj hb hsz hm2
  repeat' (first | (apply aB (.indexAddr _ _ _); refine aS hg ?_) | refine kQ (c1) hE ?_ | refine oQ [(1000, 5), (1001, 6)] (c2) hE ?_ | refine vg ?_ | refine vy ?_ | refine xi ?_ | (refine sQ ?_ ?_ <;> intro hb hq <;> try omega))
  repeat' (first | refine qn ?_ | (refine sQ ?_ ?_ <;> intro hb hq <;> try omega))
  refine bK (⟨j + 1, k + 1, rfl, by omega, rfl, rfl⟩) zb
 ·obtain rfl : j = l.length := by omega
  have c3 := eB k (preT SVer.text l l.length) iW
  rw [show (⟨(preT SVer.text l l.length).toArray⟩ : ByteArray) = listT SVer.text l by rw [gV]] at c3
  have qi : decide ((l.length : Int) < (l.length : Int)) = false := decide_eq_false zb
  repeat' (first | refine oQ [(1000, 5), (1001, 6)] (c3) hE ?_ | refine xm ?_ | (refine sQ ?_ ?_ <;> intro hb hq <;> try omega))
  refine rt1 ?_
  rfl
theorem aLf  (l : List SCard) (hl : l.length ≤ 30000) (hs : ∀ x ∈ l, (SCard.text x).size ≤ 10000000) (hp : ∀ x ∈ l, ∀ t, t = SCard.text x → PureC 110 [.agg x.c] (· = .str t)) : PureC 115 [.list 2 (l.map SCard.c), .val (.func (.func 110) #[] #[])] (· = .str (listT SCard.text l)) := by
 have hb := fun j => gW (T := SCard.text) j hl hs
 have hm : (l.map SCard.c).length = l.length := List.length_map ..
 have hz := fW (n := (l.length : Int)) ⟨by omega, by omega⟩
 have c0 := gM (l.length : Int) zb zb
 have c00 := bH false 0 [] (numW l.length) jv
 rw [← fT (T := SCard.text) (l := l)] at c00
 refine aE Tryz.func115 rfl zg _ Tryz.ntmps115 (aC rfl) (fun w Pr hE => ?_)
 dsimp only [slotsOf, Nat.zero_add, Nat.reduceAdd]
 repeat' (first | refine xn ?_ | refine xz ?_ | (refine sQ ?_ ?_ <;> intro hb hq <;> try omega))
 refine eV 5 1 6 5 1 rfl rfl rfl (aA rfl) rfl rfl ?_
 repeat' (first | refine kQ (c0) hE ?_ | refine oQ [(1000, 5), (1001, 6)] (c00) hE ?_ | refine vh ?_ | refine vk ?_ | (refine sQ ?_ ?_ <;> intro hb hq <;> try omega))
 clear c0 c00 hz
 refine bB (fun N sl ob => ∃ j k : Nat, N = l.length - j ∧ j ≤ l.length ∧ sl = [(14, .d (.int j)), (13, .d (.int l.length)), (12, .d (.list 2 (l.map SCard.c))), (5, .box 5 0), (1, nfun 110)] ∧ ob = [(5, .box 244 [.box 5 0, .row 6 k]), (6, .row 5 1 k (byteD (preT SCard.text l j)))]) (⟨0, 1, rfl, Nat.zero_le _, rfl, rfl⟩) ?_
 rintro N sl ob ⟨j, k, rfl, hj, rfl, rfl⟩
 have hbj := hb j
 by_cases hlt : j < l.length
 ·have hg : (l.map SCard.c)[j]? = some (SCard.c l[j]) := by rw [bC hlt]
  have hm2 := List.getElem_mem hlt
  have hsz := hs _ hm2
  have c1 := hp _ hm2 _ rfl
  have c2 := bH true k (preT SCard.text l j) (SCard.text l[j]) zb
  rw [← fS hlt] at c2
  have qi : decide ((j : Int) < (l.length : Int)) = true := decide_eq_true zb
  generalize l[j] = x at *
  generalize SCard.text x = t at *
  clear hbj hb hsz hm2
  repeat' (first | (apply aB (.indexAddr _ _ _); refine aS hg ?_) | refine kQ (c1) hE ?_ | refine oQ [(1000, 5), (1001, 6)] (c2) hE ?_ | refine vg ?_ | refine vy ?_ | refine xi ?_ | (refine sQ ?_ ?_ <;> intro hb hq <;> try omega))
  repeat' (first | refine qn ?_ | (refine sQ ?_ ?_ <;> intro hb hq <;> try omega))
  refine bK (⟨j + 1, k + 1, rfl, by omega, rfl, rfl⟩) zb
 ·obtain rfl : j = l.length := by omega
  have c3 := eB k (preT SCard.text l l.length) iW
  rw [show (⟨(preT SCard.text l l.length).toArray⟩ : ByteArray) = listT SCard.text l by rw [gV]] at c3
  have qi : decide ((l.length : Int) < (l.length : Int)) = false := decide_eq_false zb
  repeat' (first | refine oQ [(1000, 5), (1001, 6)] (c3) hE ?_ | refine xm ?_ | (refine sQ ?_ ?_ <;> intro hb hq <;> try omega))
  refine rt1 ?_
  rfl
abbrev txtO : Objs := [(1002, .box 162 [nfun 110])]
theorem aNg (b : SBal) (h : b.wf ∧ b.t.size ≤ 4000 ∧ b.ca.length ≤ 4000 ∧ ∀ c ∈ b.ca, c.sh.length ≤ 20) : ObC 114 [.d (.agg b.c), .box 1002 0] txtO [] (fun r o => r = .d (.str b.text) ∧ o = txtO) := by
 obtain ⟨h, h1, h2, h3⟩ := h
 have hn : ∀ n ∈ [b.f], nOk n := by have := h.f; simp_all
 have hn2 : ∀ n ∈ [bitQ b.cl], nOk n := by have := pC b.cl; simp_all
 have c0 := aAz b.t zb
 have c1 := dT [b.f] hn (by simp) (by simp)
 have c2 := aLf b.ca zb (fun x hx => by have := vM (h.ca x hx) (h3 x hx); omega) (fun x hx t ht => by rw [ht]; exact aKi x (h.ca x hx) (h3 x hx))
 have c3 := aAt b.cl
 have c4 := dT [bitQ b.cl] hn2 (by simp) (by simp)
 have s0 := nX (s := b.t) zb
 have s1 := bX hn
 have s2 := cZ (W := SCard.text) h.l (fun x hx => vM (h.ca x hx) (h3 x hx))
 have s3 := bX hn2
 simp only [List.length_cons, List.length_nil] at s1 s3
 unfold SBal.text
 generalize bitQ b.cl = q at *
 generalize textW b.t = x0 at *
 generalize numsT [b.f] = x1 at *
 generalize listT SCard.text b.ca = x2 at *
 generalize numsT [q] = x3 at *
 have z1 : (x0 ++ x1).size = x0.size + x1.size := ByteArray.size_append
 have z2 : (x0 ++ x1 ++ x2).size = (x0 ++ x1).size + x2.size := ByteArray.size_append
 refine aI Tryz.func114 rfl zg _ Tryz.ntmps114 (aC rfl) rfl (fun w Pr β κ hE => ?_)
 dsimp only [slotsV, Nat.zero_add, Nat.reduceAdd]
 repeat' (first | refine xk ?_ | fail)
 refine vJ ((.free 0 (.free 1 (.free 3 (.free 4 (.free 8 (.free 9 (.free 10 (.free 13 (.free 14 (.fork (.alt 2 (.only 5 (.only 6 (.free 7 (.only 11 (.free 12 (.only 15 (.only 16 (.only 17 (.free 18 .tail))))))))) (.alt 5 (.only 2 (.only 6 (.free 7 (.only 11 (.free 12 (.only 15 (.only 16 (.only 17 (.free 18 .tail))))))))) .stop))))))))))))) [19] ([(2, .box 75 (b.c.map V.d)), (1002, .box 162 [nfun 110])]) ([(22, .d (.str (x0 ++ x1 ++ x2 ++ x3)))]) (txtO) zp zp zp rfl zg zw (fun hrest => ?_) ?_
 ·simp only [tailed, List.filterMap_cons, List.filterMap_nil, List.getElem?_cons_zero, List.getElem?_cons_succ] at hrest
  repeat' (first | apply vB | apply aBe | exact vG | refine vC rfl ?_ | refine vF rfl ?_ | refine vD hrest zm zw | refine vt ?_ | (apply aM; refine bI (c0) hE ?_; rintro _ rfl; (try dsimp only [flat, D.plain, D.plainL])) | (apply aM; refine bI (c1) hE ?_; rintro _ rfl; clear c1; (try dsimp only [flat, D.plain, D.plainL])) | (apply aM; refine bI (c2) hE ?_; rintro _ rfl; (try dsimp only [flat, D.plain, D.plainL])) | (apply aM; refine bI (c3) hE ?_; rintro _ rfl; (try dsimp only [flat, D.plain, D.plainL])) | (apply aM; refine bI (c4) hE ?_; rintro _ rfl; (try dsimp only [flat, D.plain, D.plainL])) | (apply kG; refine nQ ?_) | (apply aU; refine bA ?_) | (apply aV; refine bE ?_) | (apply aR (.buildSlice _ _ _); first | refine dK zj rfl zx zk rfl (aC rfl) (aA rfl) ?_ | refine eQ zj rfl zd ze zk zg zg (aA rfl) ?_) | (apply aR (.alloc _); refine rI zj rfl zk rfl (aA rfl) rfl rfl rfl ?_) | (apply aR (.store _ _ _); first | refine dU zj rfl rfl rfl (dR rfl) nofun zk zo (.inl ⟨rfl, rfl⟩) rfl (aC rfl) zk ?_ | refine dU zj rfl rfl rfl (dR rfl) nofun zk zo (.inr rfl) rfl (aC rfl) zk ?_) | (refine mQ ?_ ?_ <;> intro hb hq <;> try omega))
 simp only [tailed, List.filterMap_cons, List.filterMap_nil, List.getElem?_cons_zero, List.getElem?_cons_succ]
 repeat' (first | refine np ?_ | refine vd ?_ | fail)
 refine aP (txtO) (by rfl) rv (⟨rfl, rfl⟩) sb okx
theorem aEp  (l : List SBal) (hl : l.length ≤ 30000) (hs : ∀ x ∈ l, (SBal.text x).size ≤ 10000000) (hp : ∀ x ∈ l, ∀ t, t = SBal.text x → ObC 114 [.d (.agg x.c), .box 1002 0] txtO [] (fun r o => r = .d (.str t) ∧ o = txtO)) : ObC 113 [.d (.list 4 (l.map SBal.c)), .clo (.func 114) [.box 1002 0]] txtO [] (fun r o => r = .d (.str (listT SBal.text l)) ∧ o = txtO) := by
 have hb := fun j => gW (T := SBal.text) j hl hs
 have hm : (l.map SBal.c).length = l.length := List.length_map ..
 have hz := fW (n := (l.length : Int)) ⟨by omega, by omega⟩
 have c0 := gM (l.length : Int) zb zb
 have c00 := bH false 0 [] (numW l.length) jv
 rw [← fT (T := SBal.text) (l := l)] at c00
 refine aI Tryz.func113 rfl zg _ Tryz.ntmps113 (aC rfl) rfl (fun w Pr β κ hE => ?_)
 dsimp only [slotsV, Nat.zero_add, Nat.reduceAdd]
 repeat' (first | refine xn ?_ | refine xz ?_ | (refine sQ ?_ ?_ <;> intro hb hq <;> try omega))
 refine eV 5 1 6 5 1 rfl rfl rfl (aA rfl) rfl rfl ?_
 repeat' (first | refine kQ (c0) hE ?_ | refine oQ [(1000, 5), (1001, 6)] (c00) hE ?_ | refine vh ?_ | refine vk ?_ | (refine sQ ?_ ?_ <;> intro hb hq <;> try omega))
 clear c0 c00 hz
 refine bB (fun N sl ob => ∃ j k : Nat, N = l.length - j ∧ j ≤ l.length ∧ sl = [(14, .d (.int j)), (13, .d (.int l.length)), (12, .d (.list 4 (l.map SBal.c))), (5, .box 5 0), (1, .clo (.func 114) [.box 1002 0])] ∧ ob = [(5, .box 244 [.box 5 0, .row 6 k]), (6, .row 5 1 k (byteD (preT SBal.text l j)))]++ txtO) (⟨0, 1, rfl, Nat.zero_le _, rfl, rfl⟩) ?_
 rintro N sl ob ⟨j, k, rfl, hj, rfl, rfl⟩
 have hbj := hb j
 by_cases hlt : j < l.length
 ·have hg : (l.map SBal.c)[j]? = some (SBal.c l[j]) := by rw [bC hlt]
  have hm2 := List.getElem_mem hlt
  have hsz := hs _ hm2
  have c1 := hp _ hm2 _ rfl
  have c2 := bH true k (preT SBal.text l j) (SBal.text l[j]) zb
  rw [← fS hlt] at c2
  have qi : decide ((j : Int) < (l.length : Int)) = true := decide_eq_true zb
  generalize l[j] = x at *
  generalize SBal.text x = t at *
  clear hbj hb hsz hm2
  repeat' (first | (apply aB (.indexAddr _ _ _); refine aS hg ?_) | (apply aF; refine bN [(1002, 1002)] (c1) hE ?_; rintro _ _ ⟨rfl, rfl⟩ <;> (intro _ _ h1 h2; simp only [aO, Nat.reduceBEq, aG, aL, aH] at h1 h2; subst h1 h2)) | refine oQ [(1000, 5), (1001, 6)] (c2) hE ?_ | refine vg ?_ | refine vy ?_ | refine xi ?_ | (refine sQ ?_ ?_ <;> intro hb hq <;> try omega))
  repeat' (first | refine qn ?_ | (refine sQ ?_ ?_ <;> intro hb hq <;> try omega))
  refine bK (⟨j + 1, k + 1, rfl, by omega, rfl, rfl⟩) zb
 ·obtain rfl : j = l.length := by omega
  have c3 := eB k (preT SBal.text l l.length) iW
  rw [show (⟨(preT SBal.text l l.length).toArray⟩ : ByteArray) = listT SBal.text l by rw [gV]] at c3
  have qi : decide ((l.length : Int) < (l.length : Int)) = false := decide_eq_false zb
  repeat' (first | refine oQ [(1000, 5), (1001, 6)] (c3) hE ?_ | refine xm ?_ | (refine sQ ?_ ?_ <;> intro hb hq <;> try omega))
  refine aP (txtO) (by rfl) rv (⟨rfl, rfl⟩) sb okx
end
section
open Go.RowKit
section
variable {α : Type} {one : ByteArray → Bool → RS α}
theorem cF : ∀ (k : Nat) (r : ByteArray) (b : Bool), (numsS k r b).r.size ≤ r.size
 | 0, _, _ => Nat.le_refl _
 | k + 1, r, b => by
  have h1 := cF k (numS r b 59 0).r (numS r b 59 0).b
  have h2 := cJ (r := r) (b := b) (c := 59) (least := 0)
  simp only [numsS]
  omega
theorem eS (r : ByteArray) (b : Bool) : (intsS r b).r.size ≤ r.size := by
 have key : ∀ (k : Nat) (r : ByteArray) (b : Bool) (out : List Int), (itemsL oneInt k r b out).r.size ≤ r.size := by
  intro k
  induction k with
  | zero => intro r b out; exact Nat.le_refl _
  | succ k ih =>
   intro r b out
   simp only [itemsL]
   split
   ·exact Nat.le_refl _
   ·have h1 := ih (oneInt r b).r (oneInt r b).b (out ++ [(oneInt r b).v])
    have h2 := cJ (r := r) (b := b) (c := 59) (least := -9223372036854775808)
    exact Nat.le_trans h1 h2
 have h1 := uJ (itemsL oneInt (numS r b 91 0).v.toNat (numS r b 91 0).r (numS r b 91 0).b []).r (itemsL oneInt (numS r b 91 0).v.toNat (numS r b 91 0).r (numS r b 91 0).b []).b ⟨#[93]⟩
 have h2 := key (numS r b 91 0).v.toNat (numS r b 91 0).r (numS r b 91 0).b []
 have h3 := cJ (r := r) (b := b) (c := 91) (least := 0)
 exact Nat.le_trans h1 (Nat.le_trans h2 h3)
theorem kD (r : ByteArray) (b : Bool) : (intsS r b).v.length ≤ r.size + 1 := aGz oneInt zS r b
theorem tC (r : ByteArray) (b : Bool) : (textS r b).r.size ≤ r.size := by
 have h1 := cJ (r := r) (b := b) (c := 58) (least := 0)
 unfold textS
 dsimp only
 split
 ·exact Nat.zero_le _
 ·have h2 := uJ ((numS r b 58 0).r.extract (numS r b 58 0).v.toNat (numS r b 58 0).r.size) (numS r b 58 0).b ⟨#[44]⟩
  simp only [ByteArray.size_extract] at h2
  dsimp only
  omega
abbrev Les (one : ByteArray → Bool → RS α) : Prop := ∀ r b, (one r b).r.size ≤ r.size
theorem aEu (H : Les one) : ∀ (k : Nat) (r : ByteArray) (b : Bool) (out : List α), (manyL one k r b out).r.size ≤ r.size
 | 0, _, _, _ => Nat.le_refl _
 | k + 1, r, b, out => Nat.le_trans (aEu H k (one r b).r (one r b).b (out ++ [(one r b).v])) (H r b)
theorem cG (H : Les one) : Les (manyS one) := fun r b => by
 have h1 := cJ (r := r) (b := b) (c := 59) (least := 0)
 unfold manyS
 dsimp only
 split
 ·exact h1
 ·exact Nat.le_trans (aEu H _ _ _ _) h1
theorem aAc : ∀ (k : Nat) (r : ByteArray) (b : Bool) (out : List α), (manyL one k r b out).v.length = out.length + k
 | 0, _, _, _ => rfl
 | k + 1, r, b, out => by
  simp only [manyL]
  rw [aAc k, List.length_append, List.length_cons, List.length_nil]
  omega
theorem fR (r : ByteArray) (b : Bool) : (manyS one r b).v.length ≤ r.size := by
 have h1 := cJ (r := r) (b := b) (c := 59) (least := 0)
 have h2 := fQ (r := r) (b := b) (c := 59) (least := 0) (Int.le_refl _)
 unfold manyS
 dsimp only
 split
 ·exact Nat.zero_le _
 ·rw [aAc, List.length_nil]
  omega
theorem aAb {P : α → Prop} {n : Nat} (H : Les one) (hP : ∀ r b, r.size ≤ n → P (one r b).v) : ∀ (k : Nat) (r : ByteArray) (b : Bool) (out : List α), r.size ≤ n → (∀ x ∈ out, P x) → ∀ x ∈ (manyL one k r b out).v, P x
 | 0, _, _, _, _, h => h
 | k + 1, r, b, out, hr, h => by
  simp only [manyL]
  refine aAb H hP k _ _ _ (Nat.le_trans (H r b) hr) fun x hx => ?_
  rcases List.mem_append.1 hx with hx | hx
  ·exact h x hx
  ·rw [List.mem_singleton.1 hx]
   exact hP r b hr
theorem lI {P : α → Prop} {n : Nat} (H : Les one) (hP : ∀ r b, r.size ≤ n → P (one r b).v) (r : ByteArray) (b : Bool) (hr : r.size ≤ n) : ∀ x ∈ (manyS one r b).v, P x := by
 have h1 := cJ (r := r) (b := b) (c := 59) (least := 0)
 unfold manyS
 dsimp only
 split
 ·simp
 ·exact aAb H hP _ _ _ _ (Nat.le_trans h1 hr) (by simp)
end
theorem rO : Les arcS := fun r b => by
 have h1 := cF 2 r b
 have h2 := eS (numsS 2 r b).r (numsS 2 r b).b
 have h3 := eS (intsS (numsS 2 r b).r (numsS 2 r b).b).r (intsS (numsS 2 r b).r (numsS 2 r b).b).b
 unfold arcS
 dsimp only
 omega
theorem aIy : Les obsS := fun r b => cF 2 r b
theorem pO : Les seenS := cG aIy
theorem vL : Les carS := fun r b => cF 9 r b
theorem tB : Les stopS := fun r b => Nat.le_trans cJ (cF 1 r b)
theorem vP : Les legS := fun r b => cF 2 r b
theorem pH : Les planS := fun r b => by
 have h1 := cF 1 r b
 unfold planS
 dsimp only
 generalize numsS 1 r b = q at *
 have h2 := cG tB q.r q.b
 generalize manyS stopS q.r q.b = x at *
 have h3 := cG vP x.r x.b
 generalize manyS legS x.r x.b = y at *
 have h4 := eS y.r y.b
 omega
theorem sN : Les promS := fun r b => by
 have h1 := cF 10 r b
 unfold promS
 dsimp only
 generalize numsS 10 r b = q at *
 have h2 := cJ (r := q.r) (b := q.b) (c := 59) (least := -9223372036854775808)
 generalize numS q.r q.b 59 (-9223372036854775808) = x at *
 have h3 := cF 4 x.r x.b
 omega
theorem tD : Les verS := fun r b => by
 have h1 := cF 1 r b
 unfold verS
 dsimp only
 generalize numsS 1 r b = q at *
 have h2 := tC q.r q.b
 omega
theorem aAq : Les shareS := fun r b => cF 2 r b
theorem rS : Les cardS := fun r b => by
 have h1 := cF 1 r b
 unfold cardS
 dsimp only
 generalize numsS 1 r b = q at *
 have h2 := cG aAq q.r q.b
 omega
theorem vK : Les balS := fun r b => by
 have h1 := tC r b
 unfold balS
 dsimp only
 generalize textS r b = x at *
 have h2 := cF 1 x.r x.b
 generalize numsS 1 x.r x.b = q at *
 have h3 := cG rS q.r q.b
 generalize manyS cardS q.r q.b = y at *
 have h4 := cJ (r := y.r) (b := y.b) (c := 59) (least := 0)
 omega
theorem qJ {t : ByteArray} (ht : t.size ≤ 900000) : (stateS t).v.ok := by
 unfold stateS
 dsimp only
 have z0 := cF 1 t false
 generalize numsS 1 t false = q at *
 have z1 := cG rO q.r q.b
 have l1 := fR (one := arcS) q.r q.b
 have p1 := lI (P := fun a : SArc => a.lo.length ≤ 1000000 ∧ a.hi.length ≤ 1000000) (n := 900000) rO (fun r b hr => by
  have h1 := cF 2 r b
  have h2 := kD (numsS 2 r b).r (numsS 2 r b).b
  have h3 := eS (numsS 2 r b).r (numsS 2 r b).b
  have h4 := kD (intsS (numsS 2 r b).r (numsS 2 r b).b).r (intsS (numsS 2 r b).r (numsS 2 r b).b).b
  unfold arcS
  dsimp only
  omega) q.r q.b zb
 generalize manyS arcS q.r q.b = a at *
 have z2 := cG pO a.r a.b
 have l2 := fR (one := seenS) a.r a.b
 have p2 := lI (P := fun l : List SObs => l.length ≤ 1000000) (n := 900000) pO (fun r b hr => by
  have h1 := fR (one := obsS) r b
  unfold seenS
  omega) a.r a.b zb
 generalize manyS seenS a.r a.b = s at *
 have z3 := cG vL s.r s.b
 have l3 := fR (one := carS) s.r s.b
 generalize manyS carS s.r s.b = c at *
 have z4 := cG pH c.r c.b
 have l4 := fR (one := planS) c.r c.b
 have p4 := lI (P := fun p : SPlan => p.ok) (n := 900000) pH (fun r b hr => by
  unfold planS
  dsimp only
  have h1 := cF 1 r b
  generalize numsS 1 r b = q at *
  have h2 := fR (one := stopS) q.r q.b
  have h3 := cG tB q.r q.b
  generalize manyS stopS q.r q.b = x at *
  have h4 := fR (one := legS) x.r x.b
  have h5 := cG vP x.r x.b
  generalize manyS legS x.r x.b = y at *
  have h6 := kD y.r y.b
  exact ⟨by dsimp only; omega, by dsimp only; omega, by dsimp only; omega⟩) c.r c.b zb
 generalize manyS planS c.r c.b = p at *
 have z5 := eS p.r p.b
 have l5 := kD p.r p.b
 generalize intsS p.r p.b = d at *
 have z6 := eS d.r d.b
 have l6 := kD d.r d.b
 generalize intsS d.r d.b = e at *
 have z7 := cG sN e.r e.b
 have l7 := fR (one := promS) e.r e.b
 generalize manyS promS e.r e.b = m at *
 have z8 := eS m.r m.b
 have l8 := kD m.r m.b
 generalize intsS m.r m.b = u at *
 have z9 := cF 6 u.r u.b
 generalize numsS 6 u.r u.b = o at *
 have z10 := eS o.r o.b
 have l10 := kD o.r o.b
 generalize intsS o.r o.b = f at *
 have z11 := cG tD f.r f.b
 have l11 := fR (one := verS) f.r f.b
 have p11 := lI (P := fun v : SVer => v.t.size ≤ 1000000) (n := 900000) tD (fun r b hr => by
  have h1 := cF 1 r b
  have h2 := aGa (numsS 1 r b).r (numsS 1 r b).b
  unfold verS
  dsimp only
  omega) f.r f.b zb
 generalize manyS verS f.r f.b = v at *
 have l12 := fR (one := balS) v.r v.b
 have p12 := lI (P := fun b : SBal => b.ok) (n := 900000) vK (fun r b hr => by
  unfold balS
  dsimp only
  have h1 := tC r b
  have h2 := aGa r b
  generalize textS r b = x at *
  have h3 := cF 1 x.r x.b
  generalize numsS 1 x.r x.b = q at *
  have h4 := fR (one := cardS) q.r q.b
  have h5 := lI (P := fun c : SCard => c.sh.length ≤ 1000000) (n := 900000) rS (fun r b hr => by
   have h1 := cF 1 r b
   have h2 := fR (one := shareS) (numsS 1 r b).r (numsS 1 r b).b
   unfold cardS
   dsimp only
   omega) q.r q.b zb
  exact ⟨by dsimp only; omega, by dsimp only; omega, h5⟩) v.r v.b zb
 generalize manyS balS v.r v.b = l at *
 exact ⟨by dsimp only; omega, p1, by dsimp only; omega, p2, by dsimp only; omega, by dsimp only; omega, p4, by dsimp only; omega, by dsimp only; omega, by dsimp only; omega, by dsimp only; omega, by dsimp only; omega, by dsimp only; omega, p11, by dsimp only; omega, p12⟩
end
section
open Go.RowKit
section
variable {E : Entry} {sl : Slots} {ob : Objs} {ops : Array Oper} {rest : List Oper} {Q : Exit → Act → World → Prop} {d : Nat} {c : Operand} {T ty : TypeId} {p : String} {af : Array Edge}
theorem kE {f : FuncId} {caps : List V} {ob1 : Objs} {new : List Nat} {Post : V → Objs → Prop} {zs : List V} {xs : List Operand} {ats : Array TypeId} (l : List (Nat × Nat)) (hc : ObC f caps ob1 new Post) (hE : Fine E) (hK : ∀ x ob', Post x ob' → ∀ y ob2, x.ren l = y → renO l ob' ++ dropK ((keys ob1).map (rn l)) ob = ob2 → AL E ops rest Q ((d, y) :: sl) ob2) (hf : ev sl c = .clo (.func f) zs := by rfl) (hz : zs = V.renL l caps := by rfl) (hd : d < E.n := by exact aA rfl) (ha : ArgsV l sl ob xs [] := by (repeat (first | refine ArgsV.cons (.same _ _ rfl) ?_ | refine ArgsV.cons (.toD _ _ zn) ?_)); exact ArgsV.nil) (hL : Lends E sl ob l ob1 new := by refine ⟨?_, rfl, rfl, rfl, rfl⟩; repeat (first | exact cU | refine bY jq ?_)) : AL E ops (⟨some d, .call { callee := .value c, args := xs.toArray, argTypes := ats }, ty, p, af, none⟩ :: rest) Q sl ob := wF (args := []) l hc hf hz hE hd ha hL hK
end
abbrev rdc (r : ByteArray) (b : Bool) : O := .box 206 [.d (.str r), .d (.bool b)]
abbrev rdb : O := .box 85 [.box 1000 0]
def setD : List D → List Nat → List Int → List D
 | ds, o :: os, v :: vs => setD (ds.set o (.int v)) os vs
 | ds, _, _ => ds
theorem aEd {i j : Nat} (h : Nat.beq i j = false) : ∀ os : List Nat, V.hasL i (os.map (V.box j)) = false
 | [] => rfl
 | o :: os => by simp [V.hasL, V.has, h, aEd h os]
theorem aWq {ds : List D} {o : Nat} {z : D} (h : o < ds.length) : put (ds.map V.d) o [V.d z] = (ds.set o z).map V.d := by
 rw [List.set_eq_take_append_cons_drop, if_pos h]
 simp [put]
noncomputable def intoS : List Nat → List D → ByteArray → Bool → List D × ByteArray × Bool
 | [], ds, r, b => (ds, r, b)
 | o :: os, ds, r, b => intoS os (ds.set o (.int (numS r b 59 0).v)) (numS r b 59 0).r (numS r b 59 0).b
theorem aEj : ∀ (os : List Nat) (ds : List D) (r : ByteArray) (b : Bool), intoS os ds r b = (setD ds os (numsS os.length r b).v, (numsS os.length r b).r, (numsS os.length r b).b)
 | [], ds, r, b => rfl
 | o :: os, ds, r, b => by
  simp only [intoS, List.length_cons, numsS, setD]
  rw [aEj os]
theorem aWj {l : List Nat} {i : Nat} (h : i < l.length) (j : Nat) : (l.map (V.box j))[i]? = some (.box j l[i]) := by rw [bC h]
attribute [local irreducible] numS
theorem fB (os : List Nat) (ds : List D) (T : TypeId) (r : ByteArray) (b : Bool) (hr : r.size ≤ 1000000000) (hl : os.length ≤ 1000) (hos : ∀ o ∈ os, o < ds.length) : ObC 28 [.agg [.box 1000 0], .sl 1001 0 os.length] [(1000, rdc r b), (1001, .box 87 (os.map (V.box 1002))), (1002, .box T (ds.map V.d))] []
  (fun x o => x = .tup [] ∧ o = [(1000, rdc (numsS os.length r b).r (numsS os.length r b).b), (1002, .box T ((setD ds os (numsS os.length r b).v).map V.d))]) := by
 have hI := aEj os ds r b
 generalize numsS os.length r b = q at *
 obtain ⟨v, r2, b2⟩ := q
 dsimp only at hI ⊢
 generalize setD ds os v = ds2 at *
 have hbo : ∀ i, Nat.beq i 1002 = false → V.hasL i (os.map (V.box 1002)) = false := fun i h => aEd h os
 have h2 := hbo 2 rfl
 refine aI Tryz.func28 rfl zg _ Tryz.ntmps28 (aC rfl) rfl (fun w Pr β κ hE => ?_)
 dsimp only [slotsV, Nat.zero_add, Nat.reduceAdd]
 repeat' (first | (apply aB (.box _ _); refine aD (bR rfl nofun rfl (aA rfl) (by simp [noneOf, V.has, V.hasL, O.has, h2, aIm, iD]) rfl) rfl ?_) | refine vk ?_ | refine vv ?_ | (apply eN; refine fZ ?_) | (refine sQ ?_ ?_ <;> intro hb hq <;> try omega))
 clear h2 hbo
 refine bB (fun N sl ob => ∃ (i : Nat) (r' : ByteArray) (b' : Bool) (es : List D), N = os.length - i ∧ i ≤ os.length ∧ intoS (os.drop i) es r' b' = (ds2, r2, b2) ∧ es.length = ds.length ∧ r'.size ≤ 1000000000 ∧ sl = [(8, .d (.int i)), (7, .d (.int os.length)), (6, .sl 1001 0 os.length), (2, .box 2 0)] ∧ ob = [(2, rdb), (1000, rdc r' b'), (1001, .box 87 (os.map (V.box 1002))), (1002, .box T (es.map V.d))]) (⟨0, r, b, ds, rfl, Nat.zero_le _, hI, rfl, hr, rfl, rfl⟩) ?_
 rintro N sl ob ⟨i, r', b', es, rfl, hi, hI, he, hr', rfl, rfl⟩
 by_cases hlt : i < os.length
 ·have hg := aWj hlt 1002
  have ho := hos _ (List.getElem_mem hlt)
  rw [← he] at ho
  have hn := cJ (r := r') (b := b') (c := 59) (least := 0)
  have c1 := eF r' b' hr'
  rw [List.drop_eq_getElem_cons hlt] at hI
  simp only [intoS] at hI
  have qi : decide ((i : Int) < (os.length : Int)) = true := decide_eq_true zb
  generalize os[i] = o at *
  rcases hq : numS r' b' 59 0 with ⟨n, r3, b3⟩
  rw [hq] at c1 hI hn
  dsimp only at c1 hI hn
  have hp := aWq (z := D.int n) ho
  have hlm : o + 1 ≤ (es.map V.d).length := by rw [List.length_map]; exact ho
  repeat' (first | (apply aB (.indexAddr _ _ _); refine aK (mG (r := i) rfl rfl rfl zq hlt (by simp)) (aA rfl) ?_) | (apply aB (.load 87 _); refine aK (dA rfl rfl hg rfl) (aA rfl) ?_) | refine oQ [(1000, 1000)] (c1) hE ?_ | (apply aB (.store _ _ _); refine aD (aN (n := [.d (.int n)]) rfl rfl (dR rfl) nofun rfl zo (.inl ⟨rfl, rfl⟩) rfl hlm hp) rfl ?_) | refine qf ?_ | refine vl ?_ | refine vo ?_ | (refine sQ ?_ ?_ <;> intro hb hq <;> try omega))
  repeat' (first | refine qn ?_ | (refine sQ ?_ ?_ <;> intro hb hq <;> try omega))
  refine bK (⟨i + 1, r3, b3, es.set o (.int n), rfl, by omega, hI, by rw [List.length_set, he], by omega, rfl, rfl⟩) zb
 ·obtain rfl : i = os.length := by omega
  rw [List.drop_length] at hI
  simp only [intoS, Prod.mk.injEq] at hI
  obtain ⟨rfl, rfl, rfl⟩ := hI
  have qi : decide ((os.length : Int) < (os.length : Int)) = false := decide_eq_false zb
  repeat' (first | refine va ?_ | (refine sQ ?_ ?_ <;> intro hb hq <;> try omega))
  try refine qW ?_
  refine xP ([(1000, rdc r' b'), (1002, .box T (es.map V.d))]) (by rfl) (⟨rfl, rfl⟩) sb okx
theorem dS : ∀ (k : Nat) (r : ByteArray) (b : Bool), (numsS k r b).v.length = k
 | 0, _, _ => rfl
 | k + 1, r, b => by simp only [numsS, List.length_cons, dS k]
end
end Go.Proofs.YtaodngiigdbgeaaGreatDoor
