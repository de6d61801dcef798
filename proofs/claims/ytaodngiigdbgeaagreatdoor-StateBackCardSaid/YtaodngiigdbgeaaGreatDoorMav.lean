/-
  Conditions: none.
-/
import Derived.Test.YtaodngiigdbgeaaGreatDoorMaa
import Derived.Test.YtaodngiigdbgeaaGreatDoorMal
import Derived.Test.YtaodngiigdbgeaaGreatDoorMas
import Derived.Test.YtaodngiigdbgeaaGreatDoorMau
set_option maxHeartbeats 16000000
set_option maxRecDepth 20000
set_option linter.unusedSimpArgs false
set_option linter.unusedVariables false
namespace Go.Proofs.YtaodngiigdbgeaaGreatDoor
open Go.RowKit
def SArc.fine (a : SArc) : Bool := a.right && nodeQ [a.f, a.t]
def SCar.right (c : SCar) : Bool := (inQ 0 60 [c.se, c.ch, c.ba] && (inQ 0 c.fu [c.cg] && decide (c.fu ≤ 1000000))) && (inQ 0 3999 [c.ow] && (nodeQ [c.no] && (timeQ [c.re, c.en] && decide (c.re ≤ c.en))))
def SObs.right (o : SObs) : Bool := timeQ [o.s] && inQ 0 10000 [o.k]
def seenQ (l : List SObs) : Bool := decide ((l.length : Int) ≤ 10000) && l.all SObs.right
def SStop.right (m : Int) (s : SStop) : Bool := inQ 0 (m - 1) [s.r]
def SLeg.right (l : SLeg) : Bool := inQ 0 l.h [l.l] && decide (l.h ≤ 1048576)
def SPlan.right (m : Int) (car : Int) (p : SPlan) : Bool := decide (p.car = car) && (decide ((p.st.length : Int) ≤ 80) && (decide ((p.le.length : Int) = p.st.length) && (decide ((p.lv.length : Int) = p.st.length + 1) && (p.st.all (SStop.right m) && (p.le.all SLeg.right && timeQ p.lv)))))
def SShare.right (s : SShare) : Bool := inQ 1 20 [s.x] && inQ 0 2147483646 [s.y]
def SCard.right (m : Int) (c : SCard) : Bool := inQ 0 (m - 1) [c.me] && (decide ((c.sh.length : Int) ≤ 20) && c.sh.all SShare.right)
def SBal.right (m : Int) (b : SBal) : Bool := decide ((b.t.size : Int) ≤ 4000) && (timeQ [b.f] && (decide ((b.ca.length : Int) ≤ 4000) && b.ca.all (SCard.right m)))
def SProm.right (m cs vs : Int) (p : SProm) : Bool := (inQ 0 (m - 1) [p.q.me] && (nodeQ [p.q.f, p.q.t] && (timeQ [p.q.ea, p.q.la, p.q.du, p.q.ri] && (decide (p.q.ea ≤ p.q.la) && inQ 0 60 [p.q.se, p.q.ch, p.q.ba])))) && (inQ (-1) (cs - 1) [p.car] && (inQ 0 (vs - 1) [p.ve] && (inQ 0 1000000000000000 [p.fa, p.ow] && inQ 0 4 [p.sg])))
theorem mY {α : Type} {f : α → Bool} {l : List α} {x : α} (h : x ∈ l) (hf : f x = false) : l.all f = false := by
 rw [Bool.eq_false_iff, Ne, List.all_eq_true]
 intro hh
 rw [hh x h] at hf
 cases hf
abbrev nfun (f : Nat) : V := .d (.val (.func (.func f) #[] #[]))
theorem aDm  (x : SObs) (b : Bool) (hc : PureC 66 [.agg x.c] (· = .bool b)) : ObC 189 [.d (.agg x.c), .box 1005 0] ((1005, .box 122 [nfun 66]) :: ([])) [] (fun r o => r = .d (.bool (!b)) ∧ o = (1005, .box 122 [nfun 66]) :: ([])) := by
 refine aI Tryz.func189 rfl zg _ Tryz.ntmps189 (aC rfl) rfl (fun w Pr β κ hE => ?_)
 dsimp only [slotsV, Nat.zero_add, Nat.reduceAdd]
 repeat' (first | refine kQ (hc) hE ?_ | refine xh ?_ | refine xk ?_ | fail)
 refine aP (((1005, .box 122 [nfun 66]) :: ([]))) (by rfl) rv (⟨rfl, rfl⟩) sb okx
theorem aTd  (l : List SObs) (p : SObs → Bool) (hl : l.length ≤ 9223372036854775807) (hp : ∀ x ∈ l, ∀ b, b = p x → PureC 66 [.agg x.c] (· = .bool b)) : ObC 240 [.d (obsL l), .clo (.func 189) [.box 1005 0]] ((1005, .box 122 [nfun 66]) :: ([])) [] (fun r o => (∃ i, r = .d (.int i) ∧ decide (0 ≤ i) = !l.all p) ∧ o = (1005, .box 122 [nfun 66]) :: ([])) := by
 refine aI Tryz.func240 rfl zg _ Tryz.ntmps240 (aC rfl) rfl (fun w Pr β κ hE => ?_)
 dsimp only [slotsV, Nat.zero_add, Nat.reduceAdd]
 repeat' (first | refine qq ?_ | (refine sQ ?_ ?_ <;> intro hb hq <;> try omega))
 refine bB (fun N sl ob => ∃ i : Nat, N = l.length - i ∧ i ≤ l.length ∧ (l.take i).all p = true ∧ sl = [(8, .d (.int i)), (7, .d (.int l.length)), (1, .clo (.func 189) [.box 1005 0]), (0, .d (obsL l))] ∧ ob = (1005, .box 122 [nfun 66]) :: ([])) (⟨0, rfl, Nat.zero_le _, by simp, rfl, rfl⟩) ?_
 rintro N sl ob ⟨i, rfl, hi, hs, rfl, rfl⟩
 by_cases hlt : i < l.length
 ·have hg : (l.map SObs.c)[i]? = some (SObs.c l[i]) := by rw [bC hlt]
  have hnext := iS p hlt
  rw [hs, Bool.true_and] at hnext
  have hm := List.getElem_mem hlt
  have qi : decide ((i : Int) < (l.length : Int)) = true := decide_eq_true zb
  cases hT : p l[i]
  ·have hno := mY hm hT
   have hc := aDm (x := l[i]) (b := false) (hc := hp _ hm _ hT.symm)
   generalize l[i] = z at hg hc
   repeat' (first | (apply aB (.indexAddr _ _ _); refine aS hg ?_) | (apply aF; refine bN [(1005, 1005)] (hc) hE ?_; rintro _ _ ⟨rfl, rfl⟩ <;> (intro _ _ h1 h2; simp only [aO, Nat.reduceBEq, aG, aL, aH] at h1 h2; subst h1 h2)) | refine qq ?_ | (refine sQ ?_ ?_ <;> intro hb hq <;> try omega))
   refine aP (((1005, .box 122 [nfun 66]) :: ([]))) (by rfl) rv (⟨⟨i, rfl, by rw [hno]; exact decide_eq_true zb⟩, rfl⟩) sb okx
  ·rw [hT] at hnext
   have hc := aDm (x := l[i]) (b := true) (hc := hp _ hm _ hT.symm)
   generalize l[i] = z at hg hc
   repeat' (first | (apply aB (.indexAddr _ _ _); refine aS hg ?_) | (apply aF; refine bN [(1005, 1005)] (hc) hE ?_; rintro _ _ ⟨rfl, rfl⟩ <;> (intro _ _ h1 h2; simp only [aO, Nat.reduceBEq, aG, aL, aH] at h1 h2; subst h1 h2)) | refine qq ?_ | (refine sQ ?_ ?_ <;> intro hb hq <;> try omega))
   refine bK (⟨i + 1, rfl, by omega, hnext, rfl, rfl⟩) zb
 ·rw [List.take_of_length_le zb] at hs
  repeat' (first | refine qq ?_ | (refine sQ ?_ ?_ <;> intro hb hq <;> try omega))
  refine aP (((1005, .box 122 [nfun 66]) :: ([]))) (by rfl) rv (⟨⟨-1, rfl, by rw [hs]; rfl⟩, rfl⟩) sb okx
theorem aSo  (l : List SObs) (p : SObs → Bool) (hl : l.length ≤ 9223372036854775807) (hp : ∀ x ∈ l, ∀ b, b = p x → PureC 66 [.agg x.c] (· = .bool b)) : ObC 188 [.d (obsL l), .clo (.func 189) [.box 1005 0]] ((1005, .box 122 [nfun 66]) :: ([])) [] (fun r o => r = .d (.bool (!l.all p)) ∧ o = (1005, .box 122 [nfun 66]) :: ([])) := by
 have hc := aTd (l := l) (p := p) (hl := hl) (hp := hp)
 refine aI Tryz.func188 rfl zg _ Tryz.ntmps188 (aC rfl) rfl (fun w Pr β κ hE => ?_)
 dsimp only [slotsV, Nat.zero_add, Nat.reduceAdd]
 repeat' (first | (apply aF; refine cP [(1005, 1005)] (hc) hE ?_; rintro _ _ ⟨⟨r, rfl, hr⟩, rfl⟩ <;> (intro _ _ h1 h2; simp only [aO, Nat.reduceBEq, aG, aL, aH] at h1 h2; subst h1 h2)) | refine nx ?_ | refine xb ?_ | fail)
 refine aP (((1005, .box 122 [nfun 66]) :: ([]))) (by rfl) rv (⟨by rw [hr], rfl⟩) sb okx
theorem aSb  (l : List SObs) (p : SObs → Bool) (hl : l.length ≤ 9223372036854775807) (hp : ∀ x ∈ l, ∀ b, b = p x → PureC 66 [.agg x.c] (· = .bool b)) : ObC 68 [.d (obsL l), nfun 66] ([]) [] (fun r o => r = .d (.bool (l.all p)) ∧ o = ([])) := by
 have hc := aSo (l := l) (p := p) (hl := hl) (hp := hp)
 refine aI Tryz.func68 rfl zg _ Tryz.ntmps68 (aC rfl) rfl (fun w Pr β κ hE => ?_)
 dsimp only [slotsV, Nat.zero_add, Nat.reduceAdd]
 repeat' (first | (apply aB (.makeFunc _ _ _); refine aK (eC rfl) (aA rfl) ?_) | (apply aB (.box _ _); refine aD (bR rfl nofun rfl (aA rfl) rfl rfl) rfl ?_) | refine oQ [(1005, 3)] (hc) hE ?_ | refine qp ?_ | refine xe ?_ | fail)
 refine aP (([])) (by rfl) rv (⟨by simp, rfl⟩) sb okx
abbrev obsO : Objs := [(1006, .box 122 [nfun 66])]
theorem zC  (x : (List SObs)) (b : Bool) (hc : ObC 67 [.d (obsL x), .box 1006 0] obsO [] (fun r o => r = .d (.bool b) ∧ o = obsO)) : ObC 191 [.d (obsL x), .box 1005 0] ((1005, .box 124 [.clo (.func 67) [.box 1006 0]]) :: (obsO)) [] (fun r o => r = .d (.bool (!b)) ∧ o = (1005, .box 124 [.clo (.func 67) [.box 1006 0]]) :: (obsO)) := by
 refine aI Tryz.func191 rfl zg _ Tryz.ntmps191 (aC rfl) rfl (fun w Pr β κ hE => ?_)
 dsimp only [slotsV, Nat.zero_add, Nat.reduceAdd]
 repeat' (first | (apply aF; refine bN [(1006, 1006)] (hc) hE ?_; rintro _ _ ⟨rfl, rfl⟩ <;> (intro _ _ h1 h2; simp only [aO, Nat.reduceBEq, aG, aL, aH] at h1 h2; subst h1 h2)) | refine qo ?_ | refine xh ?_ | fail)
 refine aP (((1005, .box 124 [.clo (.func 67) [.box 1006 0]]) :: (obsO))) (by rfl) rv (⟨rfl, rfl⟩) sb okx
theorem aOf  (l : List (List SObs)) (p : (List SObs) → Bool) (hl : l.length ≤ 9223372036854775807) (hp : ∀ x ∈ l, ∀ b, b = p x → ObC 67 [.d (obsL x), .box 1006 0] obsO [] (fun r o => r = .d (.bool b) ∧ o = obsO)) : ObC 241 [.d (.list 1 (l.map seenC)), .clo (.func 191) [.box 1005 0]] ((1005, .box 124 [.clo (.func 67) [.box 1006 0]]) :: (obsO)) [] (fun r o => (∃ i, r = .d (.int i) ∧ decide (0 ≤ i) = !l.all p) ∧ o = (1005, .box 124 [.clo (.func 67) [.box 1006 0]]) :: (obsO)) := by
 refine aI Tryz.func241 rfl zg _ Tryz.ntmps241 (aC rfl) rfl (fun w Pr β κ hE => ?_)
 dsimp only [slotsV, Nat.zero_add, Nat.reduceAdd]
 repeat' (first | refine qq ?_ | (refine sQ ?_ ?_ <;> intro hb hq <;> try omega))
 refine bB (fun N sl ob => ∃ i : Nat, N = l.length - i ∧ i ≤ l.length ∧ (l.take i).all p = true ∧ sl = [(8, .d (.int i)), (7, .d (.int l.length)), (1, .clo (.func 191) [.box 1005 0]), (0, .d (.list 1 (l.map seenC)))] ∧ ob = (1005, .box 124 [.clo (.func 67) [.box 1006 0]]) :: (obsO)) (⟨0, rfl, Nat.zero_le _, by simp, rfl, rfl⟩) ?_
 rintro N sl ob ⟨i, rfl, hi, hs, rfl, rfl⟩
 by_cases hlt : i < l.length
 ·have hg : (l.map seenC)[i]? = some (seenC l[i]) := by rw [bC hlt]
  have hnext := iS p hlt
  rw [hs, Bool.true_and] at hnext
  have hm := List.getElem_mem hlt
  have qi : decide ((i : Int) < (l.length : Int)) = true := decide_eq_true zb
  cases hT : p l[i]
  ·have hno := mY hm hT
   have hc := zC (x := l[i]) (b := false) (hc := hp _ hm _ hT.symm)
   generalize l[i] = z at hg hc
   repeat' (first | (apply aB (.indexAddr _ _ _); refine aS hg ?_) | (apply aF; refine bN [(1005, 1005), (1006, 1006)] (hc) hE ?_; rintro _ _ ⟨rfl, rfl⟩ <;> (intro _ _ h1 h2; simp only [aO, Nat.reduceBEq, aG, aL, aH] at h1 h2; subst h1 h2)) | refine qq ?_ | (refine sQ ?_ ?_ <;> intro hb hq <;> try omega))
   refine aP (((1005, .box 124 [.clo (.func 67) [.box 1006 0]]) :: (obsO))) (by rfl) rv (⟨⟨i, rfl, by rw [hno]; exact decide_eq_true zb⟩, rfl⟩) sb okx
  ·rw [hT] at hnext
   have hc := zC (x := l[i]) (b := true) (hc := hp _ hm _ hT.symm)
   generalize l[i] = z at hg hc
   repeat' (first | (apply aB (.indexAddr _ _ _); refine aS hg ?_) | (apply aF; refine bN [(1005, 1005), (1006, 1006)] (hc) hE ?_; rintro _ _ ⟨rfl, rfl⟩ <;> (intro _ _ h1 h2; simp only [aO, Nat.reduceBEq, aG, aL, aH] at h1 h2; subst h1 h2)) | refine qq ?_ | (refine sQ ?_ ?_ <;> intro hb hq <;> try omega))
   refine bK (⟨i + 1, rfl, by omega, hnext, rfl, rfl⟩) zb
 ·rw [List.take_of_length_le zb] at hs
  repeat' (first | refine qq ?_ | (refine sQ ?_ ?_ <;> intro hb hq <;> try omega))
  refine aP (((1005, .box 124 [.clo (.func 67) [.box 1006 0]]) :: (obsO))) (by rfl) rv (⟨⟨-1, rfl, by rw [hs]; rfl⟩, rfl⟩) sb okx
theorem aNp  (l : List (List SObs)) (p : (List SObs) → Bool) (hl : l.length ≤ 9223372036854775807) (hp : ∀ x ∈ l, ∀ b, b = p x → ObC 67 [.d (obsL x), .box 1006 0] obsO [] (fun r o => r = .d (.bool b) ∧ o = obsO)) : ObC 190 [.d (.list 1 (l.map seenC)), .clo (.func 191) [.box 1005 0]] ((1005, .box 124 [.clo (.func 67) [.box 1006 0]]) :: (obsO)) [] (fun r o => r = .d (.bool (!l.all p)) ∧ o = (1005, .box 124 [.clo (.func 67) [.box 1006 0]]) :: (obsO)) := by
 have hc := aOf (l := l) (p := p) (hl := hl) (hp := hp)
 refine aI Tryz.func190 rfl zg _ Tryz.ntmps190 (aC rfl) rfl (fun w Pr β κ hE => ?_)
 dsimp only [slotsV, Nat.zero_add, Nat.reduceAdd]
 repeat' (first | (apply aF; refine cP [(1005, 1005), (1006, 1006)] (hc) hE ?_; rintro _ _ ⟨⟨r, rfl, hr⟩, rfl⟩ <;> (intro _ _ h1 h2; simp only [aO, Nat.reduceBEq, aG, aL, aH] at h1 h2; subst h1 h2)) | refine nx ?_ | refine xb ?_ | fail)
 refine aP (((1005, .box 124 [.clo (.func 67) [.box 1006 0]]) :: (obsO))) (by rfl) rv (⟨by rw [hr], rfl⟩) sb okx
theorem aMu  (l : List (List SObs)) (p : (List SObs) → Bool) (hl : l.length ≤ 9223372036854775807) (hp : ∀ x ∈ l, ∀ b, b = p x → ObC 67 [.d (obsL x), .box 1006 0] obsO [] (fun r o => r = .d (.bool b) ∧ o = obsO)) : ObC 69 [.d (.list 1 (l.map seenC)), .clo (.func 67) [.box 1006 0]] (obsO) [] (fun r o => r = .d (.bool (l.all p)) ∧ o = (obsO)) := by
 have hc := aNp (l := l) (p := p) (hl := hl) (hp := hp)
 refine aI Tryz.func69 rfl zg _ Tryz.ntmps69 (aC rfl) rfl (fun w Pr β κ hE => ?_)
 dsimp only [slotsV, Nat.zero_add, Nat.reduceAdd]
 repeat' (first | (apply aB (.makeFunc _ _ _); refine aK (eC rfl) (aA rfl) ?_) | (apply aB (.box _ _); refine aD (bR rfl nofun rfl (aA rfl) rfl rfl) rfl ?_) | refine oQ [(1005, 3), (1006, 1006)] (hc) hE ?_ | refine qp ?_ | refine xe ?_ | fail)
 refine aP ((obsO)) (by rfl) rv (⟨by simp, rfl⟩) sb okx
theorem aDi  (x : SArc) (b : Bool) (hc : PureC 60 [.agg x.c] (· = .bool b)) : ObC 197 [.d (.agg x.c), .box 1005 0] ((1005, .box 49 [nfun 60]) :: ([])) [] (fun r o => r = .d (.bool (!b)) ∧ o = (1005, .box 49 [nfun 60]) :: ([])) := by
 refine aI Tryz.func197 rfl zg _ Tryz.ntmps197 (aC rfl) rfl (fun w Pr β κ hE => ?_)
 dsimp only [slotsV, Nat.zero_add, Nat.reduceAdd]
 repeat' (first | refine kQ (hc) hE ?_ | refine xh ?_ | refine xk ?_ | fail)
 refine aP (((1005, .box 49 [nfun 60]) :: ([]))) (by rfl) rv (⟨rfl, rfl⟩) sb okx
theorem aSz  (l : List SArc) (p : SArc → Bool) (hl : l.length ≤ 9223372036854775807) (hp : ∀ x ∈ l, ∀ b, b = p x → PureC 60 [.agg x.c] (· = .bool b)) : ObC 246 [.d (.list 4 (l.map SArc.c)), .clo (.func 197) [.box 1005 0]] ((1005, .box 49 [nfun 60]) :: ([])) [] (fun r o => (∃ i, r = .d (.int i) ∧ decide (0 ≤ i) = !l.all p) ∧ o = (1005, .box 49 [nfun 60]) :: ([])) := by
 refine aI Tryz.func246 rfl zg _ Tryz.ntmps246 (aC rfl) rfl (fun w Pr β κ hE => ?_)
 dsimp only [slotsV, Nat.zero_add, Nat.reduceAdd]
 repeat' (first | refine qq ?_ | (refine sQ ?_ ?_ <;> intro hb hq <;> try omega))
 refine bB (fun N sl ob => ∃ i : Nat, N = l.length - i ∧ i ≤ l.length ∧ (l.take i).all p = true ∧ sl = [(8, .d (.int i)), (7, .d (.int l.length)), (1, .clo (.func 197) [.box 1005 0]), (0, .d (.list 4 (l.map SArc.c)))] ∧ ob = (1005, .box 49 [nfun 60]) :: ([])) (⟨0, rfl, Nat.zero_le _, by simp, rfl, rfl⟩) ?_
 rintro N sl ob ⟨i, rfl, hi, hs, rfl, rfl⟩
 by_cases hlt : i < l.length
 ·have hg : (l.map SArc.c)[i]? = some (SArc.c l[i]) := by rw [bC hlt]
  have hnext := iS p hlt
  rw [hs, Bool.true_and] at hnext
  have hm := List.getElem_mem hlt
  have qi : decide ((i : Int) < (l.length : Int)) = true := decide_eq_true zb
  cases hT : p l[i]
  ·have hno := mY hm hT
   have hc := aDi (x := l[i]) (b := false) (hc := hp _ hm _ hT.symm)
   generalize l[i] = z at hg hc
   repeat' (first | (apply aB (.indexAddr _ _ _); refine aS hg ?_) | (apply aF; refine bN [(1005, 1005)] (hc) hE ?_; rintro _ _ ⟨rfl, rfl⟩ <;> (intro _ _ h1 h2; simp only [aO, Nat.reduceBEq, aG, aL, aH] at h1 h2; subst h1 h2)) | refine qq ?_ | (refine sQ ?_ ?_ <;> intro hb hq <;> try omega))
   refine aP (((1005, .box 49 [nfun 60]) :: ([]))) (by rfl) rv (⟨⟨i, rfl, by rw [hno]; exact decide_eq_true zb⟩, rfl⟩) sb okx
  ·rw [hT] at hnext
   have hc := aDi (x := l[i]) (b := true) (hc := hp _ hm _ hT.symm)
   generalize l[i] = z at hg hc
   repeat' (first | (apply aB (.indexAddr _ _ _); refine aS hg ?_) | (apply aF; refine bN [(1005, 1005)] (hc) hE ?_; rintro _ _ ⟨rfl, rfl⟩ <;> (intro _ _ h1 h2; simp only [aO, Nat.reduceBEq, aG, aL, aH] at h1 h2; subst h1 h2)) | refine qq ?_ | (refine sQ ?_ ?_ <;> intro hb hq <;> try omega))
   refine bK (⟨i + 1, rfl, by omega, hnext, rfl, rfl⟩) zb
 ·rw [List.take_of_length_le zb] at hs
  repeat' (first | refine qq ?_ | (refine sQ ?_ ?_ <;> intro hb hq <;> try omega))
  refine aP (((1005, .box 49 [nfun 60]) :: ([]))) (by rfl) rv (⟨⟨-1, rfl, by rw [hs]; rfl⟩, rfl⟩) sb okx
theorem aSk  (l : List SArc) (p : SArc → Bool) (hl : l.length ≤ 9223372036854775807) (hp : ∀ x ∈ l, ∀ b, b = p x → PureC 60 [.agg x.c] (· = .bool b)) : ObC 196 [.d (.list 4 (l.map SArc.c)), .clo (.func 197) [.box 1005 0]] ((1005, .box 49 [nfun 60]) :: ([])) [] (fun r o => r = .d (.bool (!l.all p)) ∧ o = (1005, .box 49 [nfun 60]) :: ([])) := by
 have hc := aSz (l := l) (p := p) (hl := hl) (hp := hp)
 refine aI Tryz.func196 rfl zg _ Tryz.ntmps196 (aC rfl) rfl (fun w Pr β κ hE => ?_)
 dsimp only [slotsV, Nat.zero_add, Nat.reduceAdd]
 repeat' (first | (apply aF; refine cP [(1005, 1005)] (hc) hE ?_; rintro _ _ ⟨⟨r, rfl, hr⟩, rfl⟩ <;> (intro _ _ h1 h2; simp only [aO, Nat.reduceBEq, aG, aL, aH] at h1 h2; subst h1 h2)) | refine nx ?_ | refine xb ?_ | fail)
 refine aP (((1005, .box 49 [nfun 60]) :: ([]))) (by rfl) rv (⟨by rw [hr], rfl⟩) sb okx
theorem aRx  (l : List SArc) (p : SArc → Bool) (hl : l.length ≤ 9223372036854775807) (hp : ∀ x ∈ l, ∀ b, b = p x → PureC 60 [.agg x.c] (· = .bool b)) : ObC 72 [.d (.list 4 (l.map SArc.c)), nfun 60] ([]) [] (fun r o => r = .d (.bool (l.all p)) ∧ o = ([])) := by
 have hc := aSk (l := l) (p := p) (hl := hl) (hp := hp)
 refine aI Tryz.func72 rfl zg _ Tryz.ntmps72 (aC rfl) rfl (fun w Pr β κ hE => ?_)
 dsimp only [slotsV, Nat.zero_add, Nat.reduceAdd]
 repeat' (first | (apply aB (.makeFunc _ _ _); refine aK (eC rfl) (aA rfl) ?_) | (apply aB (.box _ _); refine aD (bR rfl nofun rfl (aA rfl) rfl rfl) rfl ?_) | refine oQ [(1005, 3)] (hc) hE ?_ | refine qp ?_ | refine xe ?_ | fail)
 refine aP (([])) (by rfl) rv (⟨by simp, rfl⟩) sb okx
theorem aDk  (x : SCar) (b : Bool) (hc : PureC 62 [.agg x.c] (· = .bool b)) : ObC 199 [.d (.agg x.c), .box 1005 0] ((1005, .box 119 [nfun 62]) :: ([])) [] (fun r o => r = .d (.bool (!b)) ∧ o = (1005, .box 119 [nfun 62]) :: ([])) := by
 refine aI Tryz.func199 rfl zg _ Tryz.ntmps199 (aC rfl) rfl (fun w Pr β κ hE => ?_)
 dsimp only [slotsV, Nat.zero_add, Nat.reduceAdd]
 repeat' (first | refine kQ (hc) hE ?_ | refine xh ?_ | refine xk ?_ | fail)
 refine aP (((1005, .box 119 [nfun 62]) :: ([]))) (by rfl) rv (⟨rfl, rfl⟩) sb okx
theorem aTb  (l : List SCar) (p : SCar → Bool) (hl : l.length ≤ 9223372036854775807) (hp : ∀ x ∈ l, ∀ b, b = p x → PureC 62 [.agg x.c] (· = .bool b)) : ObC 247 [.d (.list 9 (l.map SCar.c)), .clo (.func 199) [.box 1005 0]] ((1005, .box 119 [nfun 62]) :: ([])) [] (fun r o => (∃ i, r = .d (.int i) ∧ decide (0 ≤ i) = !l.all p) ∧ o = (1005, .box 119 [nfun 62]) :: ([])) := by
 refine aI Tryz.func247 rfl zg _ Tryz.ntmps247 (aC rfl) rfl (fun w Pr β κ hE => ?_)
 dsimp only [slotsV, Nat.zero_add, Nat.reduceAdd]
 repeat' (first | refine qq ?_ | (refine sQ ?_ ?_ <;> intro hb hq <;> try omega))
 refine bB (fun N sl ob => ∃ i : Nat, N = l.length - i ∧ i ≤ l.length ∧ (l.take i).all p = true ∧ sl = [(8, .d (.int i)), (7, .d (.int l.length)), (1, .clo (.func 199) [.box 1005 0]), (0, .d (.list 9 (l.map SCar.c)))] ∧ ob = (1005, .box 119 [nfun 62]) :: ([])) (⟨0, rfl, Nat.zero_le _, by simp, rfl, rfl⟩) ?_
 rintro N sl ob ⟨i, rfl, hi, hs, rfl, rfl⟩
 by_cases hlt : i < l.length
 ·have hg : (l.map SCar.c)[i]? = some (SCar.c l[i]) := by rw [bC hlt]
  have hnext := iS p hlt
  rw [hs, Bool.true_and] at hnext
  have hm := List.getElem_mem hlt
  have qi : decide ((i : Int) < (l.length : Int)) = true := decide_eq_true zb
  cases hT : p l[i]
  ·have hno := mY hm hT
   have hc := aDk (x := l[i]) (b := false) (hc := hp _ hm _ hT.symm)
   generalize l[i] = z at hg hc
   repeat' (first | (apply aB (.indexAddr _ _ _); refine aS hg ?_) | (apply aF; refine bN [(1005, 1005)] (hc) hE ?_; rintro _ _ ⟨rfl, rfl⟩ <;> (intro _ _ h1 h2; simp only [aO, Nat.reduceBEq, aG, aL, aH] at h1 h2; subst h1 h2)) | refine qq ?_ | (refine sQ ?_ ?_ <;> intro hb hq <;> try omega))
   refine aP (((1005, .box 119 [nfun 62]) :: ([]))) (by rfl) rv (⟨⟨i, rfl, by rw [hno]; exact decide_eq_true zb⟩, rfl⟩) sb okx
  ·rw [hT] at hnext
   have hc := aDk (x := l[i]) (b := true) (hc := hp _ hm _ hT.symm)
   generalize l[i] = z at hg hc
   repeat' (first | (apply aB (.indexAddr _ _ _); refine aS hg ?_) | (apply aF; refine bN [(1005, 1005)] (hc) hE ?_; rintro _ _ ⟨rfl, rfl⟩ <;> (intro _ _ h1 h2; simp only [aO, Nat.reduceBEq, aG, aL, aH] at h1 h2; subst h1 h2)) | refine qq ?_ | (refine sQ ?_ ?_ <;> intro hb hq <;> try omega))
   refine bK (⟨i + 1, rfl, by omega, hnext, rfl, rfl⟩) zb
 ·rw [List.take_of_length_le zb] at hs
  repeat' (first | refine qq ?_ | (refine sQ ?_ ?_ <;> intro hb hq <;> try omega))
  refine aP (((1005, .box 119 [nfun 62]) :: ([]))) (by rfl) rv (⟨⟨-1, rfl, by rw [hs]; rfl⟩, rfl⟩) sb okx
theorem aSm  (l : List SCar) (p : SCar → Bool) (hl : l.length ≤ 9223372036854775807) (hp : ∀ x ∈ l, ∀ b, b = p x → PureC 62 [.agg x.c] (· = .bool b)) : ObC 198 [.d (.list 9 (l.map SCar.c)), .clo (.func 199) [.box 1005 0]] ((1005, .box 119 [nfun 62]) :: ([])) [] (fun r o => r = .d (.bool (!l.all p)) ∧ o = (1005, .box 119 [nfun 62]) :: ([])) := by
 have hc := aTb (l := l) (p := p) (hl := hl) (hp := hp)
 refine aI Tryz.func198 rfl zg _ Tryz.ntmps198 (aC rfl) rfl (fun w Pr β κ hE => ?_)
 dsimp only [slotsV, Nat.zero_add, Nat.reduceAdd]
 repeat' (first | (apply aF; refine cP [(1005, 1005)] (hc) hE ?_; rintro _ _ ⟨⟨r, rfl, hr⟩, rfl⟩ <;> (intro _ _ h1 h2; simp only [aO, Nat.reduceBEq, aG, aL, aH] at h1 h2; subst h1 h2)) | refine nx ?_ | refine xb ?_ | fail)
 refine aP (((1005, .box 119 [nfun 62]) :: ([]))) (by rfl) rv (⟨by rw [hr], rfl⟩) sb okx
theorem aRz  (l : List SCar) (p : SCar → Bool) (hl : l.length ≤ 9223372036854775807) (hp : ∀ x ∈ l, ∀ b, b = p x → PureC 62 [.agg x.c] (· = .bool b)) : ObC 73 [.d (.list 9 (l.map SCar.c)), nfun 62] ([]) [] (fun r o => r = .d (.bool (l.all p)) ∧ o = ([])) := by
 have hc := aSm (l := l) (p := p) (hl := hl) (hp := hp)
 refine aI Tryz.func73 rfl zg _ Tryz.ntmps73 (aC rfl) rfl (fun w Pr β κ hE => ?_)
 dsimp only [slotsV, Nat.zero_add, Nat.reduceAdd]
 repeat' (first | (apply aB (.makeFunc _ _ _); refine aK (eC rfl) (aA rfl) ?_) | (apply aB (.box _ _); refine aD (bR rfl nofun rfl (aA rfl) rfl rfl) rfl ?_) | refine oQ [(1005, 3)] (hc) hE ?_ | refine qp ?_ | refine xe ?_ | fail)
 refine aP (([])) (by rfl) rv (⟨by simp, rfl⟩) sb okx
abbrev intO (m : Int) : Objs := [(1006, .box 3 [.d (.int m)])]
abbrev prmO (m : Int) (s : SSt) : Objs := [(1006, .box 3 [.d (.int m)]), (1007, s.b)]
theorem aDn (m : Int) (s : SSt) (x : SProm) (b : Bool) (hc : ObC 64 [.d (.agg x.c), .box 1006 0, .box 1007 0] (prmO m s) [] (fun r o => r = .d (.bool b) ∧ o = prmO m s)) : ObC 201 [.d (.agg x.c), .box 1005 0] ((1005, .box 120 [.clo (.func 64) [.box 1006 0, .box 1007 0]]) :: (prmO m s)) [] (fun r o => r = .d (.bool (!b)) ∧ o = (1005, .box 120 [.clo (.func 64) [.box 1006 0, .box 1007 0]]) :: (prmO m s)) := by
 refine aI Tryz.func201 rfl zg _ Tryz.ntmps201 (aC rfl) rfl (fun w Pr β κ hE => ?_)
 dsimp only [slotsV, Nat.zero_add, Nat.reduceAdd]
 repeat' (first | (apply aF; refine bN [(1006, 1006), (1007, 1007)] (hc) hE ?_; rintro _ _ ⟨rfl, rfl⟩ <;> (intro _ _ h1 h2; simp only [aO, Nat.reduceBEq, aG, aL, aH] at h1 h2; subst h1 h2)) | refine xh ?_ | refine xk ?_ | fail)
 refine aP (((1005, .box 120 [.clo (.func 64) [.box 1006 0, .box 1007 0]]) :: (prmO m s))) (by rfl) rv (⟨rfl, rfl⟩) sb okx
theorem aTe (m : Int) (s : SSt) (l : List SProm) (p : SProm → Bool) (hl : l.length ≤ 9223372036854775807) (hp : ∀ x ∈ l, ∀ b, b = p x → ObC 64 [.d (.agg x.c), .box 1006 0, .box 1007 0] (prmO m s) [] (fun r o => r = .d (.bool b) ∧ o = prmO m s)) : ObC 248 [.d (.list 15 (l.map SProm.c)), .clo (.func 201) [.box 1005 0]] ((1005, .box 120 [.clo (.func 64) [.box 1006 0, .box 1007 0]]) :: (prmO m s)) [] (fun r o => (∃ i, r = .d (.int i) ∧ decide (0 ≤ i) = !l.all p) ∧ o = (1005, .box 120 [.clo (.func 64) [.box 1006 0, .box 1007 0]]) :: (prmO m s)) := by
 refine aI Tryz.func248 rfl zg _ Tryz.ntmps248 (aC rfl) rfl (fun w Pr β κ hE => ?_)
 dsimp only [slotsV, Nat.zero_add, Nat.reduceAdd]
 repeat' (first | refine qq ?_ | (refine sQ ?_ ?_ <;> intro hb hq <;> try omega))
 refine bB (fun N sl ob => ∃ i : Nat, N = l.length - i ∧ i ≤ l.length ∧ (l.take i).all p = true ∧ sl = [(8, .d (.int i)), (7, .d (.int l.length)), (1, .clo (.func 201) [.box 1005 0]), (0, .d (.list 15 (l.map SProm.c)))] ∧ ob = (1005, .box 120 [.clo (.func 64) [.box 1006 0, .box 1007 0]]) :: (prmO m s)) (⟨0, rfl, Nat.zero_le _, by simp, rfl, rfl⟩) ?_
 rintro N sl ob ⟨i, rfl, hi, hs, rfl, rfl⟩
 by_cases hlt : i < l.length
 ·have hg : (l.map SProm.c)[i]? = some (SProm.c l[i]) := by rw [bC hlt]
  have hnext := iS p hlt
  rw [hs, Bool.true_and] at hnext
  have hm := List.getElem_mem hlt
  have qi : decide ((i : Int) < (l.length : Int)) = true := decide_eq_true zb
  cases hT : p l[i]
  ·have hno := mY hm hT
   have hc := aDn (x := l[i]) (b := false) (hc := hp _ hm _ hT.symm)
   generalize l[i] = z at hg hc
   repeat' (first | (apply aB (.indexAddr _ _ _); refine aS hg ?_) | (apply aF; refine bN [(1005, 1005), (1006, 1006), (1007, 1007)] (hc) hE ?_; rintro _ _ ⟨rfl, rfl⟩ <;> (intro _ _ h1 h2; simp only [aO, Nat.reduceBEq, aG, aL, aH] at h1 h2; subst h1 h2)) | refine qq ?_ | (refine sQ ?_ ?_ <;> intro hb hq <;> try omega))
   refine aP (((1005, .box 120 [.clo (.func 64) [.box 1006 0, .box 1007 0]]) :: (prmO m s))) (by rfl) rv (⟨⟨i, rfl, by rw [hno]; exact decide_eq_true zb⟩, rfl⟩) sb okx
  ·rw [hT] at hnext
   have hc := aDn (x := l[i]) (b := true) (hc := hp _ hm _ hT.symm)
   generalize l[i] = z at hg hc
   repeat' (first | (apply aB (.indexAddr _ _ _); refine aS hg ?_) | (apply aF; refine bN [(1005, 1005), (1006, 1006), (1007, 1007)] (hc) hE ?_; rintro _ _ ⟨rfl, rfl⟩ <;> (intro _ _ h1 h2; simp only [aO, Nat.reduceBEq, aG, aL, aH] at h1 h2; subst h1 h2)) | refine qq ?_ | (refine sQ ?_ ?_ <;> intro hb hq <;> try omega))
   refine bK (⟨i + 1, rfl, by omega, hnext, rfl, rfl⟩) zb
 ·rw [List.take_of_length_le zb] at hs
  repeat' (first | refine qq ?_ | (refine sQ ?_ ?_ <;> intro hb hq <;> try omega))
  refine aP (((1005, .box 120 [.clo (.func 64) [.box 1006 0, .box 1007 0]]) :: (prmO m s))) (by rfl) rv (⟨⟨-1, rfl, by rw [hs]; rfl⟩, rfl⟩) sb okx
theorem aSp (m : Int) (s : SSt) (l : List SProm) (p : SProm → Bool) (hl : l.length ≤ 9223372036854775807) (hp : ∀ x ∈ l, ∀ b, b = p x → ObC 64 [.d (.agg x.c), .box 1006 0, .box 1007 0] (prmO m s) [] (fun r o => r = .d (.bool b) ∧ o = prmO m s)) : ObC 200 [.d (.list 15 (l.map SProm.c)), .clo (.func 201) [.box 1005 0]] ((1005, .box 120 [.clo (.func 64) [.box 1006 0, .box 1007 0]]) :: (prmO m s)) [] (fun r o => r = .d (.bool (!l.all p)) ∧ o = (1005, .box 120 [.clo (.func 64) [.box 1006 0, .box 1007 0]]) :: (prmO m s)) := by
 have hc := aTe (l := l) (p := p) (hl := hl) (hp := hp)
 refine aI Tryz.func200 rfl zg _ Tryz.ntmps200 (aC rfl) rfl (fun w Pr β κ hE => ?_)
 dsimp only [slotsV, Nat.zero_add, Nat.reduceAdd]
 repeat' (first | (apply aF; refine cP [(1005, 1005), (1006, 1006), (1007, 1007)] (hc) hE ?_; rintro _ _ ⟨⟨r, rfl, hr⟩, rfl⟩ <;> (intro _ _ h1 h2; simp only [aO, Nat.reduceBEq, aG, aL, aH] at h1 h2; subst h1 h2)) | refine nx ?_ | refine xb ?_ | fail)
 refine aP (((1005, .box 120 [.clo (.func 64) [.box 1006 0, .box 1007 0]]) :: (prmO m s))) (by rfl) rv (⟨by rw [hr], rfl⟩) sb okx
theorem aSc (m : Int) (s : SSt) (l : List SProm) (p : SProm → Bool) (hl : l.length ≤ 9223372036854775807) (hp : ∀ x ∈ l, ∀ b, b = p x → ObC 64 [.d (.agg x.c), .box 1006 0, .box 1007 0] (prmO m s) [] (fun r o => r = .d (.bool b) ∧ o = prmO m s)) : ObC 74 [.d (.list 15 (l.map SProm.c)), .clo (.func 64) [.box 1006 0, .box 1007 0]] (prmO m s) [] (fun r o => r = .d (.bool (l.all p)) ∧ o = (prmO m s)) := by
 have hc := aSp (l := l) (p := p) (hl := hl) (hp := hp)
 refine aI Tryz.func74 rfl zg _ Tryz.ntmps74 (aC rfl) rfl (fun w Pr β κ hE => ?_)
 dsimp only [slotsV, Nat.zero_add, Nat.reduceAdd]
 repeat' (first | (apply aB (.makeFunc _ _ _); refine aK (eC rfl) (aA rfl) ?_) | (apply aB (.box _ _); refine aD (bR rfl nofun rfl (aA rfl) rfl rfl) rfl ?_) | refine oQ [(1005, 3), (1006, 1006), (1007, 1007)] (hc) hE ?_ | refine qp ?_ | refine xe ?_ | fail)
 refine aP ((prmO m s)) (by rfl) rv (⟨by simp, rfl⟩) sb okx
theorem zD (m : Int) (x : SStop) (b : Bool) (hc : ObC 184 [.d (.agg x.c), .box 1006 0] (intO m) [] (fun r o => r = .d (.bool b) ∧ o = intO m)) : ObC 237 [.d (.agg x.c), .box 1005 0] ((1005, .box 227 [.clo (.func 184) [.box 1006 0]]) :: (intO m)) [] (fun r o => r = .d (.bool (!b)) ∧ o = (1005, .box 227 [.clo (.func 184) [.box 1006 0]]) :: (intO m)) := by
 refine aI Tryz.func237 rfl zg _ Tryz.ntmps237 (aC rfl) rfl (fun w Pr β κ hE => ?_)
 dsimp only [slotsV, Nat.zero_add, Nat.reduceAdd]
 repeat' (first | (apply aF; refine bN [(1006, 1006)] (hc) hE ?_; rintro _ _ ⟨rfl, rfl⟩ <;> (intro _ _ h1 h2; simp only [aO, Nat.reduceBEq, aG, aL, aH] at h1 h2; subst h1 h2)) | refine xh ?_ | refine xk ?_ | fail)
 refine aP (((1005, .box 227 [.clo (.func 184) [.box 1006 0]]) :: (intO m))) (by rfl) rv (⟨rfl, rfl⟩) sb okx
theorem aOg (m : Int) (l : List SStop) (p : SStop → Bool) (hl : l.length ≤ 9223372036854775807) (hp : ∀ x ∈ l, ∀ b, b = p x → ObC 184 [.d (.agg x.c), .box 1006 0] (intO m) [] (fun r o => r = .d (.bool b) ∧ o = intO m)) : ObC 276 [.d (.list 2 (l.map SStop.c)), .clo (.func 237) [.box 1005 0]] ((1005, .box 227 [.clo (.func 184) [.box 1006 0]]) :: (intO m)) [] (fun r o => (∃ i, r = .d (.int i) ∧ decide (0 ≤ i) = !l.all p) ∧ o = (1005, .box 227 [.clo (.func 184) [.box 1006 0]]) :: (intO m)) := by
 refine aI Tryz.func276 rfl zg _ Tryz.ntmps276 (aC rfl) rfl (fun w Pr β κ hE => ?_)
 dsimp only [slotsV, Nat.zero_add, Nat.reduceAdd]
 repeat' (first | refine qq ?_ | (refine sQ ?_ ?_ <;> intro hb hq <;> try omega))
 refine bB (fun N sl ob => ∃ i : Nat, N = l.length - i ∧ i ≤ l.length ∧ (l.take i).all p = true ∧ sl = [(8, .d (.int i)), (7, .d (.int l.length)), (1, .clo (.func 237) [.box 1005 0]), (0, .d (.list 2 (l.map SStop.c)))] ∧ ob = (1005, .box 227 [.clo (.func 184) [.box 1006 0]]) :: (intO m)) (⟨0, rfl, Nat.zero_le _, by simp, rfl, rfl⟩) ?_
 rintro N sl ob ⟨i, rfl, hi, hs, rfl, rfl⟩
 by_cases hlt : i < l.length
 ·have hg : (l.map SStop.c)[i]? = some (SStop.c l[i]) := by rw [bC hlt]
  have hnext := iS p hlt
  rw [hs, Bool.true_and] at hnext
  have hm := List.getElem_mem hlt
  have qi : decide ((i : Int) < (l.length : Int)) = true := decide_eq_true zb
  cases hT : p l[i]
  ·have hno := mY hm hT
   have hc := zD (x := l[i]) (b := false) (hc := hp _ hm _ hT.symm)
   generalize l[i] = z at hg hc
   repeat' (first | (apply aB (.indexAddr _ _ _); refine aS hg ?_) | (apply aF; refine bN [(1005, 1005), (1006, 1006)] (hc) hE ?_; rintro _ _ ⟨rfl, rfl⟩ <;> (intro _ _ h1 h2; simp only [aO, Nat.reduceBEq, aG, aL, aH] at h1 h2; subst h1 h2)) | refine qq ?_ | (refine sQ ?_ ?_ <;> intro hb hq <;> try omega))
   refine aP (((1005, .box 227 [.clo (.func 184) [.box 1006 0]]) :: (intO m))) (by rfl) rv (⟨⟨i, rfl, by rw [hno]; exact decide_eq_true zb⟩, rfl⟩) sb okx
  ·rw [hT] at hnext
   have hc := zD (x := l[i]) (b := true) (hc := hp _ hm _ hT.symm)
   generalize l[i] = z at hg hc
   repeat' (first | (apply aB (.indexAddr _ _ _); refine aS hg ?_) | (apply aF; refine bN [(1005, 1005), (1006, 1006)] (hc) hE ?_; rintro _ _ ⟨rfl, rfl⟩ <;> (intro _ _ h1 h2; simp only [aO, Nat.reduceBEq, aG, aL, aH] at h1 h2; subst h1 h2)) | refine qq ?_ | (refine sQ ?_ ?_ <;> intro hb hq <;> try omega))
   refine bK (⟨i + 1, rfl, by omega, hnext, rfl, rfl⟩) zb
 ·rw [List.take_of_length_le zb] at hs
  repeat' (first | refine qq ?_ | (refine sQ ?_ ?_ <;> intro hb hq <;> try omega))
  refine aP (((1005, .box 227 [.clo (.func 184) [.box 1006 0]]) :: (intO m))) (by rfl) rv (⟨⟨-1, rfl, by rw [hs]; rfl⟩, rfl⟩) sb okx
theorem aNq (m : Int) (l : List SStop) (p : SStop → Bool) (hl : l.length ≤ 9223372036854775807) (hp : ∀ x ∈ l, ∀ b, b = p x → ObC 184 [.d (.agg x.c), .box 1006 0] (intO m) [] (fun r o => r = .d (.bool b) ∧ o = intO m)) : ObC 236 [.d (.list 2 (l.map SStop.c)), .clo (.func 237) [.box 1005 0]] ((1005, .box 227 [.clo (.func 184) [.box 1006 0]]) :: (intO m)) [] (fun r o => r = .d (.bool (!l.all p)) ∧ o = (1005, .box 227 [.clo (.func 184) [.box 1006 0]]) :: (intO m)) := by
 have hc := aOg (l := l) (p := p) (hl := hl) (hp := hp)
 refine aI Tryz.func236 rfl zg _ Tryz.ntmps236 (aC rfl) rfl (fun w Pr β κ hE => ?_)
 dsimp only [slotsV, Nat.zero_add, Nat.reduceAdd]
 repeat' (first | (apply aF; refine cP [(1005, 1005), (1006, 1006)] (hc) hE ?_; rintro _ _ ⟨⟨r, rfl, hr⟩, rfl⟩ <;> (intro _ _ h1 h2; simp only [aO, Nat.reduceBEq, aG, aL, aH] at h1 h2; subst h1 h2)) | refine nx ?_ | refine xb ?_ | fail)
 refine aP (((1005, .box 227 [.clo (.func 184) [.box 1006 0]]) :: (intO m))) (by rfl) rv (⟨by rw [hr], rfl⟩) sb okx
theorem aMv (m : Int) (l : List SStop) (p : SStop → Bool) (hl : l.length ≤ 9223372036854775807) (hp : ∀ x ∈ l, ∀ b, b = p x → ObC 184 [.d (.agg x.c), .box 1006 0] (intO m) [] (fun r o => r = .d (.bool b) ∧ o = intO m)) : ObC 186 [.d (.list 2 (l.map SStop.c)), .clo (.func 184) [.box 1006 0]] (intO m) [] (fun r o => r = .d (.bool (l.all p)) ∧ o = (intO m)) := by
 have hc := aNq (l := l) (p := p) (hl := hl) (hp := hp)
 refine aI Tryz.func186 rfl zg _ Tryz.ntmps186 (aC rfl) rfl (fun w Pr β κ hE => ?_)
 dsimp only [slotsV, Nat.zero_add, Nat.reduceAdd]
 repeat' (first | (apply aB (.makeFunc _ _ _); refine aK (eC rfl) (aA rfl) ?_) | (apply aB (.box _ _); refine aD (bR rfl nofun rfl (aA rfl) rfl rfl) rfl ?_) | refine oQ [(1005, 3), (1006, 1006)] (hc) hE ?_ | refine qp ?_ | refine xe ?_ | fail)
 refine aP ((intO m)) (by rfl) rv (⟨by simp, rfl⟩) sb okx
theorem aDl  (x : SLeg) (b : Bool) (hc : PureC 185 [.agg x.c] (· = .bool b)) : ObC 239 [.d (.agg x.c), .box 1005 0] ((1005, .box 228 [nfun 185]) :: ([])) [] (fun r o => r = .d (.bool (!b)) ∧ o = (1005, .box 228 [nfun 185]) :: ([])) := by
 refine aI Tryz.func239 rfl zg _ Tryz.ntmps239 (aC rfl) rfl (fun w Pr β κ hE => ?_)
 dsimp only [slotsV, Nat.zero_add, Nat.reduceAdd]
 repeat' (first | refine kQ (hc) hE ?_ | refine xh ?_ | refine xk ?_ | fail)
 refine aP (((1005, .box 228 [nfun 185]) :: ([]))) (by rfl) rv (⟨rfl, rfl⟩) sb okx
theorem aTc  (l : List SLeg) (p : SLeg → Bool) (hl : l.length ≤ 9223372036854775807) (hp : ∀ x ∈ l, ∀ b, b = p x → PureC 185 [.agg x.c] (· = .bool b)) : ObC 277 [.d (.list 2 (l.map SLeg.c)), .clo (.func 239) [.box 1005 0]] ((1005, .box 228 [nfun 185]) :: ([])) [] (fun r o => (∃ i, r = .d (.int i) ∧ decide (0 ≤ i) = !l.all p) ∧ o = (1005, .box 228 [nfun 185]) :: ([])) := by
 refine aI Tryz.func277 rfl zg _ Tryz.ntmps277 (aC rfl) rfl (fun w Pr β κ hE => ?_)
 dsimp only [slotsV, Nat.zero_add, Nat.reduceAdd]
 repeat' (first | refine qq ?_ | (refine sQ ?_ ?_ <;> intro hb hq <;> try omega))
 refine bB (fun N sl ob => ∃ i : Nat, N = l.length - i ∧ i ≤ l.length ∧ (l.take i).all p = true ∧ sl = [(8, .d (.int i)), (7, .d (.int l.length)), (1, .clo (.func 239) [.box 1005 0]), (0, .d (.list 2 (l.map SLeg.c)))] ∧ ob = (1005, .box 228 [nfun 185]) :: ([])) (⟨0, rfl, Nat.zero_le _, by simp, rfl, rfl⟩) ?_
 rintro N sl ob ⟨i, rfl, hi, hs, rfl, rfl⟩
 by_cases hlt : i < l.length
 ·have hg : (l.map SLeg.c)[i]? = some (SLeg.c l[i]) := by rw [bC hlt]
  have hnext := iS p hlt
  rw [hs, Bool.true_and] at hnext
  have hm := List.getElem_mem hlt
  have qi : decide ((i : Int) < (l.length : Int)) = true := decide_eq_true zb
  cases hT : p l[i]
  ·have hno := mY hm hT
   have hc := aDl (x := l[i]) (b := false) (hc := hp _ hm _ hT.symm)
   generalize l[i] = z at hg hc
   repeat' (first | (apply aB (.indexAddr _ _ _); refine aS hg ?_) | (apply aF; refine bN [(1005, 1005)] (hc) hE ?_; rintro _ _ ⟨rfl, rfl⟩ <;> (intro _ _ h1 h2; simp only [aO, Nat.reduceBEq, aG, aL, aH] at h1 h2; subst h1 h2)) | refine qq ?_ | (refine sQ ?_ ?_ <;> intro hb hq <;> try omega))
   refine aP (((1005, .box 228 [nfun 185]) :: ([]))) (by rfl) rv (⟨⟨i, rfl, by rw [hno]; exact decide_eq_true zb⟩, rfl⟩) sb okx
  ·rw [hT] at hnext
   have hc := aDl (x := l[i]) (b := true) (hc := hp _ hm _ hT.symm)
   generalize l[i] = z at hg hc
   repeat' (first | (apply aB (.indexAddr _ _ _); refine aS hg ?_) | (apply aF; refine bN [(1005, 1005)] (hc) hE ?_; rintro _ _ ⟨rfl, rfl⟩ <;> (intro _ _ h1 h2; simp only [aO, Nat.reduceBEq, aG, aL, aH] at h1 h2; subst h1 h2)) | refine qq ?_ | (refine sQ ?_ ?_ <;> intro hb hq <;> try omega))
   refine bK (⟨i + 1, rfl, by omega, hnext, rfl, rfl⟩) zb
 ·rw [List.take_of_length_le zb] at hs
  repeat' (first | refine qq ?_ | (refine sQ ?_ ?_ <;> intro hb hq <;> try omega))
  refine aP (((1005, .box 228 [nfun 185]) :: ([]))) (by rfl) rv (⟨⟨-1, rfl, by rw [hs]; rfl⟩, rfl⟩) sb okx
theorem aSn  (l : List SLeg) (p : SLeg → Bool) (hl : l.length ≤ 9223372036854775807) (hp : ∀ x ∈ l, ∀ b, b = p x → PureC 185 [.agg x.c] (· = .bool b)) : ObC 238 [.d (.list 2 (l.map SLeg.c)), .clo (.func 239) [.box 1005 0]] ((1005, .box 228 [nfun 185]) :: ([])) [] (fun r o => r = .d (.bool (!l.all p)) ∧ o = (1005, .box 228 [nfun 185]) :: ([])) := by
 have hc := aTc (l := l) (p := p) (hl := hl) (hp := hp)
 refine aI Tryz.func238 rfl zg _ Tryz.ntmps238 (aC rfl) rfl (fun w Pr β κ hE => ?_)
 dsimp only [slotsV, Nat.zero_add, Nat.reduceAdd]
 repeat' (first | (apply aF; refine cP [(1005, 1005)] (hc) hE ?_; rintro _ _ ⟨⟨r, rfl, hr⟩, rfl⟩ <;> (intro _ _ h1 h2; simp only [aO, Nat.reduceBEq, aG, aL, aH] at h1 h2; subst h1 h2)) | refine nx ?_ | refine xb ?_ | fail)
 refine aP (((1005, .box 228 [nfun 185]) :: ([]))) (by rfl) rv (⟨by rw [hr], rfl⟩) sb okx
theorem aSa  (l : List SLeg) (p : SLeg → Bool) (hl : l.length ≤ 9223372036854775807) (hp : ∀ x ∈ l, ∀ b, b = p x → PureC 185 [.agg x.c] (· = .bool b)) : ObC 187 [.d (.list 2 (l.map SLeg.c)), nfun 185] ([]) [] (fun r o => r = .d (.bool (l.all p)) ∧ o = ([])) := by
 have hc := aSn (l := l) (p := p) (hl := hl) (hp := hp)
 refine aI Tryz.func187 rfl zg _ Tryz.ntmps187 (aC rfl) rfl (fun w Pr β κ hE => ?_)
 dsimp only [slotsV, Nat.zero_add, Nat.reduceAdd]
 repeat' (first | (apply aB (.makeFunc _ _ _); refine aK (eC rfl) (aA rfl) ?_) | (apply aB (.box _ _); refine aD (bR rfl nofun rfl (aA rfl) rfl rfl) rfl ?_) | refine oQ [(1005, 3)] (hc) hE ?_ | refine qp ?_ | refine xe ?_ | fail)
 refine aP (([])) (by rfl) rv (⟨by simp, rfl⟩) sb okx
theorem wI  (x : SShare) (b : Bool) (hc : PureC 192 [.agg x.c] (· = .bool b)) : ObC 243 [.d (.agg x.c), .box 1005 0] ((1005, .box 231 [nfun 192]) :: ([])) [] (fun r o => r = .d (.bool (!b)) ∧ o = (1005, .box 231 [nfun 192]) :: ([])) := by
 refine aI Tryz.func243 rfl zg _ Tryz.ntmps243 (aC rfl) rfl (fun w Pr β κ hE => ?_)
 dsimp only [slotsV, Nat.zero_add, Nat.reduceAdd]
 repeat' (first | refine kQ (hc) hE ?_ | refine xh ?_ | refine xk ?_ | fail)
 refine aP (((1005, .box 231 [nfun 192]) :: ([]))) (by rfl) rv (⟨rfl, rfl⟩) sb okx
theorem aKu  (l : List SShare) (p : SShare → Bool) (hl : l.length ≤ 9223372036854775807) (hp : ∀ x ∈ l, ∀ b, b = p x → PureC 192 [.agg x.c] (· = .bool b)) : ObC 278 [.d (.list 2 (l.map SShare.c)), .clo (.func 243) [.box 1005 0]] ((1005, .box 231 [nfun 192]) :: ([])) [] (fun r o => (∃ i, r = .d (.int i) ∧ decide (0 ≤ i) = !l.all p) ∧ o = (1005, .box 231 [nfun 192]) :: ([])) := by
 refine aI Tryz.func278 rfl zg _ Tryz.ntmps278 (aC rfl) rfl (fun w Pr β κ hE => ?_)
 dsimp only [slotsV, Nat.zero_add, Nat.reduceAdd]
 repeat' (first | refine qq ?_ | (refine sQ ?_ ?_ <;> intro hb hq <;> try omega))
 refine bB (fun N sl ob => ∃ i : Nat, N = l.length - i ∧ i ≤ l.length ∧ (l.take i).all p = true ∧ sl = [(8, .d (.int i)), (7, .d (.int l.length)), (1, .clo (.func 243) [.box 1005 0]), (0, .d (.list 2 (l.map SShare.c)))] ∧ ob = (1005, .box 231 [nfun 192]) :: ([])) (⟨0, rfl, Nat.zero_le _, by simp, rfl, rfl⟩) ?_
 rintro N sl ob ⟨i, rfl, hi, hs, rfl, rfl⟩
 by_cases hlt : i < l.length
 ·have hg : (l.map SShare.c)[i]? = some (SShare.c l[i]) := by rw [bC hlt]
  have hnext := iS p hlt
  rw [hs, Bool.true_and] at hnext
  have hm := List.getElem_mem hlt
  have qi : decide ((i : Int) < (l.length : Int)) = true := decide_eq_true zb
  cases hT : p l[i]
  ·have hno := mY hm hT
   have hc := wI (x := l[i]) (b := false) (hc := hp _ hm _ hT.symm)
   generalize l[i] = z at hg hc
   repeat' (first | (apply aB (.indexAddr _ _ _); refine aS hg ?_) | (apply aF; refine bN [(1005, 1005)] (hc) hE ?_; rintro _ _ ⟨rfl, rfl⟩ <;> (intro _ _ h1 h2; simp only [aO, Nat.reduceBEq, aG, aL, aH] at h1 h2; subst h1 h2)) | refine qq ?_ | (refine sQ ?_ ?_ <;> intro hb hq <;> try omega))
   refine aP (((1005, .box 231 [nfun 192]) :: ([]))) (by rfl) rv (⟨⟨i, rfl, by rw [hno]; exact decide_eq_true zb⟩, rfl⟩) sb okx
  ·rw [hT] at hnext
   have hc := wI (x := l[i]) (b := true) (hc := hp _ hm _ hT.symm)
   generalize l[i] = z at hg hc
   repeat' (first | (apply aB (.indexAddr _ _ _); refine aS hg ?_) | (apply aF; refine bN [(1005, 1005)] (hc) hE ?_; rintro _ _ ⟨rfl, rfl⟩ <;> (intro _ _ h1 h2; simp only [aO, Nat.reduceBEq, aG, aL, aH] at h1 h2; subst h1 h2)) | refine qq ?_ | (refine sQ ?_ ?_ <;> intro hb hq <;> try omega))
   refine bK (⟨i + 1, rfl, by omega, hnext, rfl, rfl⟩) zb
 ·rw [List.take_of_length_le zb] at hs
  repeat' (first | refine qq ?_ | (refine sQ ?_ ?_ <;> intro hb hq <;> try omega))
  refine aP (((1005, .box 231 [nfun 192]) :: ([]))) (by rfl) rv (⟨⟨-1, rfl, by rw [hs]; rfl⟩, rfl⟩) sb okx
theorem aKp  (l : List SShare) (p : SShare → Bool) (hl : l.length ≤ 9223372036854775807) (hp : ∀ x ∈ l, ∀ b, b = p x → PureC 192 [.agg x.c] (· = .bool b)) : ObC 242 [.d (.list 2 (l.map SShare.c)), .clo (.func 243) [.box 1005 0]] ((1005, .box 231 [nfun 192]) :: ([])) [] (fun r o => r = .d (.bool (!l.all p)) ∧ o = (1005, .box 231 [nfun 192]) :: ([])) := by
 have hc := aKu (l := l) (p := p) (hl := hl) (hp := hp)
 refine aI Tryz.func242 rfl zg _ Tryz.ntmps242 (aC rfl) rfl (fun w Pr β κ hE => ?_)
 dsimp only [slotsV, Nat.zero_add, Nat.reduceAdd]
 repeat' (first | (apply aF; refine cP [(1005, 1005)] (hc) hE ?_; rintro _ _ ⟨⟨r, rfl, hr⟩, rfl⟩ <;> (intro _ _ h1 h2; simp only [aO, Nat.reduceBEq, aG, aL, aH] at h1 h2; subst h1 h2)) | refine nx ?_ | refine xb ?_ | fail)
 refine aP (((1005, .box 231 [nfun 192]) :: ([]))) (by rfl) rv (⟨by rw [hr], rfl⟩) sb okx
theorem aJy  (l : List SShare) (p : SShare → Bool) (hl : l.length ≤ 9223372036854775807) (hp : ∀ x ∈ l, ∀ b, b = p x → PureC 192 [.agg x.c] (· = .bool b)) : ObC 194 [.d (.list 2 (l.map SShare.c)), nfun 192] ([]) [] (fun r o => r = .d (.bool (l.all p)) ∧ o = ([])) := by
 have hc := aKp (l := l) (p := p) (hl := hl) (hp := hp)
 refine aI Tryz.func194 rfl zg _ Tryz.ntmps194 (aC rfl) rfl (fun w Pr β κ hE => ?_)
 dsimp only [slotsV, Nat.zero_add, Nat.reduceAdd]
 repeat' (first | (apply aB (.makeFunc _ _ _); refine aK (eC rfl) (aA rfl) ?_) | (apply aB (.box _ _); refine aD (bR rfl nofun rfl (aA rfl) rfl rfl) rfl ?_) | refine oQ [(1005, 3)] (hc) hE ?_ | refine qp ?_ | refine xe ?_ | fail)
 refine aP (([])) (by rfl) rv (⟨by simp, rfl⟩) sb okx
abbrev crdO (m : Int) : Objs := [(1006, .box 3 [.d (.int m)]), (1007, .box 231 [nfun 192])]
theorem zB (m : Int) (x : SCard) (b : Bool) (hc : ObC 193 [.d (.agg x.c), .box 1006 0, .box 1007 0] (crdO m) [] (fun r o => r = .d (.bool b) ∧ o = crdO m)) : ObC 245 [.d (.agg x.c), .box 1005 0] ((1005, .box 233 [.clo (.func 193) [.box 1006 0, .box 1007 0]]) :: (crdO m)) [] (fun r o => r = .d (.bool (!b)) ∧ o = (1005, .box 233 [.clo (.func 193) [.box 1006 0, .box 1007 0]]) :: (crdO m)) := by
 refine aI Tryz.func245 rfl zg _ Tryz.ntmps245 (aC rfl) rfl (fun w Pr β κ hE => ?_)
 dsimp only [slotsV, Nat.zero_add, Nat.reduceAdd]
 repeat' (first | (apply aF; refine bN [(1006, 1006), (1007, 1007)] (hc) hE ?_; rintro _ _ ⟨rfl, rfl⟩ <;> (intro _ _ h1 h2; simp only [aO, Nat.reduceBEq, aG, aL, aH] at h1 h2; subst h1 h2)) | refine xh ?_ | refine xk ?_ | fail)
 refine aP (((1005, .box 233 [.clo (.func 193) [.box 1006 0, .box 1007 0]]) :: (crdO m))) (by rfl) rv (⟨rfl, rfl⟩) sb okx
theorem aOe (m : Int) (l : List SCard) (p : SCard → Bool) (hl : l.length ≤ 9223372036854775807) (hp : ∀ x ∈ l, ∀ b, b = p x → ObC 193 [.d (.agg x.c), .box 1006 0, .box 1007 0] (crdO m) [] (fun r o => r = .d (.bool b) ∧ o = crdO m)) : ObC 279 [.d (.list 2 (l.map SCard.c)), .clo (.func 245) [.box 1005 0]] ((1005, .box 233 [.clo (.func 193) [.box 1006 0, .box 1007 0]]) :: (crdO m)) [] (fun r o => (∃ i, r = .d (.int i) ∧ decide (0 ≤ i) = !l.all p) ∧ o = (1005, .box 233 [.clo (.func 193) [.box 1006 0, .box 1007 0]]) :: (crdO m)) := by
 refine aI Tryz.func279 rfl zg _ Tryz.ntmps279 (aC rfl) rfl (fun w Pr β κ hE => ?_)
 dsimp only [slotsV, Nat.zero_add, Nat.reduceAdd]
 repeat' (first | refine qq ?_ | (refine sQ ?_ ?_ <;> intro hb hq <;> try omega))
 refine bB (fun N sl ob => ∃ i : Nat, N = l.length - i ∧ i ≤ l.length ∧ (l.take i).all p = true ∧ sl = [(8, .d (.int i)), (7, .d (.int l.length)), (1, .clo (.func 245) [.box 1005 0]), (0, .d (.list 2 (l.map SCard.c)))] ∧ ob = (1005, .box 233 [.clo (.func 193) [.box 1006 0, .box 1007 0]]) :: (crdO m)) (⟨0, rfl, Nat.zero_le _, by simp, rfl, rfl⟩) ?_
 rintro N sl ob ⟨i, rfl, hi, hs, rfl, rfl⟩
 by_cases hlt : i < l.length
 ·have hg : (l.map SCard.c)[i]? = some (SCard.c l[i]) := by rw [bC hlt]
  have hnext := iS p hlt
  rw [hs, Bool.true_and] at hnext
  have hm := List.getElem_mem hlt
  have qi : decide ((i : Int) < (l.length : Int)) = true := decide_eq_true zb
  cases hT : p l[i]
  ·have hno := mY hm hT
   have hc := zB (x := l[i]) (b := false) (hc := hp _ hm _ hT.symm)
   generalize l[i] = z at hg hc
   repeat' (first | (apply aB (.indexAddr _ _ _); refine aS hg ?_) | (apply aF; refine bN [(1005, 1005), (1006, 1006), (1007, 1007)] (hc) hE ?_; rintro _ _ ⟨rfl, rfl⟩ <;> (intro _ _ h1 h2; simp only [aO, Nat.reduceBEq, aG, aL, aH] at h1 h2; subst h1 h2)) | refine qq ?_ | (refine sQ ?_ ?_ <;> intro hb hq <;> try omega))
   refine aP (((1005, .box 233 [.clo (.func 193) [.box 1006 0, .box 1007 0]]) :: (crdO m))) (by rfl) rv (⟨⟨i, rfl, by rw [hno]; exact decide_eq_true zb⟩, rfl⟩) sb okx
  ·rw [hT] at hnext
   have hc := zB (x := l[i]) (b := true) (hc := hp _ hm _ hT.symm)
   generalize l[i] = z at hg hc
   repeat' (first | (apply aB (.indexAddr _ _ _); refine aS hg ?_) | (apply aF; refine bN [(1005, 1005), (1006, 1006), (1007, 1007)] (hc) hE ?_; rintro _ _ ⟨rfl, rfl⟩ <;> (intro _ _ h1 h2; simp only [aO, Nat.reduceBEq, aG, aL, aH] at h1 h2; subst h1 h2)) | refine qq ?_ | (refine sQ ?_ ?_ <;> intro hb hq <;> try omega))
   refine bK (⟨i + 1, rfl, by omega, hnext, rfl, rfl⟩) zb
 ·rw [List.take_of_length_le zb] at hs
  repeat' (first | refine qq ?_ | (refine sQ ?_ ?_ <;> intro hb hq <;> try omega))
  refine aP (((1005, .box 233 [.clo (.func 193) [.box 1006 0, .box 1007 0]]) :: (crdO m))) (by rfl) rv (⟨⟨-1, rfl, by rw [hs]; rfl⟩, rfl⟩) sb okx
theorem aNo (m : Int) (l : List SCard) (p : SCard → Bool) (hl : l.length ≤ 9223372036854775807) (hp : ∀ x ∈ l, ∀ b, b = p x → ObC 193 [.d (.agg x.c), .box 1006 0, .box 1007 0] (crdO m) [] (fun r o => r = .d (.bool b) ∧ o = crdO m)) : ObC 244 [.d (.list 2 (l.map SCard.c)), .clo (.func 245) [.box 1005 0]] ((1005, .box 233 [.clo (.func 193) [.box 1006 0, .box 1007 0]]) :: (crdO m)) [] (fun r o => r = .d (.bool (!l.all p)) ∧ o = (1005, .box 233 [.clo (.func 193) [.box 1006 0, .box 1007 0]]) :: (crdO m)) := by
 have hc := aOe (l := l) (p := p) (hl := hl) (hp := hp)
 refine aI Tryz.func244 rfl zg _ Tryz.ntmps244 (aC rfl) rfl (fun w Pr β κ hE => ?_)
 dsimp only [slotsV, Nat.zero_add, Nat.reduceAdd]
 repeat' (first | (apply aF; refine cP [(1005, 1005), (1006, 1006), (1007, 1007)] (hc) hE ?_; rintro _ _ ⟨⟨r, rfl, hr⟩, rfl⟩ <;> (intro _ _ h1 h2; simp only [aO, Nat.reduceBEq, aG, aL, aH] at h1 h2; subst h1 h2)) | refine nx ?_ | refine xb ?_ | fail)
 refine aP (((1005, .box 233 [.clo (.func 193) [.box 1006 0, .box 1007 0]]) :: (crdO m))) (by rfl) rv (⟨by rw [hr], rfl⟩) sb okx
theorem aMt (m : Int) (l : List SCard) (p : SCard → Bool) (hl : l.length ≤ 9223372036854775807) (hp : ∀ x ∈ l, ∀ b, b = p x → ObC 193 [.d (.agg x.c), .box 1006 0, .box 1007 0] (crdO m) [] (fun r o => r = .d (.bool b) ∧ o = crdO m)) : ObC 195 [.d (.list 2 (l.map SCard.c)), .clo (.func 193) [.box 1006 0, .box 1007 0]] (crdO m) [] (fun r o => r = .d (.bool (l.all p)) ∧ o = (crdO m)) := by
 have hc := aNo (l := l) (p := p) (hl := hl) (hp := hp)
 refine aI Tryz.func195 rfl zg _ Tryz.ntmps195 (aC rfl) rfl (fun w Pr β κ hE => ?_)
 dsimp only [slotsV, Nat.zero_add, Nat.reduceAdd]
 repeat' (first | (apply aB (.makeFunc _ _ _); refine aK (eC rfl) (aA rfl) ?_) | (apply aB (.box _ _); refine aD (bR rfl nofun rfl (aA rfl) rfl rfl) rfl ?_) | refine oQ [(1005, 3), (1006, 1006), (1007, 1007)] (hc) hE ?_ | refine qp ?_ | refine xe ?_ | fail)
 refine aP ((crdO m)) (by rfl) rv (⟨by simp, rfl⟩) sb okx
theorem aDj (m : Int) (x : SBal) (b : Bool) (hc : ObC 70 [.d (.agg x.c), .box 1006 0] (intO m) [] (fun r o => r = .d (.bool b) ∧ o = intO m)) : ObC 203 [.d (.agg x.c), .box 1005 0] ((1005, .box 127 [.clo (.func 70) [.box 1006 0]]) :: (intO m)) [] (fun r o => r = .d (.bool (!b)) ∧ o = (1005, .box 127 [.clo (.func 70) [.box 1006 0]]) :: (intO m)) := by
 refine aI Tryz.func203 rfl zg _ Tryz.ntmps203 (aC rfl) rfl (fun w Pr β κ hE => ?_)
 dsimp only [slotsV, Nat.zero_add, Nat.reduceAdd]
 repeat' (first | (apply aF; refine bN [(1006, 1006)] (hc) hE ?_; rintro _ _ ⟨rfl, rfl⟩ <;> (intro _ _ h1 h2; simp only [aO, Nat.reduceBEq, aG, aL, aH] at h1 h2; subst h1 h2)) | refine xh ?_ | refine xk ?_ | fail)
 refine aP (((1005, .box 127 [.clo (.func 70) [.box 1006 0]]) :: (intO m))) (by rfl) rv (⟨rfl, rfl⟩) sb okx
theorem aTa (m : Int) (l : List SBal) (p : SBal → Bool) (hl : l.length ≤ 9223372036854775807) (hp : ∀ x ∈ l, ∀ b, b = p x → ObC 70 [.d (.agg x.c), .box 1006 0] (intO m) [] (fun r o => r = .d (.bool b) ∧ o = intO m)) : ObC 249 [.d (.list 4 (l.map SBal.c)), .clo (.func 203) [.box 1005 0]] ((1005, .box 127 [.clo (.func 70) [.box 1006 0]]) :: (intO m)) [] (fun r o => (∃ i, r = .d (.int i) ∧ decide (0 ≤ i) = !l.all p) ∧ o = (1005, .box 127 [.clo (.func 70) [.box 1006 0]]) :: (intO m)) := by
 refine aI Tryz.func249 rfl zg _ Tryz.ntmps249 (aC rfl) rfl (fun w Pr β κ hE => ?_)
 dsimp only [slotsV, Nat.zero_add, Nat.reduceAdd]
 repeat' (first | refine qq ?_ | (refine sQ ?_ ?_ <;> intro hb hq <;> try omega))
 refine bB (fun N sl ob => ∃ i : Nat, N = l.length - i ∧ i ≤ l.length ∧ (l.take i).all p = true ∧ sl = [(8, .d (.int i)), (7, .d (.int l.length)), (1, .clo (.func 203) [.box 1005 0]), (0, .d (.list 4 (l.map SBal.c)))] ∧ ob = (1005, .box 127 [.clo (.func 70) [.box 1006 0]]) :: (intO m)) (⟨0, rfl, Nat.zero_le _, by simp, rfl, rfl⟩) ?_
 rintro N sl ob ⟨i, rfl, hi, hs, rfl, rfl⟩
 by_cases hlt : i < l.length
 ·have hg : (l.map SBal.c)[i]? = some (SBal.c l[i]) := by rw [bC hlt]
  have hnext := iS p hlt
  rw [hs, Bool.true_and] at hnext
  have hm := List.getElem_mem hlt
  have qi : decide ((i : Int) < (l.length : Int)) = true := decide_eq_true zb
  cases hT : p l[i]
  ·have hno := mY hm hT
   have hc := aDj (x := l[i]) (b := false) (hc := hp _ hm _ hT.symm)
   generalize l[i] = z at hg hc
   repeat' (first | (apply aB (.indexAddr _ _ _); refine aS hg ?_) | (apply aF; refine bN [(1005, 1005), (1006, 1006)] (hc) hE ?_; rintro _ _ ⟨rfl, rfl⟩ <;> (intro _ _ h1 h2; simp only [aO, Nat.reduceBEq, aG, aL, aH] at h1 h2; subst h1 h2)) | refine qq ?_ | (refine sQ ?_ ?_ <;> intro hb hq <;> try omega))
   refine aP (((1005, .box 127 [.clo (.func 70) [.box 1006 0]]) :: (intO m))) (by rfl) rv (⟨⟨i, rfl, by rw [hno]; exact decide_eq_true zb⟩, rfl⟩) sb okx
  ·rw [hT] at hnext
   have hc := aDj (x := l[i]) (b := true) (hc := hp _ hm _ hT.symm)
   generalize l[i] = z at hg hc
   repeat' (first | (apply aB (.indexAddr _ _ _); refine aS hg ?_) | (apply aF; refine bN [(1005, 1005), (1006, 1006)] (hc) hE ?_; rintro _ _ ⟨rfl, rfl⟩ <;> (intro _ _ h1 h2; simp only [aO, Nat.reduceBEq, aG, aL, aH] at h1 h2; subst h1 h2)) | refine qq ?_ | (refine sQ ?_ ?_ <;> intro hb hq <;> try omega))
   refine bK (⟨i + 1, rfl, by omega, hnext, rfl, rfl⟩) zb
 ·rw [List.take_of_length_le zb] at hs
  repeat' (first | refine qq ?_ | (refine sQ ?_ ?_ <;> intro hb hq <;> try omega))
  refine aP (((1005, .box 127 [.clo (.func 70) [.box 1006 0]]) :: (intO m))) (by rfl) rv (⟨⟨-1, rfl, by rw [hs]; rfl⟩, rfl⟩) sb okx
theorem aSl (m : Int) (l : List SBal) (p : SBal → Bool) (hl : l.length ≤ 9223372036854775807) (hp : ∀ x ∈ l, ∀ b, b = p x → ObC 70 [.d (.agg x.c), .box 1006 0] (intO m) [] (fun r o => r = .d (.bool b) ∧ o = intO m)) : ObC 202 [.d (.list 4 (l.map SBal.c)), .clo (.func 203) [.box 1005 0]] ((1005, .box 127 [.clo (.func 70) [.box 1006 0]]) :: (intO m)) [] (fun r o => r = .d (.bool (!l.all p)) ∧ o = (1005, .box 127 [.clo (.func 70) [.box 1006 0]]) :: (intO m)) := by
 have hc := aTa (l := l) (p := p) (hl := hl) (hp := hp)
 refine aI Tryz.func202 rfl zg _ Tryz.ntmps202 (aC rfl) rfl (fun w Pr β κ hE => ?_)
 dsimp only [slotsV, Nat.zero_add, Nat.reduceAdd]
 repeat' (first | (apply aF; refine cP [(1005, 1005), (1006, 1006)] (hc) hE ?_; rintro _ _ ⟨⟨r, rfl, hr⟩, rfl⟩ <;> (intro _ _ h1 h2; simp only [aO, Nat.reduceBEq, aG, aL, aH] at h1 h2; subst h1 h2)) | refine nx ?_ | refine xb ?_ | fail)
 refine aP (((1005, .box 127 [.clo (.func 70) [.box 1006 0]]) :: (intO m))) (by rfl) rv (⟨by rw [hr], rfl⟩) sb okx
theorem aRy (m : Int) (l : List SBal) (p : SBal → Bool) (hl : l.length ≤ 9223372036854775807) (hp : ∀ x ∈ l, ∀ b, b = p x → ObC 70 [.d (.agg x.c), .box 1006 0] (intO m) [] (fun r o => r = .d (.bool b) ∧ o = intO m)) : ObC 76 [.d (.list 4 (l.map SBal.c)), .clo (.func 70) [.box 1006 0]] (intO m) [] (fun r o => r = .d (.bool (l.all p)) ∧ o = (intO m)) := by
 have hc := aSl (l := l) (p := p) (hl := hl) (hp := hp)
 refine aI Tryz.func76 rfl zg _ Tryz.ntmps76 (aC rfl) rfl (fun w Pr β κ hE => ?_)
 dsimp only [slotsV, Nat.zero_add, Nat.reduceAdd]
 repeat' (first | (apply aB (.makeFunc _ _ _); refine aK (eC rfl) (aA rfl) ?_) | (apply aB (.box _ _); refine aD (bR rfl nofun rfl (aA rfl) rfl rfl) rfl ?_) | refine oQ [(1005, 3), (1006, 1006)] (hc) hE ?_ | refine qp ?_ | refine xe ?_ | fail)
 refine aP ((intO m)) (by rfl) rv (⟨by simp, rfl⟩) sb okx
end Go.Proofs.YtaodngiigdbgeaaGreatDoor
