/-
  Conditions: none.
-/
import Derived.Test.YtaodngiigdbgeaaGreatDoorMaa
import Derived.Test.YtaodngiigdbgeaaGreatDoorMal
import Derived.Test.YtaodngiigdbgeaaGreatDoorMam
import Derived.Test.YtaodngiigdbgeaaGreatDoorMao
import Derived.Test.YtaodngiigdbgeaaGreatDoorMbf
set_option maxHeartbeats 16000000
set_option maxRecDepth 20000
set_option linter.unusedSimpArgs false
set_option linter.unusedVariables false
namespace Go.Proofs.YtaodngiigdbgeaaGreatDoor
section
open Go.RowKit
theorem gK {α : Type} {f : α → List D} (l : List α) (h : ∀ x, ∀ z ∈ f x, D.one z = true) : ∀ q ∈ l.map f, ∀ z ∈ q, D.one z = true := by
 intro q hq z hz
 obtain ⟨x, _, rfl⟩ := List.mem_map.1 hq
 exact h x z hz
theorem iO {α : Type} {f : α → List D} {n : Nat} (l : List α) (h : ∀ x, (f x).length = n) : ∀ q ∈ l.map f, q.length = n := by
 intro q hq
 obtain ⟨x, _, rfl⟩ := List.mem_map.1 hq
 exact h x
theorem aIz : ∀ (x : SArc), ∀ z ∈ x.c, D.one z = true := by simp [D.one, Value.oneCell']
theorem aFc : ∀ (x : List SObs), ∀ z ∈ seenC x, D.one z = true := by simp [D.one, Value.oneCell']
theorem aTu : ∀ (x : SObs), ∀ z ∈ x.c, D.one z = true := by simp [D.one, Value.oneCell']
theorem aJb : ∀ (x : SCar), ∀ z ∈ x.c, D.one z = true := by simp [D.one, Value.oneCell']
theorem aPj : ∀ (x : SStop), ∀ z ∈ x.c, D.one z = true := by simp [D.one, Value.oneCell']
theorem aTt : ∀ (x : SLeg), ∀ z ∈ x.c, D.one z = true := by simp [D.one, Value.oneCell']
theorem aFb : ∀ (x : SPlan), ∀ z ∈ x.c, D.one z = true := by simp [D.one, Value.oneCell']
theorem aJc : ∀ (x : SProm), ∀ z ∈ x.c, D.one z = true := by simp [D.one, Value.oneCell']
theorem aJd : ∀ (x : SVer), ∀ z ∈ x.c, D.one z = true := by simp [D.one, Value.oneCell']
theorem aLj : ∀ (x : SShare), ∀ z ∈ x.c, D.one z = true := by simp [D.one, Value.oneCell']
theorem aPi : ∀ (x : SCard), ∀ z ∈ x.c, D.one z = true := by simp [D.one, Value.oneCell']
theorem aJa : ∀ (x : SBal), ∀ z ∈ x.c, D.one z = true := by simp [D.one, Value.oneCell']
theorem uM (l : List Int) : ∀ q ∈ l.map (fun n => [D.int n]), ∀ z ∈ q, D.one z = true := gK l jt
abbrev stB (s : SSt) (ar se cs pl dn at_ pm pu fv ve bl : V) : O := .box 33 [.d (.int s.ti), ar, se, cs, pl, dn, at_, pm, pu, .d (.int s.po.mo), .d (.int s.po.pr), .d (.int s.po.ms), .d (.int s.po.co), .d (.int s.po.wi), .d (.int s.po.to), fv, ve, bl]
abbrev arcsD (s : SSt) : D := .list 4 (s.ar.map SArc.c)
abbrev seensD (s : SSt) : D := .list 1 (s.se.map seenC)
abbrev carsD (s : SSt) : D := .list 9 (s.cs.map SCar.c)
abbrev plansD (s : SSt) : D := .list 4 (s.pl.map SPlan.c)
abbrev prmsD (s : SSt) : D := .list 15 (s.pm.map SProm.c)
abbrev versD (s : SSt) : D := .list 2 (s.ve.map SVer.c)
abbrev balsD (s : SSt) : D := .list 4 (s.bl.map SBal.c)
abbrev stZ : O := .box 33 [.d (.int 0), .d (.val (.slice none 0 0)), .d (.val (.slice none 0 0)), .d (.val (.slice none 0 0)), .d (.val (.slice none 0 0)), .d (.val (.slice none 0 0)), .d (.val (.slice none 0 0)), .d (.val (.slice none 0 0)), .d (.val (.slice none 0 0)), .d (.int 0), .d (.int 0), .d (.int 0), .d (.int 0), .d (.int 0), .d (.int 0), .d (.val (.slice none 0 0)), .d (.val (.slice none 0 0)), .d (.val (.slice none 0 0))]
abbrev cop1 (s : SSt) : O := stB s (.row 9 1) (.d (seensD s)) (.d (carsD s)) (.d (plansD s)) (.d (intsL s.dn)) (.d (intsL s.at_)) (.d (prmsD s)) (.d (intsL s.pu)) (.d (intsL s.fv)) (.d (versD s)) (.d (balsD s))
abbrev cop2 (s : SSt) : O := stB s (.row 9 1) (.row 47 1) (.d (carsD s)) (.d (plansD s)) (.d (intsL s.dn)) (.d (intsL s.at_)) (.d (prmsD s)) (.d (intsL s.pu)) (.d (intsL s.fv)) (.d (versD s)) (.d (balsD s))
abbrev cop3 (s : SSt) : O := stB s (.row 9 1) (.row 47 1) (.d (carsD s)) (.row 85 1) (.d (intsL s.dn)) (.d (intsL s.at_)) (.d (prmsD s)) (.d (intsL s.pu)) (.d (intsL s.fv)) (.d (versD s)) (.d (balsD s))
abbrev cop4 (s : SSt) : O := stB s (.row 9 1) (.row 47 1) (.d (carsD s)) (.d (plansD s)) (.d (intsL s.dn)) (.d (intsL s.at_)) (.d (prmsD s)) (.row 141 1) (.d (intsL s.fv)) (.row 151 1) (.row 156 1)
abbrev cop5 (s : SSt) : O := stB s (.row 9 1) (.row 47 1) (.d (carsD s)) (.d (plansD s)) (.d (intsL s.dn)) (.d (intsL s.at_)) (.d (prmsD s)) (.row 141 1) (.d (intsL s.fv)) (.row 151 1) (.d (balsD s))
abbrev arcO (s : SSt) : O := .vec 46 4 1 (s.ar.map SArc.c)
abbrev seeO (s : SSt) : O := .vec 60 1 1 (s.se.map seenC)
abbrev plaO (s : SSt) : O := .vec 66 4 1 (s.pl.map SPlan.c)
abbrev balO (s : SSt) : O := .vec 75 4 1 (s.bl.map SBal.c)
abbrev purO (s : SSt) : O := .vec 3 1 1 (s.pu.map fun n => [D.int n])
abbrev verO (s : SSt) : O := .row 48 2 1 (s.ve.map SVer.c)
theorem wR (s : SSt) (ho : s.ok) : ObC 21 [.d (.agg s.c)] [] [9, 47, 141, 151] (fun x o => ∃ k1 k2 k3 k4, x = .agg [.d (.int s.ti), .row 9 k1, .row 47 k2, .d (carsD s), .d (plansD s), .d (intsL s.dn), .d (intsL s.at_), .d (prmsD s), .row 141 k4, .d (.int s.po.mo), .d (.int s.po.pr), .d (.int s.po.ms), .d (.int s.po.co), .d (.int s.po.wi), .d (.int s.po.to), .d (intsL s.fv), .row 151 k3, .d (balsD s)] ∧ o = [(9, .row 46 4 k1 (s.ar.map SArc.c)), (47, .row 60 1 k2 (s.se.map seenC)), (141, .vec 3 1 k4 (s.pu.map fun n => [D.int n])), (151, .row 48 2 k3 (s.ve.map SVer.c))]) := by
 have k1 := ho.ar
 have k2 := ho.se
 have k3 := ho.cs
 have k4 := ho.pl
 have k5 := ho.dn
 have k6 := ho.at_
 have k7 := ho.pm
 have k8 := ho.pu
 have k9 := ho.fv
 have k10 := ho.ve
 have k11 := ho.bl
 refine aI Tryz.func21 rfl zg _ Tryz.ntmps21 (aC rfl) rfl (fun w Pr β κ hE => ?_)
 dsimp only [slotsV, Nat.zero_add, Nat.reduceAdd]
 repeat' (first | (apply aB (.buildSlice 22 0 _); refine aD (eA rfl (aA rfl) rfl) rfl ?_; refine iR 9 rfl ?_) | (apply aB (.call { callee := .builtin .append, args := _, argTypes := _ }); refine aD (gA rfl rfl zx rfl rfl (gK s.ar aIz) zg zf zf (aA rfl)) rfl ?_) | (apply aB (.store _ _ _); refine aD (aN rfl rfl (dM rfl) nofun zk zo (.inl ⟨rfl, rfl⟩) rfl (aC rfl) zk) rfl ?_) | refine vx ?_ | refine vy ?_ | refine xk ?_ | refine xl ?_ | (refine sQ ?_ ?_ <;> intro hb hq <;> try omega))
 refine bB (fun N sl ob => ∃ i : Nat, N = s.ar.length - i ∧ i ≤ s.ar.length ∧ sl = [(3, .d (.int i)), (2, .box 2 0), (1, .box 1 0)] ∧ ob = [(9, arcO s), (2, stZ), (1, cop1 s)]) (⟨0, rfl, Nat.zero_le _, rfl, rfl⟩) ?_
 rintro N sl ob ⟨i, rfl, hi, rfl, rfl⟩
 by_cases hlt : i < s.ar.length
 ·have hg := gT (f := SArc.c) (z := arcZ) hlt
  have hm := ho.ars _ (fU (z := arcZ) hlt)
  have qi : decide ((i : Int) < (s.ar.length : Int)) = true := decide_eq_true zb
  generalize s.ar.getD i arcZ = c at *
  have hat2 : (s.ar.map SArc.c).flatten[i * 4 + 2]? = some (intsL c.lo) := jJ (iO s.ar (fun _ => rfl)) hg rfl
  have hat3 : (s.ar.map SArc.c).flatten[i * 4 + 3]? = some (intsL c.hi) := jJ (iO s.ar (fun _ => rfl)) hg rfl
  repeat' (first | (apply aB (.call { callee := .builtin .len, args := _, argTypes := _ }); refine aK (gY rfl rfl rfl ⟨_, _, _, _, rfl⟩ jg) (aA rfl) ?_) | refine vq ?_ | refine xq ?_ | (refine sQ ?_ ?_ <;> intro hb hq <;> try omega))
  refine cC ([(9, arcO s), (1, cop1 s)]) [(0, true), (1, true), (2, true), (4, true), (5, true), (6, true), (7, true), (8, true), (9, true), (3, false), (10, false)] [11, 12, 13] zp zp zp zg zw ?_
  simp only [planned, tailed, List.filterMap_cons, List.filterMap_nil, List.getElem?_cons_zero, List.getElem?_cons_succ, Option.map_some]
  repeat' (first | apply aZ | refine vt ?_ | (apply aR (.indexAddr _ _ _); refine bS zj (jZ rfl rfl rfl rfl zq jk rfl) (aA rfl) ?_) | (apply aR (.fieldAddr 46 _ _); refine bS zj (fN rfl rfl rfl rfl) (aA rfl) ?_) | (apply aR (.load 26 _); refine bS zj (kP rfl rfl hat2 rfl) (aA rfl) ?_) | (apply aR (.buildSlice _ 0 _); refine pU (parts := []) (dp := []) (l := []) (n := 0) (l2 := []) zj rfl .nil jr rfl (by simp) (by simp) (aA rfl) rfl rfl rfl ?_) | (apply aR (.call { callee := .builtin .append, args := _, argTypes := _ }); refine kB zj rfl rfl rfl zx rfl rfl (uM c.lo) zg jx jx (aA rfl) ?_) | (apply bG; refine bQ ?_) | (apply dL; refine gC ?_) | (apply aU; refine bA ?_) | (apply aV; refine bE ?_) | (apply aR (.buildSlice _ _ _); first | refine dK zj rfl zx zk rfl (aC rfl) (aA rfl) ?_ | refine eQ zj rfl zd ze zk zg zg (aA rfl) ?_) | (refine mQ ?_ ?_ <;> intro hb hq <;> try omega))
  repeat' (first | (apply aB (.indexAddr _ _ _); refine aK (jZ rfl rfl rfl rfl zq jk rfl) (aA rfl) ?_) | (apply aB (.fieldAddr 46 _ _); refine aK (fN rfl rfl rfl rfl) (aA rfl) ?_) | (apply aB (.store _ _ _); refine aD (kW rfl rfl hat2 (iO s.ar (fun _ => rfl)) (.row _ _ _ _ _ rfl) rfl rfl) rfl ?_) | refine qr ?_ | refine vx ?_ | refine xl ?_ | (refine sQ ?_ ?_ <;> intro hb hq <;> try omega) | (apply nU; refine tZ ?_))
  refine cC ([(9, arcO s), (1, cop1 s)]) [(0, true), (1, true), (2, true), (4, true), (5, true), (6, true), (7, true), (8, true), (9, true), (3, false), (10, false)] [11, 12, 13] zp zp zp zg zw ?_
  simp only [planned, tailed, List.filterMap_cons, List.filterMap_nil, List.getElem?_cons_zero, List.getElem?_cons_succ, Option.map_some]
  repeat' (first | apply aZ | refine vt ?_ | (apply aR (.indexAddr _ _ _); refine bS zj (jZ rfl rfl rfl rfl zq jk rfl) (aA rfl) ?_) | (apply aR (.fieldAddr 46 _ _); refine bS zj (fN rfl rfl rfl rfl) (aA rfl) ?_) | (apply aR (.load 26 _); refine bS zj (kP rfl rfl hat3 rfl) (aA rfl) ?_) | (apply aR (.buildSlice _ 0 _); refine pU (parts := []) (dp := []) (l := []) (n := 0) (l2 := []) zj rfl .nil jr rfl (by simp) (by simp) (aA rfl) rfl rfl rfl ?_) | (apply aR (.call { callee := .builtin .append, args := _, argTypes := _ }); refine kB zj rfl rfl rfl zx rfl rfl (uM c.hi) zg jx jx (aA rfl) ?_) | (apply bG; refine bQ ?_) | (apply dL; refine gC ?_) | (apply aU; refine bA ?_) | (apply aV; refine bE ?_) | (apply aR (.buildSlice _ _ _); first | refine dK zj rfl zx zk rfl (aC rfl) (aA rfl) ?_ | refine eQ zj rfl zd ze zk zg zg (aA rfl) ?_) | (refine mQ ?_ ?_ <;> intro hb hq <;> try omega))
  repeat' (first | (apply aB (.indexAddr _ _ _); refine aK (jZ rfl rfl rfl rfl zq jk rfl) (aA rfl) ?_) | (apply aB (.fieldAddr 46 _ _); refine aK (fN rfl rfl rfl rfl) (aA rfl) ?_) | (apply aB (.store _ _ _); refine aD (kW rfl rfl hat3 (iO s.ar (fun _ => rfl)) (.row _ _ _ _ _ rfl) rfl rfl) rfl ?_) | refine qr ?_ | refine vx ?_ | refine xl ?_ | (refine sQ ?_ ?_ <;> intro hb hq <;> try omega) | (apply nU; refine tZ ?_))
  repeat' (first | refine vb ?_ | refine xz ?_ | (refine sQ ?_ ?_ <;> intro hb hq <;> try omega))
  refine bK (⟨i + 1, rfl, by omega, rfl, rfl⟩) zb
 obtain rfl : i = s.ar.length := by omega
 have qi : decide ((s.ar.length : Int) < (s.ar.length : Int)) = false := decide_eq_false zb
 repeat' (first | (apply aB (.call { callee := .builtin .len, args := _, argTypes := _ }); refine aK (gY rfl rfl rfl ⟨_, _, _, _, rfl⟩ jg) (aA rfl) ?_) | (apply aB (.buildSlice 23 0 _); refine aD (eA rfl (aA rfl) rfl) rfl ?_; refine iR 47 rfl ?_) | (apply aB (.call { callee := .builtin .append, args := _, argTypes := _ }); refine aD (gA rfl rfl zx rfl rfl (gK s.se aFc) zg zf zf (aA rfl)) rfl ?_) | (apply aB (.store _ _ _); refine aD (aN rfl rfl (dM rfl) nofun zk zo (.inl ⟨rfl, rfl⟩) rfl (aC rfl) zk) rfl ?_) | refine nq ?_ | refine xl ?_ | (refine sQ ?_ ?_ <;> intro hb hq <;> try omega) | (apply dY; refine fG ?_))
 clear hi hlt qi
 refine bB (fun N sl ob => ∃ i : Nat, N = s.se.length - i ∧ i ≤ s.se.length ∧ sl = [(4, .d (.int i)), (2, .box 2 0), (1, .box 1 0)] ∧ ob = [(47, seeO s), (9, arcO s), (2, stZ), (1, cop2 s)]) (⟨0, rfl, Nat.zero_le _, rfl, rfl⟩) ?_
 rintro N sl ob ⟨i, rfl, hi, rfl, rfl⟩
 by_cases hlt : i < s.se.length
 ·have hg := gT (f := seenC) (z := []) hlt
  have hm := ho.ses _ (fU (z := []) hlt)
  have qi : decide ((i : Int) < (s.se.length : Int)) = true := decide_eq_true zb
  generalize s.se.getD i [] = c at *
  have hat : (s.se.map seenC).flatten[i * 1]? = some (obsL c) := jJ (s := 1) (L := s.se.map seenC) (i := i) (j := 0) (iO s.se (fun _ => rfl)) hg rfl
  repeat' (first | (apply aB (.call { callee := .builtin .len, args := _, argTypes := _ }); refine aK (gY rfl rfl rfl ⟨_, _, _, _, rfl⟩ jg) (aA rfl) ?_) | refine vq ?_ | refine xq ?_ | (refine sQ ?_ ?_ <;> intro hb hq <;> try omega))
  refine cC ([(47, seeO s), (1, cop2 s)]) [(0, true), (1, true), (2, true), (4, true), (5, true), (6, true), (7, true), (8, true), (3, false), (9, false)] [10, 11] zp zp zp zg zw ?_
  simp only [planned, tailed, List.filterMap_cons, List.filterMap_nil, List.getElem?_cons_zero, List.getElem?_cons_succ, Option.map_some]
  repeat' (first | apply aZ | refine vt ?_ | (apply aR (.indexAddr _ _ _); refine bS zj (jZ rfl rfl rfl rfl zq jk rfl) (aA rfl) ?_) | (apply aR (.fieldAddr 0 _ _); refine bS zj (fN rfl rfl rfl rfl) (aA rfl) ?_) | (apply aR (.load 60 _); refine bS zj (kP rfl rfl hat rfl) (aA rfl) ?_) | (apply aR (.buildSlice _ 0 _); refine pU (parts := []) (dp := []) (l := []) (n := 0) (l2 := []) zj rfl .nil jr rfl (by simp) (by simp) (aA rfl) rfl rfl rfl ?_) | (apply aR (.call { callee := .builtin .append, args := _, argTypes := _ }); refine kB zj rfl rfl rfl zx rfl rfl (gK c aTu) zg jx jx (aA rfl) ?_) | (apply bG; refine bQ ?_) | (apply dL; refine gC ?_) | (apply aU; refine bA ?_) | (apply aV; refine bE ?_) | (apply aR (.buildSlice _ _ _); first | refine dK zj rfl zx zk rfl (aC rfl) (aA rfl) ?_ | refine eQ zj rfl zd ze zk zg zg (aA rfl) ?_) | (refine mQ ?_ ?_ <;> intro hb hq <;> try omega))
  repeat' (first | (apply aB (.indexAddr _ _ _); refine aK (jZ rfl rfl rfl rfl zq jk rfl) (aA rfl) ?_) | (apply aB (.fieldAddr 0 _ _); refine aK (fN rfl rfl rfl rfl) (aA rfl) ?_) | (apply aB (.store _ _ _); refine aD (kW rfl rfl hat (iO s.se (fun _ => rfl)) (.row _ _ _ _ _ rfl) rfl rfl) rfl ?_) | refine qr ?_ | refine vx ?_ | refine xl ?_ | (refine sQ ?_ ?_ <;> intro hb hq <;> try omega) | (apply nU; refine tZ ?_))
  repeat' (first | refine vb ?_ | refine xz ?_ | (refine sQ ?_ ?_ <;> intro hb hq <;> try omega))
  refine bK (⟨i + 1, rfl, by omega, rfl, rfl⟩) zb
 obtain rfl : i = s.se.length := by omega
 have qi : decide ((s.se.length : Int) < (s.se.length : Int)) = false := decide_eq_false zb
 repeat' (first | (apply aB (.call { callee := .builtin .len, args := _, argTypes := _ }); refine aK (gY rfl rfl rfl ⟨_, _, _, _, rfl⟩ jg) (aA rfl) ?_) | (apply aB (.buildSlice 26 0 _); refine aD (eA rfl (aA rfl) rfl) rfl ?_) | (apply aB (.call { callee := .builtin .append, args := _, argTypes := _ }); refine aD (cY rfl rfl zx rfl rfl (uM s.dn) zg zf zf (aA rfl)) rfl ?_) | (apply aB (.store _ _ _); refine aD (aN rfl rfl (dM rfl) nofun zk zo (.inl ⟨rfl, rfl⟩) rfl (aC rfl) zk) rfl ?_) | (apply aB (.call { callee := .builtin .append, args := _, argTypes := _ }); refine aD (cY rfl rfl zx rfl rfl (uM s.at_) zg zf zf (aA rfl)) rfl ?_) | (apply aB (.store _ _ _); refine aD (aN rfl rfl (dM rfl) nofun zk zo (.inl ⟨rfl, rfl⟩) rfl (aC rfl) zk) rfl ?_) | (apply aB (.buildSlice 24 0 _); refine aD (eA rfl (aA rfl) rfl) rfl ?_) | (apply aB (.call { callee := .builtin .append, args := _, argTypes := _ }); refine aD (cY rfl rfl zx rfl rfl (gK s.cs aJb) zg zf zf (aA rfl)) rfl ?_) | (apply aB (.store _ _ _); refine aD (aN rfl rfl (dM rfl) nofun zk zo (.inl ⟨rfl, rfl⟩) rfl (aC rfl) zk) rfl ?_) | (apply aB (.buildSlice 25 0 _); refine aD (eA rfl (aA rfl) rfl) rfl ?_; refine iR 85 rfl ?_) | (apply aB (.call { callee := .builtin .append, args := _, argTypes := _ }); refine aD (gA rfl rfl zx rfl rfl (gK s.pl aFb) zg zf zf (aA rfl)) rfl ?_) | (apply aB (.store _ _ _); refine aD (aN rfl rfl (dM rfl) nofun zk zo (.inl ⟨rfl, rfl⟩) rfl (aC rfl) zk) rfl ?_) | refine nq ?_ | refine xl ?_ | (refine sQ ?_ ?_ <;> intro hb hq <;> try omega) | (apply dY; refine fG ?_))
 clear hi hlt qi
 refine dQ 1 5 rfl rfl (.row _ _ _ _ _ rfl) rfl ?_
 refine dQ 1 6 rfl rfl (.row _ _ _ _ _ rfl) rfl ?_
 refine dQ 1 3 rfl rfl (.row _ _ _ _ _ rfl) rfl ?_
 refine bB (fun N sl ob => ∃ i : Nat, N = s.pl.length - i ∧ i ≤ s.pl.length ∧ sl = [(5, .d (.int i)), (2, .box 2 0), (1, .box 1 0)] ∧ ob = [(85, plaO s), (47, seeO s), (9, arcO s), (2, stZ), (1, cop3 s)]) (⟨0, rfl, Nat.zero_le _, rfl, rfl⟩) ?_
 rintro N sl ob ⟨i, rfl, hi, rfl, rfl⟩
 by_cases hlt : i < s.pl.length
 ·have hg := gT (f := SPlan.c) (z := planZ) hlt
  obtain ⟨q1, q2, q3⟩ := ho.pls _ (fU (z := planZ) hlt)
  have qi : decide ((i : Int) < (s.pl.length : Int)) = true := decide_eq_true zb
  generalize s.pl.getD i planZ = c at *
  have hat1 : (s.pl.map SPlan.c).flatten[i * 4 + 1]? = some (.list 2 (c.st.map SStop.c)) := jJ (iO s.pl (fun _ => rfl)) hg rfl
  have hat2 : (s.pl.map SPlan.c).flatten[i * 4 + 2]? = some (.list 2 (c.le.map SLeg.c)) := jJ (iO s.pl (fun _ => rfl)) hg rfl
  have hat3 : (s.pl.map SPlan.c).flatten[i * 4 + 3]? = some (intsL c.lv) := jJ (iO s.pl (fun _ => rfl)) hg rfl
  repeat' (first | (apply aB (.call { callee := .builtin .len, args := _, argTypes := _ }); refine aK (gY rfl rfl rfl ⟨_, _, _, _, rfl⟩ jg) (aA rfl) ?_) | refine vq ?_ | refine xq ?_ | (refine sQ ?_ ?_ <;> intro hb hq <;> try omega))
  refine cC ([(85, plaO s), (1, cop3 s)]) [(0, true), (1, true), (2, true), (4, true), (5, true), (6, true), (7, true), (8, true), (9, true), (3, false), (10, false)] [11, 12, 13] zp zp zp zg zw ?_
  simp only [planned, tailed, List.filterMap_cons, List.filterMap_nil, List.getElem?_cons_zero, List.getElem?_cons_succ, Option.map_some]
  repeat' (first | apply aZ | refine vt ?_ | (apply aR (.indexAddr _ _ _); refine bS zj (jZ rfl rfl rfl rfl zq jk rfl) (aA rfl) ?_) | (apply aR (.fieldAddr 66 _ _); refine bS zj (fN rfl rfl rfl rfl) (aA rfl) ?_) | (apply aR (.load 63 _); refine bS zj (kP rfl rfl hat1 rfl) (aA rfl) ?_) | (apply aR (.buildSlice _ 0 _); refine pU (parts := []) (dp := []) (l := []) (n := 0) (l2 := []) zj rfl .nil jr rfl (by simp) (by simp) (aA rfl) rfl rfl rfl ?_) | (apply aR (.call { callee := .builtin .append, args := _, argTypes := _ }); refine kB zj rfl rfl rfl zx rfl rfl (gK c.st aPj) zg jx jx (aA rfl) ?_) | (apply bG; refine bQ ?_) | (apply dL; refine gC ?_) | (apply aU; refine bA ?_) | (apply aV; refine bE ?_) | (apply aR (.buildSlice _ _ _); first | refine dK zj rfl zx zk rfl (aC rfl) (aA rfl) ?_ | refine eQ zj rfl zd ze zk zg zg (aA rfl) ?_) | (refine mQ ?_ ?_ <;> intro hb hq <;> try omega))
  repeat' (first | (apply aB (.indexAddr _ _ _); refine aK (jZ rfl rfl rfl rfl zq jk rfl) (aA rfl) ?_) | (apply aB (.fieldAddr 66 _ _); refine aK (fN rfl rfl rfl rfl) (aA rfl) ?_) | (apply aB (.store _ _ _); refine aD (kW rfl rfl hat1 (iO s.pl (fun _ => rfl)) (.row _ _ _ _ _ rfl) rfl rfl) rfl ?_) | refine qr ?_ | refine vx ?_ | refine xl ?_ | (refine sQ ?_ ?_ <;> intro hb hq <;> try omega) | (apply nU; refine tZ ?_))
  refine cC ([(85, plaO s), (1, cop3 s)]) [(0, true), (1, true), (2, true), (4, true), (5, true), (6, true), (7, true), (8, true), (9, true), (3, false), (10, false)] [11, 12, 13] zp zp zp zg zw ?_
  simp only [planned, tailed, List.filterMap_cons, List.filterMap_nil, List.getElem?_cons_zero, List.getElem?_cons_succ, Option.map_some]
  repeat' (first | apply aZ | refine vt ?_ | (apply aR (.indexAddr _ _ _); refine bS zj (jZ rfl rfl rfl rfl zq jk rfl) (aA rfl) ?_) | (apply aR (.fieldAddr 66 _ _); refine bS zj (fN rfl rfl rfl rfl) (aA rfl) ?_) | (apply aR (.load 64 _); refine bS zj (kP rfl rfl hat2 rfl) (aA rfl) ?_) | (apply aR (.buildSlice _ 0 _); refine pU (parts := []) (dp := []) (l := []) (n := 0) (l2 := []) zj rfl .nil jr rfl (by simp) (by simp) (aA rfl) rfl rfl rfl ?_) | (apply aR (.call { callee := .builtin .append, args := _, argTypes := _ }); refine kB zj rfl rfl rfl zx rfl rfl (gK c.le aTt) zg jx jx (aA rfl) ?_) | (apply bG; refine bQ ?_) | (apply dL; refine gC ?_) | (apply aU; refine bA ?_) | (apply aV; refine bE ?_) | (apply aR (.buildSlice _ _ _); first | refine dK zj rfl zx zk rfl (aC rfl) (aA rfl) ?_ | refine eQ zj rfl zd ze zk zg zg (aA rfl) ?_) | (refine mQ ?_ ?_ <;> intro hb hq <;> try omega))
  repeat' (first | (apply aB (.indexAddr _ _ _); refine aK (jZ rfl rfl rfl rfl zq jk rfl) (aA rfl) ?_) | (apply aB (.fieldAddr 66 _ _); refine aK (fN rfl rfl rfl rfl) (aA rfl) ?_) | (apply aB (.store _ _ _); refine aD (kW rfl rfl hat2 (iO s.pl (fun _ => rfl)) (.row _ _ _ _ _ rfl) rfl rfl) rfl ?_) | refine qr ?_ | refine vx ?_ | refine xl ?_ | (refine sQ ?_ ?_ <;> intro hb hq <;> try omega) | (apply nU; refine tZ ?_))
  refine cC ([(85, plaO s), (1, cop3 s)]) [(0, true), (1, true), (2, true), (4, true), (5, true), (6, true), (7, true), (8, true), (9, true), (3, false), (10, false)] [11, 12, 13] zp zp zp zg zw ?_
  simp only [planned, tailed, List.filterMap_cons, List.filterMap_nil, List.getElem?_cons_zero, List.getElem?_cons_succ, Option.map_some]
  repeat' (first | apply aZ | refine vt ?_ | (apply aR (.indexAddr _ _ _); refine bS zj (jZ rfl rfl rfl rfl zq jk rfl) (aA rfl) ?_) | (apply aR (.fieldAddr 66 _ _); refine bS zj (fN rfl rfl rfl rfl) (aA rfl) ?_) | (apply aR (.load 26 _); refine bS zj (kP rfl rfl hat3 rfl) (aA rfl) ?_) | (apply aR (.buildSlice _ 0 _); refine pU (parts := []) (dp := []) (l := []) (n := 0) (l2 := []) zj rfl .nil jr rfl (by simp) (by simp) (aA rfl) rfl rfl rfl ?_) | (apply aR (.call { callee := .builtin .append, args := _, argTypes := _ }); refine kB zj rfl rfl rfl zx rfl rfl (uM c.lv) zg jx jx (aA rfl) ?_) | (apply bG; refine bQ ?_) | (apply dL; refine gC ?_) | (apply aU; refine bA ?_) | (apply aV; refine bE ?_) | (apply aR (.buildSlice _ _ _); first | refine dK zj rfl zx zk rfl (aC rfl) (aA rfl) ?_ | refine eQ zj rfl zd ze zk zg zg (aA rfl) ?_) | (refine mQ ?_ ?_ <;> intro hb hq <;> try omega))
  repeat' (first | (apply aB (.indexAddr _ _ _); refine aK (jZ rfl rfl rfl rfl zq jk rfl) (aA rfl) ?_) | (apply aB (.fieldAddr 66 _ _); refine aK (fN rfl rfl rfl rfl) (aA rfl) ?_) | (apply aB (.store _ _ _); refine aD (kW rfl rfl hat3 (iO s.pl (fun _ => rfl)) (.row _ _ _ _ _ rfl) rfl rfl) rfl ?_) | refine qr ?_ | refine vx ?_ | refine xl ?_ | (refine sQ ?_ ?_ <;> intro hb hq <;> try omega) | (apply nU; refine tZ ?_))
  repeat' (first | refine vb ?_ | refine xz ?_ | (refine sQ ?_ ?_ <;> intro hb hq <;> try omega))
  refine bK (⟨i + 1, rfl, by omega, rfl, rfl⟩) zb
 obtain rfl : i = s.pl.length := by omega
 have qi : decide ((s.pl.length : Int) < (s.pl.length : Int)) = false := decide_eq_false zb
 repeat' (first | (apply aB (.call { callee := .builtin .len, args := _, argTypes := _ }); refine aK (gY rfl rfl rfl ⟨_, _, _, _, rfl⟩ jg) (aA rfl) ?_) | (apply aB (.buildSlice 27 0 _); refine aD (eA rfl (aA rfl) rfl) rfl ?_) | (apply aB (.call { callee := .builtin .append, args := _, argTypes := _ }); refine aD (cY rfl rfl zx rfl rfl (gK s.pm aJc) zg zf zf (aA rfl)) rfl ?_) | (apply aB (.store _ _ _); refine aD (aN rfl rfl (dM rfl) nofun zk zo (.inl ⟨rfl, rfl⟩) rfl (aC rfl) zk) rfl ?_) | (apply aB (.buildSlice 26 0 _); refine aD (eA rfl (aA rfl) rfl) rfl ?_; first | refine iR 141 rfl ?_ | skip) | (apply aB (.call { callee := .builtin .append, args := _, argTypes := _ }); refine aD (gA rfl rfl zx rfl rfl (uM s.pu) zg zf zf (aA rfl)) rfl ?_) | (apply aB (.store _ _ _); refine aD (aN rfl rfl (dM rfl) nofun zk zo (.inl ⟨rfl, rfl⟩) rfl (aC rfl) zk) rfl ?_) | (apply aB (.call { callee := .builtin .append, args := _, argTypes := _ }); refine aD (cY rfl rfl zx rfl rfl (uM s.fv) zg zf zf (aA rfl)) rfl ?_) | (apply aB (.store _ _ _); refine aD (aN rfl rfl (dM rfl) nofun zk zo (.inl ⟨rfl, rfl⟩) rfl (aC rfl) zk) rfl ?_) | (apply aB (.buildSlice 30 0 _); refine aD (eA rfl (aA rfl) rfl) rfl ?_) | (apply aB (.call { callee := .builtin .append, args := _, argTypes := _ }); refine aD (cY rfl rfl zx rfl rfl (gK s.ve aJd) zg zf zf (aA rfl)) rfl ?_) | (apply aB (.store _ _ _); refine aD (aN rfl rfl (dM rfl) nofun zk zo (.inl ⟨rfl, rfl⟩) rfl (aC rfl) zk) rfl ?_) | (apply aB (.buildSlice 31 0 _); refine aD (eA rfl (aA rfl) rfl) rfl ?_; refine iR 156 rfl ?_) | (apply aB (.call { callee := .builtin .append, args := _, argTypes := _ }); refine aD (gA rfl rfl zx rfl rfl (gK s.bl aJa) zg zf zf (aA rfl)) rfl ?_) | (apply aB (.store _ _ _); refine aD (aN rfl rfl (dM rfl) nofun zk zo (.inl ⟨rfl, rfl⟩) rfl (aC rfl) zk) rfl ?_) | refine nq ?_ | refine xl ?_ | (refine sQ ?_ ?_ <;> intro hb hq <;> try omega) | (apply dY; refine fG ?_))
 clear hi hlt qi
 refine gN 85 rfl ?_
 refine dQ 1 4 rfl rfl (.row _ _ _ _ _ rfl) rfl ?_
 refine dQ 1 7 rfl rfl (.row _ _ _ _ _ rfl) rfl ?_
 refine dQ 1 15 rfl rfl (.row _ _ _ _ _ rfl) rfl ?_
 refine bB (fun N sl ob => ∃ i : Nat, N = s.bl.length - i ∧ i ≤ s.bl.length ∧ sl = [(6, .d (.int i)), (2, .box 2 0), (1, .box 1 0)] ∧ ob = [(156, balO s), (151, verO s), (141, purO s), (47, seeO s), (9, arcO s), (2, stZ), (1, cop4 s)]) (⟨0, rfl, Nat.zero_le _, rfl, rfl⟩) ?_
 rintro N sl ob ⟨i, rfl, hi, rfl, rfl⟩
 by_cases hlt : i < s.bl.length
 ·have hg := gT (f := SBal.c) (z := balZ) hlt
  obtain ⟨q1, q2, q3⟩ := ho.bls _ (fU (z := balZ) hlt)
  have qi : decide ((i : Int) < (s.bl.length : Int)) = true := decide_eq_true zb
  generalize s.bl.getD i balZ = c at *
  have hat2 : (s.bl.map SBal.c).flatten[i * 4 + 2]? = some (.list 2 (c.ca.map SCard.c)) := jJ (iO s.bl (fun _ => rfl)) hg rfl
  repeat' (first | (apply aB (.call { callee := .builtin .len, args := _, argTypes := _ }); refine aK (gY rfl rfl rfl ⟨_, _, _, _, rfl⟩ jg) (aA rfl) ?_) | (apply aB (.buildSlice 73 0 _); refine aD (eA rfl (aA rfl) rfl) rfl ?_; refine iR 168 rfl ?_) | (apply aB (.indexAddr _ _ _); refine aK (jZ rfl rfl rfl rfl zq jk rfl) (aA rfl) ?_) | (apply aB (.fieldAddr 75 _ _); refine aK (fN rfl rfl rfl rfl) (aA rfl) ?_) | (apply aB (.load 73 _); refine aK (kP rfl rfl hat2 rfl) (aA rfl) ?_) | (apply aB (.call { callee := .builtin .append, args := _, argTypes := _ }); refine aD (gA rfl rfl zx rfl rfl (gK c.ca aPi) zg zf zf (aA rfl)) rfl ?_) | refine nq ?_ | refine xl ?_ | (refine sQ ?_ ?_ <;> intro hb hq <;> try omega) | (apply nU; refine tZ ?_))
  refine bB (fun N sl ob => ∃ k : Nat, N = c.ca.length - k ∧ k ≤ c.ca.length ∧ sl = [(8, .d (.int k)), (7, .row 168 1), (6, .d (.int i)), (2, .box 2 0), (1, .box 1 0)] ∧ ob = [(168, .vec 78 2 1 (c.ca.map SCard.c)), (156, balO s), (151, verO s), (141, purO s), (47, seeO s), (9, arcO s), (2, stZ), (1, cop4 s)]) (⟨0, rfl, Nat.zero_le _, rfl, rfl⟩) ?_
  rintro N sl ob ⟨k, rfl, hk, rfl, rfl⟩
  by_cases hkt : k < c.ca.length
  ·have hg2 := gT (f := SCard.c) (z := crdZ) hkt
   have hsh := q3 _ (fU (z := crdZ) hkt)
   have qk : decide ((k : Int) < (c.ca.length : Int)) = true := decide_eq_true zb
   generalize c.ca.getD k crdZ = d at *
   have hat3 : (c.ca.map SCard.c).flatten[k * 2 + 1]? = some (.list 2 (d.sh.map SShare.c)) := jJ (iO c.ca (fun _ => rfl)) hg2 rfl
   repeat' (first | (apply aB (.call { callee := .builtin .len, args := _, argTypes := _ }); refine aK (gY rfl rfl rfl ⟨_, _, _, _, rfl⟩ jg) (aA rfl) ?_) | (apply aB (.buildSlice 76 0 _); refine aD (eA rfl (aA rfl) rfl) rfl ?_) | (apply aB (.indexAddr _ _ _); refine aK (jZ rfl rfl rfl rfl zq jk rfl) (aA rfl) ?_) | (apply aB (.fieldAddr 78 _ _); refine aK (fN rfl rfl rfl rfl) (aA rfl) ?_) | (apply aB (.load 76 _); refine aK (kP rfl rfl hat3 rfl) (aA rfl) ?_) | (apply aB (.call { callee := .builtin .append, args := _, argTypes := _ }); refine aD (cY rfl rfl zx rfl rfl (gK d.sh aLj) zg zf zf (aA rfl)) rfl ?_) | (apply aB (.store _ _ _); refine aD (aN rfl rfl (dM rfl) nofun zk zo (.inl ⟨rfl, rfl⟩) rfl (aC rfl) zk) rfl ?_) | (apply aB (.store _ _ _); refine aD (kW rfl rfl hat3 (iO c.ca (fun _ => rfl)) (.row _ _ _ _ _ rfl) rfl rfl) rfl ?_) | refine xl ?_ | refine xq ?_ | (refine sQ ?_ ?_ <;> intro hb hq <;> try omega) | (apply nU; refine tZ ?_) | (apply dY; refine fG ?_))
   repeat' (first | refine vb ?_ | refine xz ?_ | (refine sQ ?_ ?_ <;> intro hb hq <;> try omega))
   refine bK (⟨k + 1, rfl, by omega, rfl, rfl⟩) zb
  ·obtain rfl : k = c.ca.length := by omega
   have qk : decide ((c.ca.length : Int) < (c.ca.length : Int)) = false := decide_eq_false zb
   refine gN 168 rfl ?_
   repeat' (first | (apply aB (.call { callee := .builtin .len, args := _, argTypes := _ }); refine aK (nI zx rfl ⟨_, _, _, _, rfl⟩ jj) (aA rfl) ?_) | (apply aB (.indexAddr _ _ _); refine aK (jZ rfl rfl rfl rfl zq jk rfl) (aA rfl) ?_) | (apply aB (.fieldAddr 75 _ _); refine aK (fN rfl rfl rfl rfl) (aA rfl) ?_) | (apply aB (.store _ _ _); refine aD (kW rfl rfl hat2 (iO s.bl (fun _ => rfl)) (.row _ _ _ _ _ rfl) rfl rfl) rfl ?_) | refine vl ?_ | refine xq ?_ | (refine sQ ?_ ?_ <;> intro hb hq <;> try omega) | (apply dY; refine fG ?_))
   repeat' (first | refine vb ?_ | refine xz ?_ | (refine sQ ?_ ?_ <;> intro hb hq <;> try omega))
   refine bK (⟨i + 1, rfl, by omega, rfl, rfl⟩) zb
 obtain rfl : i = s.bl.length := by omega
 have qi : decide ((s.bl.length : Int) < (s.bl.length : Int)) = false := decide_eq_false zb
 refine gN 9 rfl ?_
 refine gN 47 rfl ?_
 refine gN 156 rfl ?_
 repeat' (first | (apply aB (.call { callee := .builtin .len, args := _, argTypes := _ }); refine aK (nI zx rfl ⟨_, _, _, _, rfl⟩ jj) (aA rfl) ?_) | refine vq ?_ | refine xq ?_ | (refine sQ ?_ ?_ <;> intro hb hq <;> try omega))
 refine dD 1 17 rfl rfl (.row _ _ _ _ _ rfl) rfl ?_
 refine cX (sl' := [(2, .box 2 0), (1, .box 1 0)]) (ob' := [(2, stZ), (1, cop5 s), (9, .row 46 4 1 (s.ar.map SArc.c)), (47, .row 60 1 1 (s.se.map seenC)), (141, purO s), (151, verO s)]) zm zw ?_
 repeat' (first | (apply aB (.load _ _); refine aK (bW rfl rfl rfl rfl rfl zg) (aA rfl) ?_) | (apply aB (.store _ _ _); refine aD (aN (k := 18) (n := [.d (.int s.ti), .row 9 1, .row 47 1, .d (carsD s), .d (plansD s), .d (intsL s.dn), .d (intsL s.at_), .d (prmsD s), .row 141 1, .d (.int s.po.mo), .d (.int s.po.pr), .d (.int s.po.ms), .d (.int s.po.co), .d (.int s.po.wi), .d (.int s.po.to), .d (intsL s.fv), .row 151 1, .d (balsD s)]) rfl rfl rfl nofun rfl zo (.inr rfl) rfl (aC rfl) rfl) rfl ?_) | refine qv ?_ | refine xz ?_ | (refine sQ ?_ ?_ <;> intro hb hq <;> try omega))
 refine aP [(9, .row 46 4 1 (s.ar.map SArc.c)), (47, .row 60 1 1 (s.se.map seenC)), (141, purO s), (151, verO s)] (by rfl) (ResV.cell _ _ _ _ rfl (fun E => bW rfl rfl rfl rfl rfl zg)) ⟨1, 1, 1, 1, rfl, rfl⟩ sb okx
end
section
open Go.RowKit
theorem aSq : PureC 136 [.list 9 [], .list 9 []] (· = .bool true) := by
 have h1 : (!decide ((0 : Int) = 0)) = false := rfl
 have qi : decide ((0 : Int) < (0 : Int)) = false := rfl
 refine aE Tryz.func136 rfl zg _ Tryz.ntmps136 (aC rfl) (fun w Pr hE => ?_)
 dsimp only [slotsOf, Nat.zero_add, Nat.reduceAdd]
 repeat' (first | refine qd ?_ | refine vf ?_ | (refine sQ ?_ ?_ <;> intro hb hq <;> try omega))
 refine bB (fun N sl ob => N = 0 ∧ sl = [(13, .d (.int 0)), (12, .d (.int 0))] ∧ ob = []) (⟨rfl, rfl, rfl⟩) ?_
 rintro N sl ob ⟨rfl, rfl, rfl⟩
 repeat' (first | refine xm ?_ | (refine sQ ?_ ?_ <;> intro hb hq <;> try omega))
 refine rt1 ?_
 rfl
theorem aSr : PureC 137 [.list 15 [], .list 15 []] (· = .bool true) := by
 have h1 : (!decide ((0 : Int) = 0)) = false := rfl
 have qi : decide ((0 : Int) < (0 : Int)) = false := rfl
 refine aE Tryz.func137 rfl zg _ Tryz.ntmps137 (aC rfl) (fun w Pr hE => ?_)
 dsimp only [slotsOf, Nat.zero_add, Nat.reduceAdd]
 repeat' (first | refine qd ?_ | refine vf ?_ | (refine sQ ?_ ?_ <;> intro hb hq <;> try omega))
 refine bB (fun N sl ob => N = 0 ∧ sl = [(13, .d (.int 0)), (12, .d (.int 0))] ∧ ob = []) (⟨rfl, rfl, rfl⟩) ?_
 rintro N sl ob ⟨rfl, rfl, rfl⟩
 repeat' (first | refine xm ?_ | (refine sQ ?_ ?_ <;> intro hb hq <;> try omega))
 refine rt1 ?_
 rfl
theorem aSs : PureC 138 [.list 2 [], .list 2 []] (· = .bool true) := by
 have h1 : (!decide ((0 : Int) = 0)) = false := rfl
 have qi : decide ((0 : Int) < (0 : Int)) = false := rfl
 refine aE Tryz.func138 rfl zg _ Tryz.ntmps138 (aC rfl) (fun w Pr hE => ?_)
 dsimp only [slotsOf, Nat.zero_add, Nat.reduceAdd]
 repeat' (first | refine qd ?_ | refine vf ?_ | (refine sQ ?_ ?_ <;> intro hb hq <;> try omega))
 refine bB (fun N sl ob => N = 0 ∧ sl = [(13, .d (.int 0)), (12, .d (.int 0))] ∧ ob = []) (⟨rfl, rfl, rfl⟩) ?_
 rintro N sl ob ⟨rfl, rfl, rfl⟩
 repeat' (first | refine xm ?_ | (refine sQ ?_ ?_ <;> intro hb hq <;> try omega))
 refine rt1 ?_
 rfl
abbrev fvalz (f : Nat) : D := .val (.func (.func f) #[] #[])
abbrev sameOz : Objs := [(1002, .box 173 [nfun 129])]
theorem aNr : PureC 122 [.list 4 [], .list 4 [], fvalz 123] (· = .bool true) := by
 have h1 : (!decide ((0 : Int) = 0)) = false := rfl
 have qi : decide ((0 : Int) < (0 : Int)) = false := rfl
 refine aE Tryz.func122 rfl zg _ Tryz.ntmps122 (aC rfl) (fun w Pr hE => ?_)
 dsimp only [slotsOf, Nat.zero_add, Nat.reduceAdd]
 repeat' (first | refine qd ?_ | refine vf ?_ | (refine sQ ?_ ?_ <;> intro hb hq <;> try omega))
 refine bB (fun N sl ob => N = 0 ∧ sl = [(17, .d (.int 0)), (16, .d (.int 0))] ∧ ob = ([] : Objs)) (⟨rfl, rfl, rfl⟩) ?_
 rintro N sl ob ⟨rfl, rfl, rfl⟩
 repeat' (first | refine xm ?_ | (refine sQ ?_ ?_ <;> intro hb hq <;> try omega))
 refine rt1 ?_
 rfl
theorem aKq : PureC 125 [.list 4 [], .list 4 [], fvalz 126] (· = .bool true) := by
 have h1 : (!decide ((0 : Int) = 0)) = false := rfl
 have qi : decide ((0 : Int) < (0 : Int)) = false := rfl
 refine aE Tryz.func125 rfl zg _ Tryz.ntmps125 (aC rfl) (fun w Pr hE => ?_)
 dsimp only [slotsOf, Nat.zero_add, Nat.reduceAdd]
 repeat' (first | refine qd ?_ | refine vf ?_ | (refine sQ ?_ ?_ <;> intro hb hq <;> try omega))
 refine bB (fun N sl ob => N = 0 ∧ sl = [(17, .d (.int 0)), (16, .d (.int 0))] ∧ ob = ([] : Objs)) (⟨rfl, rfl, rfl⟩) ?_
 rintro N sl ob ⟨rfl, rfl, rfl⟩
 repeat' (first | refine xm ?_ | (refine sQ ?_ ?_ <;> intro hb hq <;> try omega))
 refine rt1 ?_
 rfl
theorem aKr : PureC 134 [.list 1 [], .list 1 [], fvalz 135] (· = .bool true) := by
 have h1 : (!decide ((0 : Int) = 0)) = false := rfl
 have qi : decide ((0 : Int) < (0 : Int)) = false := rfl
 refine aE Tryz.func134 rfl zg _ Tryz.ntmps134 (aC rfl) (fun w Pr hE => ?_)
 dsimp only [slotsOf, Nat.zero_add, Nat.reduceAdd]
 repeat' (first | refine qd ?_ | refine vf ?_ | (refine sQ ?_ ?_ <;> intro hb hq <;> try omega))
 refine bB (fun N sl ob => N = 0 ∧ sl = [(17, .d (.int 0)), (16, .d (.int 0))] ∧ ob = ([] : Objs)) (⟨rfl, rfl, rfl⟩) ?_
 rintro N sl ob ⟨rfl, rfl, rfl⟩
 repeat' (first | refine xm ?_ | (refine sQ ?_ ?_ <;> intro hb hq <;> try omega))
 refine rt1 ?_
 rfl
theorem aNs : ObC 131 [.d (.list 4 []), .d (.list 4 []), .clo (.func 132) [.box 1002 0]] sameOz [] (fun r o => r = .d (.bool true) ∧ o = sameOz) := by
 have h1 : (!decide ((0 : Int) = 0)) = false := rfl
 have qi : decide ((0 : Int) < (0 : Int)) = false := rfl
 refine aI Tryz.func131 rfl zg _ Tryz.ntmps131 (aC rfl) rfl (fun w Pr β κ hE => ?_)
 dsimp only [slotsV, Nat.zero_add, Nat.reduceAdd]
 repeat' (first | refine qd ?_ | refine vf ?_ | (refine sQ ?_ ?_ <;> intro hb hq <;> try omega))
 refine bB (fun N sl ob => N = 0 ∧ sl = [(17, .d (.int 0)), (16, .d (.int 0))] ∧ ob = ([(1002, .box 173 [nfun 129])] : Objs)) (⟨rfl, rfl, rfl⟩) ?_
 rintro N sl ob ⟨rfl, rfl, rfl⟩
 repeat' (first | refine xm ?_ | (refine sQ ?_ ?_ <;> intro hb hq <;> try omega))
 refine aP (sameOz) (by rfl) rv (⟨rfl, rfl⟩) sb okx
end
section
open Go.RowKit
theorem eK {α : Type} {a b : List α} {k : Nat} (h1 : k < a.length) (h2 : k < b.length) (h : ∀ j, j < k → a[j]? = b[j]?) (he : a[k] = b[k]) : ∀ j, j < k + 1 → a[j]? = b[j]? := fun j hj => by
 rcases Nat.lt_succ_iff_lt_or_eq.1 hj with h3 | rfl
 ·exact h j h3
 ·rw [List.getElem?_eq_getElem h1, List.getElem?_eq_getElem h2, he]
theorem fL {α : Type} {a b : List α} (hl : a.length = b.length) (h : ∀ j, j < a.length → a[j]? = b[j]?) : a = b := by
 apply List.ext_getElem?
 intro j
 by_cases hj : j < a.length
 ·exact h j hj
 ·rw [List.getElem?_eq_none zb, List.getElem?_eq_none zb]
theorem aPh (x y : SObs) : eqL x.c y.c = decide (x = y) := by
 cases x; cases y
 simp [eqL]
theorem aNl (x y : SCar) : eqL x.c y.c = decide (x = y) := by
 cases x; cases y
 simp [eqL]
theorem aJr (x y : SStop) : eqL x.c y.c = decide (x = y) := by
 cases x with | mk a b => cases y with | mk c d => cases b <;> cases d <;> simp [eqL]
theorem aOn (x y : SLeg) : eqL x.c y.c = decide (x = y) := by
 cases x; cases y
 simp [eqL]
theorem aRe (x y : SVer) : eqL x.c y.c = decide (x = y) := by
 cases x; cases y
 simp [eqL]
theorem aFu (x y : SShare) : eqL x.c y.c = decide (x = y) := by
 cases x; cases y
 simp [eqL]
theorem aBl (a b : List Int) (ha : a.length ≤ 1000000) : PureC 124 [.list 1 (a.map (fun n : Int => [D.int n])), .list 1 (b.map (fun n : Int => [D.int n]))] (· = .bool (decide (a = b))) := by
 have hm1 : (a.map (fun n : Int => [D.int n])).length = a.length := List.length_map ..
 have hm2 : (b.map (fun n : Int => [D.int n])).length = b.length := List.length_map ..
 by_cases hl : a.length = b.length
 rotate_left 1
 ·have h1 : (!decide ((a.length : Int) = b.length)) = true := by
   have : ¬ (a.length : Int) = b.length := by omega
   simp [this]
  have hne : ¬ a = b := by rintro rfl; exact hl rfl
  refine aE Tryz.func124 rfl zg _ Tryz.ntmps124 (aC rfl) (fun w Pr hE => ?_)
  dsimp only [slotsOf, Nat.zero_add, Nat.reduceAdd]
  repeat' (first | refine qd ?_ | refine vf ?_ | (refine sQ ?_ ?_ <;> intro hb hq <;> try omega))
  refine rt1 ?_
  simp [hne]
 ·have h1 : (!decide ((a.length : Int) = b.length)) = false := by simp [hl]
  refine aE Tryz.func124 rfl zg _ Tryz.ntmps124 (aC rfl) (fun w Pr hE => ?_)
  dsimp only [slotsOf, Nat.zero_add, Nat.reduceAdd]
  repeat' (first | refine qd ?_ | refine vf ?_ | (refine sQ ?_ ?_ <;> intro hb hq <;> try omega))
  clear h1
  refine bB (fun N sl ob => ∃ k : Nat, N = a.length - k ∧ k ≤ a.length ∧ (∀ j, j < k → a[j]? = b[j]?) ∧ sl = [(13, .d (.int k)), (12, .d (.int a.length)), (0, .d (.list 1 (a.map (fun n : Int => [D.int n])))), (1, .d (.list 1 (b.map (fun n : Int => [D.int n]))))] ∧ ob = []) (⟨0, rfl, Nat.zero_le _, fun j hj => by omega, rfl, rfl⟩) ?_
  rintro N sl ob ⟨k, rfl, hk, hp, rfl, rfl⟩
  by_cases hlt : k < a.length
  ·have hlt2 : k < b.length := by omega
   have hg1 : (a.map (fun n : Int => [D.int n]))[k]? = some ((fun n : Int => [D.int n]) a[k]) := by rw [bC hlt]
   have hg2 : (b.map (fun n : Int => [D.int n]))[k]? = some ((fun n : Int => [D.int n]) b[k]) := by rw [bC hlt2]
   have qi : decide ((k : Int) < (a.length : Int)) = true := decide_eq_true zb
   have hnx := eK hlt hlt2 hp
   have hne : ¬ a[k] = b[k] → ¬ a = b := fun h e => h (by simp [e])
   generalize a[k] = x at *
   generalize b[k] = y at *
   by_cases he : x = y
   ·have e1 : (!decide (x = y)) = false := by simp [he]
    repeat' (first | refine qf ?_ | (refine sQ ?_ ?_ <;> intro hb hq <;> try omega))
    refine dF [(0, true), (1, true), (2, true), (3, true), (4, true), (5, true), (6, true), (7, true), (8, true)] [] zp zp zp zg ?_
    simp only [planned, tailed, List.filterMap_cons, List.filterMap_nil, List.getElem?_cons_zero, List.getElem?_cons_succ, Option.map_some]
    repeat' (first | apply aZ | refine vt ?_ | (apply aR (.indexAddr _ _ _); refine bS zj (cT zx rfl rfl zq hg1) (aA rfl) ?_) | (apply aR (.indexAddr _ _ _); refine bS zj (cT zx rfl rfl zq hg2) (aA rfl) ?_) | (apply bG; refine bQ ?_) | (apply dW; refine fV ?_) | (apply dL; refine gC ?_) | (apply aU; refine bA ?_) | (refine mQ ?_ ?_ <;> intro hb hq <;> try omega))
    repeat' (first | refine qn ?_ | refine vg ?_ | (refine sQ ?_ ?_ <;> intro hb hq <;> try omega) | (apply kZ; refine oS ?_))
    refine bK (⟨k + 1, rfl, by omega, hnx he, rfl, rfl⟩) zb
   ·have e1 : (!decide (x = y)) = true := by simp [he]
    have hne := hne he
    repeat' (first | refine qf ?_ | (refine sQ ?_ ?_ <;> intro hb hq <;> try omega))
    refine dF [(0, true), (1, true), (2, true), (3, true), (4, true), (5, true), (6, true), (7, true), (8, true)] [] zp zp zp zg ?_
    simp only [planned, tailed, List.filterMap_cons, List.filterMap_nil, List.getElem?_cons_zero, List.getElem?_cons_succ, Option.map_some]
    repeat' (first | apply aZ | refine vt ?_ | (apply aR (.indexAddr _ _ _); refine bS zj (cT zx rfl rfl zq hg1) (aA rfl) ?_) | (apply aR (.indexAddr _ _ _); refine bS zj (cT zx rfl rfl zq hg2) (aA rfl) ?_) | (apply bG; refine bQ ?_) | (apply dW; refine fV ?_) | (apply dL; refine gC ?_) | (apply aU; refine bA ?_) | (refine mQ ?_ ?_ <;> intro hb hq <;> try omega))
    repeat' (first | refine vf ?_ | refine vg ?_ | refine xz ?_ | (refine sQ ?_ ?_ <;> intro hb hq <;> try omega))
    refine rt1 ?_
    simp [hne]
  ·obtain rfl : k = a.length := by omega
   have qi : decide ((a.length : Int) < (a.length : Int)) = false := decide_eq_false zb
   have hab : a = b := fL hl hp
   repeat' (first | refine xm ?_ | (refine sQ ?_ ?_ <;> intro hb hq <;> try omega))
   refine rt1 ?_
   simp [hab]
end
section
open Go.RowKit
theorem aPr (x y : SProm) : (eqL (SReq.c x.q) (SReq.c y.q) && eqL [.int x.car, .int x.ve, .int x.fa, .int x.sg, .int x.ow] [.int y.car, .int y.ve, .int y.fa, .int y.sg, .int y.ow]) = decide (x = y) := by
 rcases x with ⟨⟨_, _, _, _, _, _, _, _, _, _⟩, _, _, _, _, _⟩
 rcases y with ⟨⟨_, _, _, _, _, _, _, _, _, _⟩, _, _, _, _, _⟩
 simp [eqL, Bool.and_assoc]
theorem aCb (x y : SPool) : eqL x.c y.c = decide (x = y) := by
 cases x; cases y
 simp [eqL]
end
end Go.Proofs.YtaodngiigdbgeaaGreatDoor
