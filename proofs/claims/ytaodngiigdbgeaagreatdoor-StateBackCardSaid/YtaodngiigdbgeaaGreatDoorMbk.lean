/-
  Conditions: none.
-/
import Derived.Test.YtaodngiigdbgeaaGreatDoorMaa
import Derived.Test.YtaodngiigdbgeaaGreatDoorMal
import Derived.Test.YtaodngiigdbgeaaGreatDoorMam
import Derived.Test.YtaodngiigdbgeaaGreatDoorMbg
import Derived.Test.YtaodngiigdbgeaaGreatDoorMbh
import Derived.Test.YtaodngiigdbgeaaGreatDoorMbj
set_option maxHeartbeats 16000000
set_option maxRecDepth 20000
set_option linter.unusedSimpArgs false
set_option linter.unusedVariables false
namespace Go.Proofs.YtaodngiigdbgeaaGreatDoor
section
open Go.RowKit
attribute [local irreducible] numS textS itemsS
def zeroS : SSt := ⟨0, [], [], [], [], [], [], [], [], ⟨0, 0, 0, 0, 0, 0⟩, [], [], []⟩
noncomputable def readD (t : ByteArray) : D := if saidQ t = true then .tup [.agg (stateS t).v.c, .int 0] else .tup [.agg zeroS.c, .int 2]
section
variable {E : Entry} {sl : Slots} {ob : Objs} {dd : Option Nat} {t T : TypeId} {p : String} {af : Array Edge} {g : Option (Nat × Bool)}
theorem kK {i o j : Nat} {z : List Value} {fs : List (Nat × Nat × Nat)} (hx : look sl j = .box i o) (hT : ti t = .st z fs) (hl : ∀ u, dfill (fun i => (fs[i]?).map fun q => (q.1, q.2.1)) (z.map D.val) [(0, .val (.pointer u))] = some [.val (.pointer u)]) : Y E ⟨dd, .build t #[(0, .tmp j)], T, p, af, g⟩ sl ob (.agg [.box i o]) := fun a w Pr β κ h => by
 have hv := h.slots j
 rw [hx] at hv
 have key : ∀ v, RepV w Pr β κ v (.box i o) → ∃ u, v = .pointer u := fun v hv => by cases hv; exact ⟨_, rfl⟩
 obtain ⟨u, hu⟩ := key _ hv
 have h' : Good E ((j, .d (.val (.pointer u))) :: sl) ob a w Pr β κ := h.slot (by rw [hu]; exact .d _ _ (.val _))
 obtain ⟨v, hv2, hr⟩ := eH (d := dd) (T := T) (p := p) (af := af) (g := g) (parts := [(0, .tmp j)]) hT (PartsD.cons (by rw [show ev ((j, V.d (D.val (.pointer u))) :: sl) (.tmp j) = .d (.val (.pointer u)) from iK _ _ _]; exact ToD.d _) PartsD.nil) (hl u) a w Pr β κ h'
 have hag := hv2.d_inv
 cases hag with
 | agg cs _ hl2 hd =>
  match cs, hl2 with
  | [c0], _ =>
   have h0 := hd 0 c0 _ rfl rfl
   cases h0
   rw [hu] at hv
   exact ⟨_, .agg [_] [_] rfl (fun i v d h1 h2 => by
    match i with
    | 0 => cases h1; cases h2; exact hv), hr⟩
end
abbrev rdb4 : O := .box 85 [.box 8 0]
theorem xY (t : ByteArray) (ht : t.size ≤ 900000) : PureC 10 [.str t] (· = readD t) := by
 have c0 := aAy t
 have hS : stateS t = stateS t := rfl
 conv at hS => rhs; unfold stateS
 have c1 := fB [0] [.int 0, nilD, nilD, nilD, nilD, nilD, nilD, nilD, nilD, .int 0, .int 0, .int 0, .int 0, .int 0, .int 0, nilD, nilD, nilD] 33 t false zb zg zg
 have le1 := cF 1 t false
 simp only [List.length_cons, List.length_nil, Nat.zero_add] at c1
 have hv := dS 1 t false
 rcases h1 : numsS 1 t false with ⟨v, r1, b1⟩
 rw [h1] at hv c1 le1 hS
 obtain ⟨ti, rfl⟩ := rB hv
 simp only [setD, List.set_cons_zero, List.set_cons_succ, List.map_cons, List.map_nil] at c1
 dsimp only at le1 hS
 have c2 := aFf r1 b1 zb
 have lec2 := cG rO r1 b1
 rcases h2 : manyS arcS r1 b1 with ⟨ar, r2, b2⟩
 rw [h2] at c2 lec2 hS
 dsimp only at c2 lec2 hS
 have c3 := aCn r2 b2 zb
 have lec3 := cG pO r2 b2
 rcases h3 : manyS seenS r2 b2 with ⟨se, r3, b3⟩
 rw [h3] at c3 lec3 hS
 dsimp only at c3 lec3 hS
 have c4 := aFj r3 b3 zb
 have lec4 := cG vL r3 b3
 rcases h4 : manyS carS r3 b3 with ⟨cs, r4, b4⟩
 rw [h4] at c4 lec4 hS
 dsimp only at c4 lec4 hS
 have c5 := aCj r4 b4 zb
 have lec5 := cG pH r4 b4
 rcases h5 : manyS planS r4 b4 with ⟨pl, r5, b5⟩
 rw [h5] at c5 lec5 hS
 dsimp only at c5 lec5 hS
 have c6 := gL r5 b5 zb
 have lec6 := eS r5 b5
 rcases h6 : intsS r5 b5 with ⟨dn, r6, b6⟩
 rw [h6] at c6 lec6 hS
 dsimp only at c6 lec6 hS
 have c7 := gL r6 b6 zb
 have lec7 := eS r6 b6
 rcases h7 : intsS r6 b6 with ⟨at_, r7, b7⟩
 rw [h7] at c7 lec7 hS
 dsimp only at c7 lec7 hS
 have c8 := aCl r7 b7 zb
 have lec8 := cG sN r7 b7
 rcases h8 : manyS promS r7 b7 with ⟨pm, r8, b8⟩
 rw [h8] at c8 lec8 hS
 dsimp only at c8 lec8 hS
 have c9 := gL r8 b8 zb
 have lec9 := eS r8 b8
 rcases h9 : intsS r8 b8 with ⟨pu, r9, b9⟩
 rw [h9] at c9 lec9 hS
 dsimp only at c9 lec9 hS
 have c10 := fB [9, 10, 11, 12, 13, 14] [.int ti, .list 4 (ar.map SArc.c), .list 1 (se.map seenC), .list 9 (cs.map SCar.c), .list 4 (pl.map SPlan.c), intsL dn, intsL at_, .list 15 (pm.map SProm.c), intsL pu, .int 0, .int 0, .int 0, .int 0, .int 0, .int 0, nilD, nilD, nilD] 33 r9 b9 zb zg (fun o ho => by simp only [List.mem_cons, List.not_mem_nil, or_false] at ho; simp only [List.length_cons, List.length_nil]; omega)
 have lec10 := cF 6 r9 b9
 simp only [List.length_cons, List.length_nil, Nat.zero_add, Nat.reduceAdd] at c10
 have hv2 := dS 6 r9 b9
 rcases h10 : numsS 6 r9 b9 with ⟨v, r10, b10⟩
 rw [h10] at hv2 c10 lec10 hS
 obtain ⟨p1, p2, p3, p4, p5, p6, rfl⟩ := aQr hv2
 simp only [setD, List.set_cons_zero, List.set_cons_succ, List.map_cons, List.map_nil] at c10
 dsimp only at lec10 hS
 have c11 := gL r10 b10 zb
 have lec11 := eS r10 b10
 rcases h11 : intsS r10 b10 with ⟨fv, r11, b11⟩
 rw [h11] at c11 lec11 hS
 dsimp only at c11 lec11 hS
 have c12 := aFn r11 b11 zb
 have lec12 := cG tD r11 b11
 rcases h12 : manyS verS r11 b11 with ⟨ve, r12, b12⟩
 rw [h12] at c12 lec12 hS
 dsimp only at c12 lec12 hS
 have c13 := aFh r12 b12 zb
 have lec13 := cG vK r12 b12
 rcases h13 : manyS balS r12 b12 with ⟨bl, r13, b13⟩
 rw [h13] at c13 lec13 hS
 dsimp only at c13 lec13 hS
 have c14 := aDu r13 b13
 have hok := qJ ht
 have hR : readD t = readD t := rfl
 conv at hR => rhs; unfold readD saidQ
 rw [hS] at hR hok
 dsimp only [List.getD_cons_zero, List.getD_cons_succ] at hR hok
 have c15 := kJ _ hok
 generalize hd : SSt.said _ = sd at c15 hR
 clear hok hd hS
 rw [hR]
 clear hR h1 h2 h3 h4 h5 h6 h7 h8 h9 h10 h11 h12 h13 hv hv2 le1 lec2 lec3 lec4 lec5 lec6 lec7 lec8 lec9 lec10 lec11 lec12 lec13
 refine aE Tryz.func10 rfl zg _ Tryz.ntmps10 (aC rfl) (fun w Pr hE => ?_)
 dsimp only [slotsOf, Nat.zero_add, Nat.reduceAdd]
 repeat' (first | (apply aB (.buildSlice 207 _ _); refine aD (eG rfl zt (by rfl) zg (aA rfl) (by rfl) (by rfl)) rfl ?_) | (apply aB (.load 85 _); refine aK (bW rfl rfl rfl rfl rfl zg) (aA rfl) ?_) | (apply aB (.build 85 _); refine aK (kK rfl rfl (fun u => by simp [dfill, putD, cellsD, Value.cells])) (aA rfl) ?_) | (apply aB (.makeFunc _ _ #[_]); refine aK (eC rfl) (aA rfl) ?_) | (apply aB (.store 85 _ _); refine aD (aN (k := 1) (n := [.box 8 0]) rfl rfl rfl nofun rfl zo (.inr rfl) rfl (aC rfl) rfl) rfl ?_) | refine oQ [(5, 8)] (c0) hE ?_ | refine oQ [(1000, 8), (1001, 12), (1002, 5)] (c1) hE ?_ | refine qo ?_ | refine vd ?_ | refine vy ?_ | refine cQ ?_ | (refine sQ ?_ ?_ <;> intro hb hq <;> try omega) | (apply fD; refine gF ?_))
 clear c0 c1
 refine cC ([(4, rdb4)]) [(0, true), (1, true), (2, true), (4, true), (5, true), (6, true), (3, false), (7, false), (8, true), (9, false)] [10, 11] zp zp zp zg zw ?_
 simp only [planned, tailed, List.filterMap_cons, List.filterMap_nil, List.getElem?_cons_zero, List.getElem?_cons_succ, Option.map_some]
 repeat' (first | apply aZ | refine vt ?_ | (apply aR (.load 85 _); refine bS zj (bW rfl rfl rfl rfl rfl zg) (aA rfl) ?_) | (apply aR (.store _ _ _); refine dU zj rfl rfl rfl (dR rfl) nofun zk zo (.inl ⟨rfl, rfl⟩) rfl (aC rfl) zk ?_) | (apply aR (.buildSlice 207 _ _); refine lA zj rfl zt (by rfl) zg (aA rfl) (by rfl) (by rfl) (by rfl) (by rfl) ?_) | (apply aM; refine fO [(1000, 8)] (c2) hE ?_; rintro _ _ ⟨rfl, rfl⟩ <;> (intro _ _ h1 h2; simp only [aO, Nat.reduceBEq, aG, aL, aH] at h1 h2; subst h1 h2; (try dsimp only [flatV, flat, D.plain, D.plainL]))) | (apply aM; refine fO [(1000, 8)] (c3) hE ?_; rintro _ _ ⟨rfl, rfl⟩ <;> (intro _ _ h1 h2; simp only [aO, Nat.reduceBEq, aG, aL, aH] at h1 h2; subst h1 h2; (try dsimp only [flatV, flat, D.plain, D.plainL]))) | (apply vW; refine aBv ?_) | (apply aU; refine bA ?_) | (apply aV; refine bE ?_) | (refine mQ ?_ ?_ <;> intro hb hq <;> try omega))
 repeat' (first | refine nx ?_ | refine ql ?_ | refine xd ?_ | (refine sQ ?_ ?_ <;> intro hb hq <;> try omega))
 clear c2 c3
 refine cC ([(4, rdb4)]) [(0, true), (1, true), (2, true), (4, true), (5, true), (6, true), (3, false), (7, false), (8, true), (9, false)] [10, 11] zp zp zp zg zw ?_
 simp only [planned, tailed, List.filterMap_cons, List.filterMap_nil, List.getElem?_cons_zero, List.getElem?_cons_succ, Option.map_some]
 repeat' (first | apply aZ | refine vt ?_ | (apply aR (.load 85 _); refine bS zj (bW rfl rfl rfl rfl rfl zg) (aA rfl) ?_) | (apply aR (.store _ _ _); refine dU zj rfl rfl rfl (dR rfl) nofun zk zo (.inl ⟨rfl, rfl⟩) rfl (aC rfl) zk ?_) | (apply aR (.buildSlice 207 _ _); refine lA zj rfl zt (by rfl) zg (aA rfl) (by rfl) (by rfl) (by rfl) (by rfl) ?_) | (apply aM; refine fO [(1000, 8)] (c4) hE ?_; rintro _ _ ⟨rfl, rfl⟩ <;> (intro _ _ h1 h2; simp only [aO, Nat.reduceBEq, aG, aL, aH] at h1 h2; subst h1 h2; (try dsimp only [flatV, flat, D.plain, D.plainL]))) | (apply aM; refine fO [(1000, 8)] (c5) hE ?_; rintro _ _ ⟨rfl, rfl⟩ <;> (intro _ _ h1 h2; simp only [aO, Nat.reduceBEq, aG, aL, aH] at h1 h2; subst h1 h2; (try dsimp only [flatV, flat, D.plain, D.plainL]))) | (apply vW; refine aBv ?_) | (apply aU; refine bA ?_) | (apply aV; refine bE ?_) | (refine mQ ?_ ?_ <;> intro hb hq <;> try omega))
 repeat' (first | refine nx ?_ | refine ql ?_ | refine xd ?_ | (refine sQ ?_ ?_ <;> intro hb hq <;> try omega))
 clear c4 c5
 refine cC ([(4, rdb4)]) [(0, true), (1, true), (3, true), (4, true), (2, false), (5, false), (6, true), (7, false)] [8, 9] zp zp zp zg zw ?_
 simp only [planned, tailed, List.filterMap_cons, List.filterMap_nil, List.getElem?_cons_zero, List.getElem?_cons_succ, Option.map_some]
 repeat' (first | apply aZ | refine vt ?_ | (apply aR (.load 85 _); refine bS zj (bW rfl rfl rfl rfl rfl zg) (aA rfl) ?_) | (apply aR (.store _ _ _); refine dU zj rfl rfl rfl (dR rfl) nofun zk zo (.inl ⟨rfl, rfl⟩) rfl (aC rfl) zk ?_) | (apply aR (.buildSlice 207 _ _); refine lA zj rfl zt (by rfl) zg (aA rfl) (by rfl) (by rfl) (by rfl) (by rfl) ?_) | (apply aM; refine fO [(1000, 8)] (c6) hE ?_; rintro _ _ ⟨rfl, rfl⟩; clear c6 <;> (intro _ _ h1 h2; simp only [aO, Nat.reduceBEq, aG, aL, aH] at h1 h2; subst h1 h2; (try dsimp only [flatV, flat, D.plain, D.plainL]))) | (apply aM; refine fO [(1000, 8)] (c7) hE ?_; rintro _ _ ⟨rfl, rfl⟩ <;> (intro _ _ h1 h2; simp only [aO, Nat.reduceBEq, aG, aL, aH] at h1 h2; subst h1 h2; (try dsimp only [flatV, flat, D.plain, D.plainL]))) | (apply aU; refine bA ?_) | (apply aV; refine bE ?_) | (refine mQ ?_ ?_ <;> intro hb hq <;> try omega))
 clear c7
 repeat' (first | (apply aB (.buildSlice 207 _ _); refine aD (eG rfl zt (by rfl) zg (aA rfl) (by rfl) (by rfl)) rfl ?_) | (apply aB (.load 85 _); refine aK (bW rfl rfl rfl rfl rfl zg) (aA rfl) ?_) | (apply aB (.build 85 _); refine aK (kK rfl rfl (fun u => by simp [dfill, putD, cellsD, Value.cells])) (aA rfl) ?_) | (apply aB (.makeFunc _ _ #[_]); refine aK (eC rfl) (aA rfl) ?_) | (apply aB (.store 85 _ _); refine aD (aN (k := 1) (n := [.box 8 0]) rfl rfl rfl nofun rfl zo (.inr rfl) rfl (aC rfl) rfl) rfl ?_) | refine oQ [(1000, 8)] (c8) hE ?_ | refine oQ [(1000, 8)] (c9) hE ?_ | refine qg ?_ | refine ql ?_ | refine xd ?_ | (refine sQ ?_ ?_ <;> intro hb hq <;> try omega))
 clear c8 c9
 refine cC ([(4, rdb4)]) [(0, true), (1, true), (2, true), (3, true), (4, true), (5, true), (6, true), (7, true), (8, true), (9, true), (10, true), (11, true), (12, true), (13, true), (14, true), (15, true), (16, true), (17, true), (18, true), (19, false), (20, false)] [] zp zp zp zg zw ?_
 simp only [planned, tailed, List.filterMap_cons, List.filterMap_nil, List.getElem?_cons_zero, List.getElem?_cons_succ, Option.map_some]
 repeat' (first | apply aZ | refine vt ?_ | (apply aR (.load 85 _); refine bS zj (bW rfl rfl rfl rfl rfl zg) (aA rfl) ?_) | (apply aR (.store _ _ _); refine dU zj rfl rfl rfl (dR rfl) nofun zk zo (.inl ⟨rfl, rfl⟩) rfl (aC rfl) zk ?_) | (apply aR (.buildSlice 207 _ _); refine lA zj rfl zt (by rfl) zg (aA rfl) (by rfl) (by rfl) (by rfl) (by rfl) ?_) | (apply aM; refine fO [(1000, 8), (1001, 71), (1002, 5)] (c10) hE ?_; rintro _ _ ⟨rfl, rfl⟩ <;> (intro _ _ h1 h2; simp only [aO, Nat.reduceBEq, aG, aL, aH] at h1 h2; subst h1 h2; (try dsimp only [flatV, flat, D.plain, D.plainL]))) | (apply bG; refine bQ ?_) | (apply aU; refine bA ?_) | (apply aV; refine bE ?_) | (apply lS; refine oG ?_) | (apply aR (.buildSlice _ _ _); first | refine dK zj rfl zx zk rfl (aC rfl) (aA rfl) ?_ | refine eQ zj rfl zd ze zk zg zg (aA rfl) ?_) | (refine mQ ?_ ?_ <;> intro hb hq <;> try omega))
 clear c10
 repeat' (first | (apply aB (.buildSlice 207 _ _); refine aD (eG rfl zt (by rfl) zg (aA rfl) (by rfl) (by rfl)) rfl ?_) | (apply aB (.load 85 _); refine aK (bW rfl rfl rfl rfl rfl zg) (aA rfl) ?_) | (apply aB (.build 85 _); refine aK (kK rfl rfl (fun u => by simp [dfill, putD, cellsD, Value.cells])) (aA rfl) ?_) | (apply aB (.makeFunc _ _ #[_]); refine aK (eC rfl) (aA rfl) ?_) | (apply aB (.store 85 _ _); refine aD (aN (k := 1) (n := [.box 8 0]) rfl rfl rfl nofun rfl zo (.inr rfl) rfl (aC rfl) rfl) rfl ?_) | refine oQ [(1000, 8)] (c11) hE ?_ | refine oQ [(1000, 8), (1005, 4)] (c12) hE ?_ | refine oQ [(1000, 8)] (c13) hE ?_ | refine ql ?_ | refine vd ?_ | refine vh ?_ | refine vo ?_ | (refine sQ ?_ ?_ <;> intro hb hq <;> try omega))
 clear c11 c12 c13
 generalize (!b13 && decide (r13 = emp)) = q2 at *
 cases q1 : decide (t = emp)
 rotate_left 1
 ·have q4 : decide (t = (⟨#[]⟩ : ByteArray)) = true := q1
  repeat' (first | refine xc ?_ | refine xd ?_ | refine xv ?_ | refine cQ ?_ | (refine sQ ?_ ?_ <;> intro hb hq <;> try omega) | (refine wQ ?_ ?_ <;> intro hb hq <;> try omega))
  refine aJ 2 1 rfl rfl (ToD.nil 4) rfl ?_
  refine aJ 2 2 rfl rfl (ToD.nil 1) rfl ?_
  refine aJ 2 3 rfl rfl (ToD.nil 9) rfl ?_
  refine aJ 2 4 rfl rfl (ToD.nil 4) rfl ?_
  refine aJ 2 5 rfl rfl (ToD.nil 1) rfl ?_
  refine aJ 2 6 rfl rfl (ToD.nil 1) rfl ?_
  refine aJ 2 7 rfl rfl (ToD.nil 15) rfl ?_
  refine aJ 2 8 rfl rfl (ToD.nil 1) rfl ?_
  refine aJ 2 15 rfl rfl (ToD.nil 1) rfl ?_
  refine aJ 2 16 rfl rfl (ToD.nil 2) rfl ?_
  refine aJ 2 17 rfl rfl (ToD.nil 4) rfl ?_
  refine mU (by rfl) (by first | exact ResX.tmp _ _ zx | exact ResX.cellA _ _ _ _ _ _ _ rfl rfl rfl zk rfl | exact ResX.cell1 _ _ _ _ _ _ rfl rfl rfl zx) (by first | exact ResX.tmp _ _ zx | exact ResX.cellA _ _ _ _ _ _ _ rfl rfl rfl zk rfl | exact ResX.cell1 _ _ _ _ _ _ rfl rfl rfl zx) ?_
  rfl
 have q4 : decide (t = (⟨#[]⟩ : ByteArray)) = false := q1
 cases q2
 ·skip
  repeat' (first | refine oQ [(1000, 8)] (c14) hE ?_ | refine xc ?_ | refine xd ?_ | refine xv ?_ | refine cQ ?_ | (refine sQ ?_ ?_ <;> intro hb hq <;> try omega) | (refine wQ ?_ ?_ <;> intro hb hq <;> try omega))
  refine aJ 2 1 rfl rfl (ToD.nil 4) rfl ?_
  refine aJ 2 2 rfl rfl (ToD.nil 1) rfl ?_
  refine aJ 2 3 rfl rfl (ToD.nil 9) rfl ?_
  refine aJ 2 4 rfl rfl (ToD.nil 4) rfl ?_
  refine aJ 2 5 rfl rfl (ToD.nil 1) rfl ?_
  refine aJ 2 6 rfl rfl (ToD.nil 1) rfl ?_
  refine aJ 2 7 rfl rfl (ToD.nil 15) rfl ?_
  refine aJ 2 8 rfl rfl (ToD.nil 1) rfl ?_
  refine aJ 2 15 rfl rfl (ToD.nil 1) rfl ?_
  refine aJ 2 16 rfl rfl (ToD.nil 2) rfl ?_
  refine aJ 2 17 rfl rfl (ToD.nil 4) rfl ?_
  refine mU (by rfl) (by first | exact ResX.tmp _ _ zx | exact ResX.cellA _ _ _ _ _ _ _ rfl rfl rfl zk rfl | exact ResX.cell1 _ _ _ _ _ _ rfl rfl rfl zx) (by first | exact ResX.tmp _ _ zx | exact ResX.cellA _ _ _ _ _ _ _ rfl rfl rfl zk rfl | exact ResX.cell1 _ _ _ _ _ _ rfl rfl rfl zx) ?_
  rfl
 cases q3 : decide (sd = t)
 ·have q5 : (!decide (sd = t)) = true := by rw [q3]; rfl
  repeat' (first | refine oQ [(1000, 8)] (c14) hE ?_ | refine kQ (c15) hE ?_ | refine xc ?_ | refine xd ?_ | refine xv ?_ | refine cQ ?_ | (refine sQ ?_ ?_ <;> intro hb hq <;> try omega) | (refine wQ ?_ ?_ <;> intro hb hq <;> try omega))
  refine aJ 2 1 rfl rfl (ToD.nil 4) rfl ?_
  refine aJ 2 2 rfl rfl (ToD.nil 1) rfl ?_
  refine aJ 2 3 rfl rfl (ToD.nil 9) rfl ?_
  refine aJ 2 4 rfl rfl (ToD.nil 4) rfl ?_
  refine aJ 2 5 rfl rfl (ToD.nil 1) rfl ?_
  refine aJ 2 6 rfl rfl (ToD.nil 1) rfl ?_
  refine aJ 2 7 rfl rfl (ToD.nil 15) rfl ?_
  refine aJ 2 8 rfl rfl (ToD.nil 1) rfl ?_
  refine aJ 2 15 rfl rfl (ToD.nil 1) rfl ?_
  refine aJ 2 16 rfl rfl (ToD.nil 2) rfl ?_
  refine aJ 2 17 rfl rfl (ToD.nil 4) rfl ?_
  refine mU (by rfl) (by first | exact ResX.tmp _ _ zx | exact ResX.cellA _ _ _ _ _ _ _ rfl rfl rfl zk rfl | exact ResX.cell1 _ _ _ _ _ _ rfl rfl rfl zx) (by first | exact ResX.tmp _ _ zx | exact ResX.cellA _ _ _ _ _ _ _ rfl rfl rfl zk rfl | exact ResX.cell1 _ _ _ _ _ _ rfl rfl rfl zx) ?_
  rfl
 ·have q5 : (!decide (sd = t)) = false := by rw [q3]; rfl
  repeat' (first | refine oQ [(1000, 8)] (c14) hE ?_ | refine kQ (c15) hE ?_ | refine vr ?_ | refine xc ?_ | refine xd ?_ | refine cQ ?_ | (refine sQ ?_ ?_ <;> intro hb hq <;> try omega) | (refine wQ ?_ ?_ <;> intro hb hq <;> try omega))
  refine mU (by rfl) (by first | exact ResX.tmp _ _ zx | exact ResX.cellA _ _ _ _ _ _ _ rfl rfl rfl zk rfl | exact ResX.cell1 _ _ _ _ _ _ rfl rfl rfl zx) (by first | exact ResX.tmp _ _ zx | exact ResX.cellA _ _ _ _ _ _ _ rfl rfl rfl zk rfl | exact ResX.cell1 _ _ _ _ _ _ rfl rfl rfl zx) ?_
  rfl
end
section
open Go.RowKit
abbrev fval (f : Nat) : D := .val (.func (.func f) #[] #[])
abbrev sameO : Objs := [(1002, .box 173 [nfun 129])]
end
section
open Go.RowKit
def arcE (x y : SArc) : Bool := decide (x.f = y.f) && (decide (x.t = y.t) && (decide (x.lo = y.lo) && decide (x.hi = y.hi)))
theorem aSf (x y : SArc) : arcE x y = decide (x = y) := by
 cases x; cases y
 simp [arcE]
def planE (x y : SPlan) : Bool := decide (x.car = y.car) && (decide (x.st = y.st) && (decide (x.le = y.le) && decide (x.lv = y.lv)))
theorem aPm (x y : SPlan) : planE x y = decide (x = y) := by
 cases x; cases y
 simp [planE]
def cardE (x y : SCard) : Bool := decide (x.me = y.me) && decide (x.sh = y.sh)
def balE (x y : SBal) : Bool := decide (x.t = y.t) && (decide (x.f = y.f) && ((x.cl == y.cl) && decide (x.ca = y.ca)))
theorem aSh (x y : SBal) : balE x y = decide (x = y) := by
 cases x with | mk a b c d => cases y with | mk e f g h => cases d <;> cases h <;> simp [balE]
end
section
open Go.RowKit
theorem aQf (x y : SPlan) (h : x.ok) : PureC 181 [.agg x.c, .agg y.c] (· = .bool (decide (x = y))) := by
 rw [← aPm]
 have c1 := aQh x.st y.st h.st
 have c2 := aUf x.le y.le h.le
 have c3 := aUg x.lv y.lv h.lv
 unfold planE
 generalize decide (x.st = y.st) = b1 at *
 generalize decide (x.le = y.le) = b2 at *
 generalize decide (x.lv = y.lv) = b3 at *
 cases e1 : decide (x.car = y.car)
 ·skip
  refine aE Tryz.func181 rfl zg _ Tryz.ntmps181 (aC rfl) (fun w Pr hE => ?_)
  dsimp only [slotsOf, Nat.zero_add, Nat.reduceAdd]
  repeat' (first | refine qb ?_ | refine vj ?_ | refine xp ?_ | (refine wQ ?_ ?_ <;> intro hb hq <;> try omega))
  refine rt1 ?_
  rfl
 cases b1
 ·skip
  refine aE Tryz.func181 rfl zg _ Tryz.ntmps181 (aC rfl) (fun w Pr hE => ?_)
  dsimp only [slotsOf, Nat.zero_add, Nat.reduceAdd]
  repeat' (first | refine kQ (c1) hE ?_ | refine qb ?_ | refine vj ?_ | refine xp ?_ | (refine wQ ?_ ?_ <;> intro hb hq <;> try omega))
  refine rt1 ?_
  rfl
 cases b2
 ·skip
  refine aE Tryz.func181 rfl zg _ Tryz.ntmps181 (aC rfl) (fun w Pr hE => ?_)
  dsimp only [slotsOf, Nat.zero_add, Nat.reduceAdd]
  repeat' (first | refine kQ (c1) hE ?_ | refine kQ (c2) hE ?_ | refine qb ?_ | refine vj ?_ | refine xp ?_ | (refine wQ ?_ ?_ <;> intro hb hq <;> try omega))
  refine rt1 ?_
  rfl
 ·skip
  refine aE Tryz.func181 rfl zg _ Tryz.ntmps181 (aC rfl) (fun w Pr hE => ?_)
  dsimp only [slotsOf, Nat.zero_add, Nat.reduceAdd]
  repeat' (first | refine kQ (c1) hE ?_ | refine kQ (c2) hE ?_ | refine kQ (c3) hE ?_ | refine qb ?_ | refine vj ?_ | refine xp ?_ | (refine wQ ?_ ?_ <;> intro hb hq <;> try omega))
  refine rt1 ?_
  rfl
theorem aLr (a b : List SCard) (ha : a.length ≤ 1000000) (hsh : ∀ c ∈ a, c.sh.length ≤ 1000000) : PureC 58 [.list 2 (a.map SCard.c), .list 2 (b.map SCard.c)] (· = .bool (decide (a = b))) := by
 have hm1 : (a.map SCard.c).length = a.length := List.length_map ..
 have hm2 : (b.map SCard.c).length = b.length := List.length_map ..
 by_cases hl : a.length = b.length
 rotate_left 1
 ·have h1 : (!decide ((a.length : Int) = b.length)) = true := by
   have : ¬ (a.length : Int) = b.length := by omega
   simp [this]
  have hne : ¬ a = b := by rintro rfl; exact hl rfl
  refine aE Tryz.func58 rfl zg _ Tryz.ntmps58 (aC rfl) (fun w Pr hE => ?_)
  dsimp only [slotsOf, Nat.zero_add, Nat.reduceAdd]
  repeat' (first | refine qd ?_ | refine vf ?_ | (refine sQ ?_ ?_ <;> intro hb hq <;> try omega))
  refine rt1 ?_
  simp [hne]
 have h1 : (!decide ((a.length : Int) = b.length)) = false := by simp [hl]
 refine aE Tryz.func58 rfl zg _ Tryz.ntmps58 (aC rfl) (fun w Pr hE => ?_)
 dsimp only [slotsOf, Nat.zero_add, Nat.reduceAdd]
 repeat' (first | refine qd ?_ | refine vf ?_ | (refine sQ ?_ ?_ <;> intro hb hq <;> try omega))
 clear h1
 refine bB (fun N sl ob => ∃ k : Nat, N = a.length - k ∧ k ≤ a.length ∧ (∀ j, j < k → a[j]? = b[j]?) ∧ sl = [(5, .d (.int k)), (0, .d (.list 2 (a.map SCard.c))), (1, .d (.list 2 (b.map SCard.c)))] ∧ ob = []) (⟨0, rfl, Nat.zero_le _, fun j hj => by omega, rfl, rfl⟩) ?_
 rintro N sl ob ⟨k, rfl, hk, hp, rfl, rfl⟩
 by_cases hlt : k < a.length
 rotate_left 1
 ·obtain rfl : k = a.length := by omega
  have qi : decide ((a.length : Int) < (a.length : Int)) = false := decide_eq_false zb
  have hab : a = b := fL hl hp
  repeat' (first | refine nq ?_ | (refine sQ ?_ ?_ <;> intro hb hq <;> try omega))
  refine rt1 ?_
  simp [hab]
 have hlt2 : k < b.length := by omega
 have hg1 : (a.map SCard.c)[k]? = some (SCard.c a[k]) := by rw [bC hlt]
 have hg2 : (b.map SCard.c)[k]? = some (SCard.c b[k]) := by rw [bC hlt2]
 have qi : decide ((k : Int) < (a.length : Int)) = true := decide_eq_true zb
 have hnx := eK hlt hlt2 hp
 have hne : ¬ a[k] = b[k] → decide (a = b) = false := fun h => decide_eq_false (fun e => h (by simp [e]))
 have hsl := hsh _ (List.getElem_mem hlt)
 generalize a[k] = x at *
 generalize b[k] = y at *
 have q1 : (x.sh.map SShare.c).length = x.sh.length := List.length_map ..
 have q2 : (y.sh.map SShare.c).length = y.sh.length := List.length_map ..
 cases e1 : !decide (x.me = y.me)
 rotate_left 1
 ·rw [hne (fun e => by simp [e] at e1)]
  repeat' (first | refine xq ?_ | (refine sQ ?_ ?_ <;> intro hb hq <;> try omega))
  refine dF [(0, true), (1, true), (2, true), (3, true), (4, true), (5, true), (6, true), (7, true), (8, true), (9, true), (10, true), (11, true), (12, true), (13, true), (14, true), (15, true), (16, true), (17, true), (18, true), (19, true), (20, true), (21, true), (22, true), (23, true), (24, true), (25, true)] [] zp zp zp zg ?_
  simp only [planned, tailed, List.filterMap_cons, List.filterMap_nil, List.getElem?_cons_zero, List.getElem?_cons_succ, Option.map_some]
  repeat' (first | apply aZ | refine vt ?_ | (apply aR (.indexAddr 73 _ _); refine bS zj (cT zx rfl rfl zq hg1) (aA rfl) ?_) | (apply aR (.indexAddr 73 _ _); refine bS zj (cT zx rfl rfl zq hg2) (aA rfl) ?_) | (apply bG; refine bQ ?_) | (apply gD; refine iP ?_) | (apply dW; refine fV ?_) | (apply pI; refine uL ?_) | (apply dL; refine gC ?_) | (apply aU; refine bA ?_) | (apply aV; refine bE ?_) | (refine mQ ?_ ?_ <;> intro hb hq <;> try omega))
  repeat' (first | refine qd ?_ | refine vf ?_ | refine vl ?_ | refine vw ?_ | (refine sQ ?_ ?_ <;> intro hb hq <;> try omega) | (refine wQ ?_ ?_ <;> intro hb hq <;> try omega))
  refine rt1 ?_
  rfl
 cases e2 : !decide ((x.sh.length : Int) = y.sh.length)
 rotate_left 1
 ·rw [hne (fun e => by simp [e] at e2)]
  repeat' (first | refine xq ?_ | (refine sQ ?_ ?_ <;> intro hb hq <;> try omega))
  refine dF [(0, true), (1, true), (2, true), (3, true), (4, true), (5, true), (6, true), (7, true), (8, true), (9, true), (10, true), (11, true), (12, true), (13, true), (14, true), (15, true), (16, true), (17, true), (18, true), (19, true), (20, true), (21, true), (22, true), (23, true), (24, true), (25, true)] [] zp zp zp zg ?_
  simp only [planned, tailed, List.filterMap_cons, List.filterMap_nil, List.getElem?_cons_zero, List.getElem?_cons_succ, Option.map_some]
  repeat' (first | apply aZ | refine vt ?_ | (apply aR (.indexAddr 73 _ _); refine bS zj (cT zx rfl rfl zq hg1) (aA rfl) ?_) | (apply aR (.indexAddr 73 _ _); refine bS zj (cT zx rfl rfl zq hg2) (aA rfl) ?_) | (apply bG; refine bQ ?_) | (apply gD; refine iP ?_) | (apply dW; refine fV ?_) | (apply pI; refine uL ?_) | (apply dL; refine gC ?_) | (apply aU; refine bA ?_) | (apply aV; refine bE ?_) | (refine mQ ?_ ?_ <;> intro hb hq <;> try omega))
  repeat' (first | refine qd ?_ | refine vf ?_ | refine vl ?_ | refine vw ?_ | (refine sQ ?_ ?_ <;> intro hb hq <;> try omega) | (refine wQ ?_ ?_ <;> intro hb hq <;> try omega))
  refine rt1 ?_
  rfl
 have hl2 : x.sh.length = y.sh.length := by
  have : (x.sh.length : Int) = y.sh.length := by simpa using e2
  omega
 repeat' (first | refine xq ?_ | (refine sQ ?_ ?_ <;> intro hb hq <;> try omega))
 refine dF [(0, true), (1, true), (2, true), (3, true), (4, true), (5, true), (6, true), (7, true), (8, true), (9, true), (10, true), (11, true), (12, true), (13, true), (14, true), (15, true), (16, true), (17, true), (18, true), (19, true), (20, true), (21, true), (22, true), (23, true), (24, true), (25, true)] [] zp zp zp zg ?_
 simp only [planned, tailed, List.filterMap_cons, List.filterMap_nil, List.getElem?_cons_zero, List.getElem?_cons_succ, Option.map_some]
 repeat' (first | apply aZ | refine vt ?_ | (apply aR (.indexAddr 73 _ _); refine bS zj (cT zx rfl rfl zq hg1) (aA rfl) ?_) | (apply aR (.indexAddr 73 _ _); refine bS zj (cT zx rfl rfl zq hg2) (aA rfl) ?_) | (apply bG; refine bQ ?_) | (apply gD; refine iP ?_) | (apply dW; refine fV ?_) | (apply pI; refine uL ?_) | (apply dL; refine gC ?_) | (apply aU; refine bA ?_) | (apply aV; refine bE ?_) | (refine mQ ?_ ?_ <;> intro hb hq <;> try omega))
 repeat' (first | refine qd ?_ | refine vf ?_ | refine vl ?_ | refine vw ?_ | (refine sQ ?_ ?_ <;> intro hb hq <;> try omega) | (refine wQ ?_ ?_ <;> intro hb hq <;> try omega))
 refine bB (fun N sl ob => ∃ i : Nat, N = x.sh.length - i ∧ i ≤ x.sh.length ∧ (∀ j, j < i → x.sh[j]? = y.sh[j]?) ∧ sl = [(6, .d (.int i)), (5, .d (.int k)), (0, .d (.list 2 (a.map SCard.c))), (1, .d (.list 2 (b.map SCard.c)))] ∧ ob = []) (⟨0, rfl, Nat.zero_le _, fun j hj => by omega, rfl, rfl⟩) ?_
 rintro N sl ob ⟨i, rfl, hi, hpi, rfl, rfl⟩
 by_cases hlti : i < x.sh.length
 ·have hlti2 : i < y.sh.length := by omega
  have hs1 : (x.sh.map SShare.c)[i]? = some (SShare.c x.sh[i]) := by rw [bC hlti]
  have hs2 : (y.sh.map SShare.c)[i]? = some (SShare.c y.sh[i]) := by rw [bC hlti2]
  have qj : decide ((i : Int) < (x.sh.length : Int)) = true := decide_eq_true zb
  have hnxi := eK hlti hlti2 hpi
  have hnei : ¬ x.sh[i] = y.sh[i] → ¬ x = y := fun h e => h (by simp [e])
  generalize x.sh[i] = u at *
  generalize y.sh[i] = v at *
  by_cases he : u = v
  ·have e3 : (!eqL u.c v.c) = false := by rw [aFu]; simp [he]
   repeat' (first | (apply aB (.indexAddr _ _ _); refine aS hg1 ?_) | refine vl ?_ | refine xq ?_ | (refine sQ ?_ ?_ <;> intro hb hq <;> try omega))
   refine dF [(0, true), (1, true), (2, true), (3, true), (4, true), (5, true), (6, true), (7, true), (8, true), (9, true), (10, true), (11, true), (12, true), (13, true), (14, true), (15, true), (16, true)] [] zp zp zp zg ?_
   simp only [planned, tailed, List.filterMap_cons, List.filterMap_nil, List.getElem?_cons_zero, List.getElem?_cons_succ, Option.map_some]
   repeat' (first | apply aZ | refine vt ?_ | (apply aR (.indexAddr 73 _ _); refine bS zj (cT zx rfl rfl zq hg1) (aA rfl) ?_) | (apply aR (.indexAddr 73 _ _); refine bS zj (cT zx rfl rfl zq hg2) (aA rfl) ?_) | (apply aR (.indexAddr 76 _ _); refine bS zj (cT zx rfl rfl zq hs1) (aA rfl) ?_) | (apply aR (.indexAddr 76 _ _); refine bS zj (cT zx rfl rfl zq hs2) (aA rfl) ?_) | (apply bG; refine bQ ?_) | (apply dW; refine fV ?_) | (apply dL; refine gC ?_) | (apply aU; refine bA ?_) | (apply aV; refine bE ?_) | (refine mQ ?_ ?_ <;> intro hb hq <;> try omega))
   repeat' (first | refine vl ?_ | refine xo ?_ | refine xz ?_ | (refine sQ ?_ ?_ <;> intro hb hq <;> try omega))
   refine bK (⟨i + 1, rfl, by omega, hnxi he, rfl, rfl⟩) zb
  ·have e3 : (!eqL u.c v.c) = true := by rw [aFu]; simp [he]
   rw [hne (hnei he)]
   repeat' (first | (apply aB (.indexAddr _ _ _); refine aS hg1 ?_) | refine vl ?_ | refine xq ?_ | (refine sQ ?_ ?_ <;> intro hb hq <;> try omega))
   refine dF [(0, true), (1, true), (2, true), (3, true), (4, true), (5, true), (6, true), (7, true), (8, true), (9, true), (10, true), (11, true), (12, true), (13, true), (14, true), (15, true), (16, true)] [] zp zp zp zg ?_
   simp only [planned, tailed, List.filterMap_cons, List.filterMap_nil, List.getElem?_cons_zero, List.getElem?_cons_succ, Option.map_some]
   repeat' (first | apply aZ | refine vt ?_ | (apply aR (.indexAddr 73 _ _); refine bS zj (cT zx rfl rfl zq hg1) (aA rfl) ?_) | (apply aR (.indexAddr 73 _ _); refine bS zj (cT zx rfl rfl zq hg2) (aA rfl) ?_) | (apply aR (.indexAddr 76 _ _); refine bS zj (cT zx rfl rfl zq hs1) (aA rfl) ?_) | (apply aR (.indexAddr 76 _ _); refine bS zj (cT zx rfl rfl zq hs2) (aA rfl) ?_) | (apply bG; refine bQ ?_) | (apply dW; refine fV ?_) | (apply dL; refine gC ?_) | (apply aU; refine bA ?_) | (apply aV; refine bE ?_) | (refine mQ ?_ ?_ <;> intro hb hq <;> try omega))
   repeat' (first | refine vf ?_ | refine vl ?_ | refine xz ?_ | (refine sQ ?_ ?_ <;> intro hb hq <;> try omega))
   refine rt1 ?_
   rfl
 ·obtain rfl : i = x.sh.length := by omega
  have qj : decide ((x.sh.length : Int) < (x.sh.length : Int)) = false := decide_eq_false zb
  have hsame : x = y := by
   have h5 := fL hl2 hpi
   have h6 : x.me = y.me := by simpa using e1
   cases x; cases y
   simp_all
  repeat' (first | (apply aB (.indexAddr _ _ _); refine aS hg1 ?_) | refine vl ?_ | refine xg ?_ | (refine sQ ?_ ?_ <;> intro hb hq <;> try omega))
  refine bK (⟨k + 1, rfl, by omega, hnx hsame, rfl, rfl⟩) zb
end
section
open Go.RowKit
def listsE (x y : SSt) : Bool := decide (x.se = y.se) && (decide (x.dn = y.dn) && (decide (x.at_ = y.at_) && (decide (x.cs = y.cs) && (decide (x.pm = y.pm) && decide (x.ve = y.ve)))))
def sameE (x y : SSt) : Bool := decide (x.ti = y.ti) && (decide (x.ar = y.ar) && (decide (x.pl = y.pl) && (decide (x.bl = y.bl) && (listsE x y && (decide (x.pu = y.pu) && (decide (x.po = y.po) && decide (x.fv = y.fv)))))))
abbrev samC : O := .box 173 [nfun 129]
end
end Go.Proofs.YtaodngiigdbgeaaGreatDoor
