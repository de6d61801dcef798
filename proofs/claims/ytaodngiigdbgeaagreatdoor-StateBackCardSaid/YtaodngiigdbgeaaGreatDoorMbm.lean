/-
  Conditions: none.
-/
import Derived.Test.YtaodngiigdbgeaaGreatDoorRows
import Derived.Test.YtaodngiigdbgeaaGreatDoorMaa
import Derived.Test.YtaodngiigdbgeaaGreatDoorMal
import Derived.Test.YtaodngiigdbgeaaGreatDoorMao
import Derived.Test.YtaodngiigdbgeaaGreatDoorMbb
import Derived.Test.YtaodngiigdbgeaaGreatDoorMbf
import Derived.Test.YtaodngiigdbgeaaGreatDoorMbh
import Derived.Test.YtaodngiigdbgeaaGreatDoorMbk
import Derived.Test.YtaodngiigdbgeaaGreatDoorMbl
set_option maxHeartbeats 16000000
set_option maxRecDepth 20000
set_option linter.unusedSimpArgs false
set_option linter.unusedVariables false
namespace Go.Proofs.YtaodngiigdbgeaaGreatDoor
section
open Go.RowKit
inductive Wk : D → D → Prop where
 | same (x : D) : Wk x x
 | nil (s : Nat) : Wk (.val (.slice none 0 0)) (.list s [])
 | agg (l m : List D) (hl : l.length = m.length) (h : ∀ (i : Nat) (x y : D), l[i]? = some x → m[i]? = some y → Wk x y) : Wk (.agg l) (.agg m)
theorem Wk.rep {w : World} {Pr : Prot} {x y : D} (h : Wk x y) : ∀ v, RepD w Pr v x → RepD w Pr v y := by
 induction h with
 | same x => exact fun v h => h
 | nil s =>
  intro v h
  cases h
  exact .nil none 0 s (Nat.zero_le _)
 | agg l m hl hh ih =>
  intro v h
  cases h with
  | agg cs _ hc hd =>
   refine .agg cs m (hc.trans hl) (fun i v d h1 h2 => ?_)
   have hlt : i < l.length := by rw [hl]; exact (List.getElem?_eq_some_iff.1 h2).1
   exact ih i l[i] d (List.getElem?_eq_getElem hlt) h2 v (hd i v l[i] h1 (List.getElem?_eq_getElem hlt))
theorem PureC.wk {f : FuncId} {x y : D} {Post : D → Prop} (h : PureC f [y] Post) (hw : Wk x y) : PureC f [x] Post :=
 ⟨h.1, fun w Pr vs h1 h2 h3 h4 => h.2 w Pr vs h1 h2 h3 fun i v d hv hd => by
  match i with
  | 0 => cases hd; exact hw.rep v (h4 0 v x hv rfl)
  | i + 1 => simp at hd⟩
theorem PureC.wk2 {f : FuncId} {a x y : D} {Post : D → Prop} (h : PureC f [a, y] Post) (hw : Wk x y) : PureC f [a, x] Post :=
 ⟨h.1, fun w Pr vs h1 h2 h3 h4 => h.2 w Pr vs h1 h2 h3 fun i v d hv hd => by
  match i with
  | 0 => exact h4 0 v d hv hd
  | 1 => cases hd; exact hw.rep v (h4 1 v x hv rfl)
  | i + 2 => simp at hd⟩
def WkL (l m : List D) : Prop := l.length = m.length ∧ ∀ (i : Nat) (x y : D), l[i]? = some x → m[i]? = some y → Wk x y
theorem yL : WkL [] [] := ⟨rfl, fun i a b h1 _ => by simp at h1⟩
theorem aX {x y : D} {l m : List D} (h : Wk x y) (hl : WkL l m) : WkL (x :: l) (y :: m) :=
 ⟨by simp [hl.1], fun i a b h1 h2 => by
  cases i with
  | zero => cases h1; cases h2; exact h
  | succ i => exact hl.2 i a b h1 h2⟩
theorem yK {l m : List D} (h : WkL l m) : Wk (.agg l) (.agg m) := .agg l m h.1 h.2
def exS : SSt := ⟨7, [], [], [], [], [], [], [], [5, -2], ⟨0, 0, 1, 1, 1, 0⟩, [3, -3], [], []⟩
def oneS : SSt := ⟨0, [], [], [], [], [], [], [], [], ⟨0, 0, 1, 1, 1, 0⟩, [], [], []⟩
abbrev oneA : List D := [.int 0, nilD, nilD, nilD, nilD, nilD, nilD, nilD, nilD, .int 0, .int 0, .int 1, .int 1, .int 1, .int 0, nilD, nilD, nilD]
abbrev zeroA : List D := [.int 0, nilD, nilD, nilD, nilD, nilD, nilD, nilD, nilD, .int 0, .int 0, .int 0, .int 0, .int 0, .int 0, nilD, nilD, nilD]
theorem aHh : Wk (.agg oneA) (.agg oneS.c) :=
 yK (aX (.same _) (aX (.nil 4) (aX (.nil 1) (aX (.nil 9) (aX (.nil 4) (aX (.nil 1) (aX (.nil 1) (aX (.nil 15) (aX (.nil 1) (aX (.same _) (aX (.same _) (aX (.same _) (aX (.same _) (aX (.same _) (aX (.same _) (aX (.nil 1) (aX (.nil 2) (aX (.nil 4) yL))))))))))))))))))
theorem wE : Wk (.agg zeroA) (.agg zeroS.c) :=
 yK (aX (.same _) (aX (.nil 4) (aX (.nil 1) (aX (.nil 9) (aX (.nil 4) (aX (.nil 1) (aX (.nil 1) (aX (.nil 15) (aX (.nil 1) (aX (.same _) (aX (.same _) (aX (.same _) (aX (.same _) (aX (.same _) (aX (.same _) (aX (.nil 1) (aX (.nil 2) (aX (.nil 4) yL))))))))))))))))))
theorem oP : exS.ok := by
 constructor <;> first | decide | (intro a ha; cases ha)
theorem aHg : oneS.ok := by
 constructor <;> first | decide | (intro a ha; cases ha)
theorem wD : zeroS.ok := by
 constructor <;> first | decide | (intro a ha; cases ha)
theorem pW : exS.bare := ⟨rfl, rfl, rfl, rfl, rfl, rfl, rfl⟩
theorem aFa : oneS.bare := ⟨rfl, rfl, rfl, rfl, rfl, rfl, rfl⟩
theorem aBc : zeroS.bare := ⟨rfl, rfl, rfl, rfl, rfl, rfl, rfl⟩
theorem jR : exS.right = true := by decide
theorem tU : oneS.right = true := by decide
theorem rH : zeroS.right = false := by decide
theorem aGr : exS.sum = 3 := by
 unfold SSt.sum
 rw [jR]
 rfl
theorem dig {n : Nat} (h : n < 10) : L (numW (n : Int)) = [UInt8.ofNat (48 + n), 59] := by
 rw [numW, if_neg zb, iN, it n h]
 rfl
theorem xN (n : Int) (l : List Int) : L (numsT (n :: l)) = L (numW n) ++ L (numsT l) := dO _ _ _
theorem xM : L (numsT []) = [] := rfl
theorem qX (l : List Int) : L (intsT l) = Lib.itoa l.length ++ 91 :: (flat8 intW l ++ [93]) := vQ l
theorem xJ {α : Type} (W : α → ByteArray) : L (listT W []) = [48, 59] := by
 show L (numW ((0 : Nat) : Int)) ++ flat8 W [] = _
 rw [dig zg]
 rfl
theorem sG {n : Nat} (h : 0 < n) (h9 : n < 10) : Lib.itoa (-(n : Int)) = [45, UInt8.ofNat (48 + n)] := by
 unfold Lib.itoa
 rw [if_pos zb, show (-(n : Int)).natAbs = n by omega, dec1 h9]
theorem i_m2 : Lib.itoa (-2) = [45, 50] := sG (n := 2) zg zg
theorem i_m3 : Lib.itoa (-3) = [45, 51] := sG (n := 3) zg zg
theorem i_0 : Lib.itoa 0 = [48] := it 0 zg
theorem i_2 : Lib.itoa 2 = [50] := it 2 zg
theorem i_3 : Lib.itoa 3 = [51] := it 3 zg
theorem i_5 : Lib.itoa 5 = [53] := it 5 zg
theorem n_0 : L (numW 0) = [48, 59] := dig (n := 0) zg
theorem n_1 : L (numW 1) = [49, 59] := dig (n := 1) zg
theorem n_7 : L (numW 7) = [55, 59] := dig (n := 7) zg
theorem xF : L (intsT []) = [48, 91, 93] := by
 rw [qX, show (([] : List Int).length : Int) = 0 from rfl, i_0]
 rfl
theorem aGw : L (intsT [5, -2]) = [50, 91, 53, 59, 45, 50, 59, 93] := by
 rw [qX, show (([5, -2] : List Int).length : Int) = 2 from rfl, i_2, dO, dO, iN, iN, i_5, i_m2]
 rfl
theorem aGv : L (intsT [3, -3]) = [50, 91, 51, 59, 45, 51, 59, 93] := by
 rw [qX, show (([3, -3] : List Int).length : Int) = 2 from rfl, i_2, dO, dO, iN, iN, i_3, i_m3]
 rfl
theorem rW : exS.said = ⟨#[55, 59, 48, 59, 48, 59, 48, 59, 48, 59, 48, 91, 93, 48, 91, 93, 48, 59, 50, 91, 53, 59, 45, 50, 59, 93, 48, 59, 48, 59, 49, 59, 49, 59, 49, 59, 48, 59, 50, 91, 51, 59, 45, 51, 59, 93, 48, 59, 48, 59]⟩ := by
 rw [kH (cB.1 jR)]
 refine mZ (a := exS.text) ?_
 show L exS.text = [55, 59, 48, 59, 48, 59, 48, 59, 48, 59, 48, 91, 93, 48, 91, 93, 48, 59, 50, 91, 53, 59, 45, 50, 59, 93, 48, 59, 48, 59, 49, 59, 49, 59, 49, 59, 48, 59, 50, 91, 51, 59, 45, 51, 59, 93, 48, 59, 48, 59]
 simp only [exS, SSt.text, SSt.moneyT, kR, xN, xM, xJ, xF, aGw, aGv, n_0, n_1, n_7]
 rfl
theorem xO : oneS.said = ⟨#[48, 59, 48, 59, 48, 59, 48, 59, 48, 59, 48, 91, 93, 48, 91, 93, 48, 59, 48, 91, 93, 48, 59, 48, 59, 49, 59, 49, 59, 49, 59, 48, 59, 48, 91, 93, 48, 59, 48, 59]⟩ := by
 rw [kH (cB.1 tU)]
 refine mZ (a := oneS.text) ?_
 show L oneS.text = [48, 59, 48, 59, 48, 59, 48, 59, 48, 59, 48, 91, 93, 48, 91, 93, 48, 59, 48, 91, 93, 48, 59, 48, 59, 49, 59, 49, 59, 49, 59, 48, 59, 48, 91, 93, 48, 59, 48, 59]
 simp only [oneS, SSt.text, SSt.moneyT, kR, xN, xM, xJ, xF, n_0, n_1]
 rfl
theorem vN : readD ⟨#[55, 59, 48, 59, 48, 59, 48, 59, 48, 59, 48, 91, 93, 48, 91, 93, 48, 59, 50, 91, 53, 59, 45, 50, 59, 93, 48, 59, 48, 59, 49, 59, 49, 59, 49, 59, 48, 59, 50, 91, 51, 59, 45, 51, 59, 93, 48, 59, 48, 59]⟩ = .tup [.agg exS.c, .int 0] ∧ (stateS ⟨#[55, 59, 48, 59, 48, 59, 48, 59, 48, 59, 48, 91, 93, 48, 91, 93, 48, 59, 50, 91, 53, 59, 45, 50, 59, 93, 48, 59, 48, 59, 49, 59, 49, 59, 49, 59, 48, 59, 50, 91, 51, 59, 45, 51, 59, 93, 48, 59, 48, 59]⟩).v.bare := by
 have h := yE jR oP
 rw [rW] at h
 unfold readD
 rw [if_pos h.1, h.2]
 exact ⟨rfl, pW⟩
theorem pD : PureC 25 [] (· = .agg exS.c) := by
 refine aE Tryz.func25 rfl zg _ Tryz.ntmps25 (aC rfl) (fun w Pr hE => ?_)
 dsimp only [slotsOf, Nat.zero_add, Nat.reduceAdd]
 repeat' (first | refine nx ?_ | refine nz ?_ | (apply fD; refine gF ?_))
 refine aJ 0 1 rfl rfl (ToD.nil 4) rfl ?_
 refine aJ 0 2 rfl rfl (ToD.nil 1) rfl ?_
 refine aJ 0 3 rfl rfl (ToD.nil 9) rfl ?_
 refine aJ 0 4 rfl rfl (ToD.nil 4) rfl ?_
 refine aJ 0 5 rfl rfl (ToD.nil 1) rfl ?_
 refine aJ 0 6 rfl rfl (ToD.nil 1) rfl ?_
 refine aJ 0 7 rfl rfl (ToD.nil 15) rfl ?_
 refine aJ 0 16 rfl rfl (ToD.nil 2) rfl ?_
 refine aJ 0 17 rfl rfl (ToD.nil 4) rfl ?_
 refine aQc (by rfl) (by first | exact ResX.tmp _ _ zx | exact ResX.cellA _ _ _ _ _ _ _ rfl rfl rfl zk rfl | exact ResX.cell1 _ _ _ _ _ _ rfl rfl rfl zx) ?_
 rfl
attribute [local irreducible] readD SSt.said
theorem qI : PureC 8 [] (· = .bool true) := by
 have c1 := (kJ oneS aHg).wk aHh
 have c2 := pD
 have c3 := kJ exS oP
 have c4 := xY ⟨#[55, 59, 48, 59, 48, 59, 48, 59, 48, 59, 48, 91, 93, 48, 91, 93, 48, 59, 50, 91, 53, 59, 45, 50, 59, 93, 48, 59, 48, 59, 49, 59, 49, 59, 49, 59, 48, 59, 50, 91, 51, 59, 45, 51, 59, 93, 48, 59, 48, 59]⟩ zg
 have c5 : PureC 12 [.agg exS.c, .agg exS.c] (· = .bool true) := by have h := qG exS exS oP; rw [decide_eq_true rfl] at h; exact h
 have c6 := (kJ zeroS wD).wk wE
 have c7 : PureC 17 [.agg exS.c, .agg exS.c] (· = .bool true) := aJo
 have c8 := cW exS oP
 have c9 := zO exS oP pW
 have c10 := jC exS oP
 rw [xO] at c1
 rw [rW] at c3
 rw [vN.1] at c4
 rw [jY.2 rH] at c6
 rw [jR] at c8
 rw [aGr] at c10
 have d1 : decide ((⟨#[48, 59, 48, 59, 48, 59, 48, 59, 48, 59, 48, 91, 93, 48, 91, 93, 48, 59, 48, 91, 93, 48, 59, 48, 59, 49, 59, 49, 59, 49, 59, 48, 59, 48, 91, 93, 48, 59, 48, 59]⟩ : ByteArray) = ⟨#[48, 59, 48, 59, 48, 59, 48, 59, 48, 59, 48, 91, 93, 48, 91, 93, 48, 59, 48, 91, 93, 48, 59, 48, 59, 49, 59, 49, 59, 49, 59, 48, 59, 48, 91, 93, 48, 59, 48, 59]⟩) = true := decide_eq_true rfl
 have d2 : decide ((⟨#[55, 59, 48, 59, 48, 59, 48, 59, 48, 59, 48, 91, 93, 48, 91, 93, 48, 59, 50, 91, 53, 59, 45, 50, 59, 93, 48, 59, 48, 59, 49, 59, 49, 59, 49, 59, 48, 59, 50, 91, 51, 59, 45, 51, 59, 93, 48, 59, 48, 59]⟩ : ByteArray) = ⟨#[55, 59, 48, 59, 48, 59, 48, 59, 48, 59, 48, 91, 93, 48, 91, 93, 48, 59, 50, 91, 53, 59, 45, 50, 59, 93, 48, 59, 48, 59, 49, 59, 49, 59, 49, 59, 48, 59, 50, 91, 51, 59, 45, 51, 59, 93, 48, 59, 48, 59]⟩) = true := decide_eq_true rfl
 have d3 : decide (emp = (⟨#[]⟩ : ByteArray)) = true := decide_eq_true rfl
 refine aE Tryz.func8 rfl zg _ Tryz.ntmps8 (aC rfl) (fun w Pr hE => ?_)
 dsimp only [slotsOf, Nat.zero_add, Nat.reduceAdd]
 repeat' (first | refine kQ (c4) hE ?_ | refine qo ?_ | refine xa ?_ | fail)
 refine cC ([(2, exS.b)]) [(0, true), (1, true), (2, false), (3, true), (4, true), (7, true), (5, false), (6, false), (8, true), (9, true), (10, true), (11, true), (12, true), (13, true), (14, true), (15, true), (16, false), (17, false), (18, true)] [19] zp zp zp zg zw ?_
 simp only [planned, tailed, List.filterMap_cons, List.filterMap_nil, List.getElem?_cons_zero, List.getElem?_cons_succ, Option.map_some]
 repeat' (first | apply aZ | refine vt ?_ | (apply aM; refine bI (c1) hE ?_; rintro _ rfl; clear c1; (try dsimp only [flat, D.plain, D.plainL])) | (apply aM; refine bI (c2) hE ?_; rintro _ rfl; (try dsimp only [flat, D.plain, D.plainL])) | (apply aM; refine bI (c3) hE ?_; rintro _ rfl; (try dsimp only [flat, D.plain, D.plainL])) | (apply aM; refine bI (c5) hE ?_; rintro _ rfl; (try dsimp only [flat, D.plain, D.plainL])) | (apply bG; refine bQ ?_) | (apply gD; refine iP ?_) | (apply aCh; refine aIu ?_) | (apply aU; refine bA ?_) | (apply nS; refine qB ?_) | (refine mQ ?_ ?_ <;> intro hb hq <;> try omega))
 repeat' (first | refine nv ?_ | refine vj ?_ | refine xv ?_ | (refine wQ ?_ ?_ <;> intro hb hq <;> try omega))
 refine cC ([(2, exS.b)]) [(0, true), (1, true), (2, true), (3, false), (4, true), (5, true), (6, true), (7, true), (8, false), (9, false), (10, true), (11, true), (12, true), (13, false), (14, true), (15, true), (18, true), (16, false), (17, false), (19, false), (20, true), (21, true), (22, true), (23, false), (24, true), (25, true)] [26] zp zp zp zg zw ?_
 simp only [planned, tailed, List.filterMap_cons, List.filterMap_nil, List.getElem?_cons_zero, List.getElem?_cons_succ, Option.map_some]
 repeat' (first | apply aZ | refine vt ?_ | (apply aM; refine bI (c6) hE ?_; rintro _ rfl; (try dsimp only [flat, D.plain, D.plainL])) | (apply aM; refine bI (c2) hE ?_; rintro _ rfl; (try dsimp only [flat, D.plain, D.plainL])) | (apply aM; refine bI (c7) hE ?_; rintro _ rfl; (try dsimp only [flat, D.plain, D.plainL])) | (apply aM; refine bI (c8) hE ?_; rintro _ rfl; (try dsimp only [flat, D.plain, D.plainL])) | (apply aM; refine bI (c9) hE ?_; rintro _ rfl; (try dsimp only [flat, D.plain, D.plainL])) | (apply aM; refine bI (c5) hE ?_; rintro _ rfl; (try dsimp only [flat, D.plain, D.plainL])) | (apply aM; refine bI (c10) hE ?_; rintro _ rfl; (try dsimp only [flat, D.plain, D.plainL])) | (apply bG; refine bQ ?_) | (apply gD; refine iP ?_) | (apply aCh; refine aIu ?_) | (apply aU; refine bA ?_) | (apply nS; refine qB ?_) | (refine mQ ?_ ?_ <;> intro hb hq <;> try omega))
 repeat' (first | refine nv ?_ | refine vj ?_ | refine xv ?_ | (refine wQ ?_ ?_ <;> intro hb hq <;> try omega))
 refine rt1 ?_
 rfl
end
section
theorem aSu {a : SArc} (h : a.wf) (hf : a.lo.length ≤ 25 ∧ a.hi.length ≤ 25) : a.text.size ≤ 2000 := by
 have k1 := bX (l := [a.f, a.t]) (by have := h.f; have := h.t; simp_all)
 have k2 := dG h.ll h.lo
 have k3 := dG h.lh h.hi
 simp only [List.length_cons, List.length_nil] at k1
 simp only [SArc.text, ByteArray.size_append]
 omega
theorem aNx {l : List SObs} (h : seenOk l) (hf : l.length ≤ 12) : (seenT l).size ≤ 2000 := by
 have k1 := cZ (W := SObs.text) h.1 (fun x hx => aHe (h.2 x hx))
 have : seenT l = listT SObs.text l := rfl
 rw [this]
 omega
theorem aSw {c : SCar} (h : c.wf) : c.text.size ≤ 2000 := by
 have k1 := bX h.n
 simp only [List.length_cons, List.length_nil] at k1
 unfold SCar.text
 omega
theorem aNv {p : SPlan} (h : p.wf) (hf : p.few) : p.text.size ≤ 2000 := by
 have h1 := hf.st
 have h2 := hf.le
 have h3 := hf.lv
 have k1 := bX (l := [p.car]) (by have := h.car; simp_all)
 have k2 := cZ (W := SStop.text) h.ls (fun x hx => wA (h.st x hx))
 have k3 := cZ (W := SLeg.text) h.ll (fun x hx => aBs (h.le x hx))
 have k4 := dG h.lw h.lv
 simp only [List.length_cons, List.length_nil] at k1
 simp only [SPlan.text, ByteArray.size_append]
 omega
theorem aNw {p : SProm} (h : p.wf) : p.text.size ≤ 2000 := by
 have k1 := bX h.n
 have k2 := rX h.car
 have k3 := bX h.m
 simp only [List.length_cons, List.length_nil] at k1 k3
 simp only [SProm.text, ByteArray.size_append]
 omega
theorem aSx {v : SVer} (h : v.wf) (ht : v.t.size ≤ 500) : v.text.size ≤ 2000 := by
 have k1 := bX (l := [v.f]) (by have := h.f; simp_all)
 have k2 := nX (s := v.t) zb
 simp only [List.length_cons, List.length_nil] at k1
 simp only [SVer.text, ByteArray.size_append]
 omega
theorem aSv {b : SBal} (h : b.wf) (hf : b.few) : b.text.size ≤ 9000 := by
 have h1 := hf.t
 have h2 := hf.ca
 have k1 := bX (l := [b.f]) (by have := h.f; simp_all)
 have k2 := nX (s := b.t) zb
 have k3 := cZ (W := SCard.text) h.l (fun x hx => vM (h.ca x hx) (by have := hf.sh x hx; omega))
 have k4 := bX (l := [bitQ b.cl]) (by have := pC b.cl; simp_all)
 simp only [List.length_cons, List.length_nil] at k1 k4
 simp only [SBal.text, ByteArray.size_append]
 omega
theorem aNy {s : SSt} (hf : s.few) : s.said.size ≤ 900000 := by
 have ho := hf.ok
 cases hr : s.right
 ·rw [jY.2 hr]
  decide
 have hw := (cB.1 hr).wf ho
 rw [kH (cB.1 hr)]
 have e1 := bX (l := [s.ti]) (by have := hw.ti; simp_all)
 have e2 := cZ (W := SArc.text) ho.ar (fun x hx => aSu (hw.ar x hx) (hf.ars x hx))
 have e3 := cZ (W := seenT) ho.se (fun x hx => aNx (hw.se x hx) (hf.ses x hx))
 have e4 := cZ (W := SCar.text) ho.cs (fun x hx => aSw (hw.cs x hx))
 have e5 := cZ (W := SPlan.text) ho.pl (fun x hx => aNv (hw.pl x hx) (hf.pls x hx))
 have e6 := dG ho.dn hw.dn
 have e7 := dG ho.at_ hw.at_
 have e8 := cZ (W := SProm.text) ho.pm (fun x hx => aNw (hw.pm x hx))
 have e9 := dG ho.pu hw.pu
 have e10 := bX hw.po
 have e11 := dG ho.fv hw.fv
 have e12 := cZ (W := SVer.text) ho.ve (fun x hx => aSx (hw.ve x hx) (hf.ves x hx))
 have e13 := cZ (W := SBal.text) ho.bl (fun x hx => aSv (hw.bl x hx) (hf.bls x hx))
 have f1 := hf.ar
 have f2 := hf.se
 have f3 := hf.cs
 have f4 := hf.pl
 have f5 := hf.dn
 have f6 := hf.at_
 have f7 := hf.pm
 have f8 := hf.pu
 have f9 := hf.fv
 have f10 := hf.ve
 have f11 := hf.bl
 simp only [List.length_cons, List.length_nil] at e1 e10
 simp only [SSt.text, SSt.moneyT, ByteArray.size_append]
 omega
theorem aQk {a b : SSt} (hr : a.right = true) (ha : a.ok) (hb : b.ok) (h : a.said = b.said) : a = b := by
 have h1 := rF hr ha
 have h2 : b.right = true := by
  cases hb2 : b.right
  ·rw [jY.2 hb2] at h
   rw [jY.1 h] at hr
   cases hr
  ·rfl
 have h3 := rF h2 hb
 rw [h, h3] at h1
 injection h1 with h1
 exact h1.symm
theorem aLw : saidQ emp = false := by
 unfold saidQ
 rw [decide_eq_true rfl]
 rfl
theorem aFt {t : ByteArray} (h : saidQ t = true) : ((stateS t).v.right = true) ∧ (stateS t).v.said = t := by
 unfold saidQ at h
 simp only [Bool.and_eq_true, decide_eq_true_eq, Bool.not_eq_true', decide_eq_false_iff_not] at h
 obtain ⟨h1, _, h2⟩ := h
 refine ⟨?_, h2⟩
 cases hr : (stateS t).v.right
 ·rw [jY.2 hr] at h2
  exact absurd h2.symm h1
 ·rfl
end
section
open Go.RowKit
theorem join {G P : Prop} (h : G ∧ True → P) (g : G) : P := h ⟨g, trivial⟩
attribute [local irreducible] readD SSt.said
theorem aJj {t : ByteArray} (h : saidQ t = false) : readD t = .tup [.agg zeroS.c, .int 2] := by unfold readD; rw [h]; rfl
theorem aFp {t : ByteArray} (h : saidQ t = true) : readD t = .tup [.agg (stateS t).v.c, .int 0] := by unfold readD; rw [h]; rfl
theorem sbackLaw (a b : SSt) (ha : a.came) (hb : b.came) (t : ByteArray) (ht : t.size ≤ 9223372036854775807) : PureC 4 [.agg a.c, .agg b.c, .str t] (· = .bool true) := by
 have cs := qI
 have cfa := sY a ha
 have cfb := sY b hb
 refine aE Tryz.func4 rfl zg _ Tryz.ntmps4 (aC rfl) (fun w Pr hE => ?_)
 dsimp only [slotsOf, Nat.zero_add, Nat.reduceAdd]
 repeat' (first | refine kQ (cs) hE ?_ | (apply aF; refine bP (cfa) hE ?_; rintro _ ⟨fa, rfl, hfa⟩; clear cfa; cases fa) | (apply aF; refine bP (cfb) hE ?_; rintro _ ⟨fb, rfl, hfb⟩; cases fb) | refine qx ?_ | refine vm ?_ | refine vn ?_ | refine vv ?_ | (refine sQ ?_ ?_ <;> intro hb hq <;> try omega) | (refine wQ ?_ ?_ <;> intro hb hq <;> try omega) | (apply jA; refine lV ?_))
 ·skip
  refine rt1 ?_
  rfl
 ·skip
  refine rt1 ?_
  rfl
 ·skip
  refine rt1 ?_
  rfl
 have hfa := hfa rfl
 have hfb := hfb rfl
 have ht3 : t.size ≤ 3000 := by have := of_decide_eq_false hb; omega
 have hoa := hfa.ok
 have hob := hfb.ok
 have hsz := aNy hfa
 apply join
 ·intro k
  have c1 := kJ a hoa
  have c2 := xY a.said hsz
  have cr := cW a hoa
  cases hr : a.right
  ·rw [jY.2 hr] at c1 c2
   rw [aJj aLw] at c2
   rw [hr] at cr
   have d4 : (!decide (emp = (⟨#[]⟩ : ByteArray))) = false := by rw [decide_eq_true (show emp = ⟨#[]⟩ from rfl)]; rfl
   repeat' (first | (rw [d4]) | (apply aF; refine bP (c1) hE ?_; rintro _ rfl; clear c1) | (apply aF; refine bP (c2) hE ?_; rintro _ rfl; clear c2) | refine kQ (cr) hE ?_ | refine qx ?_ | refine vr ?_ | refine xa ?_ | refine xc ?_ | (refine sQ ?_ ?_ <;> intro hb hq <;> try omega) | (refine wQ ?_ ?_ <;> intro hb hq <;> try omega))
   refine cX (sl' := [(74, .d (.str t)), (7, .d (.bool true)), (2, .d (.str t))]) (ob' := []) zm zw ?_
   exact k.1
  have hne : ¬ a.said = emp := fun e => by rw [jY.1 e] at hr; cases hr
  have d4 : (!decide (a.said = (⟨#[]⟩ : ByteArray))) = true := by rw [decide_eq_false (show ¬ a.said = ⟨#[]⟩ from hne)]; rfl
  have hq := yE hr hoa
  rw [aFp hq.1, hq.2] at c2
  rw [hr] at cr
  have c3 := qG a a hoa
  rw [decide_eq_true rfl] at c3
  have c4 := kJ b hob
  have c5 := qG a b hoa
  cases d2 : decide (a.said = b.said)
  ·skip
   repeat' (first | (rw [d4]) | (apply aF; refine bP (c1) hE ?_; rintro _ rfl; clear c1) | (apply aF; refine bP (c2) hE ?_; rintro _ rfl; clear c2) | refine kQ (cr) hE ?_ | (apply aF; refine bP (c3) hE ?_; rintro _ rfl; clear c3) | refine kQ (c4) hE ?_ | refine qx ?_ | refine vr ?_ | refine xa ?_ | refine xc ?_ | (refine sQ ?_ ?_ <;> intro hb hq <;> try omega) | (refine wQ ?_ ?_ <;> intro hb hq <;> try omega))
   refine cX (sl' := [(74, .d (.str t)), (7, .d (.bool true)), (2, .d (.str t))]) (ob' := []) zm zw ?_
   exact k.1
  ·have hab := aQk hr hoa hob (of_decide_eq_true d2)
   rw [decide_eq_true hab] at c5
   repeat' (first | (rw [d4]) | (apply aF; refine bP (c1) hE ?_; rintro _ rfl; clear c1) | (apply aF; refine bP (c2) hE ?_; rintro _ rfl; clear c2) | refine kQ (cr) hE ?_ | (apply aF; refine bP (c3) hE ?_; rintro _ rfl; clear c3) | refine kQ (c4) hE ?_ | refine kQ (c5) hE ?_ | refine qx ?_ | refine vr ?_ | refine xa ?_ | refine xc ?_ | (refine sQ ?_ ?_ <;> intro hb hq <;> try omega) | (refine wQ ?_ ?_ <;> intro hb hq <;> try omega))
   refine cX (sl' := [(74, .d (.str t)), (7, .d (.bool true)), (2, .d (.str t))]) (ob' := []) zm zw ?_
   exact k.1
 have c1 := xY t zb
 cases hq : saidQ t
 ·rw [aJj hq] at c1
  have c2 := qG zeroS zeroS wD
  rw [decide_eq_true rfl] at c2
  have c3 := c2.wk2 wE
  repeat' (first | refine kQ (c1) hE ?_ | refine kQ (c3) hE ?_ | refine qx ?_ | refine vf ?_ | refine vw ?_ | refine xa ?_ | refine xv ?_ | (refine sQ ?_ ?_ <;> intro hb hq <;> try omega) | (refine wQ ?_ ?_ <;> intro hb hq <;> try omega))
  refine rt1 ?_
  rfl
 ·rw [aFp hq] at c1
  obtain ⟨h1, h2⟩ := aFt hq
  have c2 := cW _ (qJ (t := t) zb)
  have c3 := kJ _ (qJ (t := t) zb)
  rw [h1] at c2
  rw [h2] at c3
  generalize (stateS t).v = y at *
  have d1 : decide (t = t) = true := decide_eq_true rfl
  repeat' (first | refine kQ (c1) hE ?_ | refine kQ (c2) hE ?_ | refine kQ (c3) hE ?_ | refine qx ?_ | refine vf ?_ | refine vr ?_ | refine vw ?_ | refine xa ?_ | (refine sQ ?_ ?_ <;> intro hb hq <;> try omega) | (refine wQ ?_ ?_ <;> intro hb hq <;> try omega))
  refine rt1 ?_
  first | rfl | rw [d1]
end
section
theorem wK {a b : Bool} (h : a = true) (g : b = true) : (a && b) = true := by rw [h, g]; rfl
theorem stateBack_closed : joinedFacts Tryz.prog 4 Tryz.f4 Rows.stateBackSpec Rows.stateBackRow = true := by
 unfold joinedFacts
 repeat' with_reducible apply wK
 all_goals as_aux_lemma => kernel_rfl
end
end Go.Proofs.YtaodngiigdbgeaaGreatDoor
