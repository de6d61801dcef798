/-
  Conditions: none.
-/
import Derived.Test.YtaodngiigdbgeaaGreatDoorRows
import Derived.Test.YtaodngiigdbgeaaGreatDoorMaa
import Derived.Test.YtaodngiigdbgeaaGreatDoorMal
import Derived.Test.YtaodngiigdbgeaaGreatDoorMao
import Derived.Test.YtaodngiigdbgeaaGreatDoorMbf
import Derived.Test.YtaodngiigdbgeaaGreatDoorMbj
import Derived.Test.YtaodngiigdbgeaaGreatDoorMbk
set_option maxHeartbeats 16000000
set_option maxRecDepth 20000
set_option linter.unusedSimpArgs false
set_option linter.unusedVariables false
namespace Go.Proofs.YtaodngiigdbgeaaGreatDoor
section
open Go.RowKit
theorem join {G P : Prop} (h : G ∧ True → P) (g : G) : P := h ⟨g, trivial⟩
theorem aNd {s : SSt} (h : s.ok) {x : SArc} (hn : s.ar.length < 20000) (hs : s.se.length < 20000) (hx : x.lo.length ≤ 25 ∧ x.hi.length ≤ 25) : (s.arced x).ok where
 ar := by show (s.ar ++ [x]).length ≤ 1000000; rw [List.length_append, List.length_singleton]; omega
 ars := fun a ha => by
  rcases List.mem_append.1 ha with ha | ha
  ·exact h.ars a ha
  ·rw [List.mem_singleton.1 ha]; omega
 se := by show (s.se ++ [[]]).length ≤ 1000000; rw [List.length_append, List.length_singleton]; omega
 ses := fun l hl => by
  rcases List.mem_append.1 hl with hl | hl
  ·exact h.ses l hl
  ·rw [List.mem_singleton.1 hl]; exact Nat.zero_le _
 cs := h.cs
 pl := h.pl
 pls := h.pls
 dn := h.dn
 at_ := h.at_
 pm := h.pm
 pu := h.pu
 fv := h.fv
 ve := h.ve
 ves := h.ves
 bl := h.bl
 bls := h.bls
theorem aMi {s : SSt} (h : s.ok) {v : SVer} (hn : s.ve.length < 60) (hv : v.t.size ≤ 500) : (s.versed v).ok where
 ar := h.ar
 ars := h.ars
 se := h.se
 ses := h.ses
 cs := h.cs
 pl := h.pl
 pls := h.pls
 dn := h.dn
 at_ := h.at_
 pm := h.pm
 pu := h.pu
 fv := h.fv
 ve := by show (s.ve ++ [v]).length ≤ 1000000; rw [List.length_append, List.length_singleton]; omega
 ves := fun x hx => by
  rcases List.mem_append.1 hx with hx | hx
  ·exact h.ves x hx
  ·rw [List.mem_singleton.1 hx]; omega
 bl := h.bl
 bls := h.bls
abbrev arcB (x : SArc) : O := .box 46 (x.c.map V.d)
abbrev verB (v : SVer) : O := .box 48 (v.c.map V.d)
abbrev polB (p : SPool) : O := .box 29 (p.c.map V.d)
abbrev prO (a : SSt) (x : SArc) (v : SVer) (p : SPool) : Objs := [(8, polB p), (7, verB v), (6, arcB x), (5, a.b)]
abbrev prS (t : Int) : Slots := [(12, .box 12 0), (11, .d (.bool true)), (8, .box 8 0), (7, .box 7 0), (6, .box 6 0), (5, .box 5 0), (4, .d (.int t))]
theorem inQf1 {a b n : Int} (h : decide (a ≤ n) = false) : inQ a b [n] = false := by rw [uV, h]; rfl
theorem inQf2 {a b n : Int} (h : decide (n ≤ b) = false) : inQ a b [n] = false := by rw [uV, h, Bool.and_false]
theorem inQt {a b n : Int} (h : decide (a ≤ n) = true) (g : decide (n ≤ b) = true) : inQ a b [n] = true := by rw [uV, h, g]; rfl
theorem inQ2 (a b n m : Int) : inQ a b [n, m] = (inQ a b [n] && inQ a b [m]) := by simp [inQ]
theorem uX {α β : Type} (f : α → β) (l : List α) (x : α) : (l ++ [x]).map f = l.map f ++ [f x] := by simp
theorem aIt (n : Int) : decide (n ≤ 1999) = decide (n < 2000) := by rw [decide_eq_decide]; omega
theorem spartsLaw (a : SSt) (hc : a.came) (x : SArc) (hx : x.lo.length ≤ 9223372036854775807 ∧ x.hi.length ≤ 9223372036854775807) (v : SVer) (hv : v.t.size ≤ 9223372036854775807) (p : SPool) (t : Int) : PureC 6 [.agg a.c, .agg x.c, .agg v.c, .agg p.c, .int t] (· = .bool true) := by
 have cs := qI
 have cf := sY a hc
 refine aE Tryz.func6 rfl zg _ Tryz.ntmps6 (aC rfl) (fun w Pr hE => ?_)
 dsimp only [slotsOf, Nat.zero_add, Nat.reduceAdd]
 repeat' (first | refine kQ (cs) hE ?_ | (apply aF; refine bP (cf) hE ?_; rintro _ ⟨fb, rfl, hfb⟩; cases fb) | refine vk ?_ | refine vm ?_ | refine vn ?_ | refine xp ?_ | (refine sQ ?_ ?_ <;> intro hb hq <;> try omega) | (refine wQ ?_ ?_ <;> intro hb hq <;> try omega))
 ·skip
  refine rt1 ?_
  rfl
 have hfew := hfb rfl
 have ho := hfew.ok
 have q1 := hfew.ar
 have q2 := hfew.se
 have q3 := hfew.ve
 have cr := cW a ho
 clear cs cf hfb
 cases hr : a.right
 ·rw [hr] at cr
  repeat' (first | refine kQ (cr) hE ?_ | refine qd ?_ | refine vm ?_ | refine vn ?_ | refine vq ?_ | (refine sQ ?_ ?_ <;> intro hb hq <;> try omega) | (refine wQ ?_ ?_ <;> intro hb hq <;> try omega))
  refine rt1 ?_
  rfl
 rw [hr] at cr
 cases h1 : decide (25 < (x.lo.length : Int))
 rotate_left 1
 ·skip
  repeat' (first | refine kQ (cr) hE ?_ | refine qd ?_ | refine vm ?_ | refine vn ?_ | refine vq ?_ | (refine sQ ?_ ?_ <;> intro hb hq <;> try omega) | (refine wQ ?_ ?_ <;> intro hb hq <;> try omega))
  refine rt1 ?_
  rfl
 cases h2 : decide (25 < (x.hi.length : Int))
 rotate_left 1
 ·skip
  repeat' (first | refine kQ (cr) hE ?_ | refine qd ?_ | refine vm ?_ | refine vn ?_ | refine vq ?_ | (refine sQ ?_ ?_ <;> intro hb hq <;> try omega) | (refine wQ ?_ ?_ <;> intro hb hq <;> try omega))
  refine rt1 ?_
  rfl
 cases h3 : decide (500 < (v.t.size : Int))
 rotate_left 1
 ·skip
  repeat' (first | refine kQ (cr) hE ?_ | refine qd ?_ | refine vm ?_ | refine vn ?_ | refine vq ?_ | (refine sQ ?_ ?_ <;> intro hb hq <;> try omega) | (refine wQ ?_ ?_ <;> intro hb hq <;> try omega))
  refine rt1 ?_
  rfl
 have cc := wR a ho
 repeat' (first | refine kQ (cr) hE ?_ | refine qz ?_ | refine vh ?_ | refine vm ?_ | refine vq ?_ | (refine sQ ?_ ?_ <;> intro hb hq <;> try omega) | (refine wQ ?_ ?_ <;> intro hb hq <;> try omega))
 have h1' := of_decide_eq_false h1
 have h2' := of_decide_eq_false h2
 have h3' := of_decide_eq_false h3
 clear cr h1 h2 h3
 repeat' (first | (apply aF; refine cP [(9, 150), (47, 151), (141, 152), (151, 153)] (cc) hE ?_; rintro _ _ ⟨k1, k2, k3, k4, rfl, rfl⟩ <;> (intro _ _ h1 h2; simp only [aO, Nat.reduceBEq, aG, aL, aH] at h1 h2; subst h1 h2)) | (apply aB (.store _ _ _); refine aD (aN (k := 18) (n := cpyV a k1 k2 k3 k4) rfl rfl rfl nofun rfl zo (.inr rfl) rfl (aC rfl) rfl) rfl ?_) | refine vy ?_ | refine xz ?_ | (refine sQ ?_ ?_ <;> intro hb hq <;> try omega) | (apply cV; refine eD ?_))
 refine dD (d := .list 4 (a.ar.map SArc.c)) 12 1 rfl rfl (by (try rw [uX SArc.c]); exact .row _ _ _ _ _ rfl) rfl ?_
 refine dD (d := .list 1 (a.se.map seenC)) 12 2 rfl rfl (by (try rw [uX seenC]); exact .row _ _ _ _ _ rfl) rfl ?_
 refine dD (d := .list 2 (a.ve.map SVer.c)) 12 16 rfl rfl (by (try rw [uX SVer.c]); exact .row _ _ _ _ _ rfl) rfl ?_
 refine tI (nO 12 8 rfl rfl zg rfl rfl) ?_
 refine cX (sl' := prS t) (ob' := (12, a.b) :: prO a x v p) zm zw ?_
 repeat' (first | refine qr ?_ | refine vx ?_ | (refine sQ ?_ ?_ <;> intro hb hq <;> try omega) | (apply dH; refine eO ?_))
 refine cX (sl' := prS t) (ob' := (12, (a.timed t).b) :: prO a x v p) zm zw ?_
 apply join
 ·intro k
  have cr2 := cW (a.timed t) (aQz ho t)
  rw [aGc hr] at cr2
  cases g1 : decide (0 ≤ t)
  ·rw [show timeQ [t] = false from inQf1 g1] at cr2
   repeat' (first | refine kQ (cr2) hE ?_ | refine vh ?_ | refine vi ?_ | refine vx ?_ | (refine sQ ?_ ?_ <;> intro hb hq <;> try omega) | (refine wQ ?_ ?_ <;> intro hb hq <;> try omega) | (apply jW; refine mT ?_) | (apply kZ; refine oS ?_) | (apply cV; refine eD ?_))
   refine cX (sl' := (60, .d (.agg a.c)) :: prS t) (ob' := (12, (a.timed t).b) :: prO a x v p) zm zw ?_
   exact k.1
  cases g2 : decide (t ≤ 1048576)
  ·rw [show timeQ [t] = false from inQf2 g2] at cr2
   have d : (false != decide (t ≤ 1048576)) = false := by rw [g2]; rfl
   repeat' (first | refine kQ (cr2) hE ?_ | refine vh ?_ | refine vi ?_ | refine vx ?_ | (refine sQ ?_ ?_ <;> intro hb hq <;> try omega) | (refine wQ ?_ ?_ <;> intro hb hq <;> try omega) | (apply jW; refine mT ?_) | (apply kZ; refine oS ?_) | (apply cV; refine eD ?_))
   refine cX (sl' := (60, .d (.agg a.c)) :: prS t) (ob' := (12, (a.timed t).b) :: prO a x v p) zm zw ?_
   exact k.1
  ·rw [show timeQ [t] = true from inQt g1 g2] at cr2
   have d : (true != decide (t ≤ 1048576)) = false := by rw [g2]; rfl
   repeat' (first | refine kQ (cr2) hE ?_ | refine vh ?_ | refine vi ?_ | refine vx ?_ | (refine sQ ?_ ?_ <;> intro hb hq <;> try omega) | (refine wQ ?_ ?_ <;> intro hb hq <;> try omega) | (apply jW; refine mT ?_) | (apply kZ; refine oS ?_) | (apply cV; refine eD ?_))
   refine cX (sl' := (60, .d (.agg a.c)) :: prS t) (ob' := (12, (a.timed t).b) :: prO a x v p) zm zw ?_
   exact k.1
 clear k1 k2 k3 k4
 repeat' (first | (apply aF; refine cP [(9, 150), (47, 151), (141, 152), (151, 153)] (cc) hE ?_; rintro _ _ ⟨k1, k2, k3, k4, rfl, rfl⟩ <;> (intro _ _ h1 h2; simp only [aO, Nat.reduceBEq, aG, aL, aH] at h1 h2; subst h1 h2)) | (apply aB (.store _ _ _); refine aD (aN (k := 18) (n := cpyV a k1 k2 k3 k4) rfl rfl rfl nofun rfl zo (.inr rfl) rfl (aC rfl) rfl) rfl ?_) | refine qv ?_ | refine xz ?_ | (refine sQ ?_ ?_ <;> intro hb hq <;> try omega))
 repeat' (first | (apply aB (.buildSlice 23 1 _); refine aD (oN (z := .list 2 []) (c := [.list 2 []]) rfl (ToD.nil 2) rfl rfl (aC rfl) (aA rfl)) rfl ?_) | refine xl ?_ | refine xz ?_ | (refine sQ ?_ ?_ <;> intro hb hq <;> try omega) | (apply dY; refine fG ?_))
 refine dD (d := .list 4 ((a.ar ++ [x]).map SArc.c)) 12 1 rfl rfl (by (try rw [uX SArc.c]); exact .row _ _ _ _ _ rfl) rfl ?_
 refine dD (d := .list 1 ((a.se ++ [[]]).map seenC)) 12 2 rfl rfl (by (try rw [uX seenC]); exact .row _ _ _ _ _ rfl) rfl ?_
 refine dD (d := .list 2 (a.ve.map SVer.c)) 12 16 rfl rfl (by (try rw [uX SVer.c]); exact .row _ _ _ _ _ rfl) rfl ?_
 refine tI (nO 12 8 rfl rfl zg rfl rfl) ?_
 refine cX (sl' := (74, .d (.int x.f)) :: prS t) (ob' := (12, (a.arced x).b) :: prO a x v p) zm zw ?_
 apply join
 ·intro k
  have cr2 := cW (a.arced x) (aNd ho zb zb zb)
  have ca := rN x hx.1 hx.2
  rw [aDr hr zb, SArc.fine, nodeQ, inQ2, uV, uV, aIt, aIt] at cr2
  generalize x.right = xr at *
  cases g1 : decide (0 ≤ x.f)
  ·simp only [g1, Bool.false_and, Bool.and_false] at cr2
   repeat' (first | refine kQ (cr2) hE ?_ | refine kQ (ca) hE ?_ | refine nk ?_ | refine va ?_ | refine vf ?_ | (refine sQ ?_ ?_ <;> intro hb hq <;> try omega) | (refine wQ ?_ ?_ <;> intro hb hq <;> try omega) | (apply jW; refine mT ?_))
   refine cX (sl' := (99, .d (.agg a.c)) :: prS t) (ob' := (12, (a.arced x).b) :: prO a x v p) zm zw ?_
   exact k.1
  cases g2 : decide (x.f < 2000)
  ·simp only [g2, Bool.false_and, Bool.and_false] at cr2
   repeat' (first | refine kQ (cr2) hE ?_ | refine kQ (ca) hE ?_ | refine nk ?_ | refine va ?_ | refine vf ?_ | (refine sQ ?_ ?_ <;> intro hb hq <;> try omega) | (refine wQ ?_ ?_ <;> intro hb hq <;> try omega) | (apply jW; refine mT ?_))
   refine cX (sl' := (99, .d (.agg a.c)) :: prS t) (ob' := (12, (a.arced x).b) :: prO a x v p) zm zw ?_
   exact k.1
  cases g3 : decide (0 ≤ x.t)
  ·simp only [g3, Bool.false_and, Bool.and_false] at cr2
   repeat' (first | refine kQ (cr2) hE ?_ | refine kQ (ca) hE ?_ | refine nk ?_ | refine va ?_ | refine vf ?_ | (refine sQ ?_ ?_ <;> intro hb hq <;> try omega) | (refine wQ ?_ ?_ <;> intro hb hq <;> try omega) | (apply jW; refine mT ?_))
   refine cX (sl' := (99, .d (.agg a.c)) :: prS t) (ob' := (12, (a.arced x).b) :: prO a x v p) zm zw ?_
   exact k.1
  cases g4 : decide (x.t < 2000)
  ·simp only [g4, Bool.false_and, Bool.and_false] at cr2
   repeat' (first | refine kQ (cr2) hE ?_ | refine kQ (ca) hE ?_ | refine nk ?_ | refine va ?_ | refine vf ?_ | (refine sQ ?_ ?_ <;> intro hb hq <;> try omega) | (refine wQ ?_ ?_ <;> intro hb hq <;> try omega) | (apply jW; refine mT ?_))
   refine cX (sl' := (99, .d (.agg a.c)) :: prS t) (ob' := (12, (a.arced x).b) :: prO a x v p) zm zw ?_
   exact k.1
  simp only [g1, g2, g3, g4, Bool.true_and, Bool.and_true] at cr2
  cases xr
  ·skip
   repeat' (first | refine kQ (cr2) hE ?_ | refine kQ (ca) hE ?_ | refine nk ?_ | refine va ?_ | refine vf ?_ | (refine sQ ?_ ?_ <;> intro hb hq <;> try omega) | (refine wQ ?_ ?_ <;> intro hb hq <;> try omega) | (apply jW; refine mT ?_))
   refine cX (sl' := (99, .d (.agg a.c)) :: prS t) (ob' := (12, (a.arced x).b) :: prO a x v p) zm zw ?_
   exact k.1
  ·skip
   repeat' (first | refine kQ (cr2) hE ?_ | refine kQ (ca) hE ?_ | refine nk ?_ | refine va ?_ | refine vf ?_ | (refine sQ ?_ ?_ <;> intro hb hq <;> try omega) | (refine wQ ?_ ?_ <;> intro hb hq <;> try omega) | (apply jW; refine mT ?_))
   refine cX (sl' := (99, .d (.agg a.c)) :: prS t) (ob' := (12, (a.arced x).b) :: prO a x v p) zm zw ?_
   exact k.1
 clear k1 k2 k3 k4
 repeat' (first | (apply aF; refine cP [(9, 150), (47, 151), (141, 152), (151, 153)] (cc) hE ?_; rintro _ _ ⟨k1, k2, k3, k4, rfl, rfl⟩ <;> (intro _ _ h1 h2; simp only [aO, Nat.reduceBEq, aG, aL, aH] at h1 h2; subst h1 h2)) | (apply aB (.store _ _ _); refine aD (aN (k := 18) (n := cpyV a k1 k2 k3 k4) rfl rfl rfl nofun rfl zo (.inr rfl) rfl (aC rfl) rfl) rfl ?_) | refine qv ?_ | refine xz ?_ | (refine sQ ?_ ?_ <;> intro hb hq <;> try omega))
 refine dD (d := .list 4 (a.ar.map SArc.c)) 12 1 rfl rfl (by (try rw [uX SArc.c]); exact .row _ _ _ _ _ rfl) rfl ?_
 refine dD (d := .list 1 (a.se.map seenC)) 12 2 rfl rfl (by (try rw [uX seenC]); exact .row _ _ _ _ _ rfl) rfl ?_
 refine dD (d := .list 2 (a.ve.map SVer.c)) 12 16 rfl rfl (by (try rw [uX SVer.c]); exact .row _ _ _ _ _ rfl) rfl ?_
 refine tI (nO 12 8 rfl rfl zg rfl rfl) ?_
 refine cX (sl' := (101, .d (.agg p.c)) :: prS t) (ob' := (12, a.b) :: prO a x v p) zm zw ?_
 repeat' (first | refine xd ?_ | refine xz ?_ | (refine sQ ?_ ?_ <;> intro hb hq <;> try omega))
 refine aIi (prS t) ((12, (a.pooled p).b) :: prO a x v p) ?_
 apply join
 ·intro k
  have cr2 := cW (a.pooled p) (aLn ho p)
  have cp := qQ p
  rw [aCc hr] at cr2
  generalize p.right = pr at *
  cases pr
  ·skip
   refine cC ([(12, (a.pooled p).b), (8, polB p), (7, verB v), (6, arcB x), (5, a.b)]) [(0, true), (2, true), (1, false), (3, false), (4, true)] [] zp zp zp zg zw ?_
   simp only [planned, tailed, List.filterMap_cons, List.filterMap_nil, List.getElem?_cons_zero, List.getElem?_cons_succ, Option.map_some]
   repeat' (first | apply aZ | refine vt ?_ | (apply aM; refine bI (cr2) hE ?_; rintro _ rfl; (try dsimp only [flat, D.plain, D.plainL])) | (apply aM; refine bI (cp) hE ?_; rintro _ rfl; (try dsimp only [flat, D.plain, D.plainL])) | (apply dW; refine fV ?_) | (apply aU; refine bA ?_) | (refine mQ ?_ ?_ <;> intro hb hq <;> try omega))
   repeat' (first | refine qv ?_ | refine xz ?_ | (refine sQ ?_ ?_ <;> intro hb hq <;> try omega) | (apply kZ; refine oS ?_))
   refine cX (sl' := (108, .d (.agg a.c)) :: prS t) (ob' := (12, (a.pooled p).b) :: prO a x v p) zm zw ?_
   exact k.1
  ·skip
   refine cC ([(12, (a.pooled p).b), (8, polB p), (7, verB v), (6, arcB x), (5, a.b)]) [(0, true), (2, true), (1, false), (3, false), (4, true)] [] zp zp zp zg zw ?_
   simp only [planned, tailed, List.filterMap_cons, List.filterMap_nil, List.getElem?_cons_zero, List.getElem?_cons_succ, Option.map_some]
   repeat' (first | apply aZ | refine vt ?_ | (apply aM; refine bI (cr2) hE ?_; rintro _ rfl; (try dsimp only [flat, D.plain, D.plainL])) | (apply aM; refine bI (cp) hE ?_; rintro _ rfl; (try dsimp only [flat, D.plain, D.plainL])) | (apply dW; refine fV ?_) | (apply aU; refine bA ?_) | (refine mQ ?_ ?_ <;> intro hb hq <;> try omega))
   repeat' (first | refine qv ?_ | refine xz ?_ | (refine sQ ?_ ?_ <;> intro hb hq <;> try omega) | (apply kZ; refine oS ?_))
   refine cX (sl' := (108, .d (.agg a.c)) :: prS t) (ob' := (12, (a.pooled p).b) :: prO a x v p) zm zw ?_
   exact k.1
 clear k1 k2 k3 k4
 repeat' (first | (apply aF; refine cP [(9, 150), (47, 151), (141, 152), (151, 153)] (cc) hE ?_; rintro _ _ ⟨k1, k2, k3, k4, rfl, rfl⟩ <;> (intro _ _ h1 h2; simp only [aO, Nat.reduceBEq, aG, aL, aH] at h1 h2; subst h1 h2)) | (apply aB (.store _ _ _); refine aD (aN (k := 18) (n := cpyV a k1 k2 k3 k4) rfl rfl rfl nofun rfl zo (.inr rfl) rfl (aC rfl) rfl) rfl ?_) | refine qv ?_ | refine xz ?_ | (refine sQ ?_ ?_ <;> intro hb hq <;> try omega))
 repeat' (first | refine xl ?_ | refine xz ?_ | (refine sQ ?_ ?_ <;> intro hb hq <;> try omega) | (apply dY; refine fG ?_))
 refine dD (d := .list 4 (a.ar.map SArc.c)) 12 1 rfl rfl (by (try rw [uX SArc.c]); exact .row _ _ _ _ _ rfl) rfl ?_
 refine dD (d := .list 1 (a.se.map seenC)) 12 2 rfl rfl (by (try rw [uX seenC]); exact .row _ _ _ _ _ rfl) rfl ?_
 refine dD (d := .list 2 ((a.ve ++ [v]).map SVer.c)) 12 16 rfl rfl (by (try rw [uX SVer.c]); exact .row _ _ _ _ _ rfl) rfl ?_
 refine tI (nO 12 8 rfl rfl zg rfl rfl) ?_
 refine cX (sl' := (118, .d (.str v.t)) :: prS t) (ob' := (12, (a.versed v).b) :: prO a x v p) zm zw ?_
 clear k1 k2 k3 k4 cc
 have c1 := aAl v.t zb
 have cr3 := cW (a.versed v) (aMi ho zb zb)
 rw [aDd hr zb] at cr3
 generalize parseV v.t = r at *
 obtain ⟨y, q, e⟩ := r
 unfold parseD at c1
 dsimp only at c1 cr3
 repeat' (first | refine kQ (c1) hE ?_ | refine vj ?_ | refine vq ?_ | refine xa ?_ | refine xz ?_ | (refine sQ ?_ ?_ <;> intro hb hq <;> try omega))
 refine aIi ([(18, .d (.int 0)), (17, .d (.bool true)), (16, .d (.int e)), (12, .box 12 0), (11, .d (.bool true)), (7, .box 7 0), (5, .box 5 0)]) ([(12, (a.versed v).b), (7, verB v), (5, a.b)]) ?_
 refine bB (fun N sl ob => ∃ (i : Nat) (f : Bool), N = a.ve.length - i ∧ i ≤ a.ve.length ∧ f = afterQ v (a.ve.take i) ∧ sl = [(18, .d (.int i)), (17, .d (.bool f)), (16, .d (.int e)), (12, .box 12 0), (11, .d (.bool true)), (7, .box 7 0), (5, .box 5 0)] ∧ ob = [(12, (a.versed v).b), (7, verB v), (5, a.b)]) (⟨0, true, rfl, Nat.zero_le _, rfl, rfl, rfl⟩) ?_
 rintro N sl ob ⟨i, f, rfl, hi, hf, rfl, rfl⟩
 by_cases hlt : i < a.ve.length
 ·have hg : (a.ve.map SVer.c)[i]? = some (SVer.c a.ve[i]) := by rw [bC hlt]
  have qi : decide ((i : Int) < (a.ve.length : Int)) = true := decide_eq_true zb
  have hnx : afterQ v (a.ve.take (i + 1)) = (afterQ v (a.ve.take i) && decide (a.ve[i].f < v.f)) := by
   rw [List.take_succ_eq_append_getElem hlt]
   simp only [afterQ, List.all_append, List.all_cons, List.all_nil, Bool.and_true]
  generalize a.ve[i] = z at *
  cases f
  ·skip
   repeat' (first | refine vq ?_ | refine xq ?_ | (refine sQ ?_ ?_ <;> intro hb hq <;> try omega))
   refine cC ([(12, (a.versed v).b), (7, verB v), (5, a.b)]) [(0, true), (1, true), (2, true), (3, true), (4, true), (5, true), (6, true), (7, true), (8, true), (9, true), (10, true), (11, true)] [12] zp zp zp zg zw ?_
   simp only [planned, tailed, List.filterMap_cons, List.filterMap_nil, List.getElem?_cons_zero, List.getElem?_cons_succ, Option.map_some]
   repeat' (first | apply aZ | refine vt ?_ | (apply aR (.indexAddr _ _ _); refine bS zj (cT zx rfl rfl zq hg) (aA rfl) ?_) | (apply bG; refine bQ ?_) | (apply gD; refine iP ?_) | (apply tY; refine aAa ?_) | (apply dL; refine gC ?_) | (apply aU; refine bA ?_) | (apply aV; refine bE ?_) | (refine mQ ?_ ?_ <;> intro hb hq <;> try omega))
   repeat' (first | refine va ?_ | refine vb ?_ | refine vl ?_ | refine vw ?_ | (refine sQ ?_ ?_ <;> intro hb hq <;> try omega) | (refine wQ ?_ ?_ <;> intro hb hq <;> try omega))
   refine bK (⟨i + 1, false, rfl, by omega, by rw [hnx, ← hf]; rfl, rfl, rfl⟩) zb
  ·skip
   repeat' (first | refine vq ?_ | refine xq ?_ | (refine sQ ?_ ?_ <;> intro hb hq <;> try omega))
   refine cC ([(12, (a.versed v).b), (7, verB v), (5, a.b)]) [(0, true), (1, true), (2, true), (3, true), (4, true), (5, true), (6, true), (7, true), (8, true), (9, true), (10, true), (11, true)] [12] zp zp zp zg zw ?_
   simp only [planned, tailed, List.filterMap_cons, List.filterMap_nil, List.getElem?_cons_zero, List.getElem?_cons_succ, Option.map_some]
   repeat' (first | apply aZ | refine vt ?_ | (apply aR (.indexAddr _ _ _); refine bS zj (cT zx rfl rfl zq hg) (aA rfl) ?_) | (apply bG; refine bQ ?_) | (apply gD; refine iP ?_) | (apply tY; refine aAa ?_) | (apply dL; refine gC ?_) | (apply aU; refine bA ?_) | (apply aV; refine bE ?_) | (refine mQ ?_ ?_ <;> intro hb hq <;> try omega))
   repeat' (first | refine va ?_ | refine vb ?_ | refine vl ?_ | refine vw ?_ | (refine sQ ?_ ?_ <;> intro hb hq <;> try omega) | (refine wQ ?_ ?_ <;> intro hb hq <;> try omega))
   refine bK (⟨i + 1, decide (z.f < v.f), rfl, by omega, by rw [hnx, ← hf, Bool.true_and], rfl, rfl⟩) zb
 obtain rfl : i = a.ve.length := by omega
 have qi : decide ((a.ve.length : Int) < (a.ve.length : Int)) = false := decide_eq_false zb
 rw [List.take_length] at hf
 rw [← hf, timeQ, uV] at cr3
 cases g1 : decide (e = 0)
 ·simp only [g1, Bool.false_and, Bool.and_false] at cr3
  repeat' (first | refine kQ (cr3) hE ?_ | refine qy ?_ | refine vc ?_ | refine vi ?_ | refine xb ?_ | (refine sQ ?_ ?_ <;> intro hb hq <;> try omega) | (refine wQ ?_ ?_ <;> intro hb hq <;> try omega))
  refine rt1 ?_
  first | rfl | (rw [g3]; rfl)
 cases f
 ·simp only [Bool.false_and, Bool.and_false] at cr3
  repeat' (first | refine kQ (cr3) hE ?_ | refine qy ?_ | refine vc ?_ | refine vi ?_ | refine xb ?_ | (refine sQ ?_ ?_ <;> intro hb hq <;> try omega) | (refine wQ ?_ ?_ <;> intro hb hq <;> try omega))
  refine rt1 ?_
  first | rfl | (rw [g3]; rfl)
 cases g2 : decide (0 ≤ v.f)
 ·simp only [g2, Bool.false_and, Bool.and_false] at cr3
  repeat' (first | refine kQ (cr3) hE ?_ | refine qy ?_ | refine vc ?_ | refine vi ?_ | refine xb ?_ | (refine sQ ?_ ?_ <;> intro hb hq <;> try omega) | (refine wQ ?_ ?_ <;> intro hb hq <;> try omega))
  refine rt1 ?_
  first | rfl | (rw [g3]; rfl)
 cases g3 : decide (v.f ≤ 1048576)
 ·simp only [g3, Bool.false_and, Bool.and_false] at cr3
  repeat' (first | refine kQ (cr3) hE ?_ | refine qy ?_ | refine vc ?_ | refine vi ?_ | refine xb ?_ | (refine sQ ?_ ?_ <;> intro hb hq <;> try omega) | (refine wQ ?_ ?_ <;> intro hb hq <;> try omega))
  refine rt1 ?_
  first | rfl | (rw [g3]; rfl)
 ·simp only [g1, g2, g3, Bool.true_and, Bool.and_true] at cr3
  repeat' (first | refine kQ (cr3) hE ?_ | refine qy ?_ | refine vc ?_ | refine vi ?_ | refine xb ?_ | (refine sQ ?_ ?_ <;> intro hb hq <;> try omega) | (refine wQ ?_ ?_ <;> intro hb hq <;> try omega))
  refine rt1 ?_
  first | rfl | (rw [g3]; rfl)
end
section
theorem wK {a b : Bool} (h : a = true) (g : b = true) : (a && b) = true := by rw [h, g]; rfl
theorem stateParts_closed : joinedFacts Tryz.prog 6 Tryz.f6 Rows.statePartsSpec Rows.statePartsRow = true := by
 unfold joinedFacts
 repeat' with_reducible apply wK
 all_goals as_aux_lemma => kernel_rfl
end
end Go.Proofs.YtaodngiigdbgeaaGreatDoor
