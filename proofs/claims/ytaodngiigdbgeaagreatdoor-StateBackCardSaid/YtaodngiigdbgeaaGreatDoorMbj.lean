/-
  Conditions: none.
-/
import Derived.Test.YtaodngiigdbgeaaGreatDoorMaa
import Derived.Test.YtaodngiigdbgeaaGreatDoorMal
import Derived.Test.YtaodngiigdbgeaaGreatDoorMax
import Derived.Test.YtaodngiigdbgeaaGreatDoorMbd
import Derived.Test.YtaodngiigdbgeaaGreatDoorMbe
set_option maxHeartbeats 16000000
set_option maxRecDepth 20000
set_option linter.unusedSimpArgs false
set_option linter.unusedVariables false
namespace Go.Proofs.YtaodngiigdbgeaaGreatDoor
section
open Go.RowKit
attribute [local irreducible] numS textS itemsS
theorem aCi (r : ByteArray) (b : Bool) (hr : r.size ≤ 1000000000) : ObC 171 [.agg [.box 1000 0], .clo (.func 172) [.box 1005 0]] [(1000, rdc r b), (1005, rdb)] [] (fun x o => x = .d (.list 2 ((manyS cardS r b).v.map SCard.c)) ∧ o = [(1000, rdc (manyS cardS r b).r (manyS cardS r b).b), (1005, rdb)]) := by
 have hT : manyS cardS r b = manyS cardS r b := rfl
 conv at hT => rhs; unfold manyS
 have h0 := fQ (r := r) (b := b) (c := 59) (least := 0) (Int.le_refl _)
 have h1 := cJ (r := r) (b := b) (c := 59) (least := 0)
 have c1 := eF r b hr
 rcases hq : numS r b 59 0 with ⟨n, q, e⟩
 rw [hq] at hT h0 h1 c1
 dsimp only at hT h0 h1 c1
 have c2 := dV q e
 cases hc : decide ((q.size : Int) < n)
 rotate_left 1
 ·rw [if_pos (of_decide_eq_true hc)] at hT
  rw [hT]
  refine aI Tryz.func171 rfl zg _ Tryz.ntmps171 (aC rfl) rfl (fun w Pr β κ hE => ?_)
  dsimp only [slotsV, Nat.zero_add, Nat.reduceAdd]
  repeat' (first | (apply aB (.box _ _); refine aD (bR rfl nofun rfl (aA rfl) rfl rfl) rfl ?_) | refine oQ [(1000, 1000)] (c1) hE ?_ | refine oQ [(1000, 1000)] (c2) hE ?_ | refine qe ?_ | (refine sQ ?_ ?_ <;> intro hb hq <;> try omega))
  refine aP ([(1000, rdc q e), (1005, rdb)]) (by rfl) (.x _ _ (.tmp _ _ (ToD.nil 2))) (⟨rfl, rfl⟩) zw (by rfl)
 ·have hc0 := of_decide_eq_false hc
  rw [if_neg hc0] at hT
  obtain ⟨m, rfl⟩ : ∃ m : Nat, n = m := ⟨n.toNat, by omega⟩
  rw [Int.toNat_natCast] at hT
  rcases hL : manyL cardS m q e [] with ⟨l, q2, e2⟩
  rw [hL] at hT
  rw [hT]
  dsimp only
  refine aI Tryz.func171 rfl zg _ Tryz.ntmps171 (aC rfl) rfl (fun w Pr β κ hE => ?_)
  dsimp only [slotsV, Nat.zero_add, Nat.reduceAdd]
  repeat' (first | (apply aB (.box _ _); refine aD (bR rfl nofun rfl (aA rfl) rfl rfl) rfl ?_) | refine oQ [(1000, 1000)] (c1) hE ?_ | refine oQ [(1000, 1000)] (c2) hE ?_ | refine qe ?_ | (refine sQ ?_ ?_ <;> intro hb hq <;> try omega))
  refine fJ 6 6 78 2 rfl rfl (aA rfl) ?_
  clear c1 c2 hT hc
  refine bB (fun N sl ob => ∃ (i k : Nat) (out : List SCard) (r' : ByteArray) (b' : Bool), N = m - i ∧ i ≤ m ∧ manyL cardS (m - i) r' b' out = ⟨l, q2, e2⟩ ∧ out.length = i ∧ r'.size ≤ q.size ∧ sl = [(16, .d (.int i)), (15, .d (.int m)), (6, .row 6 k), (2, .box 2 0), (1, .clo (.func 172) [.box 1005 0])] ∧ ob = [(6, .row 78 2 k (out.map SCard.c)), (2, rdb), (1000, rdc r' b'), (1005, rdb)]) (⟨0, 0, [], q, e, rfl, Nat.zero_le _, hL, rfl, Nat.le_refl _, rfl, rfl⟩) ?_
  clear hL
  rintro N sl ob ⟨i, k, out, r', b', rfl, hi, hL, ho, hr', rfl, rfl⟩
  by_cases hlt : i < m
  ·have hL2 : manyL cardS (m - i) r' b' out = manyL cardS (m - (i + 1)) (cardS r' b').r (cardS r' b').b (out ++ [(cardS r' b').v]) := by rw [show m - i = (m - (i + 1)) + 1 by omega]; rfl
   have hle := rS r' b'
   have c3 := aKh r' b' zb
   rw [hL2] at hL
   clear hL2
   rcases hx : cardS r' b' with ⟨v, r3, b3⟩
   rw [hx] at hL hle c3
   dsimp only at hL hle c3
   have qi : decide ((i : Int) < (m : Int)) = true := decide_eq_true zb
   repeat' (first | (apply aF; refine kE [(1000, 1000), (1005, 1005)] (c3) hE ?_; rintro _ _ ⟨rfl, rfl⟩ <;> (intro _ _ h1 h2; simp only [aO, Nat.reduceBEq, aG, aL, aH] at h1 h2; subst h1 h2)) | refine qf ?_ | refine xy ?_ | (refine sQ ?_ ?_ <;> intro hb hq <;> try omega))
   repeat' (first | refine qn ?_ | (refine sQ ?_ ?_ <;> intro hb hq <;> try omega))
   refine bK (⟨i + 1, k + 1, out ++ [v], r3, b3, rfl, by omega, hL, by simp [ho], by omega, rfl, rfl⟩) zb
  ·obtain rfl : i = m := by omega
   rw [Nat.sub_self] at hL
   simp only [manyL, RS.mk.injEq] at hL
   obtain ⟨rfl, rfl, rfl⟩ := hL
   have qi : decide ((i : Int) < (i : Int)) = false := decide_eq_false zb
   repeat' (first | refine qf ?_ | (refine sQ ?_ ?_ <;> intro hb hq <;> try omega))
   refine aP ([(1000, rdc r' b'), (1005, rdb)]) (by rfl) rv (⟨rfl, rfl⟩) sb okx
theorem aNf (r : ByteArray) (b : Bool) (hr : r.size ≤ 1000000000) : ObC 44 [.agg [.box 1000 0]] [(1000, rdc r b)] [] (fun x o => x = .d (.agg (balS r b).v.c) ∧ o = [(1000, rdc (balS r b).r (balS r b).b)]) := by
 have c0 := yP r b hr
 have hle := tC r b
 unfold balS
 rcases hq : textS r b with ⟨t, r1, b1⟩
 rw [hq] at c0 hle
 dsimp only at c0 hle ⊢
 have c1 := fB [1] [.str t, .int 0, nilD, .bool false] 75 r1 b1 zb zg (fun o ho => by simp only [List.mem_cons, List.not_mem_nil, or_false] at ho; simp only [List.length_cons, List.length_nil]; omega)
 have hle1 := cF 1 r1 b1
 simp only [List.length_cons, List.length_nil, Nat.zero_add] at c1
 have hv := dS 1 r1 b1
 rcases hq1 : numsS 1 r1 b1 with ⟨v, r2, b2⟩
 rw [hq1] at hv c1 hle1
 obtain ⟨x, rfl⟩ := rB hv
 simp only [setD, List.set_cons_zero, List.set_cons_succ, List.map_cons, List.map_nil] at c1
 dsimp only at hle1 ⊢
 have c2 := aCi r2 b2 zb
 have hle2 := cG rS r2 b2
 rcases hq2 : manyS cardS r2 b2 with ⟨ca, r3, b3⟩
 rw [hq2] at c2 hle2
 dsimp only at c2 hle2 ⊢
 have c3 := eF r3 b3 zb
 rcases hq3 : numS r3 b3 59 0 with ⟨y, r4, b4⟩
 rw [hq3] at c3
 dsimp only at c3 ⊢
 refine aI Tryz.func44 rfl zg _ Tryz.ntmps44 (aC rfl) rfl (fun w Pr β κ hE => ?_)
 dsimp only [slotsV, Nat.zero_add, Nat.reduceAdd]
 repeat' (first | (apply aB (.buildSlice 207 _ _); refine aD (eG rfl zt (by rfl) zg (aA rfl) (by rfl) (by rfl)) rfl ?_) | (apply aB (.load 85 _); refine aK (bW rfl rfl rfl rfl rfl zg) (aA rfl) ?_) | (apply aB (.makeFunc _ _ _); refine aK (eC rfl) (aA rfl) ?_) | (apply aB (.box _ _); refine aD (bR rfl nofun rfl (aA rfl) rfl rfl) rfl ?_) | refine oQ [(1000, 1000)] (c0) hE ?_ | refine oQ [(1000, 1000), (1001, 9), (1002, 2)] (c1) hE ?_ | refine qa ?_ | refine vy ?_ | fail)
 clear c0 c1
 repeat' (first | (apply aB (.buildSlice 207 _ _); refine aD (eG rfl zt (by rfl) zg (aA rfl) (by rfl) (by rfl)) rfl ?_) | (apply aB (.load 85 _); refine aK (bW rfl rfl rfl rfl rfl zg) (aA rfl) ?_) | (apply aB (.makeFunc _ _ _); refine aK (eC rfl) (aA rfl) ?_) | (apply aB (.box _ _); refine aD (bR rfl nofun rfl (aA rfl) rfl rfl) rfl ?_) | refine oQ [(1000, 1000), (1005, 1)] (c2) hE ?_ | refine oQ [(1000, 1000)] (c3) hE ?_ | refine vr ?_ | refine xd ?_ | (apply gO; refine jB ?_))
 refine aP ([(1000, rdc r4 b4)]) (by rfl) rv (⟨rfl, rfl⟩) sb okx
theorem aFf (r : ByteArray) (b : Bool) (hr : r.size ≤ 1000000000) : ObC 29 [.agg [.box 1000 0], .mv (.func 30) [.agg [.box 1000 0]]] [(1000, rdc r b)] [] (fun x o => x = .d (.list 4 ((manyS arcS r b).v.map SArc.c)) ∧ o = [(1000, rdc (manyS arcS r b).r (manyS arcS r b).b)]) := by
 have hT : manyS arcS r b = manyS arcS r b := rfl
 conv at hT => rhs; unfold manyS
 have h0 := fQ (r := r) (b := b) (c := 59) (least := 0) (Int.le_refl _)
 have h1 := cJ (r := r) (b := b) (c := 59) (least := 0)
 have c1 := eF r b hr
 rcases hq : numS r b 59 0 with ⟨n, q, e⟩
 rw [hq] at hT h0 h1 c1
 dsimp only at hT h0 h1 c1
 have c2 := dV q e
 cases hc : decide ((q.size : Int) < n)
 rotate_left 1
 ·rw [if_pos (of_decide_eq_true hc)] at hT
  rw [hT]
  refine aI Tryz.func29 rfl zg _ Tryz.ntmps29 (aC rfl) rfl (fun w Pr β κ hE => ?_)
  dsimp only [slotsV, Nat.zero_add, Nat.reduceAdd]
  repeat' (first | (apply aB (.box _ _); refine aD (bR rfl nofun rfl (aA rfl) rfl rfl) rfl ?_) | refine oQ [(1000, 1000)] (c1) hE ?_ | refine oQ [(1000, 1000)] (c2) hE ?_ | refine qe ?_ | (refine sQ ?_ ?_ <;> intro hb hq <;> try omega))
  refine aP ([(1000, rdc q e)]) (by rfl) (.x _ _ (.tmp _ _ (ToD.nil 4))) (⟨rfl, rfl⟩) zw (by rfl)
 ·have hc0 := of_decide_eq_false hc
  rw [if_neg hc0] at hT
  obtain ⟨m, rfl⟩ : ∃ m : Nat, n = m := ⟨n.toNat, by omega⟩
  rw [Int.toNat_natCast] at hT
  rcases hL : manyL arcS m q e [] with ⟨l, q2, e2⟩
  rw [hL] at hT
  rw [hT]
  dsimp only
  refine aI Tryz.func29 rfl zg _ Tryz.ntmps29 (aC rfl) rfl (fun w Pr β κ hE => ?_)
  dsimp only [slotsV, Nat.zero_add, Nat.reduceAdd]
  repeat' (first | (apply aB (.box _ _); refine aD (bR rfl nofun rfl (aA rfl) rfl rfl) rfl ?_) | refine oQ [(1000, 1000)] (c1) hE ?_ | refine oQ [(1000, 1000)] (c2) hE ?_ | refine qe ?_ | (refine sQ ?_ ?_ <;> intro hb hq <;> try omega))
  refine fJ 6 6 46 4 rfl rfl (aA rfl) ?_
  clear c1 c2 hT hc
  refine bB (fun N sl ob => ∃ (i k : Nat) (out : List SArc) (r' : ByteArray) (b' : Bool), N = m - i ∧ i ≤ m ∧ manyL arcS (m - i) r' b' out = ⟨l, q2, e2⟩ ∧ out.length = i ∧ r'.size ≤ q.size ∧ sl = [(16, .d (.int i)), (15, .d (.int m)), (6, .row 6 k), (2, .box 2 0), (1, .mv (.func 30) [.agg [.box 1000 0]])] ∧ ob = [(6, .row 46 4 k (out.map SArc.c)), (2, rdb), (1000, rdc r' b')]) (⟨0, 0, [], q, e, rfl, Nat.zero_le _, hL, rfl, Nat.le_refl _, rfl, rfl⟩) ?_
  clear hL
  rintro N sl ob ⟨i, k, out, r', b', rfl, hi, hL, ho, hr', rfl, rfl⟩
  by_cases hlt : i < m
  ·have hL2 : manyL arcS (m - i) r' b' out = manyL arcS (m - (i + 1)) (arcS r' b').r (arcS r' b').b (out ++ [(arcS r' b').v]) := by rw [show m - i = (m - (i + 1)) + 1 by omega]; rfl
   have hle := rO r' b'
   have c3 := aNa r' b' zb
   rw [hL2] at hL
   clear hL2
   rcases hx : arcS r' b' with ⟨v, r3, b3⟩
   rw [hx] at hL hle c3
   dsimp only at hL hle c3
   have qi : decide ((i : Int) < (m : Int)) = true := decide_eq_true zb
   repeat' (first | (apply aF; refine oE [(1000, 1000)] (c3) hE ?_; rintro _ _ ⟨rfl, rfl⟩ <;> (intro _ _ h1 h2; simp only [aO, Nat.reduceBEq, aG, aL, aH] at h1 h2; subst h1 h2)) | refine qf ?_ | refine xy ?_ | (refine sQ ?_ ?_ <;> intro hb hq <;> try omega))
   repeat' (first | refine qn ?_ | (refine sQ ?_ ?_ <;> intro hb hq <;> try omega))
   refine bK (⟨i + 1, k + 1, out ++ [v], r3, b3, rfl, by omega, hL, by simp [ho], by omega, rfl, rfl⟩) zb
  ·obtain rfl : i = m := by omega
   rw [Nat.sub_self] at hL
   simp only [manyL, RS.mk.injEq] at hL
   obtain ⟨rfl, rfl, rfl⟩ := hL
   have qi : decide ((i : Int) < (i : Int)) = false := decide_eq_false zb
   repeat' (first | refine qf ?_ | (refine sQ ?_ ?_ <;> intro hb hq <;> try omega))
   refine aP ([(1000, rdc r' b')]) (by rfl) rv (⟨rfl, rfl⟩) sb okx
theorem aCn (r : ByteArray) (b : Bool) (hr : r.size ≤ 1000000000) : ObC 31 [.agg [.box 1000 0], .mv (.func 32) [.agg [.box 1000 0]]] [(1000, rdc r b)] [] (fun x o => x = .d (.list 1 ((manyS seenS r b).v.map seenC)) ∧ o = [(1000, rdc (manyS seenS r b).r (manyS seenS r b).b)]) := by
 have hT : manyS seenS r b = manyS seenS r b := rfl
 conv at hT => rhs; unfold manyS
 have h0 := fQ (r := r) (b := b) (c := 59) (least := 0) (Int.le_refl _)
 have h1 := cJ (r := r) (b := b) (c := 59) (least := 0)
 have c1 := eF r b hr
 rcases hq : numS r b 59 0 with ⟨n, q, e⟩
 rw [hq] at hT h0 h1 c1
 dsimp only at hT h0 h1 c1
 have c2 := dV q e
 cases hc : decide ((q.size : Int) < n)
 rotate_left 1
 ·rw [if_pos (of_decide_eq_true hc)] at hT
  rw [hT]
  refine aI Tryz.func31 rfl zg _ Tryz.ntmps31 (aC rfl) rfl (fun w Pr β κ hE => ?_)
  dsimp only [slotsV, Nat.zero_add, Nat.reduceAdd]
  repeat' (first | (apply aB (.box _ _); refine aD (bR rfl nofun rfl (aA rfl) rfl rfl) rfl ?_) | refine oQ [(1000, 1000)] (c1) hE ?_ | refine oQ [(1000, 1000)] (c2) hE ?_ | refine qe ?_ | (refine sQ ?_ ?_ <;> intro hb hq <;> try omega))
  refine aP ([(1000, rdc q e)]) (by rfl) (.x _ _ (.tmp _ _ (ToD.nil 1))) (⟨rfl, rfl⟩) zw (by rfl)
 ·have hc0 := of_decide_eq_false hc
  rw [if_neg hc0] at hT
  obtain ⟨m, rfl⟩ : ∃ m : Nat, n = m := ⟨n.toNat, by omega⟩
  rw [Int.toNat_natCast] at hT
  rcases hL : manyL seenS m q e [] with ⟨l, q2, e2⟩
  rw [hL] at hT
  rw [hT]
  dsimp only
  refine aI Tryz.func31 rfl zg _ Tryz.ntmps31 (aC rfl) rfl (fun w Pr β κ hE => ?_)
  dsimp only [slotsV, Nat.zero_add, Nat.reduceAdd]
  repeat' (first | (apply aB (.box _ _); refine aD (bR rfl nofun rfl (aA rfl) rfl rfl) rfl ?_) | refine oQ [(1000, 1000)] (c1) hE ?_ | refine oQ [(1000, 1000)] (c2) hE ?_ | refine qe ?_ | (refine sQ ?_ ?_ <;> intro hb hq <;> try omega))
  refine fJ 6 6 60 1 rfl rfl (aA rfl) ?_
  clear c1 c2 hT hc
  refine bB (fun N sl ob => ∃ (i k : Nat) (out : List (List SObs)) (r' : ByteArray) (b' : Bool), N = m - i ∧ i ≤ m ∧ manyL seenS (m - i) r' b' out = ⟨l, q2, e2⟩ ∧ out.length = i ∧ r'.size ≤ q.size ∧ sl = [(16, .d (.int i)), (15, .d (.int m)), (6, .row 6 k), (2, .box 2 0), (1, .mv (.func 32) [.agg [.box 1000 0]])] ∧ ob = [(6, .row 60 1 k (out.map seenC)), (2, rdb), (1000, rdc r' b')]) (⟨0, 0, [], q, e, rfl, Nat.zero_le _, hL, rfl, Nat.le_refl _, rfl, rfl⟩) ?_
  clear hL
  rintro N sl ob ⟨i, k, out, r', b', rfl, hi, hL, ho, hr', rfl, rfl⟩
  by_cases hlt : i < m
  ·have hL2 : manyL seenS (m - i) r' b' out = manyL seenS (m - (i + 1)) (seenS r' b').r (seenS r' b').b (out ++ [(seenS r' b').v]) := by rw [show m - i = (m - (i + 1)) + 1 by omega]; rfl
   have hle := pO r' b'
   have c3 := aLx r' b' zb
   rw [hL2] at hL
   clear hL2
   rcases hx : seenS r' b' with ⟨v, r3, b3⟩
   rw [hx] at hL hle c3
   dsimp only at hL hle c3
   have qi : decide ((i : Int) < (m : Int)) = true := decide_eq_true zb
   repeat' (first | (apply aF; refine oE [(1000, 1000)] (c3) hE ?_; rintro _ _ ⟨rfl, rfl⟩ <;> (intro _ _ h1 h2; simp only [aO, Nat.reduceBEq, aG, aL, aH] at h1 h2; subst h1 h2)) | refine qf ?_ | refine xy ?_ | (refine sQ ?_ ?_ <;> intro hb hq <;> try omega))
   repeat' (first | refine qn ?_ | (refine sQ ?_ ?_ <;> intro hb hq <;> try omega))
   refine bK (⟨i + 1, k + 1, out ++ [v], r3, b3, rfl, by omega, hL, by simp [ho], by omega, rfl, rfl⟩) zb
  ·obtain rfl : i = m := by omega
   rw [Nat.sub_self] at hL
   simp only [manyL, RS.mk.injEq] at hL
   obtain ⟨rfl, rfl, rfl⟩ := hL
   have qi : decide ((i : Int) < (i : Int)) = false := decide_eq_false zb
   repeat' (first | refine qf ?_ | (refine sQ ?_ ?_ <;> intro hb hq <;> try omega))
   refine aP ([(1000, rdc r' b')]) (by rfl) rv (⟨rfl, rfl⟩) sb okx
theorem aFj (r : ByteArray) (b : Bool) (hr : r.size ≤ 1000000000) : ObC 33 [.agg [.box 1000 0], .mv (.func 34) [.agg [.box 1000 0]]] [(1000, rdc r b)] [] (fun x o => x = .d (.list 9 ((manyS carS r b).v.map SCar.c)) ∧ o = [(1000, rdc (manyS carS r b).r (manyS carS r b).b)]) := by
 have hT : manyS carS r b = manyS carS r b := rfl
 conv at hT => rhs; unfold manyS
 have h0 := fQ (r := r) (b := b) (c := 59) (least := 0) (Int.le_refl _)
 have h1 := cJ (r := r) (b := b) (c := 59) (least := 0)
 have c1 := eF r b hr
 rcases hq : numS r b 59 0 with ⟨n, q, e⟩
 rw [hq] at hT h0 h1 c1
 dsimp only at hT h0 h1 c1
 have c2 := dV q e
 cases hc : decide ((q.size : Int) < n)
 rotate_left 1
 ·rw [if_pos (of_decide_eq_true hc)] at hT
  rw [hT]
  refine aI Tryz.func33 rfl zg _ Tryz.ntmps33 (aC rfl) rfl (fun w Pr β κ hE => ?_)
  dsimp only [slotsV, Nat.zero_add, Nat.reduceAdd]
  repeat' (first | (apply aB (.box _ _); refine aD (bR rfl nofun rfl (aA rfl) rfl rfl) rfl ?_) | refine oQ [(1000, 1000)] (c1) hE ?_ | refine oQ [(1000, 1000)] (c2) hE ?_ | refine qe ?_ | (refine sQ ?_ ?_ <;> intro hb hq <;> try omega))
  refine aP ([(1000, rdc q e)]) (by rfl) (.x _ _ (.tmp _ _ (ToD.nil 9))) (⟨rfl, rfl⟩) zw (by rfl)
 ·have hc0 := of_decide_eq_false hc
  rw [if_neg hc0] at hT
  obtain ⟨m, rfl⟩ : ∃ m : Nat, n = m := ⟨n.toNat, by omega⟩
  rw [Int.toNat_natCast] at hT
  rcases hL : manyL carS m q e [] with ⟨l, q2, e2⟩
  rw [hL] at hT
  rw [hT]
  dsimp only
  refine aI Tryz.func33 rfl zg _ Tryz.ntmps33 (aC rfl) rfl (fun w Pr β κ hE => ?_)
  dsimp only [slotsV, Nat.zero_add, Nat.reduceAdd]
  repeat' (first | (apply aB (.box _ _); refine aD (bR rfl nofun rfl (aA rfl) rfl rfl) rfl ?_) | refine oQ [(1000, 1000)] (c1) hE ?_ | refine oQ [(1000, 1000)] (c2) hE ?_ | refine qe ?_ | (refine sQ ?_ ?_ <;> intro hb hq <;> try omega))
  refine fJ 6 6 94 9 rfl rfl (aA rfl) ?_
  clear c1 c2 hT hc
  refine bB (fun N sl ob => ∃ (i k : Nat) (out : List SCar) (r' : ByteArray) (b' : Bool), N = m - i ∧ i ≤ m ∧ manyL carS (m - i) r' b' out = ⟨l, q2, e2⟩ ∧ out.length = i ∧ r'.size ≤ q.size ∧ sl = [(16, .d (.int i)), (15, .d (.int m)), (6, .row 6 k), (2, .box 2 0), (1, .mv (.func 34) [.agg [.box 1000 0]])] ∧ ob = [(6, .row 94 9 k (out.map SCar.c)), (2, rdb), (1000, rdc r' b')]) (⟨0, 0, [], q, e, rfl, Nat.zero_le _, hL, rfl, Nat.le_refl _, rfl, rfl⟩) ?_
  clear hL
  rintro N sl ob ⟨i, k, out, r', b', rfl, hi, hL, ho, hr', rfl, rfl⟩
  by_cases hlt : i < m
  ·have hL2 : manyL carS (m - i) r' b' out = manyL carS (m - (i + 1)) (carS r' b').r (carS r' b').b (out ++ [(carS r' b').v]) := by rw [show m - i = (m - (i + 1)) + 1 by omega]; rfl
   have hle := vL r' b'
   have c3 := aNj r' b' zb
   rw [hL2] at hL
   clear hL2
   rcases hx : carS r' b' with ⟨v, r3, b3⟩
   rw [hx] at hL hle c3
   dsimp only at hL hle c3
   have qi : decide ((i : Int) < (m : Int)) = true := decide_eq_true zb
   repeat' (first | (apply aF; refine oE [(1000, 1000)] (c3) hE ?_; rintro _ _ ⟨rfl, rfl⟩ <;> (intro _ _ h1 h2; simp only [aO, Nat.reduceBEq, aG, aL, aH] at h1 h2; subst h1 h2)) | refine qf ?_ | refine xy ?_ | (refine sQ ?_ ?_ <;> intro hb hq <;> try omega))
   repeat' (first | refine qn ?_ | (refine sQ ?_ ?_ <;> intro hb hq <;> try omega))
   refine bK (⟨i + 1, k + 1, out ++ [v], r3, b3, rfl, by omega, hL, by simp [ho], by omega, rfl, rfl⟩) zb
  ·obtain rfl : i = m := by omega
   rw [Nat.sub_self] at hL
   simp only [manyL, RS.mk.injEq] at hL
   obtain ⟨rfl, rfl, rfl⟩ := hL
   have qi : decide ((i : Int) < (i : Int)) = false := decide_eq_false zb
   repeat' (first | refine qf ?_ | (refine sQ ?_ ?_ <;> intro hb hq <;> try omega))
   refine aP ([(1000, rdc r' b')]) (by rfl) rv (⟨rfl, rfl⟩) sb okx
theorem aCj (r : ByteArray) (b : Bool) (hr : r.size ≤ 1000000000) : ObC 35 [.agg [.box 1000 0], .mv (.func 36) [.agg [.box 1000 0]]] [(1000, rdc r b)] [] (fun x o => x = .d (.list 4 ((manyS planS r b).v.map SPlan.c)) ∧ o = [(1000, rdc (manyS planS r b).r (manyS planS r b).b)]) := by
 have hT : manyS planS r b = manyS planS r b := rfl
 conv at hT => rhs; unfold manyS
 have h0 := fQ (r := r) (b := b) (c := 59) (least := 0) (Int.le_refl _)
 have h1 := cJ (r := r) (b := b) (c := 59) (least := 0)
 have c1 := eF r b hr
 rcases hq : numS r b 59 0 with ⟨n, q, e⟩
 rw [hq] at hT h0 h1 c1
 dsimp only at hT h0 h1 c1
 have c2 := dV q e
 cases hc : decide ((q.size : Int) < n)
 rotate_left 1
 ·rw [if_pos (of_decide_eq_true hc)] at hT
  rw [hT]
  refine aI Tryz.func35 rfl zg _ Tryz.ntmps35 (aC rfl) rfl (fun w Pr β κ hE => ?_)
  dsimp only [slotsV, Nat.zero_add, Nat.reduceAdd]
  repeat' (first | (apply aB (.box _ _); refine aD (bR rfl nofun rfl (aA rfl) rfl rfl) rfl ?_) | refine oQ [(1000, 1000)] (c1) hE ?_ | refine oQ [(1000, 1000)] (c2) hE ?_ | refine qe ?_ | (refine sQ ?_ ?_ <;> intro hb hq <;> try omega))
  refine aP ([(1000, rdc q e)]) (by rfl) (.x _ _ (.tmp _ _ (ToD.nil 4))) (⟨rfl, rfl⟩) zw (by rfl)
 ·have hc0 := of_decide_eq_false hc
  rw [if_neg hc0] at hT
  obtain ⟨m, rfl⟩ : ∃ m : Nat, n = m := ⟨n.toNat, by omega⟩
  rw [Int.toNat_natCast] at hT
  rcases hL : manyL planS m q e [] with ⟨l, q2, e2⟩
  rw [hL] at hT
  rw [hT]
  dsimp only
  refine aI Tryz.func35 rfl zg _ Tryz.ntmps35 (aC rfl) rfl (fun w Pr β κ hE => ?_)
  dsimp only [slotsV, Nat.zero_add, Nat.reduceAdd]
  repeat' (first | (apply aB (.box _ _); refine aD (bR rfl nofun rfl (aA rfl) rfl rfl) rfl ?_) | refine oQ [(1000, 1000)] (c1) hE ?_ | refine oQ [(1000, 1000)] (c2) hE ?_ | refine qe ?_ | (refine sQ ?_ ?_ <;> intro hb hq <;> try omega))
  refine fJ 6 6 66 4 rfl rfl (aA rfl) ?_
  clear c1 c2 hT hc
  refine bB (fun N sl ob => ∃ (i k : Nat) (out : List SPlan) (r' : ByteArray) (b' : Bool), N = m - i ∧ i ≤ m ∧ manyL planS (m - i) r' b' out = ⟨l, q2, e2⟩ ∧ out.length = i ∧ r'.size ≤ q.size ∧ sl = [(16, .d (.int i)), (15, .d (.int m)), (6, .row 6 k), (2, .box 2 0), (1, .mv (.func 36) [.agg [.box 1000 0]])] ∧ ob = [(6, .row 66 4 k (out.map SPlan.c)), (2, rdb), (1000, rdc r' b')]) (⟨0, 0, [], q, e, rfl, Nat.zero_le _, hL, rfl, Nat.le_refl _, rfl, rfl⟩) ?_
  clear hL
  rintro N sl ob ⟨i, k, out, r', b', rfl, hi, hL, ho, hr', rfl, rfl⟩
  by_cases hlt : i < m
  ·have hL2 : manyL planS (m - i) r' b' out = manyL planS (m - (i + 1)) (planS r' b').r (planS r' b').b (out ++ [(planS r' b').v]) := by rw [show m - i = (m - (i + 1)) + 1 by omega]; rfl
   have hle := pH r' b'
   have c3 := aLl r' b' zb
   rw [hL2] at hL
   clear hL2
   rcases hx : planS r' b' with ⟨v, r3, b3⟩
   rw [hx] at hL hle c3
   dsimp only at hL hle c3
   have qi : decide ((i : Int) < (m : Int)) = true := decide_eq_true zb
   repeat' (first | (apply aF; refine oE [(1000, 1000)] (c3) hE ?_; rintro _ _ ⟨rfl, rfl⟩ <;> (intro _ _ h1 h2; simp only [aO, Nat.reduceBEq, aG, aL, aH] at h1 h2; subst h1 h2)) | refine qf ?_ | refine xy ?_ | (refine sQ ?_ ?_ <;> intro hb hq <;> try omega))
   repeat' (first | refine qn ?_ | (refine sQ ?_ ?_ <;> intro hb hq <;> try omega))
   refine bK (⟨i + 1, k + 1, out ++ [v], r3, b3, rfl, by omega, hL, by simp [ho], by omega, rfl, rfl⟩) zb
  ·obtain rfl : i = m := by omega
   rw [Nat.sub_self] at hL
   simp only [manyL, RS.mk.injEq] at hL
   obtain ⟨rfl, rfl, rfl⟩ := hL
   have qi : decide ((i : Int) < (i : Int)) = false := decide_eq_false zb
   repeat' (first | refine qf ?_ | (refine sQ ?_ ?_ <;> intro hb hq <;> try omega))
   refine aP ([(1000, rdc r' b')]) (by rfl) rv (⟨rfl, rfl⟩) sb okx
theorem aCl (r : ByteArray) (b : Bool) (hr : r.size ≤ 1000000000) : ObC 38 [.agg [.box 1000 0], .mv (.func 39) [.agg [.box 1000 0]]] [(1000, rdc r b)] [] (fun x o => x = .d (.list 15 ((manyS promS r b).v.map SProm.c)) ∧ o = [(1000, rdc (manyS promS r b).r (manyS promS r b).b)]) := by
 have hT : manyS promS r b = manyS promS r b := rfl
 conv at hT => rhs; unfold manyS
 have h0 := fQ (r := r) (b := b) (c := 59) (least := 0) (Int.le_refl _)
 have h1 := cJ (r := r) (b := b) (c := 59) (least := 0)
 have c1 := eF r b hr
 rcases hq : numS r b 59 0 with ⟨n, q, e⟩
 rw [hq] at hT h0 h1 c1
 dsimp only at hT h0 h1 c1
 have c2 := dV q e
 cases hc : decide ((q.size : Int) < n)
 rotate_left 1
 ·rw [if_pos (of_decide_eq_true hc)] at hT
  rw [hT]
  refine aI Tryz.func38 rfl zg _ Tryz.ntmps38 (aC rfl) rfl (fun w Pr β κ hE => ?_)
  dsimp only [slotsV, Nat.zero_add, Nat.reduceAdd]
  repeat' (first | (apply aB (.box _ _); refine aD (bR rfl nofun rfl (aA rfl) rfl rfl) rfl ?_) | refine oQ [(1000, 1000)] (c1) hE ?_ | refine oQ [(1000, 1000)] (c2) hE ?_ | refine qe ?_ | (refine sQ ?_ ?_ <;> intro hb hq <;> try omega))
  refine aP ([(1000, rdc q e)]) (by rfl) (.x _ _ (.tmp _ _ (ToD.nil 15))) (⟨rfl, rfl⟩) zw (by rfl)
 ·have hc0 := of_decide_eq_false hc
  rw [if_neg hc0] at hT
  obtain ⟨m, rfl⟩ : ∃ m : Nat, n = m := ⟨n.toNat, by omega⟩
  rw [Int.toNat_natCast] at hT
  rcases hL : manyL promS m q e [] with ⟨l, q2, e2⟩
  rw [hL] at hT
  rw [hT]
  dsimp only
  refine aI Tryz.func38 rfl zg _ Tryz.ntmps38 (aC rfl) rfl (fun w Pr β κ hE => ?_)
  dsimp only [slotsV, Nat.zero_add, Nat.reduceAdd]
  repeat' (first | (apply aB (.box _ _); refine aD (bR rfl nofun rfl (aA rfl) rfl rfl) rfl ?_) | refine oQ [(1000, 1000)] (c1) hE ?_ | refine oQ [(1000, 1000)] (c2) hE ?_ | refine qe ?_ | (refine sQ ?_ ?_ <;> intro hb hq <;> try omega))
  refine fJ 6 6 72 15 rfl rfl (aA rfl) ?_
  clear c1 c2 hT hc
  refine bB (fun N sl ob => ∃ (i k : Nat) (out : List SProm) (r' : ByteArray) (b' : Bool), N = m - i ∧ i ≤ m ∧ manyL promS (m - i) r' b' out = ⟨l, q2, e2⟩ ∧ out.length = i ∧ r'.size ≤ q.size ∧ sl = [(16, .d (.int i)), (15, .d (.int m)), (6, .row 6 k), (2, .box 2 0), (1, .mv (.func 39) [.agg [.box 1000 0]])] ∧ ob = [(6, .row 72 15 k (out.map SProm.c)), (2, rdb), (1000, rdc r' b')]) (⟨0, 0, [], q, e, rfl, Nat.zero_le _, hL, rfl, Nat.le_refl _, rfl, rfl⟩) ?_
  clear hL
  rintro N sl ob ⟨i, k, out, r', b', rfl, hi, hL, ho, hr', rfl, rfl⟩
  by_cases hlt : i < m
  ·have hL2 : manyL promS (m - i) r' b' out = manyL promS (m - (i + 1)) (promS r' b').r (promS r' b').b (out ++ [(promS r' b').v]) := by rw [show m - i = (m - (i + 1)) + 1 by omega]; rfl
   have hle := sN r' b'
   have c3 := aLp r' b' zb
   rw [hL2] at hL
   clear hL2
   rcases hx : promS r' b' with ⟨v, r3, b3⟩
   rw [hx] at hL hle c3
   dsimp only at hL hle c3
   have qi : decide ((i : Int) < (m : Int)) = true := decide_eq_true zb
   repeat' (first | (apply aF; refine oE [(1000, 1000)] (c3) hE ?_; rintro _ _ ⟨rfl, rfl⟩ <;> (intro _ _ h1 h2; simp only [aO, Nat.reduceBEq, aG, aL, aH] at h1 h2; subst h1 h2)) | refine qf ?_ | refine xy ?_ | (refine sQ ?_ ?_ <;> intro hb hq <;> try omega))
   repeat' (first | refine qn ?_ | (refine sQ ?_ ?_ <;> intro hb hq <;> try omega))
   refine bK (⟨i + 1, k + 1, out ++ [v], r3, b3, rfl, by omega, hL, by simp [ho], by omega, rfl, rfl⟩) zb
  ·obtain rfl : i = m := by omega
   rw [Nat.sub_self] at hL
   simp only [manyL, RS.mk.injEq] at hL
   obtain ⟨rfl, rfl, rfl⟩ := hL
   have qi : decide ((i : Int) < (i : Int)) = false := decide_eq_false zb
   repeat' (first | refine qf ?_ | (refine sQ ?_ ?_ <;> intro hb hq <;> try omega))
   refine aP ([(1000, rdc r' b')]) (by rfl) rv (⟨rfl, rfl⟩) sb okx
theorem aFh (r : ByteArray) (b : Bool) (hr : r.size ≤ 1000000000) : ObC 43 [.agg [.box 1000 0], .mv (.func 44) [.agg [.box 1000 0]]] [(1000, rdc r b)] [] (fun x o => x = .d (.list 4 ((manyS balS r b).v.map SBal.c)) ∧ o = [(1000, rdc (manyS balS r b).r (manyS balS r b).b)]) := by
 have hT : manyS balS r b = manyS balS r b := rfl
 conv at hT => rhs; unfold manyS
 have h0 := fQ (r := r) (b := b) (c := 59) (least := 0) (Int.le_refl _)
 have h1 := cJ (r := r) (b := b) (c := 59) (least := 0)
 have c1 := eF r b hr
 rcases hq : numS r b 59 0 with ⟨n, q, e⟩
 rw [hq] at hT h0 h1 c1
 dsimp only at hT h0 h1 c1
 have c2 := dV q e
 cases hc : decide ((q.size : Int) < n)
 rotate_left 1
 ·rw [if_pos (of_decide_eq_true hc)] at hT
  rw [hT]
  refine aI Tryz.func43 rfl zg _ Tryz.ntmps43 (aC rfl) rfl (fun w Pr β κ hE => ?_)
  dsimp only [slotsV, Nat.zero_add, Nat.reduceAdd]
  repeat' (first | (apply aB (.box _ _); refine aD (bR rfl nofun rfl (aA rfl) rfl rfl) rfl ?_) | refine oQ [(1000, 1000)] (c1) hE ?_ | refine oQ [(1000, 1000)] (c2) hE ?_ | refine qe ?_ | (refine sQ ?_ ?_ <;> intro hb hq <;> try omega))
  refine aP ([(1000, rdc q e)]) (by rfl) (.x _ _ (.tmp _ _ (ToD.nil 4))) (⟨rfl, rfl⟩) zw (by rfl)
 ·have hc0 := of_decide_eq_false hc
  rw [if_neg hc0] at hT
  obtain ⟨m, rfl⟩ : ∃ m : Nat, n = m := ⟨n.toNat, by omega⟩
  rw [Int.toNat_natCast] at hT
  rcases hL : manyL balS m q e [] with ⟨l, q2, e2⟩
  rw [hL] at hT
  rw [hT]
  dsimp only
  refine aI Tryz.func43 rfl zg _ Tryz.ntmps43 (aC rfl) rfl (fun w Pr β κ hE => ?_)
  dsimp only [slotsV, Nat.zero_add, Nat.reduceAdd]
  repeat' (first | (apply aB (.box _ _); refine aD (bR rfl nofun rfl (aA rfl) rfl rfl) rfl ?_) | refine oQ [(1000, 1000)] (c1) hE ?_ | refine oQ [(1000, 1000)] (c2) hE ?_ | refine qe ?_ | (refine sQ ?_ ?_ <;> intro hb hq <;> try omega))
  refine fJ 6 6 75 4 rfl rfl (aA rfl) ?_
  clear c1 c2 hT hc
  refine bB (fun N sl ob => ∃ (i k : Nat) (out : List SBal) (r' : ByteArray) (b' : Bool), N = m - i ∧ i ≤ m ∧ manyL balS (m - i) r' b' out = ⟨l, q2, e2⟩ ∧ out.length = i ∧ r'.size ≤ q.size ∧ sl = [(16, .d (.int i)), (15, .d (.int m)), (6, .row 6 k), (2, .box 2 0), (1, .mv (.func 44) [.agg [.box 1000 0]])] ∧ ob = [(6, .row 75 4 k (out.map SBal.c)), (2, rdb), (1000, rdc r' b')]) (⟨0, 0, [], q, e, rfl, Nat.zero_le _, hL, rfl, Nat.le_refl _, rfl, rfl⟩) ?_
  clear hL
  rintro N sl ob ⟨i, k, out, r', b', rfl, hi, hL, ho, hr', rfl, rfl⟩
  by_cases hlt : i < m
  ·have hL2 : manyL balS (m - i) r' b' out = manyL balS (m - (i + 1)) (balS r' b').r (balS r' b').b (out ++ [(balS r' b').v]) := by rw [show m - i = (m - (i + 1)) + 1 by omega]; rfl
   have hle := vK r' b'
   have c3 := aNf r' b' zb
   rw [hL2] at hL
   clear hL2
   rcases hx : balS r' b' with ⟨v, r3, b3⟩
   rw [hx] at hL hle c3
   dsimp only at hL hle c3
   have qi : decide ((i : Int) < (m : Int)) = true := decide_eq_true zb
   repeat' (first | (apply aF; refine oE [(1000, 1000)] (c3) hE ?_; rintro _ _ ⟨rfl, rfl⟩ <;> (intro _ _ h1 h2; simp only [aO, Nat.reduceBEq, aG, aL, aH] at h1 h2; subst h1 h2)) | refine qf ?_ | refine xy ?_ | (refine sQ ?_ ?_ <;> intro hb hq <;> try omega))
   repeat' (first | refine qn ?_ | (refine sQ ?_ ?_ <;> intro hb hq <;> try omega))
   refine bK (⟨i + 1, k + 1, out ++ [v], r3, b3, rfl, by omega, hL, by simp [ho], by omega, rfl, rfl⟩) zb
  ·obtain rfl : i = m := by omega
   rw [Nat.sub_self] at hL
   simp only [manyL, RS.mk.injEq] at hL
   obtain ⟨rfl, rfl, rfl⟩ := hL
   have qi : decide ((i : Int) < (i : Int)) = false := decide_eq_false zb
   repeat' (first | refine qf ?_ | (refine sQ ?_ ?_ <;> intro hb hq <;> try omega))
   refine aP ([(1000, rdc r' b')]) (by rfl) rv (⟨rfl, rfl⟩) sb okx
end
section
open Go.RowKit
attribute [local irreducible] numW numsT listW listT textW intW flat8 preT
theorem kF {α : Type} {W : α → ByteArray} {l : List α} (hl : l.length ≤ 30000) (h : ∀ x ∈ l, (W x).size ≤ 10000000) : (listT W l).size ≤ 300000000021 := by
 have h1 := cZ (W := W) (M := 10000000) (l := l) zb h
 omega
theorem kJ (s : SSt) (ho : s.ok) : PureC 15 [.agg s.c] (· = .str s.said) := by
 have cr := cW s ho
 unfold SSt.said
 cases hr : s.right
 ·rw [hr] at cr
  refine aE Tryz.func15 rfl zg _ Tryz.ntmps15 (aC rfl) (fun w Pr hE => ?_)
  dsimp only [slotsOf, Nat.zero_add, Nat.reduceAdd]
  repeat' (first | refine kQ (cr) hE ?_ | refine xh ?_ | refine xk ?_ | refine cQ ?_ | (refine sQ ?_ ?_ <;> intro hb hq <;> try omega))
  refine rt1 ?_
  rfl
 rw [hr] at cr
 rw [if_pos rfl]
 have hf := cB.1 hr
 clear hr
 have n1 := hf.nar
 have n2 := hf.nse
 have n3 := hf.ncs
 have n4 := hf.npl
 have n5 := hf.ndn
 have n6 := hf.nat
 have n7 := hf.npm
 have n8 := hf.npu
 have n9 := hf.nfv
 have n10 := hf.nbl
 have n11 := hf.nve
 have q1 : ∀ x ∈ s.ar, x.text.size ≤ 10000000 := fun x hx => aNc (hf.ar x hx)
 have q2 : ∀ x ∈ s.se, (seenT x).size ≤ 10000000 := fun x hx => aJp (hf.se x hx)
 have q3 : ∀ x ∈ s.cs, x.text.size ≤ 10000000 := fun x hx => aNm (hf.cs x hx)
 have q4 : ∀ x ∈ s.pl, x.text.size ≤ 10000000 := fun x hx => aJf (hf.plan hx)
 have w7 : ∀ p ∈ s.pm, p.wf := fun p hp => aCg zb zb zb (hf.pm p hp)
 have q7 : ∀ x ∈ s.pm, x.text.size ≤ 10000000 := fun x hx => aJg (w7 x hx)
 have q11 : ∀ x ∈ s.ve, x.text.size ≤ 10000000 := fun x hx => aRf (pQ hf.ve x hx) (ho.ves x hx)
 have q10 : ∀ x ∈ s.bl, x.text.size ≤ 10000000 := fun x hx => aNh (aBj zb (hf.bl x hx))
 have c1 := aEo s.ar zb q1 (fun x hx t ht => by rw [ht]; exact aNb x (hf.ar x hx))
 have c2 := zY s.se zb q2 (fun x hx t ht => by rw [ht]; exact aLy x (hf.se x hx))
 have c3 := aEq s.cs zb q3 (fun x hx t ht => by rw [ht]; exact aNk x (aGk (hf.cs x hx)))
 have c4 := zW s.pl zb q4 (fun x hx t ht => by rw [ht]; exact aLm x (hf.plan hx))
 have c7 := zX s.pm zb q7 (fun x hx t ht => by rw [ht]; exact aLq x (w7 x hx))
 have c11 := aEr s.ve zb q11 (fun x hx t ht => by rw [ht]; exact aRd x (pQ hf.ve x hx) (ho.ves x hx))
 have c10 := aEp s.bl zb q10 (fun x hx t ht => by rw [ht]; exact aNg x (aBj zb (hf.bl x hx)))
 have d1 := iB s.pu zb (kT hf.pu zg zg)
 have d2 := iB s.fv zb (kT hf.fv zg zg)
 have d3 := iB s.dn zb hf.done
 have d4 := iB s.at_ zb (kT hf.at_ zg zg)
 have hti : ∀ n ∈ [s.ti], nOk n := fX hf.ti zg zg
 have e1 := dT _ hf.pool (by simp) (by simp)
 have e2 := dT _ hti (by simp) (by simp)
 have l1 := kF zb q1
 have l2 := kF zb q2
 have l3 := kF zb q3
 have l4 := kF zb q4
 have l7 := kF zb q7
 have l11 := kF zb q11
 have l10 := kF zb q10
 have i1 := dG zb (kT hf.pu zg zg)
 have i2 := dG zb (kT hf.fv zg zg)
 have i3 := dG zb hf.done
 have i4 := dG zb (kT hf.at_ zg zg)
 have j1 := bX hf.pool
 have j2 := bX hti
 simp only [List.length_cons, List.length_nil] at j1 j2
 clear q1 q2 q3 q4 w7 q7 q11 q10 hti hf
 unfold SSt.text SSt.moneyT
 generalize listT SArc.text s.ar = t1 at *
 generalize listT seenT s.se = t2 at *
 generalize listT SCar.text s.cs = t3 at *
 generalize listT SPlan.text s.pl = t4 at *
 generalize listT SProm.text s.pm = t7 at *
 generalize listT SVer.text s.ve = t11 at *
 generalize listT SBal.text s.bl = t10 at *
 generalize intsT s.pu = u1 at *
 generalize intsT s.fv = u2 at *
 generalize intsT s.dn = u3 at *
 generalize intsT s.at_ = u4 at *
 generalize numsT [s.po.mo, s.po.pr, s.po.ms, s.po.co, s.po.wi, s.po.to] = v1 at *
 generalize numsT [s.ti] = v2 at *
 have z1 : (u1 ++ v1).size = u1.size + v1.size := ByteArray.size_append
 have z2 : (u1 ++ v1 ++ u2).size = (u1 ++ v1).size + u2.size := ByteArray.size_append
 have z3 : (u3 ++ u4).size = u3.size + u4.size := ByteArray.size_append
 have y1 : (v2 ++ t1).size = v2.size + t1.size := ByteArray.size_append
 have y2 : (v2 ++ t1 ++ t2).size = (v2 ++ t1).size + t2.size := ByteArray.size_append
 have y3 : (v2 ++ t1 ++ t2 ++ t3).size = (v2 ++ t1 ++ t2).size + t3.size := ByteArray.size_append
 have y4 : (v2 ++ t1 ++ t2 ++ t3 ++ t4).size = (v2 ++ t1 ++ t2 ++ t3).size + t4.size := ByteArray.size_append
 have y5 : (v2 ++ t1 ++ t2 ++ t3 ++ t4 ++ (u3 ++ u4)).size = (v2 ++ t1 ++ t2 ++ t3 ++ t4).size + (u3 ++ u4).size := ByteArray.size_append
 have y6 : (v2 ++ t1 ++ t2 ++ t3 ++ t4 ++ (u3 ++ u4) ++ t7).size = (v2 ++ t1 ++ t2 ++ t3 ++ t4 ++ (u3 ++ u4)).size + t7.size := ByteArray.size_append
 have y7 : (v2 ++ t1 ++ t2 ++ t3 ++ t4 ++ (u3 ++ u4) ++ t7 ++ (u1 ++ v1 ++ u2)).size = (v2 ++ t1 ++ t2 ++ t3 ++ t4 ++ (u3 ++ u4) ++ t7).size + (u1 ++ v1 ++ u2).size := ByteArray.size_append
 have y8 : (v2 ++ t1 ++ t2 ++ t3 ++ t4 ++ (u3 ++ u4) ++ t7 ++ (u1 ++ v1 ++ u2) ++ t11).size = (v2 ++ t1 ++ t2 ++ t3 ++ t4 ++ (u3 ++ u4) ++ t7 ++ (u1 ++ v1 ++ u2)).size + t11.size := ByteArray.size_append
 refine aE Tryz.func15 rfl zg _ Tryz.ntmps15 (aC rfl) (fun w Pr hE => ?_)
 dsimp only [slotsOf, Nat.zero_add, Nat.reduceAdd]
 repeat' (first | refine kQ (cr) hE ?_ | refine kQ (c1) hE ?_ | refine kQ (c2) hE ?_ | refine kQ (c3) hE ?_ | refine kQ (c4) hE ?_ | refine kQ (c7) hE ?_ | refine nb ?_ | refine vq ?_ | refine vy ?_ | refine xk ?_ | (refine sQ ?_ ?_ <;> intro hb hq <;> try omega))
 clear cr c1 c2 c3 c4 c7
 refine vJ ((.free 0 (.free 1 (.free 3 (.free 4 (.free 5 (.free 6 (.free 7 (.free 8 (.free 9 (.free 10 (.free 11 (.free 12 (.free 13 (.free 14 (.free 18 (.free 19 (.fork (.alt 2 (.only 15 (.only 16 (.free 17 (.only 20 (.free 21 .tail))))) (.alt 15 (.only 2 (.only 16 (.free 17 (.only 20 (.free 21 .tail))))) .stop)))))))))))))))))))) [22] ([(8, .box 29 (s.po.c.map V.d)), (1, s.b)]) ([(55, .d (.str (u1 ++ v1 ++ u2))), (7, .d (.str t7)), (6, .d (.str t4)), (5, .d (.str t3)), (4, .d (.str t2)), (3, .d (.str t1)), (1, .box 1 0)]) ([(1, s.b)]) zp zp zp rfl zg zw (fun hrest => ?_) ?_
 ·simp only [tailed, List.filterMap_cons, List.filterMap_nil, List.getElem?_cons_zero, List.getElem?_cons_succ] at hrest
  repeat' (first | apply vB | apply aBe | exact vG | refine vC rfl ?_ | refine vF rfl ?_ | refine vD hrest zm zw | refine vt ?_ | (apply aM; refine bI (d1) hE ?_; rintro _ rfl; clear d1; (try dsimp only [flat, D.plain, D.plainL])) | (apply aM; refine bI (d2) hE ?_; rintro _ rfl; (try dsimp only [flat, D.plain, D.plainL])) | (apply aM; refine bI (e1) hE ?_; rintro _ rfl; (try dsimp only [flat, D.plain, D.plainL])) | (apply kG; refine nQ ?_) | (apply aU; refine bA ?_) | (apply aV; refine bE ?_) | (apply aR (.buildSlice _ _ _); first | refine dK zj rfl zx zk rfl (aC rfl) (aA rfl) ?_ | refine eQ zj rfl zd ze zk zg zg (aA rfl) ?_) | (apply aR (.alloc _); refine rI zj rfl zk rfl (aA rfl) rfl rfl rfl ?_) | (apply aR (.store _ _ _); first | refine dU zj rfl rfl rfl (dR rfl) nofun zk zo (.inl ⟨rfl, rfl⟩) rfl (aC rfl) zk ?_ | refine dU zj rfl rfl rfl (dR rfl) nofun zk zo (.inr rfl) rfl (aC rfl) zk ?_) | (refine mQ ?_ ?_ <;> intro hb hq <;> try omega))
 simp only [tailed, List.filterMap_cons, List.filterMap_nil, List.getElem?_cons_zero, List.getElem?_cons_succ]
 clear e1 d1 d2
 repeat' (first | (apply aB (.makeFunc _ _ _); refine aK (eC rfl) (aA rfl) ?_) | (apply aB (.store _ _ (.func _)); refine aD (aN (n := [nfun 110]) rfl rfl rfl nofun rfl (by intro z hz; rw [List.mem_singleton.1 hz]; rfl) (.inl ⟨rfl, rfl⟩) rfl (aC rfl) rfl) rfl ?_) | refine kQ (c11) hE ?_ | refine oQ [(1002, 11)] (c10) hE ?_ | refine np ?_ | refine ql ?_ | refine vd ?_ | refine vy ?_ | (refine sQ ?_ ?_ <;> intro hb hq <;> try omega))
 refine cC ([(1, s.b)]) [(0, true), (1, true), (3, true), (4, true), (2, false), (5, false), (6, true)] [7] zp zp zp zg zw ?_
 simp only [planned, tailed, List.filterMap_cons, List.filterMap_nil, List.getElem?_cons_zero, List.getElem?_cons_succ, Option.map_some]
 repeat' (first | apply aZ | refine vt ?_ | (apply aM; refine bI (d3) hE ?_; rintro _ rfl; clear d3; (try dsimp only [flat, D.plain, D.plainL])) | (apply aM; refine bI (d4) hE ?_; rintro _ rfl; (try dsimp only [flat, D.plain, D.plainL])) | (apply kG; refine nQ ?_) | (apply aU; refine bA ?_) | (apply aV; refine bE ?_) | (refine mQ ?_ ?_ <;> intro hb hq <;> try omega))
 repeat' (first | refine kQ (e2) hE ?_ | refine nx ?_ | refine vb ?_ | refine vd ?_ | refine cQ ?_ | (refine sQ ?_ ?_ <;> intro hb hq <;> try omega))
 refine rt1 ?_
 rfl
end
end Go.Proofs.YtaodngiigdbgeaaGreatDoor
