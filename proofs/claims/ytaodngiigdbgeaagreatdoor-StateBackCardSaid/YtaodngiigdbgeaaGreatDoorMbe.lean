/-
  Conditions: none.
-/
import Derived.Test.YtaodngiigdbgeaaGreatDoorMaa
import Derived.Test.YtaodngiigdbgeaaGreatDoorMal
import Derived.Test.YtaodngiigdbgeaaGreatDoorMbd
set_option maxHeartbeats 16000000
set_option maxRecDepth 20000
set_option linter.unusedSimpArgs false
set_option linter.unusedVariables false
namespace Go.Proofs.YtaodngiigdbgeaaGreatDoor
section
open Go.RowKit
attribute [local irreducible] numS textS itemsS
theorem aDb {v : List Int} (h : v.length = 2) : ∃ a b, v = [a, b] := by
 match v, h with
 | [a, b], _ => exact ⟨a, b, rfl⟩
theorem rB {v : List Int} (h : v.length = 1) : ∃ a, v = [a] := by
 match v, h with
 | [a], _ => exact ⟨a, rfl⟩
theorem aPf (r : ByteArray) (b : Bool) (hr : r.size ≤ 1000000000) : ObC 161 [.box 1005 0] [(1000, rdc r b), (1005, rdb)] [] (fun x o => x = .d (.agg (SObs.c (obsS r b).v)) ∧ o = [(1000, rdc (obsS r b).r (obsS r b).b), (1005, rdb)]) := by
 have c1 := fB [0, 1] [.int 0, .int 0] 62 r b hr zg zg
 simp only [List.length_cons, List.length_nil, Nat.zero_add, Nat.reduceAdd] at c1
 unfold obsS
 have hv := dS 2 r b
 rcases hq : numsS 2 r b with ⟨v, r2, b2⟩
 rw [hq] at hv c1
 obtain ⟨x, y, rfl⟩ := aDb hv
 simp only [setD, List.set_cons_zero, List.set_cons_succ, List.map_cons, List.map_nil] at c1
 dsimp only
 refine aI Tryz.func161 rfl zg _ Tryz.ntmps161 (aC rfl) rfl (fun w Pr β κ hE => ?_)
 dsimp only [slotsV, Nat.zero_add, Nat.reduceAdd]
 repeat' (first | (apply aB (.buildSlice 207 _ _); refine aD (eG rfl zt (by rfl) zg (aA rfl) (by rfl) (by rfl)) rfl ?_) | (apply aB (.load 85 _); refine aK (bW rfl rfl rfl rfl rfl zg) (aA rfl) ?_) | refine oQ [(1000, 1000), (1001, 5), (1002, 1)] (c1) hE ?_ | refine nx ?_ | refine vd ?_ | refine vy ?_ | fail)
 refine aP ([(1000, rdc r2 b2), (1005, rdb)]) (by rfl) rv (⟨rfl, rfl⟩) sb okx
theorem aOl (r : ByteArray) (b : Bool) (hr : r.size ≤ 1000000000) : ObC 165 [.box 1005 0] [(1000, rdc r b), (1005, rdb)] [] (fun x o => x = .d (.agg (SLeg.c (legS r b).v)) ∧ o = [(1000, rdc (legS r b).r (legS r b).b), (1005, rdb)]) := by
 have c1 := fB [0, 1] [.int 0, .int 0] 151 r b hr zg zg
 simp only [List.length_cons, List.length_nil, Nat.zero_add, Nat.reduceAdd] at c1
 unfold legS
 have hv := dS 2 r b
 rcases hq : numsS 2 r b with ⟨v, r2, b2⟩
 rw [hq] at hv c1
 obtain ⟨x, y, rfl⟩ := aDb hv
 simp only [setD, List.set_cons_zero, List.set_cons_succ, List.map_cons, List.map_nil] at c1
 dsimp only
 refine aI Tryz.func165 rfl zg _ Tryz.ntmps165 (aC rfl) rfl (fun w Pr β κ hE => ?_)
 dsimp only [slotsV, Nat.zero_add, Nat.reduceAdd]
 repeat' (first | (apply aB (.buildSlice 207 _ _); refine aD (eG rfl zt (by rfl) zg (aA rfl) (by rfl) (by rfl)) rfl ?_) | (apply aB (.load 85 _); refine aK (bW rfl rfl rfl rfl rfl zg) (aA rfl) ?_) | refine oQ [(1000, 1000), (1001, 5), (1002, 1)] (c1) hE ?_ | refine nx ?_ | refine vd ?_ | refine vy ?_ | fail)
 refine aP ([(1000, rdc r2 b2), (1005, rdb)]) (by rfl) rv (⟨rfl, rfl⟩) sb okx
theorem aHs (r : ByteArray) (b : Bool) (hr : r.size ≤ 1000000000) : ObC 174 [.box 1005 0] [(1000, rdc r b), (1005, rdb)] [] (fun x o => x = .d (.agg (SShare.c (shareS r b).v)) ∧ o = [(1000, rdc (shareS r b).r (shareS r b).b), (1005, rdb)]) := by
 have c1 := fB [0, 1] [.int 0, .int 0] 80 r b hr zg zg
 simp only [List.length_cons, List.length_nil, Nat.zero_add, Nat.reduceAdd] at c1
 unfold shareS
 have hv := dS 2 r b
 rcases hq : numsS 2 r b with ⟨v, r2, b2⟩
 rw [hq] at hv c1
 obtain ⟨x, y, rfl⟩ := aDb hv
 simp only [setD, List.set_cons_zero, List.set_cons_succ, List.map_cons, List.map_nil] at c1
 dsimp only
 refine aI Tryz.func174 rfl zg _ Tryz.ntmps174 (aC rfl) rfl (fun w Pr β κ hE => ?_)
 dsimp only [slotsV, Nat.zero_add, Nat.reduceAdd]
 repeat' (first | (apply aB (.buildSlice 207 _ _); refine aD (eG rfl zt (by rfl) zg (aA rfl) (by rfl) (by rfl)) rfl ?_) | (apply aB (.load 85 _); refine aK (bW rfl rfl rfl rfl rfl zg) (aA rfl) ?_) | refine oQ [(1000, 1000), (1001, 5), (1002, 1)] (c1) hE ?_ | refine nx ?_ | refine vd ?_ | refine vy ?_ | fail)
 refine aP ([(1000, rdc r2 b2), (1005, rdb)]) (by rfl) rv (⟨rfl, rfl⟩) sb okx
theorem aMd (r : ByteArray) (b : Bool) (hr : r.size ≤ 1000000000) : ObC 163 [.box 1005 0] [(1000, rdc r b), (1005, rdb)] [] (fun x o => x = .d (.agg (stopS r b).v.c) ∧ o = [(1000, rdc (stopS r b).r (stopS r b).b), (1005, rdb)]) := by
 have c1 := fB [0] [.int 0, .bool false] 68 r b hr zg zg
 have hle := cF 1 r b
 simp only [List.length_cons, List.length_nil, Nat.zero_add] at c1
 unfold stopS
 have hv := dS 1 r b
 rcases hq : numsS 1 r b with ⟨v, r2, b2⟩
 rw [hq] at hv c1
 obtain ⟨x, rfl⟩ := rB hv
 simp only [setD, List.set_cons_zero, List.set_cons_succ, List.map_cons, List.map_nil] at c1
 rw [hq] at hle
 dsimp only at hle ⊢
 have c2 := eF r2 b2 zb
 rcases hq2 : numS r2 b2 59 0 with ⟨y, r3, b3⟩
 rw [hq2] at c2
 dsimp only at c2 ⊢
 refine aI Tryz.func163 rfl zg _ Tryz.ntmps163 (aC rfl) rfl (fun w Pr β κ hE => ?_)
 dsimp only [slotsV, Nat.zero_add, Nat.reduceAdd]
 repeat' (first | (apply aB (.buildSlice 207 _ _); refine aD (eG rfl zt (by rfl) zg (aA rfl) (by rfl) (by rfl)) rfl ?_) | (apply aB (.load 85 _); refine aK (bW rfl rfl rfl rfl rfl zg) (aA rfl) ?_) | refine oQ [(1000, 1000), (1001, 4), (1002, 1)] (c1) hE ?_ | refine oQ [(1000, 1000)] (c2) hE ?_ | refine vd ?_ | refine vr ?_ | refine vy ?_ | fail)
 refine aP ([(1000, rdc r3 b3), (1005, rdb)]) (by rfl) rv (⟨rfl, rfl⟩) sb okx
theorem aRc (r : ByteArray) (b : Bool) (hr : r.size ≤ 1000000000) : ObC 41 [.box 1005 0] [(1000, rdc r b), (1005, rdb)] [] (fun x o => x = .d (.agg (verS r b).v.c) ∧ o = [(1000, rdc (verS r b).r (verS r b).b), (1005, rdb)]) := by
 have c1 := fB [0] [.int 0, .str ⟨#[]⟩] 48 r b hr zg zg
 have hle := cF 1 r b
 simp only [List.length_cons, List.length_nil, Nat.zero_add] at c1
 unfold verS
 have hv := dS 1 r b
 rcases hq : numsS 1 r b with ⟨v, r2, b2⟩
 rw [hq] at hv c1
 obtain ⟨x, rfl⟩ := rB hv
 simp only [setD, List.set_cons_zero, List.set_cons_succ, List.map_cons, List.map_nil] at c1
 rw [hq] at hle
 dsimp only at hle ⊢
 have c2 := yP r2 b2 zb
 rcases hq2 : textS r2 b2 with ⟨y, r3, b3⟩
 rw [hq2] at c2
 dsimp only at c2 ⊢
 refine aI Tryz.func41 rfl zg _ Tryz.ntmps41 (aC rfl) rfl (fun w Pr β κ hE => ?_)
 dsimp only [slotsV, Nat.zero_add, Nat.reduceAdd]
 repeat' (first | (apply aB (.buildSlice 207 _ _); refine aD (eG rfl zt (by rfl) zg (aA rfl) (by rfl) (by rfl)) rfl ?_) | (apply aB (.load 85 _); refine aK (bW rfl rfl rfl rfl rfl zg) (aA rfl) ?_) | refine oQ [(1000, 1000), (1001, 4), (1002, 1)] (c1) hE ?_ | refine oQ [(1000, 1000)] (c2) hE ?_ | refine nx ?_ | refine vd ?_ | refine vy ?_ | fail)
 refine aP ([(1000, rdc r3 b3), (1005, rdb)]) (by rfl) rv (⟨rfl, rfl⟩) sb okx
theorem aFm (r : ByteArray) (b : Bool) (hr : r.size ≤ 1000000000) : ObC 160 [.agg [.box 1000 0], .clo (.func 161) [.box 1005 0]] [(1000, rdc r b), (1005, rdb)] [] (fun x o => x = .d (.list 2 ((manyS obsS r b).v.map SObs.c)) ∧ o = [(1000, rdc (manyS obsS r b).r (manyS obsS r b).b), (1005, rdb)]) := by
 have hT : manyS obsS r b = manyS obsS r b := rfl
 conv at hT => rhs; unfold manyS
 have h0 := fQ (r := r) (b := b) (c := 59) (least := 0) (Int.le_refl _)
 have h1 := cJ (r := r) (b := b) (c := 59) (least := 0)
 have c1 := eF r b hr
 rcases hq : numS r b 59 0 with ⟨n, q, e⟩
 rw [hq] at hT h0 h1 c1
 dsimp only at hT h0 h1 c1
 have c2 := dV q e
 cases hc : decide ((q.size : Int) < n)
 rotate_left 1
 ·rw [if_pos (of_decide_eq_true hc)] at hT
  rw [hT]
  refine aI Tryz.func160 rfl zg _ Tryz.ntmps160 (aC rfl) rfl (fun w Pr β κ hE => ?_)
  dsimp only [slotsV, Nat.zero_add, Nat.reduceAdd]
  repeat' (first | (apply aB (.box _ _); refine aD (bR rfl nofun rfl (aA rfl) rfl rfl) rfl ?_) | refine oQ [(1000, 1000)] (c1) hE ?_ | refine oQ [(1000, 1000)] (c2) hE ?_ | refine qe ?_ | (refine sQ ?_ ?_ <;> intro hb hq <;> try omega))
  refine aP ([(1000, rdc q e), (1005, rdb)]) (by rfl) (.x _ _ (.tmp _ _ (ToD.nil 2))) (⟨rfl, rfl⟩) zw (by rfl)
 ·have hc0 := of_decide_eq_false hc
  rw [if_neg hc0] at hT
  obtain ⟨m, rfl⟩ : ∃ m : Nat, n = m := ⟨n.toNat, by omega⟩
  rw [Int.toNat_natCast] at hT
  rcases hL : manyL obsS m q e [] with ⟨l, q2, e2⟩
  rw [hL] at hT
  rw [hT]
  dsimp only
  refine aI Tryz.func160 rfl zg _ Tryz.ntmps160 (aC rfl) rfl (fun w Pr β κ hE => ?_)
  dsimp only [slotsV, Nat.zero_add, Nat.reduceAdd]
  repeat' (first | (apply aB (.box _ _); refine aD (bR rfl nofun rfl (aA rfl) rfl rfl) rfl ?_) | refine oQ [(1000, 1000)] (c1) hE ?_ | refine oQ [(1000, 1000)] (c2) hE ?_ | refine qe ?_ | (refine sQ ?_ ?_ <;> intro hb hq <;> try omega))
  refine fJ 6 6 62 2 rfl rfl (aA rfl) ?_
  clear c1 c2 hT hc
  refine bB (fun N sl ob => ∃ (i k : Nat) (out : List SObs) (r' : ByteArray) (b' : Bool), N = m - i ∧ i ≤ m ∧ manyL obsS (m - i) r' b' out = ⟨l, q2, e2⟩ ∧ out.length = i ∧ r'.size ≤ q.size ∧ sl = [(16, .d (.int i)), (15, .d (.int m)), (6, .row 6 k), (2, .box 2 0), (1, .clo (.func 161) [.box 1005 0])] ∧ ob = [(6, .row 62 2 k (out.map SObs.c)), (2, rdb), (1000, rdc r' b'), (1005, rdb)]) (⟨0, 0, [], q, e, rfl, Nat.zero_le _, hL, rfl, Nat.le_refl _, rfl, rfl⟩) ?_
  clear hL
  rintro N sl ob ⟨i, k, out, r', b', rfl, hi, hL, ho, hr', rfl, rfl⟩
  by_cases hlt : i < m
  ·have hL2 : manyL obsS (m - i) r' b' out = manyL obsS (m - (i + 1)) (obsS r' b').r (obsS r' b').b (out ++ [(obsS r' b').v]) := by rw [show m - i = (m - (i + 1)) + 1 by omega]; rfl
   have hle := aIy r' b'
   have c3 := aPf r' b' zb
   rw [hL2] at hL
   clear hL2
   rcases hx : obsS r' b' with ⟨v, r3, b3⟩
   rw [hx] at hL hle c3
   dsimp only at hL hle c3
   have qi : decide ((i : Int) < (m : Int)) = true := decide_eq_true zb
   repeat' (first | (apply aF; refine kE [(1000, 1000), (1005, 1005)] (c3) hE ?_; rintro _ _ ⟨rfl, rfl⟩ <;> (intro _ _ h1 h2; simp only [aO, Nat.reduceBEq, aG, aL, aH] at h1 h2; subst h1 h2)) | refine qf ?_ | refine xy ?_ | (refine sQ ?_ ?_ <;> intro hb hq <;> try omega))
   repeat' (first | refine qn ?_ | (refine sQ ?_ ?_ <;> intro hb hq <;> try omega))
   refine bK (⟨i + 1, k + 1, out ++ [v], r3, b3, rfl, by omega, hL, by simp [ho], by omega, rfl, rfl⟩) zb
  ·obtain rfl : i = m := by omega
   rw [Nat.sub_self] at hL
   simp only [manyL, RS.mk.injEq] at hL
   obtain ⟨rfl, rfl, rfl⟩ := hL
   have qi : decide ((i : Int) < (i : Int)) = false := decide_eq_false zb
   repeat' (first | refine qf ?_ | (refine sQ ?_ ?_ <;> intro hb hq <;> try omega))
   refine aP ([(1000, rdc r' b'), (1005, rdb)]) (by rfl) rv (⟨rfl, rfl⟩) sb okx
theorem aCp (r : ByteArray) (b : Bool) (hr : r.size ≤ 1000000000) : ObC 162 [.agg [.box 1000 0], .clo (.func 163) [.box 1005 0]] [(1000, rdc r b), (1005, rdb)] [] (fun x o => x = .d (.list 2 ((manyS stopS r b).v.map SStop.c)) ∧ o = [(1000, rdc (manyS stopS r b).r (manyS stopS r b).b), (1005, rdb)]) := by
 have hT : manyS stopS r b = manyS stopS r b := rfl
 conv at hT => rhs; unfold manyS
 have h0 := fQ (r := r) (b := b) (c := 59) (least := 0) (Int.le_refl _)
 have h1 := cJ (r := r) (b := b) (c := 59) (least := 0)
 have c1 := eF r b hr
 rcases hq : numS r b 59 0 with ⟨n, q, e⟩
 rw [hq] at hT h0 h1 c1
 dsimp only at hT h0 h1 c1
 have c2 := dV q e
 cases hc : decide ((q.size : Int) < n)
 rotate_left 1
 ·rw [if_pos (of_decide_eq_true hc)] at hT
  rw [hT]
  refine aI Tryz.func162 rfl zg _ Tryz.ntmps162 (aC rfl) rfl (fun w Pr β κ hE => ?_)
  dsimp only [slotsV, Nat.zero_add, Nat.reduceAdd]
  repeat' (first | (apply aB (.box _ _); refine aD (bR rfl nofun rfl (aA rfl) rfl rfl) rfl ?_) | refine oQ [(1000, 1000)] (c1) hE ?_ | refine oQ [(1000, 1000)] (c2) hE ?_ | refine qe ?_ | (refine sQ ?_ ?_ <;> intro hb hq <;> try omega))
  refine aP ([(1000, rdc q e), (1005, rdb)]) (by rfl) (.x _ _ (.tmp _ _ (ToD.nil 2))) (⟨rfl, rfl⟩) zw (by rfl)
 ·have hc0 := of_decide_eq_false hc
  rw [if_neg hc0] at hT
  obtain ⟨m, rfl⟩ : ∃ m : Nat, n = m := ⟨n.toNat, by omega⟩
  rw [Int.toNat_natCast] at hT
  rcases hL : manyL stopS m q e [] with ⟨l, q2, e2⟩
  rw [hL] at hT
  rw [hT]
  dsimp only
  refine aI Tryz.func162 rfl zg _ Tryz.ntmps162 (aC rfl) rfl (fun w Pr β κ hE => ?_)
  dsimp only [slotsV, Nat.zero_add, Nat.reduceAdd]
  repeat' (first | (apply aB (.box _ _); refine aD (bR rfl nofun rfl (aA rfl) rfl rfl) rfl ?_) | refine oQ [(1000, 1000)] (c1) hE ?_ | refine oQ [(1000, 1000)] (c2) hE ?_ | refine qe ?_ | (refine sQ ?_ ?_ <;> intro hb hq <;> try omega))
  refine fJ 6 6 68 2 rfl rfl (aA rfl) ?_
  clear c1 c2 hT hc
  refine bB (fun N sl ob => ∃ (i k : Nat) (out : List SStop) (r' : ByteArray) (b' : Bool), N = m - i ∧ i ≤ m ∧ manyL stopS (m - i) r' b' out = ⟨l, q2, e2⟩ ∧ out.length = i ∧ r'.size ≤ q.size ∧ sl = [(16, .d (.int i)), (15, .d (.int m)), (6, .row 6 k), (2, .box 2 0), (1, .clo (.func 163) [.box 1005 0])] ∧ ob = [(6, .row 68 2 k (out.map SStop.c)), (2, rdb), (1000, rdc r' b'), (1005, rdb)]) (⟨0, 0, [], q, e, rfl, Nat.zero_le _, hL, rfl, Nat.le_refl _, rfl, rfl⟩) ?_
  clear hL
  rintro N sl ob ⟨i, k, out, r', b', rfl, hi, hL, ho, hr', rfl, rfl⟩
  by_cases hlt : i < m
  ·have hL2 : manyL stopS (m - i) r' b' out = manyL stopS (m - (i + 1)) (stopS r' b').r (stopS r' b').b (out ++ [(stopS r' b').v]) := by rw [show m - i = (m - (i + 1)) + 1 by omega]; rfl
   have hle := tB r' b'
   have c3 := aMd r' b' zb
   rw [hL2] at hL
   clear hL2
   rcases hx : stopS r' b' with ⟨v, r3, b3⟩
   rw [hx] at hL hle c3
   dsimp only at hL hle c3
   have qi : decide ((i : Int) < (m : Int)) = true := decide_eq_true zb
   repeat' (first | (apply aF; refine kE [(1000, 1000), (1005, 1005)] (c3) hE ?_; rintro _ _ ⟨rfl, rfl⟩ <;> (intro _ _ h1 h2; simp only [aO, Nat.reduceBEq, aG, aL, aH] at h1 h2; subst h1 h2)) | refine qf ?_ | refine xy ?_ | (refine sQ ?_ ?_ <;> intro hb hq <;> try omega))
   repeat' (first | refine qn ?_ | (refine sQ ?_ ?_ <;> intro hb hq <;> try omega))
   refine bK (⟨i + 1, k + 1, out ++ [v], r3, b3, rfl, by omega, hL, by simp [ho], by omega, rfl, rfl⟩) zb
  ·obtain rfl : i = m := by omega
   rw [Nat.sub_self] at hL
   simp only [manyL, RS.mk.injEq] at hL
   obtain ⟨rfl, rfl, rfl⟩ := hL
   have qi : decide ((i : Int) < (i : Int)) = false := decide_eq_false zb
   repeat' (first | refine qf ?_ | (refine sQ ?_ ?_ <;> intro hb hq <;> try omega))
   refine aP ([(1000, rdc r' b'), (1005, rdb)]) (by rfl) rv (⟨rfl, rfl⟩) sb okx
theorem aFl (r : ByteArray) (b : Bool) (hr : r.size ≤ 1000000000) : ObC 164 [.agg [.box 1000 0], .clo (.func 165) [.box 1005 0]] [(1000, rdc r b), (1005, rdb)] [] (fun x o => x = .d (.list 2 ((manyS legS r b).v.map SLeg.c)) ∧ o = [(1000, rdc (manyS legS r b).r (manyS legS r b).b), (1005, rdb)]) := by
 have hT : manyS legS r b = manyS legS r b := rfl
 conv at hT => rhs; unfold manyS
 have h0 := fQ (r := r) (b := b) (c := 59) (least := 0) (Int.le_refl _)
 have h1 := cJ (r := r) (b := b) (c := 59) (least := 0)
 have c1 := eF r b hr
 rcases hq : numS r b 59 0 with ⟨n, q, e⟩
 rw [hq] at hT h0 h1 c1
 dsimp only at hT h0 h1 c1
 have c2 := dV q e
 cases hc : decide ((q.size : Int) < n)
 rotate_left 1
 ·rw [if_pos (of_decide_eq_true hc)] at hT
  rw [hT]
  refine aI Tryz.func164 rfl zg _ Tryz.ntmps164 (aC rfl) rfl (fun w Pr β κ hE => ?_)
  dsimp only [slotsV, Nat.zero_add, Nat.reduceAdd]
  repeat' (first | (apply aB (.box _ _); refine aD (bR rfl nofun rfl (aA rfl) rfl rfl) rfl ?_) | refine oQ [(1000, 1000)] (c1) hE ?_ | refine oQ [(1000, 1000)] (c2) hE ?_ | refine qe ?_ | (refine sQ ?_ ?_ <;> intro hb hq <;> try omega))
  refine aP ([(1000, rdc q e), (1005, rdb)]) (by rfl) (.x _ _ (.tmp _ _ (ToD.nil 2))) (⟨rfl, rfl⟩) zw (by rfl)
 ·have hc0 := of_decide_eq_false hc
  rw [if_neg hc0] at hT
  obtain ⟨m, rfl⟩ : ∃ m : Nat, n = m := ⟨n.toNat, by omega⟩
  rw [Int.toNat_natCast] at hT
  rcases hL : manyL legS m q e [] with ⟨l, q2, e2⟩
  rw [hL] at hT
  rw [hT]
  dsimp only
  refine aI Tryz.func164 rfl zg _ Tryz.ntmps164 (aC rfl) rfl (fun w Pr β κ hE => ?_)
  dsimp only [slotsV, Nat.zero_add, Nat.reduceAdd]
  repeat' (first | (apply aB (.box _ _); refine aD (bR rfl nofun rfl (aA rfl) rfl rfl) rfl ?_) | refine oQ [(1000, 1000)] (c1) hE ?_ | refine oQ [(1000, 1000)] (c2) hE ?_ | refine qe ?_ | (refine sQ ?_ ?_ <;> intro hb hq <;> try omega))
  refine fJ 6 6 151 2 rfl rfl (aA rfl) ?_
  clear c1 c2 hT hc
  refine bB (fun N sl ob => ∃ (i k : Nat) (out : List SLeg) (r' : ByteArray) (b' : Bool), N = m - i ∧ i ≤ m ∧ manyL legS (m - i) r' b' out = ⟨l, q2, e2⟩ ∧ out.length = i ∧ r'.size ≤ q.size ∧ sl = [(16, .d (.int i)), (15, .d (.int m)), (6, .row 6 k), (2, .box 2 0), (1, .clo (.func 165) [.box 1005 0])] ∧ ob = [(6, .row 151 2 k (out.map SLeg.c)), (2, rdb), (1000, rdc r' b'), (1005, rdb)]) (⟨0, 0, [], q, e, rfl, Nat.zero_le _, hL, rfl, Nat.le_refl _, rfl, rfl⟩) ?_
  clear hL
  rintro N sl ob ⟨i, k, out, r', b', rfl, hi, hL, ho, hr', rfl, rfl⟩
  by_cases hlt : i < m
  ·have hL2 : manyL legS (m - i) r' b' out = manyL legS (m - (i + 1)) (legS r' b').r (legS r' b').b (out ++ [(legS r' b').v]) := by rw [show m - i = (m - (i + 1)) + 1 by omega]; rfl
   have hle := vP r' b'
   have c3 := aOl r' b' zb
   rw [hL2] at hL
   clear hL2
   rcases hx : legS r' b' with ⟨v, r3, b3⟩
   rw [hx] at hL hle c3
   dsimp only at hL hle c3
   have qi : decide ((i : Int) < (m : Int)) = true := decide_eq_true zb
   repeat' (first | (apply aF; refine kE [(1000, 1000), (1005, 1005)] (c3) hE ?_; rintro _ _ ⟨rfl, rfl⟩ <;> (intro _ _ h1 h2; simp only [aO, Nat.reduceBEq, aG, aL, aH] at h1 h2; subst h1 h2)) | refine qf ?_ | refine xy ?_ | (refine sQ ?_ ?_ <;> intro hb hq <;> try omega))
   repeat' (first | refine qn ?_ | (refine sQ ?_ ?_ <;> intro hb hq <;> try omega))
   refine bK (⟨i + 1, k + 1, out ++ [v], r3, b3, rfl, by omega, hL, by simp [ho], by omega, rfl, rfl⟩) zb
  ·obtain rfl : i = m := by omega
   rw [Nat.sub_self] at hL
   simp only [manyL, RS.mk.injEq] at hL
   obtain ⟨rfl, rfl, rfl⟩ := hL
   have qi : decide ((i : Int) < (i : Int)) = false := decide_eq_false zb
   repeat' (first | refine qf ?_ | (refine sQ ?_ ?_ <;> intro hb hq <;> try omega))
   refine aP ([(1000, rdc r' b'), (1005, rdb)]) (by rfl) rv (⟨rfl, rfl⟩) sb okx
theorem yU (r : ByteArray) (b : Bool) (hr : r.size ≤ 1000000000) : ObC 173 [.agg [.box 1000 0], .clo (.func 174) [.box 1005 0]] [(1000, rdc r b), (1005, rdb)] [] (fun x o => x = .d (.list 2 ((manyS shareS r b).v.map SShare.c)) ∧ o = [(1000, rdc (manyS shareS r b).r (manyS shareS r b).b), (1005, rdb)]) := by
 have hT : manyS shareS r b = manyS shareS r b := rfl
 conv at hT => rhs; unfold manyS
 have h0 := fQ (r := r) (b := b) (c := 59) (least := 0) (Int.le_refl _)
 have h1 := cJ (r := r) (b := b) (c := 59) (least := 0)
 have c1 := eF r b hr
 rcases hq : numS r b 59 0 with ⟨n, q, e⟩
 rw [hq] at hT h0 h1 c1
 dsimp only at hT h0 h1 c1
 have c2 := dV q e
 cases hc : decide ((q.size : Int) < n)
 rotate_left 1
 ·rw [if_pos (of_decide_eq_true hc)] at hT
  rw [hT]
  refine aI Tryz.func173 rfl zg _ Tryz.ntmps173 (aC rfl) rfl (fun w Pr β κ hE => ?_)
  dsimp only [slotsV, Nat.zero_add, Nat.reduceAdd]
  repeat' (first | (apply aB (.box _ _); refine aD (bR rfl nofun rfl (aA rfl) rfl rfl) rfl ?_) | refine oQ [(1000, 1000)] (c1) hE ?_ | refine oQ [(1000, 1000)] (c2) hE ?_ | refine qe ?_ | (refine sQ ?_ ?_ <;> intro hb hq <;> try omega))
  refine aP ([(1000, rdc q e), (1005, rdb)]) (by rfl) (.x _ _ (.tmp _ _ (ToD.nil 2))) (⟨rfl, rfl⟩) zw (by rfl)
 ·have hc0 := of_decide_eq_false hc
  rw [if_neg hc0] at hT
  obtain ⟨m, rfl⟩ : ∃ m : Nat, n = m := ⟨n.toNat, by omega⟩
  rw [Int.toNat_natCast] at hT
  rcases hL : manyL shareS m q e [] with ⟨l, q2, e2⟩
  rw [hL] at hT
  rw [hT]
  dsimp only
  refine aI Tryz.func173 rfl zg _ Tryz.ntmps173 (aC rfl) rfl (fun w Pr β κ hE => ?_)
  dsimp only [slotsV, Nat.zero_add, Nat.reduceAdd]
  repeat' (first | (apply aB (.box _ _); refine aD (bR rfl nofun rfl (aA rfl) rfl rfl) rfl ?_) | refine oQ [(1000, 1000)] (c1) hE ?_ | refine oQ [(1000, 1000)] (c2) hE ?_ | refine qe ?_ | (refine sQ ?_ ?_ <;> intro hb hq <;> try omega))
  refine fJ 6 6 80 2 rfl rfl (aA rfl) ?_
  clear c1 c2 hT hc
  refine bB (fun N sl ob => ∃ (i k : Nat) (out : List SShare) (r' : ByteArray) (b' : Bool), N = m - i ∧ i ≤ m ∧ manyL shareS (m - i) r' b' out = ⟨l, q2, e2⟩ ∧ out.length = i ∧ r'.size ≤ q.size ∧ sl = [(16, .d (.int i)), (15, .d (.int m)), (6, .row 6 k), (2, .box 2 0), (1, .clo (.func 174) [.box 1005 0])] ∧ ob = [(6, .row 80 2 k (out.map SShare.c)), (2, rdb), (1000, rdc r' b'), (1005, rdb)]) (⟨0, 0, [], q, e, rfl, Nat.zero_le _, hL, rfl, Nat.le_refl _, rfl, rfl⟩) ?_
  clear hL
  rintro N sl ob ⟨i, k, out, r', b', rfl, hi, hL, ho, hr', rfl, rfl⟩
  by_cases hlt : i < m
  ·have hL2 : manyL shareS (m - i) r' b' out = manyL shareS (m - (i + 1)) (shareS r' b').r (shareS r' b').b (out ++ [(shareS r' b').v]) := by rw [show m - i = (m - (i + 1)) + 1 by omega]; rfl
   have hle := aAq r' b'
   have c3 := aHs r' b' zb
   rw [hL2] at hL
   clear hL2
   rcases hx : shareS r' b' with ⟨v, r3, b3⟩
   rw [hx] at hL hle c3
   dsimp only at hL hle c3
   have qi : decide ((i : Int) < (m : Int)) = true := decide_eq_true zb
   repeat' (first | (apply aF; refine kE [(1000, 1000), (1005, 1005)] (c3) hE ?_; rintro _ _ ⟨rfl, rfl⟩ <;> (intro _ _ h1 h2; simp only [aO, Nat.reduceBEq, aG, aL, aH] at h1 h2; subst h1 h2)) | refine qf ?_ | refine xy ?_ | (refine sQ ?_ ?_ <;> intro hb hq <;> try omega))
   repeat' (first | refine qn ?_ | (refine sQ ?_ ?_ <;> intro hb hq <;> try omega))
   refine bK (⟨i + 1, k + 1, out ++ [v], r3, b3, rfl, by omega, hL, by simp [ho], by omega, rfl, rfl⟩) zb
  ·obtain rfl : i = m := by omega
   rw [Nat.sub_self] at hL
   simp only [manyL, RS.mk.injEq] at hL
   obtain ⟨rfl, rfl, rfl⟩ := hL
   have qi : decide ((i : Int) < (i : Int)) = false := decide_eq_false zb
   repeat' (first | refine qf ?_ | (refine sQ ?_ ?_ <;> intro hb hq <;> try omega))
   refine aP ([(1000, rdc r' b'), (1005, rdb)]) (by rfl) rv (⟨rfl, rfl⟩) sb okx
theorem aFn (r : ByteArray) (b : Bool) (hr : r.size ≤ 1000000000) : ObC 40 [.agg [.box 1000 0], .clo (.func 41) [.box 1005 0]] [(1000, rdc r b), (1005, rdb)] [] (fun x o => x = .d (.list 2 ((manyS verS r b).v.map SVer.c)) ∧ o = [(1000, rdc (manyS verS r b).r (manyS verS r b).b), (1005, rdb)]) := by
 have hT : manyS verS r b = manyS verS r b := rfl
 conv at hT => rhs; unfold manyS
 have h0 := fQ (r := r) (b := b) (c := 59) (least := 0) (Int.le_refl _)
 have h1 := cJ (r := r) (b := b) (c := 59) (least := 0)
 have c1 := eF r b hr
 rcases hq : numS r b 59 0 with ⟨n, q, e⟩
 rw [hq] at hT h0 h1 c1
 dsimp only at hT h0 h1 c1
 have c2 := dV q e
 cases hc : decide ((q.size : Int) < n)
 rotate_left 1
 ·rw [if_pos (of_decide_eq_true hc)] at hT
  rw [hT]
  refine aI Tryz.func40 rfl zg _ Tryz.ntmps40 (aC rfl) rfl (fun w Pr β κ hE => ?_)
  dsimp only [slotsV, Nat.zero_add, Nat.reduceAdd]
  repeat' (first | (apply aB (.box _ _); refine aD (bR rfl nofun rfl (aA rfl) rfl rfl) rfl ?_) | refine oQ [(1000, 1000)] (c1) hE ?_ | refine oQ [(1000, 1000)] (c2) hE ?_ | refine qe ?_ | (refine sQ ?_ ?_ <;> intro hb hq <;> try omega))
  refine aP ([(1000, rdc q e), (1005, rdb)]) (by rfl) (.x _ _ (.tmp _ _ (ToD.nil 2))) (⟨rfl, rfl⟩) zw (by rfl)
 ·have hc0 := of_decide_eq_false hc
  rw [if_neg hc0] at hT
  obtain ⟨m, rfl⟩ : ∃ m : Nat, n = m := ⟨n.toNat, by omega⟩
  rw [Int.toNat_natCast] at hT
  rcases hL : manyL verS m q e [] with ⟨l, q2, e2⟩
  rw [hL] at hT
  rw [hT]
  dsimp only
  refine aI Tryz.func40 rfl zg _ Tryz.ntmps40 (aC rfl) rfl (fun w Pr β κ hE => ?_)
  dsimp only [slotsV, Nat.zero_add, Nat.reduceAdd]
  repeat' (first | (apply aB (.box _ _); refine aD (bR rfl nofun rfl (aA rfl) rfl rfl) rfl ?_) | refine oQ [(1000, 1000)] (c1) hE ?_ | refine oQ [(1000, 1000)] (c2) hE ?_ | refine qe ?_ | (refine sQ ?_ ?_ <;> intro hb hq <;> try omega))
  refine fJ 6 6 48 2 rfl rfl (aA rfl) ?_
  clear c1 c2 hT hc
  refine bB (fun N sl ob => ∃ (i k : Nat) (out : List SVer) (r' : ByteArray) (b' : Bool), N = m - i ∧ i ≤ m ∧ manyL verS (m - i) r' b' out = ⟨l, q2, e2⟩ ∧ out.length = i ∧ r'.size ≤ q.size ∧ sl = [(16, .d (.int i)), (15, .d (.int m)), (6, .row 6 k), (2, .box 2 0), (1, .clo (.func 41) [.box 1005 0])] ∧ ob = [(6, .row 48 2 k (out.map SVer.c)), (2, rdb), (1000, rdc r' b'), (1005, rdb)]) (⟨0, 0, [], q, e, rfl, Nat.zero_le _, hL, rfl, Nat.le_refl _, rfl, rfl⟩) ?_
  clear hL
  rintro N sl ob ⟨i, k, out, r', b', rfl, hi, hL, ho, hr', rfl, rfl⟩
  by_cases hlt : i < m
  ·have hL2 : manyL verS (m - i) r' b' out = manyL verS (m - (i + 1)) (verS r' b').r (verS r' b').b (out ++ [(verS r' b').v]) := by rw [show m - i = (m - (i + 1)) + 1 by omega]; rfl
   have hle := tD r' b'
   have c3 := aRc r' b' zb
   rw [hL2] at hL
   clear hL2
   rcases hx : verS r' b' with ⟨v, r3, b3⟩
   rw [hx] at hL hle c3
   dsimp only at hL hle c3
   have qi : decide ((i : Int) < (m : Int)) = true := decide_eq_true zb
   repeat' (first | (apply aF; refine kE [(1000, 1000), (1005, 1005)] (c3) hE ?_; rintro _ _ ⟨rfl, rfl⟩ <;> (intro _ _ h1 h2; simp only [aO, Nat.reduceBEq, aG, aL, aH] at h1 h2; subst h1 h2)) | refine qf ?_ | refine xy ?_ | (refine sQ ?_ ?_ <;> intro hb hq <;> try omega))
   repeat' (first | refine qn ?_ | (refine sQ ?_ ?_ <;> intro hb hq <;> try omega))
   refine bK (⟨i + 1, k + 1, out ++ [v], r3, b3, rfl, by omega, hL, by simp [ho], by omega, rfl, rfl⟩) zb
  ·obtain rfl : i = m := by omega
   rw [Nat.sub_self] at hL
   simp only [manyL, RS.mk.injEq] at hL
   obtain ⟨rfl, rfl, rfl⟩ := hL
   have qi : decide ((i : Int) < (i : Int)) = false := decide_eq_false zb
   repeat' (first | refine qf ?_ | (refine sQ ?_ ?_ <;> intro hb hq <;> try omega))
   refine aP ([(1000, rdc r' b'), (1005, rdb)]) (by rfl) rv (⟨rfl, rfl⟩) sb okx
end
section
open Go.RowKit
attribute [local irreducible] numS textS itemsS
abbrev nilD : D := .val (.slice none 0 0)
theorem gL (r : ByteArray) (b : Bool) (hr : r.size ≤ 1000000000) : ObC 37 [.box 1000 0] [(1000, rdc r b)] [] (fun x o => x = .d (intsL (intsS r b).v) ∧ o = [(1000, rdc (intsS r b).r (intsS r b).b)]) := aPe r b hr
theorem aTq {v : List Int} (h : v.length = 9) : ∃ a b c d e f g h i, v = [a, b, c, d, e, f, g, h, i] := by
 match v, h with
 | [a, b, c, d, e, f, g, h, i], _ => exact ⟨a, b, c, d, e, f, g, h, i, rfl⟩
theorem aXf {v : List Int} (h : v.length = 10) : ∃ a b c d e f g h i j, v = [a, b, c, d, e, f, g, h, i, j] := by
 match v, h with
 | [a, b, c, d, e, f, g, h, i, j], _ => exact ⟨a, b, c, d, e, f, g, h, i, j, rfl⟩
theorem aSy {v : List Int} (h : v.length = 4) : ∃ a b c d, v = [a, b, c, d] := by
 match v, h with
 | [a, b, c, d], _ => exact ⟨a, b, c, d, rfl⟩
theorem aQr {v : List Int} (h : v.length = 6) : ∃ a b c d e f, v = [a, b, c, d, e, f] := by
 match v, h with
 | [a, b, c, d, e, f], _ => exact ⟨a, b, c, d, e, f, rfl⟩
theorem aLx (r : ByteArray) (b : Bool) (hr : r.size ≤ 1000000000) : ObC 32 [.agg [.box 1000 0]] [(1000, rdc r b)] [] (fun x o => x = .d (obsL (seenS r b).v) ∧ o = [(1000, rdc (seenS r b).r (seenS r b).b)]) := by
 have c1 := aFm r b hr
 unfold seenS
 rcases hq : manyS obsS r b with ⟨v, r2, b2⟩
 rw [hq] at c1
 dsimp only at c1 ⊢
 refine aI Tryz.func32 rfl zg _ Tryz.ntmps32 (aC rfl) rfl (fun w Pr β κ hE => ?_)
 dsimp only [slotsV, Nat.zero_add, Nat.reduceAdd]
 repeat' (first | (apply aB (.buildSlice 207 _ _); refine aD (eG rfl zt (by rfl) zg (aA rfl) (by rfl) (by rfl)) rfl ?_) | (apply aB (.load 85 _); refine aK (bW rfl rfl rfl rfl rfl zg) (aA rfl) ?_) | (apply aB (.makeFunc _ _ _); refine aK (eC rfl) (aA rfl) ?_) | (apply aB (.box _ _); refine aD (bR rfl nofun rfl (aA rfl) rfl rfl) rfl ?_) | refine oQ [(1000, 1000), (1005, 1)] (c1) hE ?_ | refine xk ?_ | (apply gO; refine jB ?_) | (apply cV; refine eD ?_))
 refine aP ([(1000, rdc r2 b2)]) (by rfl) rv (⟨rfl, rfl⟩) sb okx
theorem aNa (r : ByteArray) (b : Bool) (hr : r.size ≤ 1000000000) : ObC 30 [.agg [.box 1000 0]] [(1000, rdc r b)] [] (fun x o => x = .d (.agg (arcS r b).v.c) ∧ o = [(1000, rdc (arcS r b).r (arcS r b).b)]) := by
 have c1 := fB [0, 1] [.int 0, .int 0, nilD, nilD] 46 r b hr zg zg
 have hle := cF 2 r b
 simp only [List.length_cons, List.length_nil, Nat.zero_add, Nat.reduceAdd] at c1
 unfold arcS
 have hv := dS 2 r b
 rcases hq : numsS 2 r b with ⟨v, r2, b2⟩
 rw [hq] at hv c1
 obtain ⟨x, y, rfl⟩ := aDb hv
 simp only [setD, List.set_cons_zero, List.set_cons_succ, List.map_cons, List.map_nil] at c1
 rw [hq] at hle
 dsimp only at hle ⊢
 have c2 := gL r2 b2 zb
 have hle2 := eS r2 b2
 rcases hq2 : intsS r2 b2 with ⟨lo, r3, b3⟩
 rw [hq2] at c2 hle2
 dsimp only at c2 hle2 ⊢
 have c3 := gL r3 b3 zb
 rcases hq3 : intsS r3 b3 with ⟨hi, r4, b4⟩
 rw [hq3] at c3
 dsimp only at c3 ⊢
 refine aI Tryz.func30 rfl zg _ Tryz.ntmps30 (aC rfl) rfl (fun w Pr β κ hE => ?_)
 dsimp only [slotsV, Nat.zero_add, Nat.reduceAdd]
 repeat' (first | (apply aB (.buildSlice 207 _ _); refine aD (eG rfl zt (by rfl) zg (aA rfl) (by rfl) (by rfl)) rfl ?_) | (apply aB (.load 85 _); refine aK (bW rfl rfl rfl rfl rfl zg) (aA rfl) ?_) | (apply aB (.makeFunc _ _ _); refine aK (eC rfl) (aA rfl) ?_) | (apply aB (.box _ _); refine aD (bR rfl nofun rfl (aA rfl) rfl rfl) rfl ?_) | refine oQ [(1000, 1000), (1001, 6), (1002, 2)] (c1) hE ?_ | refine qa ?_ | (apply gX; refine iX ?_))
 refine cC ([(1, rdb)]) [(0, true), (1, true), (3, true), (4, true), (2, false), (5, false), (6, true), (7, false)] [8, 9] zp zp zp zg zw ?_
 simp only [planned, tailed, List.filterMap_cons, List.filterMap_nil, List.getElem?_cons_zero, List.getElem?_cons_succ, Option.map_some]
 repeat' (first | apply aZ | refine vt ?_ | (apply aM; refine fO [(1000, 1000)] (c2) hE ?_; rintro _ _ ⟨rfl, rfl⟩; clear c2 <;> (intro _ _ h1 h2; simp only [aO, Nat.reduceBEq, aG, aL, aH] at h1 h2; subst h1 h2; (try dsimp only [flatV, flat, D.plain, D.plainL]))) | (apply aM; refine fO [(1000, 1000)] (c3) hE ?_; rintro _ _ ⟨rfl, rfl⟩ <;> (intro _ _ h1 h2; simp only [aO, Nat.reduceBEq, aG, aL, aH] at h1 h2; subst h1 h2; (try dsimp only [flatV, flat, D.plain, D.plainL]))) | (apply aR (.store _ _ _); refine dU zj rfl rfl rfl (dR rfl) nofun zk zo (.inl ⟨rfl, rfl⟩) rfl (aC rfl) zk ?_) | (apply aU; refine bA ?_) | (apply aV; refine bE ?_) | (refine mQ ?_ ?_ <;> intro hb hq <;> try omega))
 repeat' (first | refine nx ?_ | refine xd ?_ | fail)
 refine aP ([(1000, rdc r4 b4)]) (by rfl) rv (⟨rfl, rfl⟩) sb okx
theorem aNj (r : ByteArray) (b : Bool) (hr : r.size ≤ 1000000000) : ObC 34 [.agg [.box 1000 0]] [(1000, rdc r b)] [] (fun x o => x = .d (.agg (carS r b).v.c) ∧ o = [(1000, rdc (carS r b).r (carS r b).b)]) := by
 have c1 := fB [0, 1, 2, 3, 4, 5, 6, 7, 8] [.int 0, .int 0, .int 0, .int 0, .int 0, .int 0, .int 0, .int 0, .int 0] 94 r b hr zg zg
 simp only [List.length_cons, List.length_nil, Nat.zero_add, Nat.reduceAdd] at c1
 unfold carS
 have hv := dS 9 r b
 rcases hq : numsS 9 r b with ⟨v, r2, b2⟩
 rw [hq] at hv c1
 obtain ⟨x1, x2, x3, x4, x5, x6, x7, x8, x9, rfl⟩ := aTq hv
 simp only [setD, List.set_cons_zero, List.set_cons_succ, List.map_cons, List.map_nil] at c1
 dsimp only
 refine aI Tryz.func34 rfl zg _ Tryz.ntmps34 (aC rfl) rfl (fun w Pr β κ hE => ?_)
 dsimp only [slotsV, Nat.zero_add, Nat.reduceAdd]
 repeat' (first | (apply aB (.buildSlice 207 _ _); refine aD (eG rfl zt (by rfl) zg (aA rfl) (by rfl) (by rfl)) rfl ?_) | (apply aB (.load 85 _); refine aK (bW rfl rfl rfl rfl rfl zg) (aA rfl) ?_) | (apply aB (.makeFunc _ _ _); refine aK (eC rfl) (aA rfl) ?_) | (apply aB (.box _ _); refine aD (bR rfl nofun rfl (aA rfl) rfl rfl) rfl ?_) | refine oQ [(1000, 1000), (1001, 13), (1002, 2)] (c1) hE ?_ | refine qa ?_ | refine vy ?_ | fail)
 refine aP ([(1000, rdc r2 b2)]) (by rfl) rv (⟨rfl, rfl⟩) sb okx
theorem aLl (r : ByteArray) (b : Bool) (hr : r.size ≤ 1000000000) : ObC 36 [.agg [.box 1000 0]] [(1000, rdc r b)] [] (fun x o => x = .d (.agg (planS r b).v.c) ∧ o = [(1000, rdc (planS r b).r (planS r b).b)]) := by
 have c1 := fB [0] [.int 0, nilD, nilD, nilD] 66 r b hr zg zg
 have hle := cF 1 r b
 simp only [List.length_cons, List.length_nil, Nat.zero_add] at c1
 unfold planS
 have hv := dS 1 r b
 rcases hq : numsS 1 r b with ⟨v, r2, b2⟩
 rw [hq] at hv c1
 obtain ⟨x, rfl⟩ := rB hv
 simp only [setD, List.set_cons_zero, List.set_cons_succ, List.map_cons, List.map_nil] at c1
 rw [hq] at hle
 dsimp only at hle ⊢
 have c2 := aCp r2 b2 zb
 have hle2 := cG tB r2 b2
 rcases hq2 : manyS stopS r2 b2 with ⟨st, r3, b3⟩
 rw [hq2] at c2 hle2
 dsimp only at c2 hle2 ⊢
 have c3 := aFl r3 b3 zb
 have hle3 := cG vP r3 b3
 rcases hq3 : manyS legS r3 b3 with ⟨le, r4, b4⟩
 rw [hq3] at c3 hle3
 dsimp only at c3 hle3 ⊢
 have c4 := gL r4 b4 zb
 rcases hq4 : intsS r4 b4 with ⟨lv, r5, b5⟩
 rw [hq4] at c4
 dsimp only at c4 ⊢
 refine aI Tryz.func36 rfl zg _ Tryz.ntmps36 (aC rfl) rfl (fun w Pr β κ hE => ?_)
 dsimp only [slotsV, Nat.zero_add, Nat.reduceAdd]
 repeat' (first | (apply aB (.buildSlice 207 _ _); refine aD (eG rfl zt (by rfl) zg (aA rfl) (by rfl) (by rfl)) rfl ?_) | (apply aB (.load 85 _); refine aK (bW rfl rfl rfl rfl rfl zg) (aA rfl) ?_) | (apply aB (.makeFunc _ _ _); refine aK (eC rfl) (aA rfl) ?_) | (apply aB (.box _ _); refine aD (bR rfl nofun rfl (aA rfl) rfl rfl) rfl ?_) | refine oQ [(1000, 1000), (1001, 5), (1002, 2)] (c1) hE ?_ | refine qa ?_ | (apply gX; refine iX ?_))
 clear c1
 repeat' (first | (apply aB (.buildSlice 207 _ _); refine aD (eG rfl zt (by rfl) zg (aA rfl) (by rfl) (by rfl)) rfl ?_) | (apply aB (.load 85 _); refine aK (bW rfl rfl rfl rfl rfl zg) (aA rfl) ?_) | (apply aB (.makeFunc _ _ _); refine aK (eC rfl) (aA rfl) ?_) | (apply aB (.box _ _); refine aD (bR rfl nofun rfl (aA rfl) rfl rfl) rfl ?_) | refine oQ [(1000, 1000), (1005, 1)] (c2) hE ?_ | refine oQ [(1000, 1000), (1005, 1)] (c3) hE ?_ | refine oQ [(1000, 1000)] (c4) hE ?_ | refine nx ?_ | (apply gO; refine jB ?_) | refine xd ?_ | fail)
 refine aP ([(1000, rdc r5 b5)]) (by rfl) rv (⟨rfl, rfl⟩) sb okx
theorem aLp (r : ByteArray) (b : Bool) (hr : r.size ≤ 1000000000) : ObC 39 [.agg [.box 1000 0]] [(1000, rdc r b)] [] (fun x o => x = .d (.agg (promS r b).v.c) ∧ o = [(1000, rdc (promS r b).r (promS r b).b)]) := by
 have c1 := fB [0, 1, 2, 3, 4, 5, 6, 7, 8, 9] [.int 0, .int 0, .int 0, .int 0, .int 0, .int 0, .int 0, .int 0, .int 0, .int 0, .int 0, .int 0, .int 0, .int 0, .int 0] 72 r b hr zg zg
 have hle := cF 10 r b
 simp only [List.length_cons, List.length_nil, Nat.zero_add, Nat.reduceAdd] at c1
 unfold promS
 have hv := dS 10 r b
 rcases hq : numsS 10 r b with ⟨v, r2, b2⟩
 rw [hq] at hv c1
 obtain ⟨x1, x2, x3, x4, x5, x6, x7, x8, x9, x10, rfl⟩ := aXf hv
 simp only [setD, List.set_cons_zero, List.set_cons_succ, List.map_cons, List.map_nil] at c1
 rw [hq] at hle
 dsimp only at hle ⊢
 have c2 := aIo r2 b2 zb
 have hle2 := cJ (r := r2) (b := b2) (c := 59) (least := -9223372036854775808)
 rcases hq2 : numS r2 b2 59 (-9223372036854775808) with ⟨car, r3, b3⟩
 rw [hq2] at c2 hle2
 dsimp only at c2 hle2 ⊢
 have c3 := fB [11, 12, 13, 14] [.int x1, .int x2, .int x3, .int x4, .int x5, .int x6, .int x7, .int x8, .int x9, .int x10, .int car, .int 0, .int 0, .int 0, .int 0] 72 r3 b3 zb zg (fun o ho => by simp only [List.mem_cons, List.not_mem_nil, or_false] at ho; simp only [List.length_cons, List.length_nil]; omega)
 simp only [List.length_cons, List.length_nil, Nat.zero_add, Nat.reduceAdd] at c3
 have hv3 := dS 4 r3 b3
 rcases hq3 : numsS 4 r3 b3 with ⟨w, r4, b4⟩
 rw [hq3] at hv3 c3
 obtain ⟨y1, y2, y3, y4, rfl⟩ := aSy hv3
 simp only [setD, List.set_cons_zero, List.set_cons_succ, List.map_cons, List.map_nil] at c3
 dsimp only
 refine aI Tryz.func39 rfl zg _ Tryz.ntmps39 (aC rfl) rfl (fun w Pr β κ hE => ?_)
 dsimp only [slotsV, Nat.zero_add, Nat.reduceAdd]
 repeat' (first | (apply aB (.buildSlice 207 _ _); refine aD (eG rfl zt (by rfl) zg (aA rfl) (by rfl) (by rfl)) rfl ?_) | (apply aB (.load 85 _); refine aK (bW rfl rfl rfl rfl rfl zg) (aA rfl) ?_) | (apply aB (.makeFunc _ _ _); refine aK (eC rfl) (aA rfl) ?_) | (apply aB (.box _ _); refine aD (bR rfl nofun rfl (aA rfl) rfl rfl) rfl ?_) | refine xk ?_ | (apply dH; refine eO ?_) | (apply gX; refine iX ?_))
 refine cC ([(1, rdb)]) [(0, true), (1, true), (2, true), (3, true), (4, true), (5, true), (6, true), (7, true), (8, true), (9, true), (10, true), (11, true), (12, true), (13, true), (14, true), (15, true), (16, true), (17, true), (18, true), (19, true), (20, true), (21, true), (22, true), (23, true), (24, true), (25, true), (26, true), (27, true), (28, true), (29, true), (30, true), (31, false), (32, false)] [] zp zp zp zg zw ?_
 simp only [planned, tailed, List.filterMap_cons, List.filterMap_nil, List.getElem?_cons_zero, List.getElem?_cons_succ, Option.map_some]
 repeat' (first | apply aZ | refine vt ?_ | (apply aR (.load 85 _); refine bS zj (bW rfl rfl rfl rfl rfl zg) (aA rfl) ?_) | (apply aR (.buildSlice 207 _ _); refine lA zj rfl zt (by rfl) zg (aA rfl) (by rfl) (by rfl) (by rfl) (by rfl) ?_) | (apply aM; refine fO [(1000, 1000), (1001, 36), (1002, 2)] (c1) hE ?_; rintro _ _ ⟨rfl, rfl⟩ <;> (intro _ _ h1 h2; simp only [aO, Nat.reduceBEq, aG, aL, aH] at h1 h2; subst h1 h2; (try dsimp only [flatV, flat, D.plain, D.plainL]))) | (apply bG; refine bQ ?_) | (apply aU; refine bA ?_) | (apply aV; refine bE ?_) | (apply lS; refine oG ?_) | (apply aR (.buildSlice _ _ _); first | refine dK zj rfl zx zk rfl (aC rfl) (aA rfl) ?_ | refine eQ zj rfl zd ze zk zg zg (aA rfl) ?_) | (refine mQ ?_ ?_ <;> intro hb hq <;> try omega))
 clear c1
 repeat' (first | (apply aB (.buildSlice 207 _ _); refine aD (eG rfl zt (by rfl) zg (aA rfl) (by rfl) (by rfl)) rfl ?_) | (apply aB (.load 85 _); refine aK (bW rfl rfl rfl rfl rfl zg) (aA rfl) ?_) | (apply aB (.makeFunc _ _ _); refine aK (eC rfl) (aA rfl) ?_) | (apply aB (.box _ _); refine aD (bR rfl nofun rfl (aA rfl) rfl rfl) rfl ?_) | refine oQ [(1000, 1000)] (c2) hE ?_ | refine oQ [(1000, 1000), (1001, 47), (1002, 2)] (c3) hE ?_ | refine vd ?_ | refine vh ?_ | refine vo ?_ | fail)
 refine aP ([(1000, rdc r4 b4)]) (by rfl) rv (⟨rfl, rfl⟩) sb okx
theorem aKh (r : ByteArray) (b : Bool) (hr : r.size ≤ 1000000000) : ObC 172 [.box 1005 0] [(1000, rdc r b), (1005, rdb)] [] (fun x o => x = .d (.agg (cardS r b).v.c) ∧ o = [(1000, rdc (cardS r b).r (cardS r b).b), (1005, rdb)]) := by
 have c1 := fB [0] [.int 0, nilD] 78 r b hr zg zg
 have hle := cF 1 r b
 simp only [List.length_cons, List.length_nil, Nat.zero_add] at c1
 unfold cardS
 have hv := dS 1 r b
 rcases hq : numsS 1 r b with ⟨v, r2, b2⟩
 rw [hq] at hv c1
 obtain ⟨x, rfl⟩ := rB hv
 simp only [setD, List.set_cons_zero, List.set_cons_succ, List.map_cons, List.map_nil] at c1
 rw [hq] at hle
 dsimp only at hle ⊢
 have c2 := yU r2 b2 zb
 rcases hq2 : manyS shareS r2 b2 with ⟨sh, r3, b3⟩
 rw [hq2] at c2
 dsimp only at c2 ⊢
 refine aI Tryz.func172 rfl zg _ Tryz.ntmps172 (aC rfl) rfl (fun w Pr β κ hE => ?_)
 dsimp only [slotsV, Nat.zero_add, Nat.reduceAdd]
 repeat' (first | (apply aB (.buildSlice 207 _ _); refine aD (eG rfl zt (by rfl) zg (aA rfl) (by rfl) (by rfl)) rfl ?_) | (apply aB (.load 85 _); refine aK (bW rfl rfl rfl rfl rfl zg) (aA rfl) ?_) | (apply aB (.makeFunc _ _ _); refine aK (eC rfl) (aA rfl) ?_) | (apply aB (.box _ _); refine aD (bR rfl nofun rfl (aA rfl) rfl rfl) rfl ?_) | refine oQ [(1000, 1000), (1001, 4), (1002, 1)] (c1) hE ?_ | refine nx ?_ | refine vd ?_ | (apply gX; refine iX ?_))
 clear c1
 repeat' (first | (apply aB (.buildSlice 207 _ _); refine aD (eG rfl zt (by rfl) zg (aA rfl) (by rfl) (by rfl)) rfl ?_) | (apply aB (.load 85 _); refine aK (bW rfl rfl rfl rfl rfl zg) (aA rfl) ?_) | (apply aB (.makeFunc _ _ _); refine aK (eC rfl) (aA rfl) ?_) | (apply aB (.box _ _); refine aD (bR rfl nofun rfl (aA rfl) rfl rfl) rfl ?_) | refine oQ [(1000, 1000), (1005, 1005)] (c2) hE ?_ | refine nx ?_ | (apply gO; refine jB ?_) | refine xd ?_ | fail)
 refine aP ([(1000, rdc r3 b3), (1005, rdb)]) (by rfl) rv (⟨rfl, rfl⟩) sb okx
end
end Go.Proofs.YtaodngiigdbgeaaGreatDoor
