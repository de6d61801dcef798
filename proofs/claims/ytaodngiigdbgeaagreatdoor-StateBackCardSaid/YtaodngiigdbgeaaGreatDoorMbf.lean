/-
  Conditions: none.
-/
import Derived.Test.YtaodngiigdbgeaaGreatDoorMaa
import Derived.Test.YtaodngiigdbgeaaGreatDoorMal
import Derived.Test.YtaodngiigdbgeaaGreatDoorMbb
import Derived.Test.YtaodngiigdbgeaaGreatDoorMbe
set_option maxHeartbeats 16000000
set_option maxRecDepth 20000
set_option linter.unusedSimpArgs false
set_option linter.unusedVariables false
namespace Go.Proofs.YtaodngiigdbgeaaGreatDoor
section
open Go.RowKit
attribute [local irreducible] numS textS itemsS
theorem jL {α : Type} (one : ByteArray → Bool → RS α) : ∀ (m : Nat) (r : ByteArray) (b : Bool) (out : List α), (manyL one m r b out).v.length = out.length + m
 | 0, r, b, out => rfl
 | m + 1, r, b, out => by
  unfold manyL
  rw [jL one m, List.length_append, List.length_singleton]
  omega
theorem aFg (r : ByteArray) (b : Bool) (hr : r.size ≤ 1000000000) : (manyS arcS r b).v = [] → ObC 29 [.agg [.box 1000 0], .mv (.func 30) [.agg [.box 1000 0]]] [(1000, rdc r b)] [] (fun x o => x = .d (.list 4 []) ∧ o = [(1000, rdc (manyS arcS r b).r (manyS arcS r b).b)]) := by
 intro hv
 have hT : manyS arcS r b = manyS arcS r b := rfl
 conv at hT => rhs; unfold manyS
 have h0 := fQ (r := r) (b := b) (c := 59) (least := 0) (Int.le_refl _)
 have h1 := cJ (r := r) (b := b) (c := 59) (least := 0)
 have c1 := eF r b hr
 rcases hq : numS r b 59 0 with ⟨n, q, e⟩
 rw [hq] at hT h0 h1 c1
 dsimp only at hT h0 h1 c1
 have c2 := dV q e
 cases hc : decide ((q.size : Int) < n)
 rotate_left 1
 ·rw [if_pos (of_decide_eq_true hc)] at hT
  rw [hT]
  refine aI Tryz.func29 rfl zg _ Tryz.ntmps29 (aC rfl) rfl (fun w Pr β κ hE => ?_)
  dsimp only [slotsV, Nat.zero_add, Nat.reduceAdd]
  repeat' (first | (apply aB (.box _ _); refine aD (bR rfl nofun rfl (aA rfl) rfl rfl) rfl ?_) | refine oQ [(1000, 1000)] (c1) hE ?_ | refine oQ [(1000, 1000)] (c2) hE ?_ | refine qe ?_ | (refine sQ ?_ ?_ <;> intro hb hq <;> try omega))
  refine aP ([(1000, rdc q e)]) (by rfl) (.x _ _ (.tmp _ _ (ToD.nil 4))) (⟨rfl, rfl⟩) zw (by rfl)
 ·have hc0 := of_decide_eq_false hc
  rw [if_neg hc0] at hT
  obtain ⟨m, rfl⟩ : ∃ m : Nat, n = m := ⟨n.toNat, by omega⟩
  rw [Int.toNat_natCast] at hT
  have hm := jL arcS m q e []
  rw [← hT, hv, List.length_nil, Nat.zero_add] at hm
  subst hm
  rw [hT]
  simp only [manyL]
  have qi : decide ((0 : Int) < ((0 : Nat) : Int)) = false := rfl
  refine aI Tryz.func29 rfl zg _ Tryz.ntmps29 (aC rfl) rfl (fun w Pr β κ hE => ?_)
  dsimp only [slotsV, Nat.zero_add, Nat.reduceAdd]
  repeat' (first | (apply aB (.box _ _); refine aD (bR rfl nofun rfl (aA rfl) rfl rfl) rfl ?_) | refine oQ [(1000, 1000)] (c1) hE ?_ | refine oQ [(1000, 1000)] (c2) hE ?_ | refine qe ?_ | (refine sQ ?_ ?_ <;> intro hb hq <;> try omega))
  refine bB (fun N sl ob => N = 0 ∧ sl = [(16, .d (.int 0)), (15, .d (.int ((0 : Nat) : Int))), (6, .d nilD), (2, .box 2 0), (1, .mv (.func 30) [.agg [.box 1000 0]])] ∧ ob = [(2, rdb), (1000, rdc q e)]) (⟨rfl, rfl, rfl⟩) ?_
  rintro N sl ob ⟨rfl, rfl, rfl⟩
  repeat' (first | refine qf ?_ | (refine sQ ?_ ?_ <;> intro hb hq <;> try omega))
  refine aP ([(1000, rdc q e)]) (by rfl) (.x _ _ (.tmp _ _ (ToD.nil 4))) (⟨rfl, rfl⟩) zw (by rfl)
theorem aCo (r : ByteArray) (b : Bool) (hr : r.size ≤ 1000000000) : (manyS seenS r b).v = [] → ObC 31 [.agg [.box 1000 0], .mv (.func 32) [.agg [.box 1000 0]]] [(1000, rdc r b)] [] (fun x o => x = .d (.list 1 []) ∧ o = [(1000, rdc (manyS seenS r b).r (manyS seenS r b).b)]) := by
 intro hv
 have hT : manyS seenS r b = manyS seenS r b := rfl
 conv at hT => rhs; unfold manyS
 have h0 := fQ (r := r) (b := b) (c := 59) (least := 0) (Int.le_refl _)
 have h1 := cJ (r := r) (b := b) (c := 59) (least := 0)
 have c1 := eF r b hr
 rcases hq : numS r b 59 0 with ⟨n, q, e⟩
 rw [hq] at hT h0 h1 c1
 dsimp only at hT h0 h1 c1
 have c2 := dV q e
 cases hc : decide ((q.size : Int) < n)
 rotate_left 1
 ·rw [if_pos (of_decide_eq_true hc)] at hT
  rw [hT]
  refine aI Tryz.func31 rfl zg _ Tryz.ntmps31 (aC rfl) rfl (fun w Pr β κ hE => ?_)
  dsimp only [slotsV, Nat.zero_add, Nat.reduceAdd]
  repeat' (first | (apply aB (.box _ _); refine aD (bR rfl nofun rfl (aA rfl) rfl rfl) rfl ?_) | refine oQ [(1000, 1000)] (c1) hE ?_ | refine oQ [(1000, 1000)] (c2) hE ?_ | refine qe ?_ | (refine sQ ?_ ?_ <;> intro hb hq <;> try omega))
  refine aP ([(1000, rdc q e)]) (by rfl) (.x _ _ (.tmp _ _ (ToD.nil 1))) (⟨rfl, rfl⟩) zw (by rfl)
 ·have hc0 := of_decide_eq_false hc
  rw [if_neg hc0] at hT
  obtain ⟨m, rfl⟩ : ∃ m : Nat, n = m := ⟨n.toNat, by omega⟩
  rw [Int.toNat_natCast] at hT
  have hm := jL seenS m q e []
  rw [← hT, hv, List.length_nil, Nat.zero_add] at hm
  subst hm
  rw [hT]
  simp only [manyL]
  have qi : decide ((0 : Int) < ((0 : Nat) : Int)) = false := rfl
  refine aI Tryz.func31 rfl zg _ Tryz.ntmps31 (aC rfl) rfl (fun w Pr β κ hE => ?_)
  dsimp only [slotsV, Nat.zero_add, Nat.reduceAdd]
  repeat' (first | (apply aB (.box _ _); refine aD (bR rfl nofun rfl (aA rfl) rfl rfl) rfl ?_) | refine oQ [(1000, 1000)] (c1) hE ?_ | refine oQ [(1000, 1000)] (c2) hE ?_ | refine qe ?_ | (refine sQ ?_ ?_ <;> intro hb hq <;> try omega))
  refine bB (fun N sl ob => N = 0 ∧ sl = [(16, .d (.int 0)), (15, .d (.int ((0 : Nat) : Int))), (6, .d nilD), (2, .box 2 0), (1, .mv (.func 32) [.agg [.box 1000 0]])] ∧ ob = [(2, rdb), (1000, rdc q e)]) (⟨rfl, rfl, rfl⟩) ?_
  rintro N sl ob ⟨rfl, rfl, rfl⟩
  repeat' (first | refine qf ?_ | (refine sQ ?_ ?_ <;> intro hb hq <;> try omega))
  refine aP ([(1000, rdc q e)]) (by rfl) (.x _ _ (.tmp _ _ (ToD.nil 1))) (⟨rfl, rfl⟩) zw (by rfl)
theorem aFk (r : ByteArray) (b : Bool) (hr : r.size ≤ 1000000000) : (manyS carS r b).v = [] → ObC 33 [.agg [.box 1000 0], .mv (.func 34) [.agg [.box 1000 0]]] [(1000, rdc r b)] [] (fun x o => x = .d (.list 9 []) ∧ o = [(1000, rdc (manyS carS r b).r (manyS carS r b).b)]) := by
 intro hv
 have hT : manyS carS r b = manyS carS r b := rfl
 conv at hT => rhs; unfold manyS
 have h0 := fQ (r := r) (b := b) (c := 59) (least := 0) (Int.le_refl _)
 have h1 := cJ (r := r) (b := b) (c := 59) (least := 0)
 have c1 := eF r b hr
 rcases hq : numS r b 59 0 with ⟨n, q, e⟩
 rw [hq] at hT h0 h1 c1
 dsimp only at hT h0 h1 c1
 have c2 := dV q e
 cases hc : decide ((q.size : Int) < n)
 rotate_left 1
 ·rw [if_pos (of_decide_eq_true hc)] at hT
  rw [hT]
  refine aI Tryz.func33 rfl zg _ Tryz.ntmps33 (aC rfl) rfl (fun w Pr β κ hE => ?_)
  dsimp only [slotsV, Nat.zero_add, Nat.reduceAdd]
  repeat' (first | (apply aB (.box _ _); refine aD (bR rfl nofun rfl (aA rfl) rfl rfl) rfl ?_) | refine oQ [(1000, 1000)] (c1) hE ?_ | refine oQ [(1000, 1000)] (c2) hE ?_ | refine qe ?_ | (refine sQ ?_ ?_ <;> intro hb hq <;> try omega))
  refine aP ([(1000, rdc q e)]) (by rfl) (.x _ _ (.tmp _ _ (ToD.nil 9))) (⟨rfl, rfl⟩) zw (by rfl)
 ·have hc0 := of_decide_eq_false hc
  rw [if_neg hc0] at hT
  obtain ⟨m, rfl⟩ : ∃ m : Nat, n = m := ⟨n.toNat, by omega⟩
  rw [Int.toNat_natCast] at hT
  have hm := jL carS m q e []
  rw [← hT, hv, List.length_nil, Nat.zero_add] at hm
  subst hm
  rw [hT]
  simp only [manyL]
  have qi : decide ((0 : Int) < ((0 : Nat) : Int)) = false := rfl
  refine aI Tryz.func33 rfl zg _ Tryz.ntmps33 (aC rfl) rfl (fun w Pr β κ hE => ?_)
  dsimp only [slotsV, Nat.zero_add, Nat.reduceAdd]
  repeat' (first | (apply aB (.box _ _); refine aD (bR rfl nofun rfl (aA rfl) rfl rfl) rfl ?_) | refine oQ [(1000, 1000)] (c1) hE ?_ | refine oQ [(1000, 1000)] (c2) hE ?_ | refine qe ?_ | (refine sQ ?_ ?_ <;> intro hb hq <;> try omega))
  refine bB (fun N sl ob => N = 0 ∧ sl = [(16, .d (.int 0)), (15, .d (.int ((0 : Nat) : Int))), (6, .d nilD), (2, .box 2 0), (1, .mv (.func 34) [.agg [.box 1000 0]])] ∧ ob = [(2, rdb), (1000, rdc q e)]) (⟨rfl, rfl, rfl⟩) ?_
  rintro N sl ob ⟨rfl, rfl, rfl⟩
  repeat' (first | refine qf ?_ | (refine sQ ?_ ?_ <;> intro hb hq <;> try omega))
  refine aP ([(1000, rdc q e)]) (by rfl) (.x _ _ (.tmp _ _ (ToD.nil 9))) (⟨rfl, rfl⟩) zw (by rfl)
theorem aCk (r : ByteArray) (b : Bool) (hr : r.size ≤ 1000000000) : (manyS planS r b).v = [] → ObC 35 [.agg [.box 1000 0], .mv (.func 36) [.agg [.box 1000 0]]] [(1000, rdc r b)] [] (fun x o => x = .d (.list 4 []) ∧ o = [(1000, rdc (manyS planS r b).r (manyS planS r b).b)]) := by
 intro hv
 have hT : manyS planS r b = manyS planS r b := rfl
 conv at hT => rhs; unfold manyS
 have h0 := fQ (r := r) (b := b) (c := 59) (least := 0) (Int.le_refl _)
 have h1 := cJ (r := r) (b := b) (c := 59) (least := 0)
 have c1 := eF r b hr
 rcases hq : numS r b 59 0 with ⟨n, q, e⟩
 rw [hq] at hT h0 h1 c1
 dsimp only at hT h0 h1 c1
 have c2 := dV q e
 cases hc : decide ((q.size : Int) < n)
 rotate_left 1
 ·rw [if_pos (of_decide_eq_true hc)] at hT
  rw [hT]
  refine aI Tryz.func35 rfl zg _ Tryz.ntmps35 (aC rfl) rfl (fun w Pr β κ hE => ?_)
  dsimp only [slotsV, Nat.zero_add, Nat.reduceAdd]
  repeat' (first | (apply aB (.box _ _); refine aD (bR rfl nofun rfl (aA rfl) rfl rfl) rfl ?_) | refine oQ [(1000, 1000)] (c1) hE ?_ | refine oQ [(1000, 1000)] (c2) hE ?_ | refine qe ?_ | (refine sQ ?_ ?_ <;> intro hb hq <;> try omega))
  refine aP ([(1000, rdc q e)]) (by rfl) (.x _ _ (.tmp _ _ (ToD.nil 4))) (⟨rfl, rfl⟩) zw (by rfl)
 ·have hc0 := of_decide_eq_false hc
  rw [if_neg hc0] at hT
  obtain ⟨m, rfl⟩ : ∃ m : Nat, n = m := ⟨n.toNat, by omega⟩
  rw [Int.toNat_natCast] at hT
  have hm := jL planS m q e []
  rw [← hT, hv, List.length_nil, Nat.zero_add] at hm
  subst hm
  rw [hT]
  simp only [manyL]
  have qi : decide ((0 : Int) < ((0 : Nat) : Int)) = false := rfl
  refine aI Tryz.func35 rfl zg _ Tryz.ntmps35 (aC rfl) rfl (fun w Pr β κ hE => ?_)
  dsimp only [slotsV, Nat.zero_add, Nat.reduceAdd]
  repeat' (first | (apply aB (.box _ _); refine aD (bR rfl nofun rfl (aA rfl) rfl rfl) rfl ?_) | refine oQ [(1000, 1000)] (c1) hE ?_ | refine oQ [(1000, 1000)] (c2) hE ?_ | refine qe ?_ | (refine sQ ?_ ?_ <;> intro hb hq <;> try omega))
  refine bB (fun N sl ob => N = 0 ∧ sl = [(16, .d (.int 0)), (15, .d (.int ((0 : Nat) : Int))), (6, .d nilD), (2, .box 2 0), (1, .mv (.func 36) [.agg [.box 1000 0]])] ∧ ob = [(2, rdb), (1000, rdc q e)]) (⟨rfl, rfl, rfl⟩) ?_
  rintro N sl ob ⟨rfl, rfl, rfl⟩
  repeat' (first | refine qf ?_ | (refine sQ ?_ ?_ <;> intro hb hq <;> try omega))
  refine aP ([(1000, rdc q e)]) (by rfl) (.x _ _ (.tmp _ _ (ToD.nil 4))) (⟨rfl, rfl⟩) zw (by rfl)
theorem aCm (r : ByteArray) (b : Bool) (hr : r.size ≤ 1000000000) : (manyS promS r b).v = [] → ObC 38 [.agg [.box 1000 0], .mv (.func 39) [.agg [.box 1000 0]]] [(1000, rdc r b)] [] (fun x o => x = .d (.list 15 []) ∧ o = [(1000, rdc (manyS promS r b).r (manyS promS r b).b)]) := by
 intro hv
 have hT : manyS promS r b = manyS promS r b := rfl
 conv at hT => rhs; unfold manyS
 have h0 := fQ (r := r) (b := b) (c := 59) (least := 0) (Int.le_refl _)
 have h1 := cJ (r := r) (b := b) (c := 59) (least := 0)
 have c1 := eF r b hr
 rcases hq : numS r b 59 0 with ⟨n, q, e⟩
 rw [hq] at hT h0 h1 c1
 dsimp only at hT h0 h1 c1
 have c2 := dV q e
 cases hc : decide ((q.size : Int) < n)
 rotate_left 1
 ·rw [if_pos (of_decide_eq_true hc)] at hT
  rw [hT]
  refine aI Tryz.func38 rfl zg _ Tryz.ntmps38 (aC rfl) rfl (fun w Pr β κ hE => ?_)
  dsimp only [slotsV, Nat.zero_add, Nat.reduceAdd]
  repeat' (first | (apply aB (.box _ _); refine aD (bR rfl nofun rfl (aA rfl) rfl rfl) rfl ?_) | refine oQ [(1000, 1000)] (c1) hE ?_ | refine oQ [(1000, 1000)] (c2) hE ?_ | refine qe ?_ | (refine sQ ?_ ?_ <;> intro hb hq <;> try omega))
  refine aP ([(1000, rdc q e)]) (by rfl) (.x _ _ (.tmp _ _ (ToD.nil 15))) (⟨rfl, rfl⟩) zw (by rfl)
 ·have hc0 := of_decide_eq_false hc
  rw [if_neg hc0] at hT
  obtain ⟨m, rfl⟩ : ∃ m : Nat, n = m := ⟨n.toNat, by omega⟩
  rw [Int.toNat_natCast] at hT
  have hm := jL promS m q e []
  rw [← hT, hv, List.length_nil, Nat.zero_add] at hm
  subst hm
  rw [hT]
  simp only [manyL]
  have qi : decide ((0 : Int) < ((0 : Nat) : Int)) = false := rfl
  refine aI Tryz.func38 rfl zg _ Tryz.ntmps38 (aC rfl) rfl (fun w Pr β κ hE => ?_)
  dsimp only [slotsV, Nat.zero_add, Nat.reduceAdd]
  repeat' (first | (apply aB (.box _ _); refine aD (bR rfl nofun rfl (aA rfl) rfl rfl) rfl ?_) | refine oQ [(1000, 1000)] (c1) hE ?_ | refine oQ [(1000, 1000)] (c2) hE ?_ | refine qe ?_ | (refine sQ ?_ ?_ <;> intro hb hq <;> try omega))
  refine bB (fun N sl ob => N = 0 ∧ sl = [(16, .d (.int 0)), (15, .d (.int ((0 : Nat) : Int))), (6, .d nilD), (2, .box 2 0), (1, .mv (.func 39) [.agg [.box 1000 0]])] ∧ ob = [(2, rdb), (1000, rdc q e)]) (⟨rfl, rfl, rfl⟩) ?_
  rintro N sl ob ⟨rfl, rfl, rfl⟩
  repeat' (first | refine qf ?_ | (refine sQ ?_ ?_ <;> intro hb hq <;> try omega))
  refine aP ([(1000, rdc q e)]) (by rfl) (.x _ _ (.tmp _ _ (ToD.nil 15))) (⟨rfl, rfl⟩) zw (by rfl)
theorem aFi (r : ByteArray) (b : Bool) (hr : r.size ≤ 1000000000) : (manyS balS r b).v = [] → ObC 43 [.agg [.box 1000 0], .mv (.func 44) [.agg [.box 1000 0]]] [(1000, rdc r b)] [] (fun x o => x = .d (.list 4 []) ∧ o = [(1000, rdc (manyS balS r b).r (manyS balS r b).b)]) := by
 intro hv
 have hT : manyS balS r b = manyS balS r b := rfl
 conv at hT => rhs; unfold manyS
 have h0 := fQ (r := r) (b := b) (c := 59) (least := 0) (Int.le_refl _)
 have h1 := cJ (r := r) (b := b) (c := 59) (least := 0)
 have c1 := eF r b hr
 rcases hq : numS r b 59 0 with ⟨n, q, e⟩
 rw [hq] at hT h0 h1 c1
 dsimp only at hT h0 h1 c1
 have c2 := dV q e
 cases hc : decide ((q.size : Int) < n)
 rotate_left 1
 ·rw [if_pos (of_decide_eq_true hc)] at hT
  rw [hT]
  refine aI Tryz.func43 rfl zg _ Tryz.ntmps43 (aC rfl) rfl (fun w Pr β κ hE => ?_)
  dsimp only [slotsV, Nat.zero_add, Nat.reduceAdd]
  repeat' (first | (apply aB (.box _ _); refine aD (bR rfl nofun rfl (aA rfl) rfl rfl) rfl ?_) | refine oQ [(1000, 1000)] (c1) hE ?_ | refine oQ [(1000, 1000)] (c2) hE ?_ | refine qe ?_ | (refine sQ ?_ ?_ <;> intro hb hq <;> try omega))
  refine aP ([(1000, rdc q e)]) (by rfl) (.x _ _ (.tmp _ _ (ToD.nil 4))) (⟨rfl, rfl⟩) zw (by rfl)
 ·have hc0 := of_decide_eq_false hc
  rw [if_neg hc0] at hT
  obtain ⟨m, rfl⟩ : ∃ m : Nat, n = m := ⟨n.toNat, by omega⟩
  rw [Int.toNat_natCast] at hT
  have hm := jL balS m q e []
  rw [← hT, hv, List.length_nil, Nat.zero_add] at hm
  subst hm
  rw [hT]
  simp only [manyL]
  have qi : decide ((0 : Int) < ((0 : Nat) : Int)) = false := rfl
  refine aI Tryz.func43 rfl zg _ Tryz.ntmps43 (aC rfl) rfl (fun w Pr β κ hE => ?_)
  dsimp only [slotsV, Nat.zero_add, Nat.reduceAdd]
  repeat' (first | (apply aB (.box _ _); refine aD (bR rfl nofun rfl (aA rfl) rfl rfl) rfl ?_) | refine oQ [(1000, 1000)] (c1) hE ?_ | refine oQ [(1000, 1000)] (c2) hE ?_ | refine qe ?_ | (refine sQ ?_ ?_ <;> intro hb hq <;> try omega))
  refine bB (fun N sl ob => N = 0 ∧ sl = [(16, .d (.int 0)), (15, .d (.int ((0 : Nat) : Int))), (6, .d nilD), (2, .box 2 0), (1, .mv (.func 44) [.agg [.box 1000 0]])] ∧ ob = [(2, rdb), (1000, rdc q e)]) (⟨rfl, rfl, rfl⟩) ?_
  rintro N sl ob ⟨rfl, rfl, rfl⟩
  repeat' (first | refine qf ?_ | (refine sQ ?_ ?_ <;> intro hb hq <;> try omega))
  refine aP ([(1000, rdc q e)]) (by rfl) (.x _ _ (.tmp _ _ (ToD.nil 4))) (⟨rfl, rfl⟩) zw (by rfl)
theorem aFo (r : ByteArray) (b : Bool) (hr : r.size ≤ 1000000000) : (manyS verS r b).v = [] → ObC 40 [.agg [.box 1000 0], .clo (.func 41) [.box 1005 0]] [(1000, rdc r b), (1005, rdb)] [] (fun x o => x = .d (.list 2 []) ∧ o = [(1000, rdc (manyS verS r b).r (manyS verS r b).b), (1005, rdb)]) := by
 intro hv
 have hT : manyS verS r b = manyS verS r b := rfl
 conv at hT => rhs; unfold manyS
 have h0 := fQ (r := r) (b := b) (c := 59) (least := 0) (Int.le_refl _)
 have h1 := cJ (r := r) (b := b) (c := 59) (least := 0)
 have c1 := eF r b hr
 rcases hq : numS r b 59 0 with ⟨n, q, e⟩
 rw [hq] at hT h0 h1 c1
 dsimp only at hT h0 h1 c1
 have c2 := dV q e
 cases hc : decide ((q.size : Int) < n)
 rotate_left 1
 ·rw [if_pos (of_decide_eq_true hc)] at hT
  rw [hT]
  refine aI Tryz.func40 rfl zg _ Tryz.ntmps40 (aC rfl) rfl (fun w Pr β κ hE => ?_)
  dsimp only [slotsV, Nat.zero_add, Nat.reduceAdd]
  repeat' (first | (apply aB (.box _ _); refine aD (bR rfl nofun rfl (aA rfl) rfl rfl) rfl ?_) | refine oQ [(1000, 1000)] (c1) hE ?_ | refine oQ [(1000, 1000)] (c2) hE ?_ | refine qe ?_ | (refine sQ ?_ ?_ <;> intro hb hq <;> try omega))
  refine aP ([(1000, rdc q e), (1005, rdb)]) (by rfl) (.x _ _ (.tmp _ _ (ToD.nil 2))) (⟨rfl, rfl⟩) zw (by rfl)
 ·have hc0 := of_decide_eq_false hc
  rw [if_neg hc0] at hT
  obtain ⟨m, rfl⟩ : ∃ m : Nat, n = m := ⟨n.toNat, by omega⟩
  rw [Int.toNat_natCast] at hT
  have hm := jL verS m q e []
  rw [← hT, hv, List.length_nil, Nat.zero_add] at hm
  subst hm
  rw [hT]
  simp only [manyL]
  have qi : decide ((0 : Int) < ((0 : Nat) : Int)) = false := rfl
  refine aI Tryz.func40 rfl zg _ Tryz.ntmps40 (aC rfl) rfl (fun w Pr β κ hE => ?_)
  dsimp only [slotsV, Nat.zero_add, Nat.reduceAdd]
  repeat' (first | (apply aB (.box _ _); refine aD (bR rfl nofun rfl (aA rfl) rfl rfl) rfl ?_) | refine oQ [(1000, 1000)] (c1) hE ?_ | refine oQ [(1000, 1000)] (c2) hE ?_ | refine qe ?_ | (refine sQ ?_ ?_ <;> intro hb hq <;> try omega))
  refine bB (fun N sl ob => N = 0 ∧ sl = [(16, .d (.int 0)), (15, .d (.int ((0 : Nat) : Int))), (6, .d nilD), (2, .box 2 0), (1, .clo (.func 41) [.box 1005 0])] ∧ ob = [(2, rdb), (1000, rdc q e), (1005, rdb)]) (⟨rfl, rfl, rfl⟩) ?_
  rintro N sl ob ⟨rfl, rfl, rfl⟩
  repeat' (first | refine qf ?_ | (refine sQ ?_ ?_ <;> intro hb hq <;> try omega))
  refine aP ([(1000, rdc q e), (1005, rdb)]) (by rfl) (.x _ _ (.tmp _ _ (ToD.nil 2))) (⟨rfl, rfl⟩) zw (by rfl)
def SSt.bare (s : SSt) : Prop := s.ar = [] ∧ s.se = [] ∧ s.cs = [] ∧ s.pl = [] ∧ s.pm = [] ∧ s.ve = [] ∧ s.bl = []
end
section
open Go.RowKit
structure SPlan.few (p : SPlan) : Prop where
 st : p.st.length ≤ 10
 le : p.le.length ≤ 12
 lv : p.lv.length ≤ 12
structure SBal.few (b : SBal) : Prop where
 t : b.t.size ≤ 500
 ca : b.ca.length ≤ 6
 sh : ∀ c ∈ b.ca, c.sh.length ≤ 6
structure SSt.few (s : SSt) : Prop where
 ar : s.ar.length ≤ 5
 ars : ∀ a ∈ s.ar, a.lo.length ≤ 25 ∧ a.hi.length ≤ 25
 se : s.se.length ≤ 5
 ses : ∀ l ∈ s.se, l.length ≤ 12
 cs : s.cs.length ≤ 5
 pl : s.pl.length ≤ 5
 pls : ∀ p ∈ s.pl, p.few
 dn : s.dn.length ≤ 5
 at_ : s.at_.length ≤ 5
 pm : s.pm.length ≤ 12
 pu : s.pu.length ≤ 12
 fv : s.fv.length ≤ 12
 ve : s.ve.length ≤ 5
 ves : ∀ v ∈ s.ve, v.t.size ≤ 500
 bl : s.bl.length ≤ 5
 bls : ∀ b ∈ s.bl, b.few
theorem SSt.few.ok {s : SSt} (h : s.few) : s.ok where
 ar := by have := h.ar; omega
 ars := fun a ha => by have := h.ars a ha; omega
 se := by have := h.se; omega
 ses := fun l hl => by have := h.ses l hl; omega
 cs := by have := h.cs; omega
 pl := by have := h.pl; omega
 pls := fun p hp => by have k := h.pls p hp; exact ⟨by have := k.st; omega, by have := k.le; omega, by have := k.lv; omega⟩
 dn := by have := h.dn; omega
 at_ := by have := h.at_; omega
 pm := by have := h.pm; omega
 pu := by have := h.pu; omega
 fv := by have := h.fv; omega
 ve := by have := h.ve; omega
 ves := fun v hv => by have := h.ves v hv; omega
 bl := by have := h.bl; omega
 bls := fun b hb => by have k := h.bls b hb; exact ⟨by have := k.t; omega, by have := k.ca; omega, fun c hc => by have := k.sh c hc; omega⟩
structure SSt.came (s : SSt) : Prop where
 ar : s.ar.length ≤ 9223372036854775807
 ars : ∀ a ∈ s.ar, a.lo.length ≤ 9223372036854775807 ∧ a.hi.length ≤ 9223372036854775807
 se : s.se.length ≤ 9223372036854775807
 ses : ∀ l ∈ s.se, l.length ≤ 9223372036854775807
 cs : s.cs.length ≤ 9223372036854775807
 pl : s.pl.length ≤ 9223372036854775807
 pls : ∀ p ∈ s.pl, p.st.length ≤ 9223372036854775807 ∧ p.le.length ≤ 9223372036854775807 ∧ p.lv.length ≤ 9223372036854775807
 dn : s.dn.length ≤ 9223372036854775807
 at_ : s.at_.length ≤ 9223372036854775807
 pm : s.pm.length ≤ 9223372036854775807
 pu : s.pu.length ≤ 9223372036854775807
 fv : s.fv.length ≤ 9223372036854775807
 ve : s.ve.length ≤ 9223372036854775807
 ves : ∀ v ∈ s.ve, v.t.size ≤ 9223372036854775807
 bl : s.bl.length ≤ 9223372036854775807
 bls : ∀ b ∈ s.bl, b.t.size ≤ 9223372036854775807 ∧ b.ca.length ≤ 9223372036854775807 ∧ ∀ c ∈ b.ca, c.sh.length ≤ 9223372036854775807
abbrev FewQ (P : Prop) : D → Prop := fun r => ∃ b : Bool, r = .bool b ∧ (b = true → P)
theorem oC {P : Prop} : FewQ P (.bool false) := ⟨false, rfl, fun h => by cases h⟩
theorem lJ {α : Type} {P : α → Prop} {l : List α} {i : Nat} {z : α} (h : i < l.length) (ha : ∀ x ∈ l.take i, P x) (hx : P (l.getD i z)) : ∀ x ∈ l.take (i + 1), P x := by
 intro x hm
 rw [List.take_succ_eq_append_getElem h, List.mem_append, List.mem_singleton] at hm
 rcases hm with hm | rfl
 ·exact ha x hm
 ·rw [List.getD_eq_getElem?_getD, List.getElem?_eq_getElem h] at hx
  exact hx
theorem aDy (p : SPlan) (h1 : p.st.length ≤ 9223372036854775807) (h2 : p.le.length ≤ 9223372036854775807) (h3 : p.lv.length ≤ 9223372036854775807) : PureC 157 [.agg p.c] (FewQ p.few) := by
 have m1 : (p.st.map SStop.c).length = p.st.length := List.length_map ..
 have m2 : (p.le.map SLeg.c).length = p.le.length := List.length_map ..
 have m3 : (p.lv.map fun n => [D.int n]).length = p.lv.length := List.length_map ..
 refine aE Tryz.func157 rfl zg _ Tryz.ntmps157 (aC rfl) (fun w Pr hE => ?_)
 dsimp only [slotsOf, Nat.zero_add, Nat.reduceAdd]
 repeat' (first | refine ng ?_ | refine vj ?_ | refine xp ?_ | (refine wQ ?_ ?_ <;> intro hb hq <;> try omega))
 all_goals refine rt1 ?_
 all_goals first | exact ⟨_, rfl, fun h => ⟨by simp at *; omega, by simp at *; omega, by simp at *; omega⟩⟩ | exact ⟨_, rfl, fun h => by simp [*] at h⟩
abbrev arcZ : SArc := ⟨0, 0, [], []⟩
abbrev verZ : SVer := ⟨0, ⟨#[]⟩⟩
abbrev crdZ : SCard := ⟨0, []⟩
abbrev balZ : SBal := ⟨⟨#[]⟩, 0, [], false⟩
theorem aNu (s : SSt) (hc : s.came) : PureC 26 [.agg s.c] (FewQ ((∀ p ∈ s.pl, p.few) ∧ ∀ b ∈ s.bl, b.few)) := by
 have k4 := hc.pl
 have k11 := hc.bl
 have m4 : (s.pl.map SPlan.c).length = s.pl.length := List.length_map ..
 have m11 : (s.bl.map SBal.c).length = s.bl.length := List.length_map ..
 refine aE Tryz.func26 rfl zg _ Tryz.ntmps26 (aC rfl) (fun w Pr hE => ?_)
 dsimp only [slotsOf, Nat.zero_add, Nat.reduceAdd]
 repeat' (first | refine vx ?_ | refine xk ?_ | (refine sQ ?_ ?_ <;> intro hb hq <;> try omega))
 refine bB (fun N sl ob => ∃ i : Nat, N = s.pl.length - i ∧ i ≤ s.pl.length ∧ (∀ p ∈ s.pl.take i, p.few) ∧ sl = [(3, .d (.int i)), (1, .box 1 0)] ∧ ob = [(1, s.b)]) (⟨0, rfl, Nat.zero_le _, fun p hp => by simp at hp, rfl, rfl⟩) ?_
 rintro N sl ob ⟨i, rfl, hi, ha, rfl, rfl⟩
 by_cases hlt : i < s.pl.length
 ·have hg := gT (f := SPlan.c) (z := planZ) hlt
  have hm := hc.pls _ (fU (z := planZ) hlt)
  have hn := fun h => lJ (P := SPlan.few) (z := planZ) hlt ha h
  have c1 := aDy (s.pl.getD i planZ) hm.1 hm.2.1 hm.2.2
  have qi : decide ((i : Int) < (s.pl.length : Int)) = true := decide_eq_true zb
  have n0 : (!false) = true := rfl
  have n1 : (!true) = false := rfl
  generalize s.pl.getD i planZ = p at *
  repeat' (first | (apply aB (.indexAddr _ _ _); refine aS hg ?_) | (apply aF; refine bP (c1) hE ?_; (rintro _ ⟨b1, rfl, t1⟩; cases b1)) | refine vl ?_ | refine xq ?_ | (refine sQ ?_ ?_ <;> intro hb hq <;> try omega) | (apply nD; refine qS ?_))
  ·skip
   repeat' (first | refine vl ?_ | refine xe ?_ | refine xz ?_ | (refine sQ ?_ ?_ <;> intro hb hq <;> try omega))
   refine rt1 ?_
   exact oC
  ·have hn2 := hn (t1 rfl)
   clear t1 hn ha
   repeat' (first | refine vb ?_ | refine vl ?_ | refine xz ?_ | (refine sQ ?_ ?_ <;> intro hb hq <;> try omega) | (apply nD; refine qS ?_))
   refine bK (⟨i + 1, rfl, by omega, hn2, rfl, rfl⟩) zb
 obtain rfl : i = s.pl.length := by omega
 rw [List.take_length] at ha
 have qi : decide ((s.pl.length : Int) < (s.pl.length : Int)) = false := decide_eq_false zb
 repeat' (first | refine nq ?_ | refine vq ?_ | (refine sQ ?_ ?_ <;> intro hb hq <;> try omega))
 clear qi hlt hi
 refine bB (fun N sl ob => ∃ i : Nat, N = s.bl.length - i ∧ i ≤ s.bl.length ∧ (∀ b ∈ s.bl.take i, b.few) ∧ sl = [(4, .d (.int i)), (1, .box 1 0)] ∧ ob = [(1, s.b)]) (⟨0, rfl, Nat.zero_le _, fun p hp => by simp at hp, rfl, rfl⟩) ?_
 rintro N sl ob ⟨i, rfl, hi, hb9, rfl, rfl⟩
 by_cases hlt : i < s.bl.length
 ·have hg := gT (f := SBal.c) (z := balZ) hlt
  have hm := hc.bls _ (fU (z := balZ) hlt)
  have hn := fun h => lJ (P := SBal.few) (z := balZ) hlt hb9 h
  have qi : decide ((i : Int) < (s.bl.length : Int)) = true := decide_eq_true zb
  generalize s.bl.getD i balZ = b at *
  obtain ⟨l1, l2, l3⟩ := hm
  have mb : (b.ca.map SCard.c).length = b.ca.length := List.length_map ..
  repeat' (first | (apply aB (.indexAddr _ _ _); refine aS hg ?_) | refine vc ?_ | refine vl ?_ | refine vn ?_ | refine vw ?_ | (refine sQ ?_ ?_ <;> intro hb hq <;> try omega) | (refine wQ ?_ ?_ <;> intro hb hq <;> try omega))
  all_goals try refine rt1 ?_
  all_goals try exact oC
  clear hb9
  refine bB (fun N sl ob => ∃ k : Nat, N = b.ca.length - k ∧ k ≤ b.ca.length ∧ (∀ c ∈ b.ca.take k, c.sh.length ≤ 6) ∧ sl = [(5, .d (.int k)), (4, .d (.int i)), (1, .box 1 0)] ∧ ob = [(1, s.b)]) (⟨0, rfl, Nat.zero_le _, fun p hp => by simp at hp, rfl, rfl⟩) ?_
  rintro N sl ob ⟨k, rfl, hk, hc9, rfl, rfl⟩
  by_cases hkt : k < b.ca.length
  ·have hg2 := gT (f := SCard.c) (z := crdZ) hkt
   have hm2 := l3 _ (fU (z := crdZ) hkt)
   have hn2 := fun h => lJ (P := fun c : SCard => c.sh.length ≤ 6) (z := crdZ) hkt hc9 h
   have qk : decide ((k : Int) < (b.ca.length : Int)) = true := decide_eq_true zb
   generalize b.ca.getD k crdZ = c at *
   have mc : (c.sh.map SShare.c).length = c.sh.length := List.length_map ..
   clear hn hc9
   repeat' (first | (apply aB (.indexAddr _ _ (.tmp 62)); refine aS hg2 ?_) | (apply aB (.indexAddr _ _ _); refine aS hg ?_) | refine vl ?_ | refine xg ?_ | (refine sQ ?_ ?_ <;> intro hb hq <;> try omega) | (apply pK; refine uR ?_))
   all_goals try refine rt1 ?_
   all_goals try exact oC
   refine bK (⟨k + 1, rfl, by omega, hn2 (by simp at *; omega), rfl, rfl⟩) zb
  ·obtain rfl : k = b.ca.length := by omega
   rw [List.take_length] at hc9
   have hn2 := hn ⟨by simp at *; omega, by simp at *; omega, hc9⟩
   have qk : decide ((b.ca.length : Int) < (b.ca.length : Int)) = false := decide_eq_false zb
   clear hn hc9
   repeat' (first | (apply aB (.indexAddr _ _ _); refine aS hg ?_) | refine vl ?_ | refine xg ?_ | (refine sQ ?_ ?_ <;> intro hb hq <;> try omega))
   refine bK (⟨i + 1, rfl, by omega, hn2, rfl, rfl⟩) zb
 obtain rfl : i = s.bl.length := by omega
 rw [List.take_length] at hb9
 have qi : decide ((s.bl.length : Int) < (s.bl.length : Int)) = false := decide_eq_false zb
 repeat' (first | refine nq ?_ | refine vq ?_ | (refine sQ ?_ ?_ <;> intro hb hq <;> try omega))
 refine rt1 ?_
 exact ⟨true, rfl, fun _ => ⟨ha, hb9⟩⟩
end
section
open Go.RowKit
theorem sY (s : SSt) (hc : s.came) : PureC 9 [.agg s.c] (FewQ s.few) := by
 have k1 := hc.ar
 have k2 := hc.se
 have k3 := hc.cs
 have k4 := hc.pl
 have k5 := hc.dn
 have k6 := hc.at_
 have k7 := hc.pm
 have k8 := hc.pu
 have k9 := hc.fv
 have k10 := hc.ve
 have k11 := hc.bl
 have m1 : (s.ar.map SArc.c).length = s.ar.length := List.length_map ..
 have m2 : (s.se.map seenC).length = s.se.length := List.length_map ..
 have m3 : (s.cs.map SCar.c).length = s.cs.length := List.length_map ..
 have m4 : (s.pl.map SPlan.c).length = s.pl.length := List.length_map ..
 have m5 : (s.dn.map fun n => [D.int n]).length = s.dn.length := List.length_map ..
 have m6 : (s.at_.map fun n => [D.int n]).length = s.at_.length := List.length_map ..
 have m7 : (s.pm.map SProm.c).length = s.pm.length := List.length_map ..
 have m8 : (s.pu.map fun n => [D.int n]).length = s.pu.length := List.length_map ..
 have m9 : (s.fv.map fun n => [D.int n]).length = s.fv.length := List.length_map ..
 have m10 : (s.ve.map SVer.c).length = s.ve.length := List.length_map ..
 have m11 : (s.bl.map SBal.c).length = s.bl.length := List.length_map ..
 have cf := aNu s hc
 refine aE Tryz.func9 rfl zg _ Tryz.ntmps9 (aC rfl) (fun w Pr hE => ?_)
 dsimp only [slotsOf, Nat.zero_add, Nat.reduceAdd]
 repeat' (first | refine vk ?_ | refine vn ?_ | refine vw ?_ | refine xp ?_ | (refine sQ ?_ ?_ <;> intro hb hq <;> try omega) | (refine wQ ?_ ?_ <;> intro hb hq <;> try omega))
 all_goals try refine rt1 ?_
 all_goals try exact oC
 have hlen : s.ar.length ≤ 5 ∧ s.se.length ≤ 5 ∧ s.cs.length ≤ 5 ∧ s.pl.length ≤ 5 ∧ s.dn.length ≤ 5 ∧ s.at_.length ≤ 5 ∧ s.pm.length ≤ 12 ∧ s.pu.length ≤ 12 ∧ s.fv.length ≤ 12 ∧ s.ve.length ≤ 5 ∧ s.bl.length ≤ 5 := by simp at *; omega
 repeat (rename_i zz; clear zz)
 clear hb hq
 refine bB (fun N sl ob => ∃ i : Nat, N = s.ar.length - i ∧ i ≤ s.ar.length ∧ (∀ a ∈ s.ar.take i, a.lo.length ≤ 25 ∧ a.hi.length ≤ 25) ∧ sl = [(3, .d (.int i)), (1, .box 1 0)] ∧ ob = [(1, s.b)]) (⟨0, rfl, Nat.zero_le _, fun p hp => by simp at hp, rfl, rfl⟩) ?_
 rintro N sl ob ⟨i, rfl, hi, ha, rfl, rfl⟩
 by_cases hlt : i < s.ar.length
 ·have hg := gT (f := SArc.c) (z := arcZ) hlt
  have hm := hc.ars _ (fU (z := arcZ) hlt)
  have hn := fun h => lJ (P := fun a : SArc => a.lo.length ≤ 25 ∧ a.hi.length ≤ 25) (z := arcZ) hlt ha h
  have qi : decide ((i : Int) < (s.ar.length : Int)) = true := decide_eq_true zb
  generalize s.ar.getD i arcZ = a at *
  have n1 : (a.lo.map fun n => [D.int n]).length = a.lo.length := List.length_map ..
  have n2 : (a.hi.map fun n => [D.int n]).length = a.hi.length := List.length_map ..
  repeat' (first | (apply aB (.indexAddr _ _ _); refine aS hg ?_) | refine vl ?_ | refine vw ?_ | refine xg ?_ | (refine sQ ?_ ?_ <;> intro hb hq <;> try omega) | (refine wQ ?_ ?_ <;> intro hb hq <;> try omega) | (apply pK; refine uR ?_))
  all_goals try refine rt1 ?_
  all_goals try exact oC
  refine bK (⟨i + 1, rfl, by omega, hn ⟨by simp at *; omega, by simp at *; omega⟩, rfl, rfl⟩) zb
 obtain rfl : i = s.ar.length := by omega
 rw [List.take_length] at ha
 have qi : decide ((s.ar.length : Int) < (s.ar.length : Int)) = false := decide_eq_false zb
 repeat' (first | refine nq ?_ | refine vq ?_ | (refine sQ ?_ ?_ <;> intro hb hq <;> try omega))
 clear qi hlt hi
 refine bB (fun N sl ob => ∃ i : Nat, N = s.se.length - i ∧ i ≤ s.se.length ∧ (∀ l ∈ s.se.take i, l.length ≤ 12) ∧ sl = [(4, .d (.int i)), (1, .box 1 0)] ∧ ob = [(1, s.b)]) (⟨0, rfl, Nat.zero_le _, fun p hp => by simp at hp, rfl, rfl⟩) ?_
 rintro N sl ob ⟨i, rfl, hi, hs9, rfl, rfl⟩
 by_cases hlt : i < s.se.length
 ·have hg := gT (f := seenC) (z := []) hlt
  have hm := hc.ses _ (fU (z := []) hlt)
  have hn := fun h => lJ (P := fun l : List SObs => l.length ≤ 12) (z := []) hlt hs9 h
  have qi : decide ((i : Int) < (s.se.length : Int)) = true := decide_eq_true zb
  generalize s.se.getD i [] = l at *
  have n1 : (l.map SObs.c).length = l.length := List.length_map ..
  repeat' (first | (apply aB (.indexAddr _ _ _); refine aS hg ?_) | refine vl ?_ | refine xg ?_ | (refine sQ ?_ ?_ <;> intro hb hq <;> try omega) | (apply pK; refine uR ?_))
  all_goals try refine rt1 ?_
  all_goals try exact oC
  refine bK (⟨i + 1, rfl, by omega, hn (by simp at *; omega), rfl, rfl⟩) zb
 obtain rfl : i = s.se.length := by omega
 rw [List.take_length] at hs9
 have qi : decide ((s.se.length : Int) < (s.se.length : Int)) = false := decide_eq_false zb
 repeat' (first | refine nq ?_ | refine vq ?_ | (refine sQ ?_ ?_ <;> intro hb hq <;> try omega))
 clear qi hlt hi
 refine bB (fun N sl ob => ∃ i : Nat, N = s.ve.length - i ∧ i ≤ s.ve.length ∧ (∀ v ∈ s.ve.take i, v.t.size ≤ 500) ∧ sl = [(5, .d (.int i)), (1, .box 1 0)] ∧ ob = [(1, s.b)]) (⟨0, rfl, Nat.zero_le _, fun p hp => by simp at hp, rfl, rfl⟩) ?_
 rintro N sl ob ⟨i, rfl, hi, hv9, rfl, rfl⟩
 by_cases hlt : i < s.ve.length
 ·have hg := gT (f := SVer.c) (z := verZ) hlt
  have hm := hc.ves _ (fU (z := verZ) hlt)
  have hn := fun h => lJ (P := fun v : SVer => v.t.size ≤ 500) (z := verZ) hlt hv9 h
  have qi : decide ((i : Int) < (s.ve.length : Int)) = true := decide_eq_true zb
  generalize s.ve.getD i verZ = v at *
  repeat' (first | (apply aB (.indexAddr _ _ _); refine aS hg ?_) | refine vl ?_ | refine xg ?_ | (refine sQ ?_ ?_ <;> intro hb hq <;> try omega) | (apply pK; refine uR ?_))
  all_goals try refine rt1 ?_
  all_goals try exact oC
  refine bK (⟨i + 1, rfl, by omega, hn (by simp at *; omega), rfl, rfl⟩) zb
 obtain rfl : i = s.ve.length := by omega
 rw [List.take_length] at hv9
 have qi : decide ((s.ve.length : Int) < (s.ve.length : Int)) = false := decide_eq_false zb
 obtain ⟨l1, l2, l3, l4, l5, l6, l7, l8, l9, l10, l11⟩ := hlen
 repeat' (first | (apply aF; refine bP (cf) hE ?_; rintro _ ⟨b, rfl, t1⟩) | refine nq ?_ | refine vq ?_ | (refine sQ ?_ ?_ <;> intro hb hq <;> try omega))
 refine rt1 ?_
 exact ⟨b, rfl, fun h => ⟨l1, ha, l2, hs9, l3, l4, (t1 h).1, l5, l6, l7, l8, l9, l10, hv9, l11, (t1 h).2⟩⟩
end
end Go.Proofs.YtaodngiigdbgeaaGreatDoor
