/-
  ChargeParts: the legs after a place begin with what those before it leave; a leg that takes nothing makes no difference. Conditions: none.
-/
import Derived.Test.YtlbndoddkialkaaPartsLaw
import Derived.Test.YtlbndoddkialkaaTree
namespace Go.Proofs.Ytlbndoddkialkaa
open Go.ChangeShapes Go.WideShapes Go.ChangeAt Go.RowKit Go.Deep Go.Joins
attribute [-go_sem] sliced

set_option maxHeartbeats 16000000 in
set_option maxRecDepth 100000 in
theorem parts_any (F s : Int) (A : Option Addr) (c : Nat) (us : List P2) (x : Int) (w : World) (h : Two w w.heap.size A us) (hlen : us.length ≤ 9223372036854775807) (hc : us.length ≤ c) (hc' : c ≤ 9223372036854775807) (hx0 : 0 ≤ x) (hx1 : x ≤ 255) :
    Calls Try.prog 6 #[.int .i64 F, .int .i64 s, .slice A us.length c, .int .u8 x] w fun e w' => e = .returned (.bool true) ∧ Below w.heap.size w w' := by
  have hT := h
  obtain ⟨i0, hi, hz0, hz1, hz2⟩ := info_parts info_use
  go_enter Try.func6, Try.ntmps6
  go_wp2_with fail
  refine (small_any _).mono ?_
  rintro e w1 ⟨rfl, hb1⟩
  by_cases hn : us.length ≤ 60
  rotate_left
  · go_wp2_with fail
    go_ret
    exact ⟨rfl, hb1⟩
  have wx : IntKind.i64.wrap x = x := IntWalk.i64_in _ (by omega)
  have wl : IntKind.i64.wrap ((us.length : Int) + 1) = (us.length : Int) + 1 := IntWalk.i64_in _ (by omega)
  have hz : (us.length : Int) + 1 ≠ 0 := by omega
  obtain ⟨k, hk⟩ : ∃ k : Nat, x % ((us.length : Int) + 1) = (k : Int) := ⟨(x % ((us.length : Int) + 1)).toNat, by
    have := Int.emod_nonneg x hz
    omega⟩
  have hkl : k ≤ us.length := by
    have := Int.emod_lt_of_pos x (show 0 < (us.length : Int) + 1 by omega)
    omega
  go_wp2_with fail
  clear wx wl hz
  rw [hk]
  clear hk
  refine (run_any2 _ _ _ _ _ _ (two_ext h hb1) hlen).mono ?_
  rintro e w2 ⟨A1, c1, A2, c2, kk, rfl, n1, n2, hx2⟩
  have hb2 := hb1.trans (hx2.mono hb1.size)
  cases hok : okRun F s us
  · have e1 : runE F s us = 1 := by simp [runE, hok]
    rw [e1]
    clear e1 hok n1 n2
    go_wp2_with fail
    go_ret
    exact ⟨rfl, hb2⟩
  cases hf : firstLow F s us with
  | some i =>
    have e1 : runE F s us = 28 := by simp [runE, hok, hf]
    rw [e1]
    clear e1 hok hf n1 n2
    go_wp2_with fail
    go_ret
    exact ⟨rfl, hb2⟩
  | none =>
    have e1 : runE F s us = 0 := by simp [runE, hok, hf]
    have e3 : runL F s us = lows F s us us.length := by simp [runL, hok, hf]
    have e4 : runH F s us = highs F s us us.length := by simp [runH, hok, hf]
    rw [e3] at n1
    rw [e4] at n2
    rw [e3, e4, lows_length, highs_length] at kk
    rw [e1, e3, e4, lows_length, highs_length]
    unfold maxLen at kk
    obtain ⟨hr, hs0, hs1⟩ := okRun_parts hok
    have HR := Lib.hid hr
    have HF := Lib.hid hf
    have HS0 := Lib.hid hs0
    have HS1 := Lib.hid hs1
    clear e1 e3 e4 hok hf hr hs0 hs1
    have i0' : (0 : Int) ≤ (k : Int) := by omega
    have i1' : (k : Int) ≤ (c : Int) := by omega
    have i2' : (k : Int) ≤ (us.length : Int) := by omega
    have hlt : (us.take k).length = k := by simp; omega
    go_wp2_with fail
    refine (run_n F s _ k _ (us.take k) w2 hlt (Two.cut (a := 0) (m := c) (two_ext h hb2) (Nat.zero_le _) hkl hc) (by omega)).mono ?_
    obtain ⟨q1, q2, q3⟩ := run_take HR.out HS0.out HS1.out HF.out hkl
    unfold RunSays
    rw [q1, q2, q3]
    clear q1 q2 q3
    rintro e w3 ⟨A3, c3, A4, c4, rfl, n3, n4, hx3⟩
    have hb3 := hb2.trans (hx3.mono hb2.size)
    have n1 := num_ext n1 hx3
    have n2 := num_ext n2 hx3
    have hL := lows_length F s us us.length
    have hH := highs_length F s us us.length
    have hLk : ((lows F s us us.length).take k).length = k := by simp; omega
    have hHk : ((highs F s us us.length).take k).length = k := by simp; omega
    rw [hLk, hHk]
    have j1 : (k : Int) ≤ (c1 : Int) := by omega
    have j2 : (k : Int) ≤ (c2 : Int) := by omega
    go_wp2_with fail
    refine (ints_n A3 _ k k c3 _ _ _ w3 hLk hLk n3 (n1.cut (a := 0) (b := k) (m := c1) (Nat.zero_le _) (by omega) (by omega)) (by omega) (by omega)).mono ?_
    rw [decide_eq_true rfl]
    rintro e w4 ⟨rfl, hx4⟩
    have hb4 := hb3.trans (hx4.mono hb3.size)
    have n1 := num_ext n1 hx4
    have n2 := num_ext n2 hx4
    have n4 := num_ext n4 hx4
    go_wp2_with fail
    refine (ints_n A4 _ k k c4 _ _ _ w4 hHk hHk n4 (n2.cut (a := 0) (b := k) (m := c2) (Nat.zero_le _) (by omega) (by omega)) (by omega) (by omega)).mono ?_
    rw [decide_eq_true rfl]
    rintro e w5 ⟨rfl, hx5⟩
    have hb5 := hb4.trans (hx5.mono hb4.size)
    have n1 := num_ext n1 hx5
    have n2 := num_ext n2 hx5
    clear n3 n4 hx2 hx3 hx4 hx5
    by_cases hk0 : 0 < k
    · have hkm : k - 1 < us.length := by omega
      obtain ⟨ba, oa, rfl, hba, e0⟩ := n1.at_n (k := k - 1) (by omega) (lows_get _ _ _ _ _ _)
      obtain ⟨bb, ob, rfl, hbb, e1⟩ := n2.at_n (k := k - 1) (by omega) (highs_get _ _ _ _ _ _)
      rw [show k - 1 + 1 = k from by omega] at e0 e1
      have wk : IntKind.i64.wrap ((k : Int) - 1) = ((k - 1 : Nat) : Int) := by rw [IntWalk.i64_in _ (by omega)]; omega
      have m0 : (0 : Int) ≤ ((k - 1 : Nat) : Int) := by omega
      have m1 : ((k - 1 : Nat) : Int) < (us.length : Int) := by omega
      go_wp2_with fail
      have hdl : (us.drop k).length = us.length - k := by simp
      have p7 : needL (us.drop k) ≤ lowAt F s us k := by
        have q := (needs_three HR.out HS0.out HS1.out HF.out hn hkl).2.2.2
        try rw [hL0] at q
        exact q
      have htk : us.take us.length = us := List.take_length
      have htl : (lows F s us us.length).take us.length = lows F s us us.length := List.take_of_length_le (by omega)
      have hth : (highs F s us us.length).take us.length = highs F s us us.length := List.take_of_length_le (by omega)
      have hTc := Two.cut (a := k) (m := c) (two_ext hT hb5) hkl (Nat.le_refl us.length) hc
      rw [htk] at hTc
      refine (run_n F (lowAt F s us k) _ (us.length - k) _ (us.drop k) w5 hdl hTc (by omega)).mono ?_
      obtain ⟨q1, q2⟩ := run_dropL HR.out HS0.out HS1.out HF.out hkl
      try rw [hL0] at q1 q2
      unfold RunSays
      rw [show runE F (lowAt F s us k) (us.drop k) = 0 from q1, show runL F (lowAt F s us k) (us.drop k) = _ from q2]
      clear q1 q2
      rintro e w6 ⟨A5, c5, A6, c6, rfl, n5, _, hx6⟩
      have hb6 := hb5.trans (hx6.mono hb5.size)
      have n1 := num_ext n1 hx6
      have n2 := num_ext n2 hx6
      go_wp2_with fail
      have hTd := Two.cut (a := k) (m := c) (two_ext hT hb6) hkl (Nat.le_refl us.length) hc
      rw [htk] at hTd
      refine (run_n F (highAt F s us k) _ (us.length - k) _ (us.drop k) w6 hdl hTd (by omega)).mono ?_
      obtain ⟨q1, q2⟩ := run_dropH HR.out HS0.out HS1.out HF.out hkl
      try rw [hH0] at q1 q2
      unfold RunSays
      rw [show runE F (highAt F s us k) (us.drop k) = 0 from q1, show runH F (highAt F s us k) (us.drop k) = _ from q2]
      clear q1 q2
      rintro e w7 ⟨A7, c7, A8, c8, rfl, _, n8, hx7⟩
      have hb7 := hb6.trans (hx7.mono hb6.size)
      have n1 := num_ext n1 hx7
      have n2 := num_ext n2 hx7
      have n5 := num_ext n5 hx7
      have hLd : ((lows F s us us.length).drop k).length = us.length - k := by simp; omega
      have hHd : ((highs F s us us.length).drop k).length = us.length - k := by simp; omega
      go_wp2_with fail
      have n1c := n1.cut (a := k) (b := us.length) (m := c1) hkl (by omega) (by omega)
      rw [htl] at n1c
      refine (ints_n A5 _ (us.length - k) (us.length - k) c5 (c1 - k) _ ((lows F s us us.length).drop k) w7 hLd hLd n5 n1c (by omega) (by omega)).mono ?_
      rw [decide_eq_true rfl]
      rintro e w8 ⟨rfl, hx8⟩
      have hb8 := hb7.trans (hx8.mono hb7.size)
      have n2 := num_ext n2 hx8
      have n8 := num_ext n8 hx8
      go_wp2_with fail
      have n2c := n2.cut (a := k) (b := us.length) (m := c2) hkl (by omega) (by omega)
      rw [hth] at n2c
      refine (ints_n A8 _ (us.length - k) (us.length - k) c8 (c2 - k) _ ((highs F s us us.length).drop k) w8 hHd hHd n8 n2c (by omega) (by omega)).mono ?_
      rw [decide_eq_true rfl]
      rintro e w9 ⟨rfl, hx9⟩
      have hb9 := hb8.trans (hx9.mono hb8.size)
      have hTk := Two.cut (a := 0) (m := c) (two_ext hT hb9) (Nat.zero_le _) hkl hc
      unfold Two at hTk
      rw [List.drop_zero, hlt] at hTk
      have hTd := Two.cut (a := k) (m := c) (two_ext hT hb9) hkl (Nat.le_refl us.length) hc
      rw [htk] at hTd
      unfold Two at hTd
      rw [hdl] at hTd
      clear n1 n2 n5 n8 hx6 hx7 hx8 hx9 hLd hHd hL hH hLk hHk
      go_wp2_with fail
      refine wp_region_tree (.free 1 (.free 2 (.free 3 (.free 5 (.free 8 (.free 9 (.free 10 (.fork (.alt 0 (.fork (.alt 4 (.only 6 (.only 7 (.only 11 .tail))) (.alt 6 (.only 4 (.only 7 (.only 11 .tail))) .stop))) (.alt 6 (.only 0 (.only 4 (.only 7 (.only 11 .tail)))) .stop)))))))))) [12] (SB w9.heap.size w9 w9.heap.size none _) (by kernel_rfl) (by kernel_rfl) (by kernel_rfl) (by kernel_rfl) rfl (by decide) (SB.start (Below.refl _ _) (by omega)) (fun hS => ?_)
      repeat (first
        | (refine tree_skip (by rfl) (by rfl) ?_; try simp only [Act.put, List.setIfInBounds_toArray, List.set_cons_zero, List.set_cons_succ])
        | (refine tree_pass (by rfl) hS (by rfl) ?_; try simp only [Act.put, List.setIfInBounds_toArray, List.set_cons_zero, List.set_cons_succ])
        | (refine tree_pure (by rfl) (by rfl) (by rfl) (fun K hK => ?_); go_big_quiet_op; refine hK _ ?_; clear hK K)
        | (refine tree_take (by rfl) (by rfl) ?_
           apply Exists.intro
           refine ⟨?_, ?_⟩
           · intro w' hSw
             have hSc := hSw.cell
             clear hSw
             go_simp
             try with_reducible rfl
           try simp only [Act.put, List.setIfInBounds_toArray, List.set_cons_zero, List.set_cons_succ])
        | (refine tree_move (by rfl) (by rfl) (fun K hK => ?_)
           first
             | (have own := own7; refine at_append rfl ?_; refine wp_app _ _ 22 rfl w9.heap.size 35 i0 _ 2 16 Try.underlying22 hi hz0 hz1 hz2 rfl (by decide) _ _ (0 + k + 1) _ rfl own7 w9.heap.size _ (us.length - k) _ (P2.cells (us.drop k)) rfl (hTd.below hS.below) (P2.oneCells _) hS.below.size (by omega) (by omega) ?_; intro v11 wC own11 hx hg)
             | (have own := own4; refine at_append rfl ?_; (refine wp_app _ _ 22 rfl w9.heap.size 35 i0 _ 2 16 Try.underlying22 hi hz0 hz1 hz2 rfl (by decide) _ _ (0 + k) _ rfl (by first | exact own4 | exact own4.alloc _) _ _ 1 _ [.int .i64 0, .int .i64 0] rfl (by first | exact shows_lit (lit_new _ _) (Nat.lt_succ_self _) rfl | exact shows_lit (lit_second rfl hg4 (by simp)) (Nat.lt_succ_self _) rfl | exact shows_lit (lit_first hg4 (by simp)) (Nat.lt_succ_self _) rfl) (by decide) hS.below.size (by omega) (by omega) ?_); clear own own4; intro v7 wB own7 hx hg)
             | (refine at_append rfl ?_; (refine wp_app _ _ 22 rfl w9.heap.size 35 i0 _ 2 16 Try.underlying22 hi hz0 hz1 hz2 rfl (by decide) _ _ 0 [] rfl (by first | exact (World.ownsRow_lit w9 #[] 0 (Nat.le_refl _) (by decide) rfl).drew | exact ((World.ownsRow_lit w9 #[] 0 (Nat.le_refl _) (by decide) rfl).alloc _).drew | exact own_second rfl) w9.heap.size _ k _ (P2.cells (us.take k)) rfl (hTk.below hS.below) (P2.oneCells _) hS.below.size (by omega) (by omega) ?_); intro v4 wA own4 hx hg; first | have hg4 : World.grownBy _ wA (some w9.heap.size) := hg | have hg4 : World.grownBy _ wA (some (w9.heap.size + 1)) := hg)
             | go_simp
           try dsimp only
           first
             | refine hK.out _ _ (hS.step hx (by omega)) ?_
             | refine hK.out _ _ hS ?_
             | refine hK.out _ _ (hS.alloc _ (by omega)) ?_
             | refine hK.out _ _ (hS.grown hg hx) ?_
             | refine hK.out _ _ (hS.turned hx (by omega)) ?_
           clear hK K hS
           intro hS
           try simp only [Act.put, List.setIfInBounds_toArray, List.set_cons_zero, List.set_cons_succ])
        | fail)
      refine tree_fork (tree_alt ?_ (tree_alt ?_ (tree_stop)))
      · skip
        repeat (first
          | (refine tree_skip (by rfl) (by rfl) ?_; try simp only [Act.put, List.setIfInBounds_toArray, List.set_cons_zero, List.set_cons_succ])
          | (refine tree_pass (by rfl) hS (by rfl) ?_; try simp only [Act.put, List.setIfInBounds_toArray, List.set_cons_zero, List.set_cons_succ])
          | (refine tree_pure (by rfl) (by rfl) (by rfl) (fun K hK => ?_); go_big_quiet_op; refine hK _ ?_; clear hK K)
          | (refine tree_take (by rfl) (by rfl) ?_
             apply Exists.intro
             refine ⟨?_, ?_⟩
             · intro w' hSw
               have hSc := hSw.cell
               clear hSw
               go_simp
               try with_reducible rfl
             try simp only [Act.put, List.setIfInBounds_toArray, List.set_cons_zero, List.set_cons_succ])
          | (refine tree_move (by rfl) (by rfl) (fun K hK => ?_)
             first
               | (have own := own7; refine at_append rfl ?_; refine wp_app _ _ 22 rfl w9.heap.size 35 i0 _ 2 16 Try.underlying22 hi hz0 hz1 hz2 rfl (by decide) _ _ (0 + k + 1) _ rfl own7 w9.heap.size _ (us.length - k) _ (P2.cells (us.drop k)) rfl (hTd.below hS.below) (P2.oneCells _) hS.below.size (by omega) (by omega) ?_; intro v11 wC own11 hx hg)
               | (have own := own4; refine at_append rfl ?_; (refine wp_app _ _ 22 rfl w9.heap.size 35 i0 _ 2 16 Try.underlying22 hi hz0 hz1 hz2 rfl (by decide) _ _ (0 + k) _ rfl (by first | exact own4 | exact own4.alloc _) _ _ 1 _ [.int .i64 0, .int .i64 0] rfl (by first | exact shows_lit (lit_new _ _) (Nat.lt_succ_self _) rfl | exact shows_lit (lit_second rfl hg4 (by simp)) (Nat.lt_succ_self _) rfl | exact shows_lit (lit_first hg4 (by simp)) (Nat.lt_succ_self _) rfl) (by decide) hS.below.size (by omega) (by omega) ?_); clear own own4; intro v7 wB own7 hx hg)
               | (refine at_append rfl ?_; (refine wp_app _ _ 22 rfl w9.heap.size 35 i0 _ 2 16 Try.underlying22 hi hz0 hz1 hz2 rfl (by decide) _ _ 0 [] rfl (by first | exact (World.ownsRow_lit w9 #[] 0 (Nat.le_refl _) (by decide) rfl).drew | exact ((World.ownsRow_lit w9 #[] 0 (Nat.le_refl _) (by decide) rfl).alloc _).drew | exact own_second rfl) w9.heap.size _ k _ (P2.cells (us.take k)) rfl (hTk.below hS.below) (P2.oneCells _) hS.below.size (by omega) (by omega) ?_); intro v4 wA own4 hx hg; first | have hg4 : World.grownBy _ wA (some w9.heap.size) := hg | have hg4 : World.grownBy _ wA (some (w9.heap.size + 1)) := hg)
               | go_simp
             try dsimp only
             first
               | refine hK.out _ _ (hS.step hx (by omega)) ?_
               | refine hK.out _ _ hS ?_
               | refine hK.out _ _ (hS.alloc _ (by omega)) ?_
               | refine hK.out _ _ (hS.grown hg hx) ?_
               | refine hK.out _ _ (hS.turned hx (by omega)) ?_
             clear hK K hS
             intro hS
             try simp only [Act.put, List.setIfInBounds_toArray, List.set_cons_zero, List.set_cons_succ])
          | fail)
        refine tree_fork (tree_alt ?_ (tree_alt ?_ (tree_stop)))
        · skip
          repeat (first
            | (refine tree_skip (by rfl) (by rfl) ?_; try simp only [Act.put, List.setIfInBounds_toArray, List.set_cons_zero, List.set_cons_succ])
            | (refine tree_pass (by rfl) hS (by rfl) ?_; try simp only [Act.put, List.setIfInBounds_toArray, List.set_cons_zero, List.set_cons_succ])
            | (refine tree_pure (by rfl) (by rfl) (by rfl) (fun K hK => ?_); go_big_quiet_op; refine hK _ ?_; clear hK K)
            | (refine tree_take (by rfl) (by rfl) ?_
               apply Exists.intro
               refine ⟨?_, ?_⟩
               · intro w' hSw
                 have hSc := hSw.cell
                 clear hSw
                 go_simp
                 try with_reducible rfl
               try simp only [Act.put, List.setIfInBounds_toArray, List.set_cons_zero, List.set_cons_succ])
            | (refine tree_move (by rfl) (by rfl) (fun K hK => ?_)
               first
                 | (have own := own7; refine at_append rfl ?_; refine wp_app _ _ 22 rfl w9.heap.size 35 i0 _ 2 16 Try.underlying22 hi hz0 hz1 hz2 rfl (by decide) _ _ (0 + k + 1) _ rfl own7 w9.heap.size _ (us.length - k) _ (P2.cells (us.drop k)) rfl (hTd.below hS.below) (P2.oneCells _) hS.below.size (by omega) (by omega) ?_; intro v11 wC own11 hx hg)
                 | (have own := own4; refine at_append rfl ?_; (refine wp_app _ _ 22 rfl w9.heap.size 35 i0 _ 2 16 Try.underlying22 hi hz0 hz1 hz2 rfl (by decide) _ _ (0 + k) _ rfl (by first | exact own4 | exact own4.alloc _) _ _ 1 _ [.int .i64 0, .int .i64 0] rfl (by first | exact shows_lit (lit_new _ _) (Nat.lt_succ_self _) rfl | exact shows_lit (lit_second rfl hg4 (by simp)) (Nat.lt_succ_self _) rfl | exact shows_lit (lit_first hg4 (by simp)) (Nat.lt_succ_self _) rfl) (by decide) hS.below.size (by omega) (by omega) ?_); clear own own4; intro v7 wB own7 hx hg)
                 | (refine at_append rfl ?_; (refine wp_app _ _ 22 rfl w9.heap.size 35 i0 _ 2 16 Try.underlying22 hi hz0 hz1 hz2 rfl (by decide) _ _ 0 [] rfl (by first | exact (World.ownsRow_lit w9 #[] 0 (Nat.le_refl _) (by decide) rfl).drew | exact ((World.ownsRow_lit w9 #[] 0 (Nat.le_refl _) (by decide) rfl).alloc _).drew | exact own_second rfl) w9.heap.size _ k _ (P2.cells (us.take k)) rfl (hTk.below hS.below) (P2.oneCells _) hS.below.size (by omega) (by omega) ?_); intro v4 wA own4 hx hg; first | have hg4 : World.grownBy _ wA (some w9.heap.size) := hg | have hg4 : World.grownBy _ wA (some (w9.heap.size + 1)) := hg)
                 | go_simp
               try dsimp only
               first
                 | refine hK.out _ _ (hS.step hx (by omega)) ?_
                 | refine hK.out _ _ hS ?_
                 | refine hK.out _ _ (hS.alloc _ (by omega)) ?_
                 | refine hK.out _ _ (hS.grown hg hx) ?_
                 | refine hK.out _ _ (hS.turned hx (by omega)) ?_
               clear hK K hS
               intro hS
               try simp only [Act.put, List.setIfInBounds_toArray, List.set_cons_zero, List.set_cons_succ])
            | fail)
          refine tree_tail ?_
          simp only [tailed, List.filterMap_cons, List.filterMap_nil, List.getElem?_cons_zero, List.getElem?_cons_succ]
          go_wp2_with fail
          refine NoPanic.normal ?_
          have hbX := hb9.trans (hS.below.mono hb9.size)
          obtain ⟨AI, cI, rfl, hI⟩ := shows_of_own own11
          generalize hnI : 0 + k + 1 + (us.length - k) = nI at hI ⊢
          obtain ⟨hI, eI⟩ := idle_two hI (by omega) hkl (by simp)
          obtain ⟨⟨p1, p2⟩, ⟨p3, p4⟩, ⟨p5, p6⟩, _⟩ := needs_three HR.out HS0.out HS1.out HF.out hn hkl
          clear own11 own7 hg hx hg4
          go_wp2_with fail
          refine (need_n F _ us.length _ us wC rfl (two_ext hT hbX)).mono ?_
          rw [p1, p2]
          rintro e wD ⟨rfl, hxD⟩
          have hbD := hbX.trans (hxD.mono hbX.size)
          go_wp2_with fail
          refine (need_n F _ nI _ (idle us k) wD eI (two_ext hI hxD)).mono ?_
          rw [p3, p4]
          rintro e wE ⟨rfl, hxE⟩
          have hbE := hbD.trans (hxE.mono hbD.size)
          go_wp2_with fail
          have hTc := Two.cut (a := k) (m := c) (two_ext hT hbE) hkl (Nat.le_refl us.length) hc
          rw [htk] at hTc
          refine (need_n F _ (us.length - k) _ (us.drop k) wE hdl hTc).mono ?_
          rw [p5, p6]
          rintro e wF ⟨rfl, hxF⟩
          have hbF := hbE.trans (hxF.mono hbE.size)
          go_wp2_with fail
          go_ret
          exact ⟨rfl, hbF⟩
        · skip
          repeat (first
            | (refine tree_skip (by rfl) (by rfl) ?_; try simp only [Act.put, List.setIfInBounds_toArray, List.set_cons_zero, List.set_cons_succ])
            | (refine tree_pass (by rfl) hS (by rfl) ?_; try simp only [Act.put, List.setIfInBounds_toArray, List.set_cons_zero, List.set_cons_succ])
            | (refine tree_pure (by rfl) (by rfl) (by rfl) (fun K hK => ?_); go_big_quiet_op; refine hK _ ?_; clear hK K)
            | (refine tree_take (by rfl) (by rfl) ?_
               apply Exists.intro
               refine ⟨?_, ?_⟩
               · intro w' hSw
                 have hSc := hSw.cell
                 clear hSw
                 go_simp
                 try with_reducible rfl
               try simp only [Act.put, List.setIfInBounds_toArray, List.set_cons_zero, List.set_cons_succ])
            | (refine tree_move (by rfl) (by rfl) (fun K hK => ?_)
               first
                 | (have own := own7; refine at_append rfl ?_; refine wp_app _ _ 22 rfl w9.heap.size 35 i0 _ 2 16 Try.underlying22 hi hz0 hz1 hz2 rfl (by decide) _ _ (0 + k + 1) _ rfl own7 w9.heap.size _ (us.length - k) _ (P2.cells (us.drop k)) rfl (hTd.below hS.below) (P2.oneCells _) hS.below.size (by omega) (by omega) ?_; intro v11 wC own11 hx hg)
                 | (have own := own4; refine at_append rfl ?_; (refine wp_app _ _ 22 rfl w9.heap.size 35 i0 _ 2 16 Try.underlying22 hi hz0 hz1 hz2 rfl (by decide) _ _ (0 + k) _ rfl (by first | exact own4 | exact own4.alloc _) _ _ 1 _ [.int .i64 0, .int .i64 0] rfl (by first | exact shows_lit (lit_new _ _) (Nat.lt_succ_self _) rfl | exact shows_lit (lit_second rfl hg4 (by simp)) (Nat.lt_succ_self _) rfl | exact shows_lit (lit_first hg4 (by simp)) (Nat.lt_succ_self _) rfl) (by decide) hS.below.size (by omega) (by omega) ?_); clear own own4; intro v7 wB own7 hx hg)
                 | (refine at_append rfl ?_; (refine wp_app _ _ 22 rfl w9.heap.size 35 i0 _ 2 16 Try.underlying22 hi hz0 hz1 hz2 rfl (by decide) _ _ 0 [] rfl (by first | exact (World.ownsRow_lit w9 #[] 0 (Nat.le_refl _) (by decide) rfl).drew | exact ((World.ownsRow_lit w9 #[] 0 (Nat.le_refl _) (by decide) rfl).alloc _).drew | exact own_second rfl) w9.heap.size _ k _ (P2.cells (us.take k)) rfl (hTk.below hS.below) (P2.oneCells _) hS.below.size (by omega) (by omega) ?_); intro v4 wA own4 hx hg; first | have hg4 : World.grownBy _ wA (some w9.heap.size) := hg | have hg4 : World.grownBy _ wA (some (w9.heap.size + 1)) := hg)
                 | go_simp
               try dsimp only
               first
                 | refine hK.out _ _ (hS.step hx (by omega)) ?_
                 | refine hK.out _ _ hS ?_
                 | refine hK.out _ _ (hS.alloc _ (by omega)) ?_
                 | refine hK.out _ _ (hS.grown hg hx) ?_
                 | refine hK.out _ _ (hS.turned hx (by omega)) ?_
               clear hK K hS
               intro hS
               try simp only [Act.put, List.setIfInBounds_toArray, List.set_cons_zero, List.set_cons_succ])
            | fail)
          refine tree_tail ?_
          simp only [tailed, List.filterMap_cons, List.filterMap_nil, List.getElem?_cons_zero, List.getElem?_cons_succ]
          go_wp2_with fail
          refine NoPanic.normal ?_
          have hbX := hb9.trans (hS.below.mono hb9.size)
          obtain ⟨AI, cI, rfl, hI⟩ := shows_of_own own11
          generalize hnI : 0 + k + 1 + (us.length - k) = nI at hI ⊢
          obtain ⟨hI, eI⟩ := idle_two hI (by omega) hkl (by simp)
          obtain ⟨⟨p1, p2⟩, ⟨p3, p4⟩, ⟨p5, p6⟩, _⟩ := needs_three HR.out HS0.out HS1.out HF.out hn hkl
          clear own11 own7 hg hx hg4
          go_wp2_with fail
          refine (need_n F _ us.length _ us wC rfl (two_ext hT hbX)).mono ?_
          rw [p1, p2]
          rintro e wD ⟨rfl, hxD⟩
          have hbD := hbX.trans (hxD.mono hbX.size)
          go_wp2_with fail
          refine (need_n F _ nI _ (idle us k) wD eI (two_ext hI hxD)).mono ?_
          rw [p3, p4]
          rintro e wE ⟨rfl, hxE⟩
          have hbE := hbD.trans (hxE.mono hbD.size)
          go_wp2_with fail
          have hTc := Two.cut (a := k) (m := c) (two_ext hT hbE) hkl (Nat.le_refl us.length) hc
          rw [htk] at hTc
          refine (need_n F _ (us.length - k) _ (us.drop k) wE hdl hTc).mono ?_
          rw [p5, p6]
          rintro e wF ⟨rfl, hxF⟩
          have hbF := hbE.trans (hxF.mono hbE.size)
          go_wp2_with fail
          go_ret
          exact ⟨rfl, hbF⟩
      · skip
        repeat (first
          | (refine tree_skip (by rfl) (by rfl) ?_; try simp only [Act.put, List.setIfInBounds_toArray, List.set_cons_zero, List.set_cons_succ])
          | (refine tree_pass (by rfl) hS (by rfl) ?_; try simp only [Act.put, List.setIfInBounds_toArray, List.set_cons_zero, List.set_cons_succ])
          | (refine tree_pure (by rfl) (by rfl) (by rfl) (fun K hK => ?_); go_big_quiet_op; refine hK _ ?_; clear hK K)
          | (refine tree_take (by rfl) (by rfl) ?_
             apply Exists.intro
             refine ⟨?_, ?_⟩
             · intro w' hSw
               have hSc := hSw.cell
               clear hSw
               go_simp
               try with_reducible rfl
             try simp only [Act.put, List.setIfInBounds_toArray, List.set_cons_zero, List.set_cons_succ])
          | (refine tree_move (by rfl) (by rfl) (fun K hK => ?_)
             first
               | (have own := own7; refine at_append rfl ?_; refine wp_app _ _ 22 rfl w9.heap.size 35 i0 _ 2 16 Try.underlying22 hi hz0 hz1 hz2 rfl (by decide) _ _ (0 + k + 1) _ rfl own7 w9.heap.size _ (us.length - k) _ (P2.cells (us.drop k)) rfl (hTd.below hS.below) (P2.oneCells _) hS.below.size (by omega) (by omega) ?_; intro v11 wC own11 hx hg)
               | (have own := own4; refine at_append rfl ?_; (refine wp_app _ _ 22 rfl w9.heap.size 35 i0 _ 2 16 Try.underlying22 hi hz0 hz1 hz2 rfl (by decide) _ _ (0 + k) _ rfl (by first | exact own4 | exact own4.alloc _) _ _ 1 _ [.int .i64 0, .int .i64 0] rfl (by first | exact shows_lit (lit_new _ _) (Nat.lt_succ_self _) rfl | exact shows_lit (lit_second rfl hg4 (by simp)) (Nat.lt_succ_self _) rfl | exact shows_lit (lit_first hg4 (by simp)) (Nat.lt_succ_self _) rfl) (by decide) hS.below.size (by omega) (by omega) ?_); clear own own4; intro v7 wB own7 hx hg)
               | (refine at_append rfl ?_; (refine wp_app _ _ 22 rfl w9.heap.size 35 i0 _ 2 16 Try.underlying22 hi hz0 hz1 hz2 rfl (by decide) _ _ 0 [] rfl (by first | exact (World.ownsRow_lit w9 #[] 0 (Nat.le_refl _) (by decide) rfl).drew | exact ((World.ownsRow_lit w9 #[] 0 (Nat.le_refl _) (by decide) rfl).alloc _).drew | exact own_second rfl) w9.heap.size _ k _ (P2.cells (us.take k)) rfl (hTk.below hS.below) (P2.oneCells _) hS.below.size (by omega) (by omega) ?_); intro v4 wA own4 hx hg; first | have hg4 : World.grownBy _ wA (some w9.heap.size) := hg | have hg4 : World.grownBy _ wA (some (w9.heap.size + 1)) := hg)
               | go_simp
             try dsimp only
             first
               | refine hK.out _ _ (hS.step hx (by omega)) ?_
               | refine hK.out _ _ hS ?_
               | refine hK.out _ _ (hS.alloc _ (by omega)) ?_
               | refine hK.out _ _ (hS.grown hg hx) ?_
               | refine hK.out _ _ (hS.turned hx (by omega)) ?_
             clear hK K hS
             intro hS
             try simp only [Act.put, List.setIfInBounds_toArray, List.set_cons_zero, List.set_cons_succ])
          | fail)
        refine tree_tail ?_
        simp only [tailed, List.filterMap_cons, List.filterMap_nil, List.getElem?_cons_zero, List.getElem?_cons_succ]
        go_wp2_with fail
        refine NoPanic.normal ?_
        have hbX := hb9.trans (hS.below.mono hb9.size)
        obtain ⟨AI, cI, rfl, hI⟩ := shows_of_own own11
        generalize hnI : 0 + k + 1 + (us.length - k) = nI at hI ⊢
        obtain ⟨hI, eI⟩ := idle_two hI (by omega) hkl (by simp)
        obtain ⟨⟨p1, p2⟩, ⟨p3, p4⟩, ⟨p5, p6⟩, _⟩ := needs_three HR.out HS0.out HS1.out HF.out hn hkl
        clear own11 own7 hg hx hg4
        go_wp2_with fail
        refine (need_n F _ us.length _ us wC rfl (two_ext hT hbX)).mono ?_
        rw [p1, p2]
        rintro e wD ⟨rfl, hxD⟩
        have hbD := hbX.trans (hxD.mono hbX.size)
        go_wp2_with fail
        refine (need_n F _ nI _ (idle us k) wD eI (two_ext hI hxD)).mono ?_
        rw [p3, p4]
        rintro e wE ⟨rfl, hxE⟩
        have hbE := hbD.trans (hxE.mono hbD.size)
        go_wp2_with fail
        have hTc := Two.cut (a := k) (m := c) (two_ext hT hbE) hkl (Nat.le_refl us.length) hc
        rw [htk] at hTc
        refine (need_n F _ (us.length - k) _ (us.drop k) wE hdl hTc).mono ?_
        rw [p5, p6]
        rintro e wF ⟨rfl, hxF⟩
        have hbF := hbE.trans (hxF.mono hbE.size)
        go_wp2_with fail
        go_ret
        exact ⟨rfl, hbF⟩
    · have hL0 : lowAt F s us k = s := by rw [show k = 0 from by omega]; rfl
      have hH0 : highAt F s us k = s := by rw [show k = 0 from by omega]; rfl
      go_wp2_with fail
      have hdl : (us.drop k).length = us.length - k := by simp
      have p7 : needL (us.drop k) ≤ s := by
        have q := (needs_three HR.out HS0.out HS1.out HF.out hn hkl).2.2.2
        try rw [hL0] at q
        exact q
      have htk : us.take us.length = us := List.take_length
      have htl : (lows F s us us.length).take us.length = lows F s us us.length := List.take_of_length_le (by omega)
      have hth : (highs F s us us.length).take us.length = highs F s us us.length := List.take_of_length_le (by omega)
      have hTc := Two.cut (a := k) (m := c) (two_ext hT hb5) hkl (Nat.le_refl us.length) hc
      rw [htk] at hTc
      refine (run_n F (s) _ (us.length - k) _ (us.drop k) w5 hdl hTc (by omega)).mono ?_
      obtain ⟨q1, q2⟩ := run_dropL HR.out HS0.out HS1.out HF.out hkl
      try rw [hL0] at q1 q2
      unfold RunSays
      rw [show runE F (s) (us.drop k) = 0 from q1, show runL F (s) (us.drop k) = _ from q2]
      clear q1 q2
      rintro e w6 ⟨A5, c5, A6, c6, rfl, n5, _, hx6⟩
      have hb6 := hb5.trans (hx6.mono hb5.size)
      have n1 := num_ext n1 hx6
      have n2 := num_ext n2 hx6
      go_wp2_with fail
      have hTd := Two.cut (a := k) (m := c) (two_ext hT hb6) hkl (Nat.le_refl us.length) hc
      rw [htk] at hTd
      refine (run_n F (s) _ (us.length - k) _ (us.drop k) w6 hdl hTd (by omega)).mono ?_
      obtain ⟨q1, q2⟩ := run_dropH HR.out HS0.out HS1.out HF.out hkl
      try rw [hH0] at q1 q2
      unfold RunSays
      rw [show runE F (s) (us.drop k) = 0 from q1, show runH F (s) (us.drop k) = _ from q2]
      clear q1 q2
      rintro e w7 ⟨A7, c7, A8, c8, rfl, _, n8, hx7⟩
      have hb7 := hb6.trans (hx7.mono hb6.size)
      have n1 := num_ext n1 hx7
      have n2 := num_ext n2 hx7
      have n5 := num_ext n5 hx7
      have hLd : ((lows F s us us.length).drop k).length = us.length - k := by simp; omega
      have hHd : ((highs F s us us.length).drop k).length = us.length - k := by simp; omega
      go_wp2_with fail
      have n1c := n1.cut (a := k) (b := us.length) (m := c1) hkl (by omega) (by omega)
      rw [htl] at n1c
      refine (ints_n A5 _ (us.length - k) (us.length - k) c5 (c1 - k) _ ((lows F s us us.length).drop k) w7 hLd hLd n5 n1c (by omega) (by omega)).mono ?_
      rw [decide_eq_true rfl]
      rintro e w8 ⟨rfl, hx8⟩
      have hb8 := hb7.trans (hx8.mono hb7.size)
      have n2 := num_ext n2 hx8
      have n8 := num_ext n8 hx8
      go_wp2_with fail
      have n2c := n2.cut (a := k) (b := us.length) (m := c2) hkl (by omega) (by omega)
      rw [hth] at n2c
      refine (ints_n A8 _ (us.length - k) (us.length - k) c8 (c2 - k) _ ((highs F s us us.length).drop k) w8 hHd hHd n8 n2c (by omega) (by omega)).mono ?_
      rw [decide_eq_true rfl]
      rintro e w9 ⟨rfl, hx9⟩
      have hb9 := hb8.trans (hx9.mono hb8.size)
      have hTk := Two.cut (a := 0) (m := c) (two_ext hT hb9) (Nat.zero_le _) hkl hc
      unfold Two at hTk
      rw [List.drop_zero, hlt] at hTk
      have hTd := Two.cut (a := k) (m := c) (two_ext hT hb9) hkl (Nat.le_refl us.length) hc
      rw [htk] at hTd
      unfold Two at hTd
      rw [hdl] at hTd
      clear n1 n2 n5 n8 hx6 hx7 hx8 hx9 hLd hHd hL hH hLk hHk
      go_wp2_with fail
      refine wp_region_tree (.free 1 (.free 2 (.free 3 (.free 5 (.free 8 (.free 9 (.free 10 (.fork (.alt 0 (.fork (.alt 4 (.only 6 (.only 7 (.only 11 .tail))) (.alt 6 (.only 4 (.only 7 (.only 11 .tail))) .stop))) (.alt 6 (.only 0 (.only 4 (.only 7 (.only 11 .tail)))) .stop)))))))))) [12] (SB w9.heap.size w9 w9.heap.size none _) (by kernel_rfl) (by kernel_rfl) (by kernel_rfl) (by kernel_rfl) rfl (by decide) (SB.start (Below.refl _ _) (by omega)) (fun hS => ?_)
      repeat (first
        | (refine tree_skip (by rfl) (by rfl) ?_; try simp only [Act.put, List.setIfInBounds_toArray, List.set_cons_zero, List.set_cons_succ])
        | (refine tree_pass (by rfl) hS (by rfl) ?_; try simp only [Act.put, List.setIfInBounds_toArray, List.set_cons_zero, List.set_cons_succ])
        | (refine tree_pure (by rfl) (by rfl) (by rfl) (fun K hK => ?_); go_big_quiet_op; refine hK _ ?_; clear hK K)
        | (refine tree_take (by rfl) (by rfl) ?_
           apply Exists.intro
           refine ⟨?_, ?_⟩
           · intro w' hSw
             have hSc := hSw.cell
             clear hSw
             go_simp
             try with_reducible rfl
           try simp only [Act.put, List.setIfInBounds_toArray, List.set_cons_zero, List.set_cons_succ])
        | (refine tree_move (by rfl) (by rfl) (fun K hK => ?_)
           first
             | (have own := own7; refine at_append rfl ?_; refine wp_app _ _ 22 rfl w9.heap.size 35 i0 _ 2 16 Try.underlying22 hi hz0 hz1 hz2 rfl (by decide) _ _ (0 + k + 1) _ rfl own7 w9.heap.size _ (us.length - k) _ (P2.cells (us.drop k)) rfl (hTd.below hS.below) (P2.oneCells _) hS.below.size (by omega) (by omega) ?_; intro v11 wC own11 hx hg)
             | (have own := own4; refine at_append rfl ?_; (refine wp_app _ _ 22 rfl w9.heap.size 35 i0 _ 2 16 Try.underlying22 hi hz0 hz1 hz2 rfl (by decide) _ _ (0 + k) _ rfl (by first | exact own4 | exact own4.alloc _) _ _ 1 _ [.int .i64 0, .int .i64 0] rfl (by first | exact shows_lit (lit_new _ _) (Nat.lt_succ_self _) rfl | exact shows_lit (lit_second rfl hg4 (by simp)) (Nat.lt_succ_self _) rfl | exact shows_lit (lit_first hg4 (by simp)) (Nat.lt_succ_self _) rfl) (by decide) hS.below.size (by omega) (by omega) ?_); clear own own4; intro v7 wB own7 hx hg)
             | (refine at_append rfl ?_; (refine wp_app _ _ 22 rfl w9.heap.size 35 i0 _ 2 16 Try.underlying22 hi hz0 hz1 hz2 rfl (by decide) _ _ 0 [] rfl (by first | exact (World.ownsRow_lit w9 #[] 0 (Nat.le_refl _) (by decide) rfl).drew | exact ((World.ownsRow_lit w9 #[] 0 (Nat.le_refl _) (by decide) rfl).alloc _).drew | exact own_second rfl) w9.heap.size _ k _ (P2.cells (us.take k)) rfl (hTk.below hS.below) (P2.oneCells _) hS.below.size (by omega) (by omega) ?_); intro v4 wA own4 hx hg; first | have hg4 : World.grownBy _ wA (some w9.heap.size) := hg | have hg4 : World.grownBy _ wA (some (w9.heap.size + 1)) := hg)
             | go_simp
           try dsimp only
           first
             | refine hK.out _ _ (hS.step hx (by omega)) ?_
             | refine hK.out _ _ hS ?_
             | refine hK.out _ _ (hS.alloc _ (by omega)) ?_
             | refine hK.out _ _ (hS.grown hg hx) ?_
             | refine hK.out _ _ (hS.turned hx (by omega)) ?_
           clear hK K hS
           intro hS
           try simp only [Act.put, List.setIfInBounds_toArray, List.set_cons_zero, List.set_cons_succ])
        | fail)
      refine tree_fork (tree_alt ?_ (tree_alt ?_ (tree_stop)))
      · skip
        repeat (first
          | (refine tree_skip (by rfl) (by rfl) ?_; try simp only [Act.put, List.setIfInBounds_toArray, List.set_cons_zero, List.set_cons_succ])
          | (refine tree_pass (by rfl) hS (by rfl) ?_; try simp only [Act.put, List.setIfInBounds_toArray, List.set_cons_zero, List.set_cons_succ])
          | (refine tree_pure (by rfl) (by rfl) (by rfl) (fun K hK => ?_); go_big_quiet_op; refine hK _ ?_; clear hK K)
          | (refine tree_take (by rfl) (by rfl) ?_
             apply Exists.intro
             refine ⟨?_, ?_⟩
             · intro w' hSw
               have hSc := hSw.cell
               clear hSw
               go_simp
               try with_reducible rfl
             try simp only [Act.put, List.setIfInBounds_toArray, List.set_cons_zero, List.set_cons_succ])
          | (refine tree_move (by rfl) (by rfl) (fun K hK => ?_)
             first
               | (have own := own7; refine at_append rfl ?_; refine wp_app _ _ 22 rfl w9.heap.size 35 i0 _ 2 16 Try.underlying22 hi hz0 hz1 hz2 rfl (by decide) _ _ (0 + k + 1) _ rfl own7 w9.heap.size _ (us.length - k) _ (P2.cells (us.drop k)) rfl (hTd.below hS.below) (P2.oneCells _) hS.below.size (by omega) (by omega) ?_; intro v11 wC own11 hx hg)
               | (have own := own4; refine at_append rfl ?_; (refine wp_app _ _ 22 rfl w9.heap.size 35 i0 _ 2 16 Try.underlying22 hi hz0 hz1 hz2 rfl (by decide) _ _ (0 + k) _ rfl (by first | exact own4 | exact own4.alloc _) _ _ 1 _ [.int .i64 0, .int .i64 0] rfl (by first | exact shows_lit (lit_new _ _) (Nat.lt_succ_self _) rfl | exact shows_lit (lit_second rfl hg4 (by simp)) (Nat.lt_succ_self _) rfl | exact shows_lit (lit_first hg4 (by simp)) (Nat.lt_succ_self _) rfl) (by decide) hS.below.size (by omega) (by omega) ?_); clear own own4; intro v7 wB own7 hx hg)
               | (refine at_append rfl ?_; (refine wp_app _ _ 22 rfl w9.heap.size 35 i0 _ 2 16 Try.underlying22 hi hz0 hz1 hz2 rfl (by decide) _ _ 0 [] rfl (by first | exact (World.ownsRow_lit w9 #[] 0 (Nat.le_refl _) (by decide) rfl).drew | exact ((World.ownsRow_lit w9 #[] 0 (Nat.le_refl _) (by decide) rfl).alloc _).drew | exact own_second rfl) w9.heap.size _ k _ (P2.cells (us.take k)) rfl (hTk.below hS.below) (P2.oneCells _) hS.below.size (by omega) (by omega) ?_); intro v4 wA own4 hx hg; first | have hg4 : World.grownBy _ wA (some w9.heap.size) := hg | have hg4 : World.grownBy _ wA (some (w9.heap.size + 1)) := hg)
               | go_simp
             try dsimp only
             first
               | refine hK.out _ _ (hS.step hx (by omega)) ?_
               | refine hK.out _ _ hS ?_
               | refine hK.out _ _ (hS.alloc _ (by omega)) ?_
               | refine hK.out _ _ (hS.grown hg hx) ?_
               | refine hK.out _ _ (hS.turned hx (by omega)) ?_
             clear hK K hS
             intro hS
             try simp only [Act.put, List.setIfInBounds_toArray, List.set_cons_zero, List.set_cons_succ])
          | fail)
        refine tree_fork (tree_alt ?_ (tree_alt ?_ (tree_stop)))
        · skip
          repeat (first
            | (refine tree_skip (by rfl) (by rfl) ?_; try simp only [Act.put, List.setIfInBounds_toArray, List.set_cons_zero, List.set_cons_succ])
            | (refine tree_pass (by rfl) hS (by rfl) ?_; try simp only [Act.put, List.setIfInBounds_toArray, List.set_cons_zero, List.set_cons_succ])
            | (refine tree_pure (by rfl) (by rfl) (by rfl) (fun K hK => ?_); go_big_quiet_op; refine hK _ ?_; clear hK K)
            | (refine tree_take (by rfl) (by rfl) ?_
               apply Exists.intro
               refine ⟨?_, ?_⟩
               · intro w' hSw
                 have hSc := hSw.cell
                 clear hSw
                 go_simp
                 try with_reducible rfl
               try simp only [Act.put, List.setIfInBounds_toArray, List.set_cons_zero, List.set_cons_succ])
            | (refine tree_move (by rfl) (by rfl) (fun K hK => ?_)
               first
                 | (have own := own7; refine at_append rfl ?_; refine wp_app _ _ 22 rfl w9.heap.size 35 i0 _ 2 16 Try.underlying22 hi hz0 hz1 hz2 rfl (by decide) _ _ (0 + k + 1) _ rfl own7 w9.heap.size _ (us.length - k) _ (P2.cells (us.drop k)) rfl (hTd.below hS.below) (P2.oneCells _) hS.below.size (by omega) (by omega) ?_; intro v11 wC own11 hx hg)
                 | (have own := own4; refine at_append rfl ?_; (refine wp_app _ _ 22 rfl w9.heap.size 35 i0 _ 2 16 Try.underlying22 hi hz0 hz1 hz2 rfl (by decide) _ _ (0 + k) _ rfl (by first | exact own4 | exact own4.alloc _) _ _ 1 _ [.int .i64 0, .int .i64 0] rfl (by first | exact shows_lit (lit_new _ _) (Nat.lt_succ_self _) rfl | exact shows_lit (lit_second rfl hg4 (by simp)) (Nat.lt_succ_self _) rfl | exact shows_lit (lit_first hg4 (by simp)) (Nat.lt_succ_self _) rfl) (by decide) hS.below.size (by omega) (by omega) ?_); clear own own4; intro v7 wB own7 hx hg)
                 | (refine at_append rfl ?_; (refine wp_app _ _ 22 rfl w9.heap.size 35 i0 _ 2 16 Try.underlying22 hi hz0 hz1 hz2 rfl (by decide) _ _ 0 [] rfl (by first | exact (World.ownsRow_lit w9 #[] 0 (Nat.le_refl _) (by decide) rfl).drew | exact ((World.ownsRow_lit w9 #[] 0 (Nat.le_refl _) (by decide) rfl).alloc _).drew | exact own_second rfl) w9.heap.size _ k _ (P2.cells (us.take k)) rfl (hTk.below hS.below) (P2.oneCells _) hS.below.size (by omega) (by omega) ?_); intro v4 wA own4 hx hg; first | have hg4 : World.grownBy _ wA (some w9.heap.size) := hg | have hg4 : World.grownBy _ wA (some (w9.heap.size + 1)) := hg)
                 | go_simp
               try dsimp only
               first
                 | refine hK.out _ _ (hS.step hx (by omega)) ?_
                 | refine hK.out _ _ hS ?_
                 | refine hK.out _ _ (hS.alloc _ (by omega)) ?_
                 | refine hK.out _ _ (hS.grown hg hx) ?_
                 | refine hK.out _ _ (hS.turned hx (by omega)) ?_
               clear hK K hS
               intro hS
               try simp only [Act.put, List.setIfInBounds_toArray, List.set_cons_zero, List.set_cons_succ])
            | fail)
          refine tree_tail ?_
          simp only [tailed, List.filterMap_cons, List.filterMap_nil, List.getElem?_cons_zero, List.getElem?_cons_succ]
          go_wp2_with fail
          refine NoPanic.normal ?_
          have hbX := hb9.trans (hS.below.mono hb9.size)
          obtain ⟨AI, cI, rfl, hI⟩ := shows_of_own own11
          generalize hnI : 0 + k + 1 + (us.length - k) = nI at hI ⊢
          obtain ⟨hI, eI⟩ := idle_two hI (by omega) hkl (by simp)
          obtain ⟨⟨p1, p2⟩, ⟨p3, p4⟩, ⟨p5, p6⟩, _⟩ := needs_three HR.out HS0.out HS1.out HF.out hn hkl
          clear own11 own7 hg hx hg4
          go_wp2_with fail
          refine (need_n F _ us.length _ us wC rfl (two_ext hT hbX)).mono ?_
          rw [p1, p2]
          rintro e wD ⟨rfl, hxD⟩
          have hbD := hbX.trans (hxD.mono hbX.size)
          go_wp2_with fail
          refine (need_n F _ nI _ (idle us k) wD eI (two_ext hI hxD)).mono ?_
          rw [p3, p4]
          rintro e wE ⟨rfl, hxE⟩
          have hbE := hbD.trans (hxE.mono hbD.size)
          go_wp2_with fail
          have hTc := Two.cut (a := k) (m := c) (two_ext hT hbE) hkl (Nat.le_refl us.length) hc
          rw [htk] at hTc
          refine (need_n F _ (us.length - k) _ (us.drop k) wE hdl hTc).mono ?_
          rw [p5, p6]
          rintro e wF ⟨rfl, hxF⟩
          have hbF := hbE.trans (hxF.mono hbE.size)
          go_wp2_with fail
          go_ret
          exact ⟨rfl, hbF⟩
        · skip
          repeat (first
            | (refine tree_skip (by rfl) (by rfl) ?_; try simp only [Act.put, List.setIfInBounds_toArray, List.set_cons_zero, List.set_cons_succ])
            | (refine tree_pass (by rfl) hS (by rfl) ?_; try simp only [Act.put, List.setIfInBounds_toArray, List.set_cons_zero, List.set_cons_succ])
            | (refine tree_pure (by rfl) (by rfl) (by rfl) (fun K hK => ?_); go_big_quiet_op; refine hK _ ?_; clear hK K)
            | (refine tree_take (by rfl) (by rfl) ?_
               apply Exists.intro
               refine ⟨?_, ?_⟩
               · intro w' hSw
                 have hSc := hSw.cell
                 clear hSw
                 go_simp
                 try with_reducible rfl
               try simp only [Act.put, List.setIfInBounds_toArray, List.set_cons_zero, List.set_cons_succ])
            | (refine tree_move (by rfl) (by rfl) (fun K hK => ?_)
               first
                 | (have own := own7; refine at_append rfl ?_; refine wp_app _ _ 22 rfl w9.heap.size 35 i0 _ 2 16 Try.underlying22 hi hz0 hz1 hz2 rfl (by decide) _ _ (0 + k + 1) _ rfl own7 w9.heap.size _ (us.length - k) _ (P2.cells (us.drop k)) rfl (hTd.below hS.below) (P2.oneCells _) hS.below.size (by omega) (by omega) ?_; intro v11 wC own11 hx hg)
                 | (have own := own4; refine at_append rfl ?_; (refine wp_app _ _ 22 rfl w9.heap.size 35 i0 _ 2 16 Try.underlying22 hi hz0 hz1 hz2 rfl (by decide) _ _ (0 + k) _ rfl (by first | exact own4 | exact own4.alloc _) _ _ 1 _ [.int .i64 0, .int .i64 0] rfl (by first | exact shows_lit (lit_new _ _) (Nat.lt_succ_self _) rfl | exact shows_lit (lit_second rfl hg4 (by simp)) (Nat.lt_succ_self _) rfl | exact shows_lit (lit_first hg4 (by simp)) (Nat.lt_succ_self _) rfl) (by decide) hS.below.size (by omega) (by omega) ?_); clear own own4; intro v7 wB own7 hx hg)
                 | (refine at_append rfl ?_; (refine wp_app _ _ 22 rfl w9.heap.size 35 i0 _ 2 16 Try.underlying22 hi hz0 hz1 hz2 rfl (by decide) _ _ 0 [] rfl (by first | exact (World.ownsRow_lit w9 #[] 0 (Nat.le_refl _) (by decide) rfl).drew | exact ((World.ownsRow_lit w9 #[] 0 (Nat.le_refl _) (by decide) rfl).alloc _).drew | exact own_second rfl) w9.heap.size _ k _ (P2.cells (us.take k)) rfl (hTk.below hS.below) (P2.oneCells _) hS.below.size (by omega) (by omega) ?_); intro v4 wA own4 hx hg; first | have hg4 : World.grownBy _ wA (some w9.heap.size) := hg | have hg4 : World.grownBy _ wA (some (w9.heap.size + 1)) := hg)
                 | go_simp
               try dsimp only
               first
                 | refine hK.out _ _ (hS.step hx (by omega)) ?_
                 | refine hK.out _ _ hS ?_
                 | refine hK.out _ _ (hS.alloc _ (by omega)) ?_
                 | refine hK.out _ _ (hS.grown hg hx) ?_
                 | refine hK.out _ _ (hS.turned hx (by omega)) ?_
               clear hK K hS
               intro hS
               try simp only [Act.put, List.setIfInBounds_toArray, List.set_cons_zero, List.set_cons_succ])
            | fail)
          refine tree_tail ?_
          simp only [tailed, List.filterMap_cons, List.filterMap_nil, List.getElem?_cons_zero, List.getElem?_cons_succ]
          go_wp2_with fail
          refine NoPanic.normal ?_
          have hbX := hb9.trans (hS.below.mono hb9.size)
          obtain ⟨AI, cI, rfl, hI⟩ := shows_of_own own11
          generalize hnI : 0 + k + 1 + (us.length - k) = nI at hI ⊢
          obtain ⟨hI, eI⟩ := idle_two hI (by omega) hkl (by simp)
          obtain ⟨⟨p1, p2⟩, ⟨p3, p4⟩, ⟨p5, p6⟩, _⟩ := needs_three HR.out HS0.out HS1.out HF.out hn hkl
          clear own11 own7 hg hx hg4
          go_wp2_with fail
          refine (need_n F _ us.length _ us wC rfl (two_ext hT hbX)).mono ?_
          rw [p1, p2]
          rintro e wD ⟨rfl, hxD⟩
          have hbD := hbX.trans (hxD.mono hbX.size)
          go_wp2_with fail
          refine (need_n F _ nI _ (idle us k) wD eI (two_ext hI hxD)).mono ?_
          rw [p3, p4]
          rintro e wE ⟨rfl, hxE⟩
          have hbE := hbD.trans (hxE.mono hbD.size)
          go_wp2_with fail
          have hTc := Two.cut (a := k) (m := c) (two_ext hT hbE) hkl (Nat.le_refl us.length) hc
          rw [htk] at hTc
          refine (need_n F _ (us.length - k) _ (us.drop k) wE hdl hTc).mono ?_
          rw [p5, p6]
          rintro e wF ⟨rfl, hxF⟩
          have hbF := hbE.trans (hxF.mono hbE.size)
          go_wp2_with fail
          go_ret
          exact ⟨rfl, hbF⟩
      · skip
        repeat (first
          | (refine tree_skip (by rfl) (by rfl) ?_; try simp only [Act.put, List.setIfInBounds_toArray, List.set_cons_zero, List.set_cons_succ])
          | (refine tree_pass (by rfl) hS (by rfl) ?_; try simp only [Act.put, List.setIfInBounds_toArray, List.set_cons_zero, List.set_cons_succ])
          | (refine tree_pure (by rfl) (by rfl) (by rfl) (fun K hK => ?_); go_big_quiet_op; refine hK _ ?_; clear hK K)
          | (refine tree_take (by rfl) (by rfl) ?_
             apply Exists.intro
             refine ⟨?_, ?_⟩
             · intro w' hSw
               have hSc := hSw.cell
               clear hSw
               go_simp
               try with_reducible rfl
             try simp only [Act.put, List.setIfInBounds_toArray, List.set_cons_zero, List.set_cons_succ])
          | (refine tree_move (by rfl) (by rfl) (fun K hK => ?_)
             first
               | (have own := own7; refine at_append rfl ?_; refine wp_app _ _ 22 rfl w9.heap.size 35 i0 _ 2 16 Try.underlying22 hi hz0 hz1 hz2 rfl (by decide) _ _ (0 + k + 1) _ rfl own7 w9.heap.size _ (us.length - k) _ (P2.cells (us.drop k)) rfl (hTd.below hS.below) (P2.oneCells _) hS.below.size (by omega) (by omega) ?_; intro v11 wC own11 hx hg)
               | (have own := own4; refine at_append rfl ?_; (refine wp_app _ _ 22 rfl w9.heap.size 35 i0 _ 2 16 Try.underlying22 hi hz0 hz1 hz2 rfl (by decide) _ _ (0 + k) _ rfl (by first | exact own4 | exact own4.alloc _) _ _ 1 _ [.int .i64 0, .int .i64 0] rfl (by first | exact shows_lit (lit_new _ _) (Nat.lt_succ_self _) rfl | exact shows_lit (lit_second rfl hg4 (by simp)) (Nat.lt_succ_self _) rfl | exact shows_lit (lit_first hg4 (by simp)) (Nat.lt_succ_self _) rfl) (by decide) hS.below.size (by omega) (by omega) ?_); clear own own4; intro v7 wB own7 hx hg)
               | (refine at_append rfl ?_; (refine wp_app _ _ 22 rfl w9.heap.size 35 i0 _ 2 16 Try.underlying22 hi hz0 hz1 hz2 rfl (by decide) _ _ 0 [] rfl (by first | exact (World.ownsRow_lit w9 #[] 0 (Nat.le_refl _) (by decide) rfl).drew | exact ((World.ownsRow_lit w9 #[] 0 (Nat.le_refl _) (by decide) rfl).alloc _).drew | exact own_second rfl) w9.heap.size _ k _ (P2.cells (us.take k)) rfl (hTk.below hS.below) (P2.oneCells _) hS.below.size (by omega) (by omega) ?_); intro v4 wA own4 hx hg; first | have hg4 : World.grownBy _ wA (some w9.heap.size) := hg | have hg4 : World.grownBy _ wA (some (w9.heap.size + 1)) := hg)
               | go_simp
             try dsimp only
             first
               | refine hK.out _ _ (hS.step hx (by omega)) ?_
               | refine hK.out _ _ hS ?_
               | refine hK.out _ _ (hS.alloc _ (by omega)) ?_
               | refine hK.out _ _ (hS.grown hg hx) ?_
               | refine hK.out _ _ (hS.turned hx (by omega)) ?_
             clear hK K hS
             intro hS
             try simp only [Act.put, List.setIfInBounds_toArray, List.set_cons_zero, List.set_cons_succ])
          | fail)
        refine tree_tail ?_
        simp only [tailed, List.filterMap_cons, List.filterMap_nil, List.getElem?_cons_zero, List.getElem?_cons_succ]
        go_wp2_with fail
        refine NoPanic.normal ?_
        have hbX := hb9.trans (hS.below.mono hb9.size)
        obtain ⟨AI, cI, rfl, hI⟩ := shows_of_own own11
        generalize hnI : 0 + k + 1 + (us.length - k) = nI at hI ⊢
        obtain ⟨hI, eI⟩ := idle_two hI (by omega) hkl (by simp)
        obtain ⟨⟨p1, p2⟩, ⟨p3, p4⟩, ⟨p5, p6⟩, _⟩ := needs_three HR.out HS0.out HS1.out HF.out hn hkl
        clear own11 own7 hg hx hg4
        go_wp2_with fail
        refine (need_n F _ us.length _ us wC rfl (two_ext hT hbX)).mono ?_
        rw [p1, p2]
        rintro e wD ⟨rfl, hxD⟩
        have hbD := hbX.trans (hxD.mono hbX.size)
        go_wp2_with fail
        refine (need_n F _ nI _ (idle us k) wD eI (two_ext hI hxD)).mono ?_
        rw [p3, p4]
        rintro e wE ⟨rfl, hxE⟩
        have hbE := hbD.trans (hxE.mono hbD.size)
        go_wp2_with fail
        have hTc := Two.cut (a := k) (m := c) (two_ext hT hbE) hkl (Nat.le_refl us.length) hc
        rw [htk] at hTc
        refine (need_n F _ (us.length - k) _ (us.drop k) wE hdl hTc).mono ?_
        rw [p5, p6]
        rintro e wF ⟨rfl, hxF⟩
        have hbF := hbE.trans (hxF.mono hbE.size)
        go_wp2_with fail
        go_ret
        exact ⟨rfl, hbF⟩
theorem chargeParts_contract (H : Type) (enc : TypeId × Value → H) (W : World) (base : Nat) (args : Array Value) (ds gs : List (DataW H)) (before : List MemPlace)
    (hval : ∀ (j : Nat) t v, Try.f6.params[j]? = some t → args[j]? = some v → Value.okWide Try.prog W .any base t v)
    (hW : DataW.Whole enc Try.prog Try.f6.params.toList Rows.chargePartsSpec.vars false W args.toList ds gs before) :
    Calls Try.prog 6 args W fun e W' => ∃ v, e = .returned v ∧ Rows.chargePartsSpec.post enc Try.prog Try.f6 false true false false W args v W' := by
  have hW' := hW
  obtain ⟨p, q, hA0, hV, rfl, hfz, hnd⟩ := hW
  have hA : DataW.TrodAll enc Try.prog W 0 (fun _ => true) true Try.f6.params.toList args.toList ds p := hA0
  have hlt := hA.lt
  rw [Try.params6] at hA hval
  obtain ⟨v0, vs0, d0, ds0, p0, q0, hargs0, rfl, rfl, h0, rr0⟩ := trodAll_cons hA
  obtain ⟨v1, vs1, d1, ds1, p1, q1, rfl, rfl, rfl, h1, rr1⟩ := trodAll_cons rr0
  obtain ⟨v2, vs2, d2, ds2, p2, q2, rfl, rfl, rfl, h2, rr2⟩ := trodAll_cons rr1
  obtain ⟨v3, vs3, d3, ds3, p3, q3, rfl, rfl, rfl, h3, rr3⟩ := trodAll_cons rr2
  obtain ⟨rfl, rfl, rfl⟩ := trodAll_nil rr3
  obtain rfl : args = #[v0, v1, v2, v3] := by cases args; simp_all
  obtain ⟨rfl, rfl⟩ := trodVars_none hV
  obtain ⟨F, rfl, rfl, rfl, hwf0⟩ := open_int Try.underlying3 (hval 0 3 v0 rfl rfl) h0
  have r0 : -9223372036854775808 ≤ F ∧ F ≤ 9223372036854775807 := by simpa [Lit.wf, IntKind.min, IntKind.max, IntKind.signed, IntKind.bits] using hwf0
  obtain ⟨s, rfl, rfl, rfl, hwf1⟩ := open_int Try.underlying3 (hval 1 3 v1 rfl rfl) h1
  have r1 : -9223372036854775808 ≤ s ∧ s ≤ 9223372036854775807 := by simpa [Lit.wf, IntKind.min, IntKind.max, IntKind.signed, IntKind.bits] using hwf1
  obtain ⟨A, nn2, c, rfl⟩ := okWide_slice Try.underlying22 (hval 2 22 v2 rfl rfl)
  obtain ⟨fu2, ff2⟩ := h2
  obtain ⟨us, rfl, t2, b2, m2⟩ := open_two (B := W.heap.size) Try.underlying22 Try.underlying35 rfl rfl Try.underlying3 (by kernel_rfl) rfl rfl (by kernel_rfl) (fun y (hy : y ∈ p2) => hlt y (by simp [hy])) ff2
  unfold maxLen at m2
  obtain ⟨x, rfl, rfl, rfl, hwf3⟩ := open_int Try.underlying5 (hval 3 5 v3 rfl rfl) h3
  have r3 : 0 ≤ x ∧ x ≤ 255 := by simpa [Lit.wf, IntKind.min, IntKind.max, IntKind.signed, IntKind.bits] using hwf3
  refine (parts_any F s A c us x W t2 (by omega) (by omega) (by omega) (by omega) (by omega)).mono fun e W' ⟨he, hb⟩ => ?_
  subst he
  exact ⟨_, rfl, law_post laidOut Try.underlying4 rfl (by kernel_rfl) rfl hW' rfl hb⟩
set_option maxRecDepth 100000 in
theorem chargeParts_lifted (os : Os) (started : os.Started) (H : Type) (enc : TypeId × Value → H) :
    ReturnsInHanded {} Try.checked os 6 .any (Rows.chargePartsSpec.pre6 enc Try.prog Try.f6 Rows.chargePartsRow.domain false) (Rows.chargePartsSpec.post enc Try.prog Try.f6 false true false false) := by
  refine returnsInHanded_of_change (C := Try.checked) own started (by kernel_rfl) Try.func6
    (ChangeSpec.witness6 (enc := enc) (C := Try.checked) false ⟨#[], #[.int .i64 0, .int .i64 0, .slice none 0 0, .int .u8 0], []⟩ 8 (by kernel_rfl) (by kernel_rfl) (by kernel_rfl) (by kernel_rfl)) ?_
  intro W base args ds gs before hval hW _ _
  exact chargeParts_contract H enc W base args ds gs before hval hW
theorem chargeParts_holds : Rows.ChargePartsSaid :=
  OpenClaim.holds_of_wide 6 Try.f6 rfl rfl rfl rfl rfl rfl rfl ⟨rfl, rfl, rfl, rfl, rfl⟩ rfl rfl rfl rfl rfl (by kernel_rfl) Try.func6 (by kernel_rfl)
    (of_decide_eq_true (by kernel_rfl)) (by unfold Func.isWrapper; first | (rw [if_pos (by decide +kernel)]; kernel_rfl) | (rw [if_neg (by decide +kernel)]; exact ⟨rfl, rfl⟩))
    (fun os started H enc _ => chargeParts_lifted os started H enc)
end Go.Proofs.Ytlbndoddkialkaa
