/-
  The examples of the laws of package tiers, and few. Conditions: none.
-/
import Derived.Test.YtcienmbbfcljnaaWalkD
namespace Go.Proofs.Ytcienmbbfcljnaa
open Go.RowKit

theorem three_lit (w : World) (l : List P3) (e : TypeId) : Three (w.alloc (.cells (P3.cells l).toArray e)) (w.alloc (.cells (P3.cells l).toArray e)).heap.size (some ⟨w.heap.size, 0, none⟩) l := by
  refine ⟨P3.length l, fun _ => ⟨_, 0, rfl, by simp, fun j u hu => ?_⟩⟩
  rw [cell_of_row _ w.heap.size (0 + j) _ e (0, 0) (heap_alloc_new w _), Nat.zero_add]
  simpa using hu
theorem lit_below (w : World) (o : Obj) : Below w.heap.size w (w.alloc o) := (Below.refl _ _).alloc (Nat.le_refl _) _
theorem nums_own {w : World} {base : Nat} {v : Value} {l : List Int} (h : w.ownsRow base 3 1 v l.length (ints l)) : ∃ A c, v = .slice A l.length c ∧ Nums w w.heap.size A l := shows_of_own h

def twoT : List P3 := [⟨100, 300, 250⟩, ⟨300, 1000, 700⟩]
set_option maxHeartbeats 1000000 in
theorem two_any (w : World) :
    Calls Try.prog 18 #[] w fun e w' => ∃ A1 c1, e = .returned (.slice A1 twoT.length c1) ∧ Three w' w'.heap.size A1 twoT ∧ Below w.heap.size w w' := by
  go_enter Try.func18, Try.ntmps18
  go_wp2
  go_ret
  exact ⟨_, _, rfl, three_lit w twoT 36, lit_below _ _⟩

theorem few_any (A1 A2 A3 : Option Addr) (n1 n2 n3 c1 c2 c3 : Nat) (w : World) :
    Calls Try.prog 9 #[.slice A1 n1 c1, .slice A2 n2 c2, .slice A3 n3 c3] w fun e w' => e = .returned (.bool (decide (n1 ≤ 8) && decide (n2 ≤ 8) && decide (n3 ≤ 30))) ∧ Below w.heap.size w w' := by
  by_cases h1 : n1 ≤ 8
  all_goals by_cases h2 : n2 ≤ 8
  all_goals by_cases h3 : n3 ≤ 30
  all_goals
    have t1 : decide ((n1 : Int) ≤ 8) = decide (n1 ≤ 8) := by simp; omega
    have t2 : decide ((n2 : Int) ≤ 8) = decide (n2 ≤ 8) := by simp; omega
    have t3 : decide ((n3 : Int) ≤ 30) = decide (n3 ≤ 30) := by simp; omega
    simp only [h1, h2, h3, decide_true, decide_false] at t1 t2 t3
    go_enter Try.func9, Try.ntmps9
    go_wp2_with fail
    go_ret
    exact ⟨by simp [h1, h2, h3], Below.refl _ _⟩

set_option maxHeartbeats 4000000 in
theorem paid_any (x r : Int) (A : Option Addr) (c : Nat) (l : List Int) (w : World) (h : Nums w w.heap.size A l) (hl : l.length ≤ 1000) (hr : payR twoT [0, 0] x = r) (hp : payL twoT [0, 0] x = l) (he : payE twoT [0, 0] x = 0) :
    Calls Try.prog 19 #[.int .i64 x, .int .i64 r, .slice A l.length c] w fun e w' => e = .returned (.bool true) ∧ Below w.heap.size w w' := by
  go_enter Try.func19, Try.ntmps19
  go_wp2_with fail
  refine (two_any _).mono ?_
  rintro e w1 ⟨U1, d1, rfl, hU1, hx1⟩
  go_wp2_with fail
  have q1 := nums_lit w1 [0, 0] 3
  have q2 := lit_below w1 (.cells (ints [0, 0]).toArray 3)
  refine (pay_n U1 _ d1 2 2 twoT [0, 0] x (w1.alloc (.cells (ints [0, 0]).toArray 3)) rfl (three_ext hU1 q2) q1 (by decide) (by decide)).mono ?_
  unfold PaySays
  rw [hr, hp, he]
  rintro e w2 ⟨v, rfl, own, hx2⟩
  have hb2 := (hx1.trans (q2.mono hx1.size)).trans (hx2.mono (hx1.trans (q2.mono hx1.size)).size)
  obtain ⟨A2, c2, rfl, n2⟩ := nums_own own
  go_wp2_with fail
  refine (ints_any A2 A c2 c l l w2 n2 (num_ext h hb2) (by omega) (by omega)).mono ?_
  rw [decide_eq_true rfl]
  rintro e w3 ⟨rfl, hx3⟩
  go_wp2_with fail
  go_ret
  exact ⟨rfl, hb2.trans (hx3.mono hb2.size)⟩

theorem chk1 : runR twoT [250, 400, 1200] = [100, 200, 600] ∧ runU twoT [250, 400, 1200] = [250, 700] ∧ runE twoT [250, 400, 1200] = 0 := by decide
theorem chk2 : payR twoT [0] 5 = 0 ∧ payL twoT [0] 5 = [] ∧ payE twoT [0] 5 = 1 := by decide
theorem chk3 : payR twoT [0, 0] 80 = 80 ∧ payL twoT [0, 0] 80 = [0, 0] ∧ payE twoT [0, 0] 80 = 0 := by decide
theorem chk4 : payR twoT [0, 0] 250 = 100 ∧ payL twoT [0, 0] 250 = [150, 0] ∧ payE twoT [0, 0] 250 = 0 := by decide
theorem chk5 : payR twoT [0, 0] 1200 = 300 ∧ payL twoT [0, 0] 1200 = [200, 700] ∧ payE twoT [0, 0] 1200 = 0 := by decide
theorem chk6 : rightB twoT = true := by decide
/-- Ints of a slice, and of a literal that has just been made. -/
theorem ints_lit (A : Option Addr) (n c1 m c2 : Nat) (xs ys : List Int) (w : World) (hn : xs.length = n) (hm : ys.length = m) (h : Nums w w.heap.size A xs) (h1 : xs.length ≤ 1000) (h2 : ys.length ≤ 1000) :
    Calls Try.prog 14 #[.slice A n c1, .slice (some ⟨w.heap.size, 0, none⟩) m c2] (w.alloc (.cells (ints ys).toArray 3)) fun e w' => e = .returned (.bool (decide (xs = ys))) ∧ Below w.heap.size w w' := by
  subst hn hm
  have hb := lit_below w (.cells (ints ys).toArray 3)
  refine (ints_any A _ c1 c2 xs ys _ (num_ext h hb) (nums_lit _ _ _) (by omega) (by omega)).mono ?_
  rintro e w' ⟨rfl, hx⟩
  exact ⟨rfl, hb.trans (hx.mono hb.size)⟩
theorem paid_lit (x r : Int) (m c : Nat) (l : List Int) (w : World) (hm : l.length = m) (hl : l.length ≤ 1000) (hp : payR twoT [0, 0] x = r ∧ payL twoT [0, 0] x = l ∧ payE twoT [0, 0] x = 0) :
    Calls Try.prog 19 #[.int .i64 x, .int .i64 r, .slice (some ⟨w.heap.size, 0, none⟩) m c] (w.alloc (.cells (ints l).toArray 3)) fun e w' => e = .returned (.bool true) ∧ Below w.heap.size w w' := by
  subst hm
  have hb := lit_below w (.cells (ints l).toArray 3)
  refine (paid_any x r _ c l _ (nums_lit _ _ _) hl hp.1 hp.2.1 hp.2.2).mono ?_
  rintro e w' ⟨rfl, hx⟩
  exact ⟨rfl, hb.trans (hx.mono hb.size)⟩

set_option maxHeartbeats 4000000 in
set_option maxRecDepth 100000 in
theorem small_any (w : World) :
    Calls Try.prog 8 #[] w fun e w' => e = .returned (.bool true) ∧ Below w.heap.size w w' := by
  go_enter Try.func8, Try.ntmps8
  go_wp2_with fail
  refine (two_any _).mono ?_
  rintro e w1 ⟨U1, d1, rfl, hU1, hx1⟩
  go_wp2_with fail
  have q1 := nums_lit w1 [250, 400, 1200] 3
  have q2 := lit_below w1 (.cells (ints [250, 400, 1200]).toArray 3)
  refine (run_any U1 _ d1 3 twoT [250, 400, 1200] (w1.alloc (.cells (ints [250, 400, 1200]).toArray 3)) (three_ext hU1 q2) q1 (by decide) (by decide)).mono ?_
  unfold RunSays
  rw [chk1.1, chk1.2.1, chk1.2.2]
  rintro e w2 ⟨A1, c1, A2, c2, _, rfl, n1, n2, hx2⟩
  have hb2 := (hx1.trans (q2.mono hx1.size)).trans (hx2.mono (hx1.trans (q2.mono hx1.size)).size)
  clear q1 q2 hx1 hx2 hU1
  go_wp2_with fail
  refine (two_any _).mono ?_
  rintro e w3 ⟨U1, d1, rfl, hU1, hx3⟩
  have hb3 := hb2.trans (hx3.mono hb2.size)
  have n1 := num_ext n1 hx3
  have n2 := num_ext n2 hx3
  go_wp2_with fail
  have q1 := nums_lit w3 [0] 3
  have q2 := lit_below w3 (.cells (ints [0]).toArray 3)
  refine (pay_n U1 _ d1 1 1 twoT [0] 5 (w3.alloc (.cells (ints [0]).toArray 3)) rfl (three_ext hU1 q2) q1 (by decide) (by decide)).mono ?_
  unfold PaySays
  rw [chk2.1, chk2.2.1, chk2.2.2]
  rintro e w4 ⟨v, rfl, _, hx4⟩
  have hx4 := q2.trans (hx4.mono q2.size)
  have hb4 := hb3.trans (hx4.mono hb3.size)
  have n1 := num_ext n1 hx4
  have n2 := num_ext n2 hx4
  clear q1 q2 hx3 hx4 hU1
  go_wp2_with fail
  refine (paid_lit 80 80 2 2 [0, 0] w4 rfl (by decide) chk3).mono ?_
  rintro e w5 ⟨rfl, hx5⟩
  have hb5 := hb4.trans (hx5.mono hb4.size)
  go_wp2_with fail
  refine (paid_lit 250 100 2 2 [150, 0] w5 rfl (by decide) chk4).mono ?_
  rintro e w6 ⟨rfl, hx6⟩
  have hb6 := hb5.trans (hx6.mono hb5.size)
  go_wp2_with fail
  refine (paid_lit 1200 300 2 2 [200, 700] w6 rfl (by decide) chk5).mono ?_
  rintro e w7 ⟨rfl, hx7⟩
  have hb7 := hb6.trans (hx7.mono hb6.size)
  have n1 := num_ext (num_ext (num_ext n1 hx5) hx6) hx7
  have n2 := num_ext (num_ext (num_ext n2 hx5) hx6) hx7
  go_wp2_with fail
  refine (ints_lit A1 3 c1 3 3 [100, 200, 600] [100, 200, 600] w7 rfl rfl n1 (by decide) (by decide)).mono ?_
  rw [decide_eq_true rfl]
  rintro e w8 ⟨rfl, hx8⟩
  have hb8 := hb7.trans (hx8.mono hb7.size)
  have n2 := num_ext n2 hx8
  go_wp2_with fail
  refine (ints_lit A2 2 c2 2 2 [250, 700] [250, 700] w8 rfl rfl n2 (by decide) (by decide)).mono ?_
  rw [decide_eq_true rfl]
  rintro e w9 ⟨rfl, hx9⟩
  have hb9 := hb8.trans (hx9.mono hb8.size)
  go_wp2_with fail
  refine (two_any _).mono ?_
  rintro e w10 ⟨U1, d1, rfl, hU1, hx10⟩
  have hb10 := hb9.trans (hx10.mono hb9.size)
  go_wp2_with fail
  refine (right_any U1 d1 twoT w10 hU1 (by decide)).mono ?_
  rw [chk6]
  rintro e w11 ⟨rfl, hx11⟩
  go_wp2_with fail
  go_ret
  exact ⟨rfl, hb10.trans (hx11.mono hb10.size)⟩
end Go.Proofs.Ytcienmbbfcljnaa
