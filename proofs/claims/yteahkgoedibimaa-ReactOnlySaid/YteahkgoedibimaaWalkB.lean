/-
  The walk of react.Right: what it computes. Conditions: none.
-/
import Derived.Test.YteahkgoedibimaaWalkA
namespace Go.Proofs.Yteahkgoedibimaa
open Go.RowKit

theorem lit_below (w : World) (o : Obj) : Below w.heap.size w (w.alloc o) := (Below.refl _ _).alloc (Nat.le_refl _) _
def rightC (ws ls : List P2) (rs : List P3) : Bool :=
  decide (1 ≤ ws.length) && decide (ws.length ≤ 82) && decide (ls.length + 1 = ws.length) && decide (rs.length ≤ 200) && !ws.any badP && !ls.any badP && !rs.any (badR ws.length)
set_option maxHeartbeats 4000000 in
theorem right_any (A1 A2 A3 : Option Addr) (c1 c2 c3 : Nat) (ws ls : List P2) (rs : List P3) (w : World) (h1 : Two w w.heap.size A1 ws) (h2 : Two w w.heap.size A2 ls) (h3 : Three w w.heap.size A3 rs)
    (hl1 : ws.length ≤ 9223372036854775807) :
    Calls Try.prog 17 #[.agg #[.slice A1 ws.length c1, .slice A2 ls.length c2, .slice A3 rs.length c3]] w fun e w' => e = .returned (.bool (rightC ws ls rs)) ∧ Below w.heap.size w w' := by
  have hbA := ((Below.refl w.heap.size w).alloc (Nat.le_refl _) (.cells #[.slice A1 ws.length c1, .slice A2 ls.length c2, .slice A3 rs.length c3] 26)).alloc (by simp) (.cells #[.int .i64 ws.length] 3)
  go_enter Try.func17, Try.ntmps17
  have wn : IntKind.i64.wrap ((ws.length : Int) - 1) = (ws.length : Int) - 1 := IntWalk.i64_in _ (by omega)
  by_cases p1 : (ws.length : Int) < 1
  · skip
    go_wp2_with fail
    go_ret
    exact ⟨by simp [rightC]; omega, hbA⟩
  have p1' := decide_eq_false p1
  by_cases p2 : (82 : Int) < (ws.length : Int)
  · skip
    go_wp2_with fail
    go_ret
    exact ⟨by simp [rightC]; omega, hbA⟩
  have p2' := decide_eq_false p2
  by_cases p3 : (ls.length : Int) = (ws.length : Int) - 1
  rotate_left
  · have p3' : ((ls.length : Int) != (ws.length : Int) - 1) = true := by simp [p3]
    go_wp2_with fail
    go_ret
    exact ⟨by simp [rightC]; omega, hbA⟩
  have p3' : ((ls.length : Int) != (ws.length : Int) - 1) = false := by simp [p3]
  by_cases p4 : (200 : Int) < (rs.length : Int)
  · skip
    go_wp2_with fail
    go_ret
    exact ⟨by simp [rightC]; omega, hbA⟩
  have p4' := decide_eq_false p4
  have HP3 := Lib.hid p3
  clear p3
  go_wp2_with fail
  have x1 : ((w.alloc (.cells #[.slice A1 ws.length c1, .slice A2 ls.length c2, .slice A3 rs.length c3] 26)).alloc (.cells #[.int .i64 ws.length] 3)).cell? ⟨w.heap.size, 1, none⟩ = some (.slice A2 ls.length c2) := by
    rw [(bcell (lit_below _ _)).1 _ _ (by simp)]
    exact cell_alloc_add w [.slice A1 ws.length c1, .slice A2 ls.length c2, .slice A3 rs.length c3] _ 1 _ rfl
  have x2 : ((w.alloc (.cells #[.slice A1 ws.length c1, .slice A2 ls.length c2, .slice A3 rs.length c3] 26)).alloc (.cells #[.int .i64 ws.length] 3)).cell? ⟨w.heap.size, 2, none⟩ = some (.slice A3 rs.length c3) := by
    rw [(bcell (lit_below _ _)).1 _ _ (by simp)]
    exact cell_alloc_add w [.slice A1 ws.length c1, .slice A2 ls.length c2, .slice A3 rs.length c3] _ 2 _ rfl
  have x3 : ((w.alloc (.cells #[.slice A1 ws.length c1, .slice A2 ls.length c2, .slice A3 rs.length c3] 26)).alloc (.cells #[.int .i64 ws.length] 3)).cell? ⟨w.heap.size + 1, 0, none⟩ = some (.int .i64 ws.length) := by
    have := cell_alloc_add (w.alloc (.cells #[.slice A1 ws.length c1, .slice A2 ls.length c2, .slice A3 rs.length c3] 26)) [.int .i64 ws.length] 3 0 _ rfl
    rw [size_alloc] at this
    exact this
  have sA : ((w.alloc (.cells #[.slice A1 ws.length c1, .slice A2 ls.length c2, .slice A3 rs.length c3] 26)).alloc (.cells #[.int .i64 ws.length] 3)).heap.size = w.heap.size + 2 := by simp
  generalize (w.alloc (.cells #[.slice A1 ws.length c1, .slice A2 ls.length c2, .slice A3 rs.length c3] 26)).alloc (.cells #[.int .i64 ws.length] 3) = wA at hbA x1 x2 x3 sA ⊢
  have s0 : w.heap.size < wA.heap.size := by omega
  have s1 : w.heap.size + 1 < wA.heap.size := by omega
  clear sA
  refine (contains_windows _ _ _ _ (two_ext h1 hbA) (by omega)).mono ?_
  rintro e w1 ⟨rfl, hx1⟩
  have hb1 := hbA.trans (hx1.mono hbA.size)
  have x1 := ((bcell hx1).1 _ _ s0).trans x1
  have x2 := ((bcell hx1).1 _ _ s0).trans x2
  have x3 := ((bcell hx1).1 _ _ s1).trans x3
  have s0 := Nat.lt_of_lt_of_le s0 hx1.size
  have s1 := Nat.lt_of_lt_of_le s1 hx1.size
  cases hw : ws.any badP
  rotate_left
  · go_wp2_with fail
    go_ret
    exact ⟨by simp [rightC, hw], hb1⟩
  have HW := Lib.hid hw
  clear hw
  go_wp2_with fail
  refine (contains_legs _ _ _ _ (two_ext h2 hb1) (by have := HP3.out; omega)).mono ?_
  rintro e w2 ⟨rfl, hx2⟩
  have hb2 := hb1.trans (hx2.mono hb1.size)
  have x2 := ((bcell hx2).1 _ _ s0).trans x2
  have x3 := ((bcell hx2).1 _ _ s1).trans x3
  have s0 := Nat.lt_of_lt_of_le s0 hx2.size
  have s1 := Nat.lt_of_lt_of_le s1 hx2.size
  cases hw : ls.any badP
  rotate_left
  · go_wp2_with fail
    go_ret
    exact ⟨by simp [rightC, hw], hb2⟩
  have HV := Lib.hid hw
  clear hw
  go_wp2_with fail
  refine (contains_rides _ _ _ _ _ _ (three_ext h3 hb2) (by omega) x3 s1).mono ?_
  rintro e w3 ⟨rfl, hx3⟩
  go_wp2_with fail
  go_ret
  refine ⟨ret_bool ?_, hb2.trans (hx3.mono hb2.size)⟩
  have q1 : decide (1 ≤ ws.length) = true := decide_eq_true (by omega)
  have q2 : decide (ws.length ≤ 82) = true := decide_eq_true (by omega)
  have q3 : decide (ls.length + 1 = ws.length) = true := decide_eq_true (by have := HP3.out; omega)
  have q4 : decide (rs.length ≤ 200) = true := decide_eq_true (by omega)
  simp only [rightC, q1, q2, q3, q4, HW.out, HV.out, Bool.true_and, Bool.not_false]
end Go.Proofs.Yteahkgoedibimaa
