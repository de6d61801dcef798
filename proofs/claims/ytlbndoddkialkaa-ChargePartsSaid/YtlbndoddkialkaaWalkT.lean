/-
  The walks of the examples of package charge (hills, small). Conditions: none.
-/
import Derived.Test.YtlbndoddkialkaaWalkN
namespace Go.Proofs.Ytlbndoddkialkaa
open Go.RowKit

theorem two_of_cells {w : World} {g : Nat} {l : List P2} {e : TypeId} (h : w.heap[g]? = some (.cells (P2.cells l).toArray e (0, 0))) : Two w w.heap.size (some ⟨g, 0, none⟩) l := by
  refine ⟨P2.length l, fun _ => ⟨g, 0, rfl, (Array.getElem?_eq_some_iff.1 h).1, fun j u hu => ?_⟩⟩
  rw [cell_of_row w g (0 + j) _ e (0, 0) h, Nat.zero_add]
  simpa using hu
theorem nums_of_cells {w : World} {g : Nat} {l : List Int} {e : TypeId} (h : w.heap[g]? = some (.cells (ints l).toArray e (0, 0))) : Nums w w.heap.size (some ⟨g, 0, none⟩) l := by
  refine ⟨by simp [ints], fun _ => ⟨g, 0, rfl, (Array.getElem?_eq_some_iff.1 h).1, fun j u hu => ?_⟩⟩
  rw [cell_of_row w g (0 + j) _ e (0, 0) h, Nat.zero_add]
  simpa using hu

def hills : List P2 := [⟨10, 20⟩, ⟨-15, -5⟩, ⟨20, 30⟩]
def steep : List P2 := [⟨-30, -20⟩, ⟨95, 100⟩]
set_option maxHeartbeats 1000000 in
theorem hills_any (w : World) :
    Calls Try.prog 15 #[] w fun e w' => ∃ A1 c1, e = .returned (.slice A1 hills.length c1) ∧ Two w' w'.heap.size A1 hills ∧ Below w.heap.size w w' := by
  go_enter Try.func15, Try.ntmps15
  go_wp2
  go_ret
  refine ⟨_, _, rfl, two_of_cells (e := 35) ?_, (Below.refl _ _).alloc (Nat.le_refl _) _⟩
  exact heap_at _ _ _ (by simp)

/-- Ints of a slice, and of a literal that has just been made. -/
theorem ints_lit (A : Option Addr) (c1 c2 : Nat) (xs ys : List Int) (w : World) (h : Nums w w.heap.size A xs) (h1 : xs.length ≤ 1000) (h2 : ys.length ≤ 1000) :
    Calls Try.prog 12 #[.slice A xs.length c1, .slice (some ⟨w.heap.size, 0, none⟩) ys.length c2] (w.alloc (.cells (ints ys).toArray 3)) fun e w' => e = .returned (.bool (decide (xs = ys))) ∧ Below w.heap.size w w' := by
  have hb : Below w.heap.size w (w.alloc (.cells (ints ys).toArray 3)) := (Below.refl _ _).alloc (Nat.le_refl _) _
  refine (ints_any A _ c1 c2 xs ys _ (num_ext h hb) (nums_of_cells (heap_at _ _ _ rfl)) (by omega) (by omega)).mono ?_
  rintro e w' ⟨rfl, hx⟩
  exact ⟨rfl, hb.trans (hx.mono hb.size)⟩

theorem chk1 : runL 100 50 hills = [30, 35, 5] ∧ runH 100 50 hills = [40, 55, 35] ∧ runI 100 50 hills = 0 ∧ runE 100 50 hills = 0 := by decide
theorem chk2 : runL 100 44 hills = [] ∧ runH 100 44 hills = [] ∧ runI 100 44 hills = 2 ∧ runE 100 44 hills = 28 := by decide
theorem chk3 : needN 100 hills = 45 ∧ needE 100 hills = 0 := by decide
theorem chk4 : runL 100 90 steep = [100, 0] ∧ runH 100 90 steep = [100, 5] ∧ runI 100 90 steep = 0 ∧ runE 100 90 steep = 0 := by decide
theorem chk5 : needN 100 steep = 80 ∧ needE 100 steep = 0 := by decide
theorem chk6 : rightB 0 [] = true := by decide

set_option maxHeartbeats 4000000 in
set_option maxRecDepth 100000 in
theorem small_any (w : World) :
    Calls Try.prog 7 #[] w fun e w' => e = .returned (.bool true) ∧ Below w.heap.size w w' := by
  go_enter Try.func7, Try.ntmps7
  go_wp2_with fail
  refine (hills_any _).mono ?_
  rintro e w1 ⟨U1, d1, rfl, hU1, hx1⟩
  go_wp2_with fail
  refine (run_any 100 50 U1 d1 hills w1 hU1 (by decide)).mono ?_
  simp only [RunSays, chk1]
  rintro e w2 ⟨A1, c1, A2, c2, rfl, n1, n2, hx2⟩
  have hb2 := hx1.trans (hx2.mono hx1.size)
  go_wp2_with fail
  refine (hills_any _).mono ?_
  rintro e w3 ⟨U2, d2, rfl, hU2, hx3⟩
  have hb3 := hb2.trans (hx3.mono hb2.size)
  go_wp2_with fail
  refine (run_any 100 44 U2 d2 hills w3 hU2 (by decide)).mono ?_
  simp only [RunSays, chk2]
  rintro e w4 ⟨A3, c3, A4, c4, rfl, _, _, hx4⟩
  have hb4 := hb3.trans (hx4.mono hb3.size)
  go_wp2_with fail
  refine (hills_any _).mono ?_
  rintro e w5 ⟨U3, d3, rfl, hU3, hx5⟩
  have hb5 := hb4.trans (hx5.mono hb4.size)
  go_wp2_with fail
  refine (need_any 100 U3 d3 hills w5 hU3).mono ?_
  simp only [chk3]
  rintro e w6 ⟨rfl, hx6⟩
  have hb6 := hb5.trans (hx6.mono hb5.size)
  have n1 := num_ext (num_ext (num_ext (num_ext n1 hx3) hx4) hx5) hx6
  have n2 := num_ext (num_ext (num_ext (num_ext n2 hx3) hx4) hx5) hx6
  go_wp2_with fail
  have hst : Two (w6.alloc (.cells #[.int .i64 (-30), .int .i64 (-20), .int .i64 95, .int .i64 100] 35)) (w6.alloc (.cells #[.int .i64 (-30), .int .i64 (-20), .int .i64 95, .int .i64 100] 35)).heap.size (some ⟨w6.heap.size, 0, none⟩) steep :=
    two_of_cells (e := 35) (heap_at _ _ _ rfl)
  have hx7 : Below w6.heap.size w6 (w6.alloc (.cells #[.int .i64 (-30), .int .i64 (-20), .int .i64 95, .int .i64 100] 35)) := (Below.refl _ _).alloc (Nat.le_refl _) _
  generalize w6.alloc (.cells #[.int .i64 (-30), .int .i64 (-20), .int .i64 95, .int .i64 100] 35) = w7 at hst hx7 ⊢
  have hb7 := hb6.trans (hx7.mono hb6.size)
  refine (run_any 100 90 _ 2 steep w7 hst (by decide)).mono ?_
  simp only [RunSays, chk4]
  rintro e w8 ⟨A5, c5, A6, c6, rfl, n5, n6, hx8⟩
  have hb8 := hb7.trans (hx8.mono hb7.size)
  go_wp2_with fail
  refine (need_any 100 _ 2 steep w8 (two_ext hst hx8)).mono ?_
  simp only [chk5]
  rintro e w9 ⟨rfl, hx9⟩
  have hb9 := hb8.trans (hx9.mono hb8.size)
  have n1 := num_ext (num_ext (num_ext n1 hx7) hx8) hx9
  have n2 := num_ext (num_ext (num_ext n2 hx7) hx8) hx9
  have n5 := num_ext n5 hx9
  have n6 := num_ext n6 hx9
  go_wp2_with fail
  refine (ints_lit A1 c1 3 [30, 35, 5] [30, 35, 5] w9 n1 (by decide) (by decide)).mono ?_
  rw [decide_eq_true rfl]
  rintro e w10 ⟨rfl, hx10⟩
  have hb10 := hb9.trans (hx10.mono hb9.size)
  have n2 := num_ext n2 hx10
  have n5 := num_ext n5 hx10
  have n6 := num_ext n6 hx10
  go_wp2_with fail
  refine (ints_lit A2 c2 3 [40, 55, 35] [40, 55, 35] w10 n2 (by decide) (by decide)).mono ?_
  rw [decide_eq_true rfl]
  rintro e w11 ⟨rfl, hx11⟩
  have hb11 := hb10.trans (hx11.mono hb10.size)
  have n5 := num_ext n5 hx11
  have n6 := num_ext n6 hx11
  go_wp2_with fail
  refine (ints_lit A5 c5 2 [100, 0] [100, 0] w11 n5 (by decide) (by decide)).mono ?_
  rw [decide_eq_true rfl]
  rintro e w12 ⟨rfl, hx12⟩
  have hb12 := hb11.trans (hx12.mono hb11.size)
  have n6 := num_ext n6 hx12
  go_wp2_with fail
  refine (ints_lit A6 c6 2 [100, 5] [100, 5] w12 n6 (by decide) (by decide)).mono ?_
  rw [decide_eq_true rfl]
  rintro e w13 ⟨rfl, hx13⟩
  have hb13 := hb12.trans (hx13.mono hb12.size)
  go_wp2_with fail
  refine (right_any 0 none 0 [] w13 (Shows.empty _ _ _ _)).mono ?_
  rw [chk6]
  rintro e w14 ⟨rfl, hx14⟩
  have hb14 := hb13.trans (hx14.mono hb13.size)
  go_wp2_with fail
  go_ret
  exact ⟨rfl, hb14⟩
end Go.Proofs.Ytlbndoddkialkaa
