/-
  The examples of the laws of package react. Conditions: none.
-/
import Derived.Test.YteahkgoedibimaaWalkM
import Derived.Test.YteahkgoedibimaaWalkL
import Derived.Handy
namespace Go.Proofs.Yteahkgoedibimaa
open Go.RowKit

theorem nums_lit (w : World) (l : List Int) (e : TypeId) : Nums (w.alloc (.cells (ints l).toArray e)) (w.alloc (.cells (ints l).toArray e)).heap.size (some ⟨w.heap.size, 0, none⟩) l := by
  refine ⟨by simp [ints], fun _ => ⟨_, 0, rfl, by simp, fun j u hu => ?_⟩⟩
  rw [cell_of_row _ w.heap.size (0 + j) _ e (0, 0) (heap_alloc_new w _), Nat.zero_add]
  simpa using hu
theorem two_lit (w : World) (l : List P2) (e : TypeId) : Two (w.alloc (.cells (P2.cells l).toArray e)) (w.alloc (.cells (P2.cells l).toArray e)).heap.size (some ⟨w.heap.size, 0, none⟩) l := by
  refine ⟨P2.length l, fun _ => ⟨_, 0, rfl, by simp, fun j u hu => ?_⟩⟩
  rw [cell_of_row _ w.heap.size (0 + j) _ e (0, 0) (heap_alloc_new w _), Nat.zero_add]
  simpa using hu
theorem three_lit (w : World) (l : List P3) (e : TypeId) : Three (w.alloc (.cells (P3.cells l).toArray e)) (w.alloc (.cells (P3.cells l).toArray e)).heap.size (some ⟨w.heap.size, 0, none⟩) l := by
  refine ⟨P3.length l, fun _ => ⟨_, 0, rfl, by simp, fun j u hu => ?_⟩⟩
  rw [cell_of_row _ w.heap.size (0 + j) _ e (0, 0) (heap_alloc_new w _), Nat.zero_add]
  simpa using hu

theorem two_at {w : World} {k : Nat} {l : List P2} {e : TypeId} (h : w.heap[k]? = some (.cells (P2.cells l).toArray e)) : Two w w.heap.size (some ⟨k, 0, none⟩) l := by
  refine ⟨P2.length l, fun _ => ⟨_, 0, rfl, (Array.getElem?_eq_some_iff.1 h).1, fun j u hu => ?_⟩⟩
  rw [cell_of_row _ k (0 + j) _ e (0, 0) h, Nat.zero_add]
  simpa using hu
theorem three_at {w : World} {k : Nat} {l : List P3} {e : TypeId} (h : w.heap[k]? = some (.cells (P3.cells l).toArray e)) : Three w w.heap.size (some ⟨k, 0, none⟩) l := by
  refine ⟨P3.length l, fun _ => ⟨_, 0, rfl, (Array.getElem?_eq_some_iff.1 h).1, fun j u hu => ?_⟩⟩
  rw [cell_of_row _ k (0 + j) _ e (0, 0) h, Nat.zero_add]
  simpa using hu
/-- The value shows a chain. -/
def Chain (w : World) (v : Value) (ws ls : List P2) (rs : List P3) : Prop :=
  ∃ A1 c1 A2 c2 A3 c3, v = .agg #[.slice A1 ws.length c1, .slice A2 ls.length c2, .slice A3 rs.length c3] ∧ Two w w.heap.size A1 ws ∧ Two w w.heap.size A2 ls ∧ Three w w.heap.size A3 rs
def wsD : List P2 := [⟨0, 100⟩, ⟨30, 60⟩, ⟨0, 90⟩]
def lsD : List P2 := [⟨10, 20⟩, ⟨5, 15⟩]
def rsD (m : Int) : List P3 := [⟨0, 2, m⟩]
set_option maxHeartbeats 1000000 in
theorem some_any (m : Int) (w : World) :
    Calls Try.prog 24 #[.int .i64 m] w fun e w' => ∃ v, e = .returned v ∧ Chain w' v wsD lsD (rsD m) ∧ Below w.heap.size w w' := by
  go_enter Try.func24, Try.ntmps24
  go_wp2
  go_returns
  refine ⟨_, rfl, ⟨_, 3, _, 2, _, 1, rfl, two_at (e := 47) ?_, two_at (e := 44) ?_, three_at (e := 49) ?_⟩, ?_⟩
  · exact (Below.heap_alloc _ _ _ (by simp)).trans ((Below.heap_alloc _ _ _ (by simp)).trans (heap_at _ _ _ (by simp)))
  · exact (Below.heap_alloc _ _ _ (by simp)).trans (heap_at _ _ _ (by simp))
  · exact heap_at _ _ _ (by simp)
  · exact (((lit_below _ _).alloc (by simp) _).alloc (by simp; omega) _).alloc (by simp; omega) _
theorem chk1 : guardR wsD lsD (rsD 40) = [5, 30, 0] ∧ guardE wsD lsD (rsD 40) = 0 := by decide
theorem chk2 : runR wsD lsD (rsD 40) [5, 30, 0] [10, 5] = [5, 30, 35] ∧ runE wsD lsD (rsD 40) [5, 30, 0] [10, 5] = 0 := by decide
theorem chk3 : runR wsD lsD (rsD 40) [5, 30, 0] [20, 15] = [5, 30, 45] ∧ runE wsD lsD (rsD 40) [5, 30, 0] [20, 15] = 0 := by decide
theorem chk4 : worstL wsD lsD (rsD 40) [5, 30, 0] = [5, 30, 45] ∧ worstE wsD lsD (rsD 40) [5, 30, 0] = 0 := by decide
theorem chk5 : guardR wsD lsD (rsD 30) = [] ∧ guardE wsD lsD (rsD 30) = 20 := by decide
theorem chk6 : runR wsD lsD (rsD 40) [5, 30, 0] [9, 5] = [] ∧ runE wsD lsD (rsD 40) [5, 30, 0] [9, 5] = 1 := by decide
theorem chk7 : keepB wsD lsD (rsD 40) [5, 30, 45] = true := by decide
theorem chk8 : keepB wsD lsD (rsD 40) [4, 30, 45] = false := by decide
theorem chk9 : rightC wsD lsD (rsD 40) = true := by decide

theorem num_lit {w : World} {l : List Int} : Nums (w.alloc (.cells (ints l).toArray 3)) (w.alloc (.cells (ints l).toArray 3)).heap.size (some ⟨w.heap.size, 0, none⟩) l := nums_lit w l _
/-- Ints of a slice, and of a literal that has just been made. -/
theorem ints_lit (A : Option Addr) (n c1 m c2 : Nat) (xs ys : List Int) (w : World) (hn : xs.length = n) (hm : ys.length = m) (h : Nums w w.heap.size A xs) (h1 : xs.length ≤ 1000) (h2 : ys.length ≤ 1000) :
    Calls Try.prog 16 #[.slice A n c1, .slice (some ⟨w.heap.size, 0, none⟩) m c2] (w.alloc (.cells (ints ys).toArray 3)) fun e w' => e = .returned (.bool (decide (xs = ys))) ∧ Below w.heap.size w w' := by
  subst hn hm
  have hb := lit_below w (.cells (ints ys).toArray 3)
  refine (ints_any A _ c1 c2 xs ys _ (num_ext h hb) (nums_lit _ _ _) (by omega) (by omega)).mono ?_
  rintro e w' ⟨rfl, hx⟩
  exact ⟨rfl, hb.trans (hx.mono hb.size)⟩
/-- Run, with a literal that has just been made. -/
theorem run_lit (A1 A2 A3 A4 : Option Addr) (c1 c2 c3 c4 n m c5 n1 n2 n3 : Nat) (ws ls : List P2) (rs : List P3) (G T : List Int) (w : World) (k1 : ws.length = n1) (k2 : ls.length = n2) (k3 : rs.length = n3) (hn : G.length = n) (hm : T.length = m) (h1 : Two w w.heap.size A1 ws) (h2 : Two w w.heap.size A2 ls) (h3 : Three w w.heap.size A3 rs) (h4 : Nums w w.heap.size A4 G)
    (hl1 : ws.length ≤ 1000) (hl4 : G.length ≤ 1000) {R : List Int} {E : Int} (hR : runR ws ls rs G T = R ∧ runE ws ls rs G T = E) :
    Calls Try.prog 12 #[.agg #[.slice A1 n1 c1, .slice A2 n2 c2, .slice A3 n3 c3], .slice A4 n c4, .slice (some ⟨w.heap.size, 0, none⟩) m c5] (w.alloc (.cells (ints T).toArray 3)) (PairSays R E w) := by
  subst hn hm k1 k2 k3
  rw [← hR.1, ← hR.2]
  have hb := lit_below w (.cells (ints T).toArray 3)
  refine (run_any A1 A2 A3 A4 _ c1 c2 c3 c4 c5 ws ls rs G T _ (two_ext h1 hb) (two_ext h2 hb) (three_ext h3 hb) (num_ext h4 hb) (nums_lit _ _ _) (by omega) (by omega)).mono ?_
  rintro e w' ⟨A, c, hc, rfl, hN, hx⟩
  exact ⟨A, c, hc, rfl, hN, hb.trans (hx.mono hb.size)⟩
theorem keeps_lit (A1 A2 A3 : Option Addr) (c1 c2 c3 m c5 n1 n2 n3 : Nat) (ws ls : List P2) (rs : List P3) (T : List Int) (w : World) (k1 : ws.length = n1) (k2 : ls.length = n2) (k3 : rs.length = n3) (hm : T.length = m) (h1 : Two w w.heap.size A1 ws) (h2 : Two w w.heap.size A2 ls) (h3 : Three w w.heap.size A3 rs)
    (hl1 : ws.length ≤ 1000) :
    Calls Try.prog 19 #[.agg #[.slice A1 n1 c1, .slice A2 n2 c2, .slice A3 n3 c3], .slice (some ⟨w.heap.size, 0, none⟩) m c5] (w.alloc (.cells (ints T).toArray 3)) fun e w' => e = .returned (.bool (keepB ws ls rs T)) ∧ Below w.heap.size w w' := by
  subst hm k1 k2 k3
  have hb := lit_below w (.cells (ints T).toArray 3)
  refine (keeps_any A1 A2 A3 _ c1 c2 c3 c5 ws ls rs T _ (two_ext h1 hb) (two_ext h2 hb) (three_ext h3 hb) (nums_lit _ _ _) (by omega)).mono ?_
  rintro e w' ⟨rfl, hx⟩
  exact ⟨rfl, hb.trans (hx.mono hb.size)⟩
set_option maxHeartbeats 4000000 in
set_option maxRecDepth 100000 in
theorem small_any (w : World) :
    Calls Try.prog 8 #[] w fun e w' => e = .returned (.bool true) ∧ Below w.heap.size w w' := by
  go_enter Try.func8, Try.ntmps8
  go_wp2_with fail
  refine (some_any 40 _).mono ?_
  rintro e w1 ⟨v, rfl, ⟨A1, c1, A2, c2, A3, c3, rfl, h1, h2, h3⟩, hb1⟩
  have hbox := BoxC.new w1 (.slice A1 wsD.length c1) (.slice A2 lsD.length c2) (.slice A3 (rsD 40).length c3) 26
  have hx := lit_below w1 (.cells #[.slice A1 wsD.length c1, .slice A2 lsD.length c2, .slice A3 (rsD 40).length c3] 26)
  have hb2 := hb1.trans (hx.mono hb1.size)
  have h1 := two_ext h1 hx
  have h2 := two_ext h2 hx
  have h3 := three_ext h3 hx
  obtain ⟨x0, x1, x2, sA⟩ := id hbox
  go_wp2_with fail
  refine (guard_any _ _ _ _ _ _ wsD lsD (rsD 40) _ h1 h2 h3 (by decide)).mono ?_
  rw [chk1.1, chk1.2]
  rintro e w3 ⟨A4, c4, _, rfl, g4, hx3⟩
  have hb3 := hb2.trans (hx3.mono hb2.size)
  clear x0 x1 x2 sA hx
  have hbox := hbox.ext hx3
  have h1 := two_ext h1 hx3
  have h2 := two_ext h2 hx3
  have h3 := three_ext h3 hx3
  obtain ⟨x0, x1, x2, sA⟩ := id hbox
  go_wp2_with fail
  refine (run_lit A1 A2 A3 A4 c1 c2 c3 c4 3 2 2 _ _ _ wsD lsD (rsD 40) [5, 30, 0] [10, 5] w3 rfl rfl rfl rfl rfl h1 h2 h3 g4 (by decide) (by decide) chk2).mono ?_
  rintro e w4 ⟨A5, c5, _, rfl, g5, hx4⟩
  have hb4 := hb3.trans (hx4.mono hb3.size)
  clear x0 x1 x2 sA
  have hbox := hbox.ext hx4
  have h1 := two_ext h1 hx4
  have h2 := two_ext h2 hx4
  have h3 := three_ext h3 hx4
  obtain ⟨x0, x1, x2, sA⟩ := id hbox
  have g4 := num_ext g4 hx4
  go_wp2_with fail
  refine (run_lit A1 A2 A3 A4 c1 c2 c3 c4 3 2 2 _ _ _ wsD lsD (rsD 40) [5, 30, 0] [20, 15] w4 rfl rfl rfl rfl rfl h1 h2 h3 g4 (by decide) (by decide) chk3).mono ?_
  rintro e w5 ⟨A6, c6, _, rfl, g6, hx5⟩
  have hb5 := hb4.trans (hx5.mono hb4.size)
  clear x0 x1 x2 sA
  have hbox := hbox.ext hx5
  have h1 := two_ext h1 hx5
  have h2 := two_ext h2 hx5
  have h3 := three_ext h3 hx5
  obtain ⟨x0, x1, x2, sA⟩ := id hbox
  have g4 := num_ext g4 hx5
  have g5 := num_ext g5 hx5
  go_wp2_with fail
  refine (worst_n A1 A2 A3 A4 c1 c2 c3 c4 3 wsD lsD (rsD 40) [5, 30, 0] w5 rfl h1 h2 h3 g4 (by decide) (by decide)).mono ?_
  rw [chk4.1, chk4.2]
  rintro e w6 ⟨A7, c7, _, rfl, g7, hx6⟩
  have hb6 := hb5.trans (hx6.mono hb5.size)
  clear x0 x1 x2 sA
  have hbox := hbox.ext hx6
  have h1 := two_ext h1 hx6
  have h2 := two_ext h2 hx6
  have h3 := three_ext h3 hx6
  obtain ⟨x0, x1, x2, sA⟩ := id hbox
  have g4 := num_ext g4 hx6
  have g5 := num_ext g5 hx6
  have g6 := num_ext g6 hx6
  go_wp2_with fail
  refine (some_any 30 _).mono ?_
  rintro e w7 ⟨v, rfl, ⟨B1, d1, B2, d2, B3, d3, rfl, k1, k2, k3⟩, hx7⟩
  have hb7 := hb6.trans (hx7.mono hb6.size)
  clear x0 x1 x2 sA
  have hbox := hbox.ext hx7
  have h1 := two_ext h1 hx7
  have h2 := two_ext h2 hx7
  have h3 := three_ext h3 hx7
  obtain ⟨x0, x1, x2, sA⟩ := id hbox
  have g4 := num_ext g4 hx7
  have g5 := num_ext g5 hx7
  have g6 := num_ext g6 hx7
  have g7 := num_ext g7 hx7
  go_wp2_with fail
  refine (guard_any _ _ _ _ _ _ wsD lsD (rsD 30) _ k1 k2 k3 (by decide)).mono ?_
  rw [chk5.1, chk5.2]
  rintro e w8 ⟨A8, c8, _, rfl, _, hx8⟩
  have hb8 := hb7.trans (hx8.mono hb7.size)
  clear x0 x1 x2 sA
  have hbox := hbox.ext hx8
  have h1 := two_ext h1 hx8
  have h2 := two_ext h2 hx8
  have h3 := three_ext h3 hx8
  obtain ⟨x0, x1, x2, sA⟩ := id hbox
  have g4 := num_ext g4 hx8
  have g5 := num_ext g5 hx8
  have g6 := num_ext g6 hx8
  have g7 := num_ext g7 hx8
  go_wp2_with fail
  refine (run_lit A1 A2 A3 A4 c1 c2 c3 c4 3 2 2 _ _ _ wsD lsD (rsD 40) [5, 30, 0] [9, 5] w8 rfl rfl rfl rfl rfl h1 h2 h3 g4 (by decide) (by decide) chk6).mono ?_
  rintro e w9 ⟨A9, c9, _, rfl, _, hx9⟩
  have hb9 := hb8.trans (hx9.mono hb8.size)
  clear x0 x1 x2 sA
  have hbox := hbox.ext hx9
  have h1 := two_ext h1 hx9
  have h2 := two_ext h2 hx9
  have h3 := three_ext h3 hx9
  obtain ⟨x0, x1, x2, sA⟩ := id hbox
  have g4 := num_ext g4 hx9
  have g5 := num_ext g5 hx9
  have g6 := num_ext g6 hx9
  have g7 := num_ext g7 hx9
  go_wp2_with fail
  refine (ints_lit A4 3 c4 3 3 [5, 30, 0] [5, 30, 0] w9 rfl rfl g4 (by decide) (by decide)).mono ?_
  rw [decide_eq_true rfl]
  rintro e w10 ⟨rfl, hx10⟩
  have hb10 := hb9.trans (hx10.mono hb9.size)
  clear x0 x1 x2 sA
  have hbox := hbox.ext hx10
  have h1 := two_ext h1 hx10
  have h2 := two_ext h2 hx10
  have h3 := three_ext h3 hx10
  obtain ⟨x0, x1, x2, sA⟩ := id hbox
  have g5 := num_ext g5 hx10
  have g6 := num_ext g6 hx10
  have g7 := num_ext g7 hx10
  go_wp2_with fail
  refine (ints_lit A5 3 c5 3 3 [5, 30, 35] [5, 30, 35] w10 rfl rfl g5 (by decide) (by decide)).mono ?_
  rw [decide_eq_true rfl]
  rintro e w11 ⟨rfl, hx11⟩
  have hb11 := hb10.trans (hx11.mono hb10.size)
  clear x0 x1 x2 sA
  have hbox := hbox.ext hx11
  have h1 := two_ext h1 hx11
  have h2 := two_ext h2 hx11
  have h3 := three_ext h3 hx11
  obtain ⟨x0, x1, x2, sA⟩ := id hbox
  have g6 := num_ext g6 hx11
  have g7 := num_ext g7 hx11
  go_wp2_with fail
  refine (ints_lit A6 3 c6 3 3 [5, 30, 45] [5, 30, 45] w11 rfl rfl g6 (by decide) (by decide)).mono ?_
  rw [decide_eq_true rfl]
  rintro e w12 ⟨rfl, hx12⟩
  have hb12 := hb11.trans (hx12.mono hb11.size)
  clear x0 x1 x2 sA
  have hbox := hbox.ext hx12
  have h1 := two_ext h1 hx12
  have h2 := two_ext h2 hx12
  have h3 := three_ext h3 hx12
  obtain ⟨x0, x1, x2, sA⟩ := id hbox
  have g6 := num_ext g6 hx12
  have g7 := num_ext g7 hx12
  go_wp2_with fail
  refine (ints_any A7 A6 c7 c6 [5, 30, 45] [5, 30, 45] w12 g7 g6 (by decide) (by decide)).mono ?_
  rw [decide_eq_true rfl]
  rintro e w13 ⟨rfl, hx13⟩
  have hb13 := hb12.trans (hx13.mono hb12.size)
  clear x0 x1 x2 sA
  have hbox := hbox.ext hx13
  have h1 := two_ext h1 hx13
  have h2 := two_ext h2 hx13
  have h3 := three_ext h3 hx13
  obtain ⟨x0, x1, x2, sA⟩ := id hbox
  have g6 := num_ext g6 hx13
  go_wp2_with fail
  refine (keeps_any A1 A2 A3 A6 c1 c2 c3 c6 wsD lsD (rsD 40) [5, 30, 45] w13 h1 h2 h3 g6 (by decide)).mono ?_
  rw [chk7]
  rintro e w14 ⟨rfl, hx14⟩
  have hb14 := hb13.trans (hx14.mono hb13.size)
  clear x0 x1 x2 sA
  have hbox := hbox.ext hx14
  have h1 := two_ext h1 hx14
  have h2 := two_ext h2 hx14
  have h3 := three_ext h3 hx14
  obtain ⟨x0, x1, x2, sA⟩ := id hbox
  go_wp2_with fail
  refine (keeps_lit A1 A2 A3 c1 c2 c3 3 3 _ _ _ wsD lsD (rsD 40) [4, 30, 45] w14 rfl rfl rfl rfl h1 h2 h3 (by decide)).mono ?_
  rw [chk8]
  rintro e w15 ⟨rfl, hx15⟩
  have hb15 := hb14.trans (hx15.mono hb14.size)
  clear x0 x1 x2 sA
  have hbox := hbox.ext hx15
  have h1 := two_ext h1 hx15
  have h2 := two_ext h2 hx15
  have h3 := three_ext h3 hx15
  obtain ⟨x0, x1, x2, sA⟩ := id hbox
  go_wp2_with fail
  refine (right_any A1 A2 A3 c1 c2 c3 wsD lsD (rsD 40) w15 h1 h2 h3 (by decide)).mono ?_
  rw [chk9]
  rintro e w16 ⟨rfl, hx16⟩
  go_wp2_with fail
  go_ret
  exact ⟨rfl, hb15.trans (hx16.mono hb15.size)⟩
end Go.Proofs.Yteahkgoedibimaa
