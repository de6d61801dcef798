/-
  The walks of the examples of package work (some, small), and of the reference's Some. Conditions: none.
-/
import Derived.Test.YthjedajkebehbaaWalkS
namespace Go.Proofs.Ythjedajkebehbaa
open Go.RowKit

theorem two_of_cells {w : World} {g : Nat} {l : List P2} {e : TypeId} (h : w.heap[g]? = some (.cells (P2.cells l).toArray e (0, 0))) : Two w w.heap.size (some ⟨g, 0, none⟩) l := by
  refine ⟨P2.length l, fun _ => ⟨g, 0, rfl, (Array.getElem?_eq_some_iff.1 h).1, fun j u hu => ?_⟩⟩
  rw [cell_of_row w g (0 + j) _ e (0, 0) h, Nat.zero_add]
  simpa using hu
theorem Two.take {w : World} {B : Nat} {A : Option Addr} {l : List P2} (h : Two w B A l) (k : Nat) (hk : k ≤ l.length) : Two w B A (l.take k) := by
  have e : (P2.cells (l.take k)) = (P2.cells l).take (k * 2) := by
    clear h hk
    induction l generalizing k with
    | nil => simp [P2.cells]
    | cons x l ih =>
      cases k with
      | zero => simp [P2.cells]
      | succ k =>
        have := ih k
        simp only [P2.cells, List.take_succ_cons, List.flatMap_cons] at this ⊢
        rw [this, show (k + 1) * 2 = k * 2 + 2 from by omega]
        simp
  refine ⟨by rw [P2.length], fun hn => ?_⟩
  obtain ⟨b, o, ha, hb, hc⟩ := h.2 (by simp at hn; omega)
  refine ⟨b, o, ha, hb, fun j u hu => hc j u ?_⟩
  rw [e, List.getElem?_take] at hu
  split at hu
  · exact hu
  · cases hu

set_option maxHeartbeats 1000000 in
theorem some_any (h : Int) (w : World) :
    Calls Try.prog 19 #[.int .i64 h] w fun e w' => ∃ A1 A2, e = .returned (.tuple #[.slice A1 3 3, .slice A2 3 3]) ∧ Two w' w'.heap.size A1 [⟨40, h⟩, ⟨40, h⟩, ⟨40, h⟩] ∧ Two w' w'.heap.size A2 [⟨0, 0⟩, ⟨10, 20⟩, ⟨30, 40⟩] ∧ Below w.heap.size w w' := by
  go_enter Try.func19, Try.ntmps19
  go_wp2
  go_ret2
  refine ⟨_, _, rfl, two_of_cells (e := 41) ?_, two_of_cells (e := 41) ?_, (((Below.refl _ _).alloc (Nat.le_refl _) _).alloc (by simp) _).alloc (by simp; omega) _⟩
  · rw [Below.heap_alloc _ _ _ (by simp)]
    exact heap_at _ _ _ (by simp)
  · exact heap_at _ _ _ (by simp)

theorem chk1 : checkI 100 30 300 [⟨40, 60⟩, ⟨40, 60⟩] [⟨0, 0⟩, ⟨10, 20⟩] = 1 ∧ checkE 100 30 300 [⟨40, 60⟩, ⟨40, 60⟩] [⟨0, 0⟩, ⟨10, 20⟩] = 29 := by decide
theorem chk2 : checkE 100 30 300 [⟨40, 50⟩, ⟨40, 50⟩, ⟨40, 50⟩] [⟨0, 0⟩, ⟨10, 20⟩, ⟨30, 40⟩] = 0 ∧ spareD 100 30 300 [⟨40, 50⟩, ⟨40, 50⟩, ⟨40, 50⟩] [⟨0, 0⟩, ⟨10, 20⟩, ⟨30, 40⟩] = 50 ∧
    spareW 100 30 300 [⟨40, 50⟩, ⟨40, 50⟩, ⟨40, 50⟩] [⟨0, 0⟩, ⟨10, 20⟩, ⟨30, 40⟩] = 90 := by decide
theorem chk3 : checkE 100 30 300 [] [] = 0 ∧ spareD 100 30 300 [] [] = 100 ∧ spareW 100 30 300 [] [] = 300 := by decide
theorem chk4 : rightB 100 30 300 [⟨40, 60⟩, ⟨40, 60⟩, ⟨40, 60⟩] [⟨0, 0⟩, ⟨10, 20⟩, ⟨30, 40⟩] = true ∧ rightB 100 30 300 [⟨40, 60⟩, ⟨40, 60⟩, ⟨40, 60⟩] [] = false := by decide

set_option maxHeartbeats 4000000 in
set_option maxRecDepth 100000 in
theorem small_any (w : World) :
    Calls Try.prog 7 #[] w fun e w' => e = .returned (.bool true) ∧ Below w.heap.size w w' := by
  have hbx : Below w.heap.size w (w.alloc (shiftBox 100 30 300)) := (Below.refl _ _).alloc (Nat.le_refl _) _
  go_enter Try.func7, Try.ntmps7
  go_wp2_with fail
  refine (some_any _ _).mono ?_
  rintro e w1 ⟨L1, W1, rfl, hL1, hW1, hx⟩
  rw [size_alloc] at hx
  obtain ⟨q0, q1, q2, hb1, hs1⟩ := box_cells hx
  go_wp2_with fail
  refine wp_region_mix [(0, true), (1, true), (2, true), (3, true), (4, true), (5, false), (6, true), (7, true), (8, true), (9, true)] [10] (SB w.heap.size w w1.heap.size none _) (by kernel_rfl) (by kernel_rfl) (by kernel_rfl) (by kernel_rfl) (by decide) (SB.start hb1 (by omega)) (fun hS => ?_)
  simp only [planned, List.filterMap_cons, List.filterMap_nil, List.getElem?_cons_zero, List.getElem?_cons_succ, Option.map_some]
  repeat (first
    | (refine mix_skip (by rfl) ?_; try simp only [Act.put, List.setIfInBounds_toArray, List.set_cons_zero, List.set_cons_succ])
    | (refine mix_pass hS (by rfl) ?_; try simp only [Act.put, List.setIfInBounds_toArray, List.set_cons_zero, List.set_cons_succ])
    | (refine mix_pure (by rfl) (by rfl) (fun K hK => ?_); go_big_quiet_op; refine hK _ ?_; clear hK K)
    | (refine mix_take (by rfl) ?_
       apply Exists.intro
       refine ⟨?_, ?_⟩
       · intro w' hSw
         have hSc := hSw.cell
         clear hSw
         go_simp
         try with_reducible rfl
       try simp only [Act.put, List.setIfInBounds_toArray, List.set_cons_zero, List.set_cons_succ])
    | (refine mix_move (by rfl) (fun K hK => ?_)
       first
         | (go_simp; go_at_call 8; refine (check_any 100 30 300 L1 W1 3 3 [⟨40, 60⟩, ⟨40, 60⟩] [⟨0, 0⟩, ⟨10, 20⟩] _ (two_ext (hL1.take 2 (by simp)) ((Below.refl _ _).drew)) (two_ext (hW1.take 2 (by simp)) ((Below.refl _ _).drew)) (by simp) (by simp)).mono ?_; rw [chk1.1, chk1.2]; rintro e w2 ⟨rfl, hx⟩)
         | go_simp
       try dsimp only
       first
         | refine hK.out _ _ (hS.step hx (by omega)) ?_
         | refine hK.out _ _ hS ?_
         | refine hK.out _ _ (hS.alloc _ (by omega)) ?_
         | refine hK.out _ _ (hS.grown hg hx) ?_
       clear hK K hS
       intro hS
       try simp only [Act.put, List.setIfInBounds_toArray, List.set_cons_zero, List.set_cons_succ])
    | fail)
  refine mix_nil ?_
  simp only [tailed, List.filterMap_cons, List.filterMap_nil, List.getElem?_cons_zero, List.getElem?_cons_succ]
  go_wp2_with fail
  refine NoPanic.normal ?_
  have r0 := (hS.cell _ 0 hs1 (by simp)).trans q0
  have r1 := (hS.cell _ 1 hs1 (by simp)).trans q1
  have r2 := (hS.cell _ 2 hs1 (by simp)).trans q2
  have hbA := hS.below
  have hsA := hS.size
  have hx2 : Below w1.heap.size w1 w2 := (Below.refl _ _).drew.trans hx
  go_wp2_with fail
  refine (some_any _ _).mono ?_
  rintro e w3 ⟨L2, W2, rfl, hL2, hW2, hx3⟩
  have t0 := ((bcell hx3).1 _ 0 (by omega)).trans r0
  have t1 := ((bcell hx3).1 _ 1 (by omega)).trans r1
  have t2 := ((bcell hx3).1 _ 2 (by omega)).trans r2
  have hbB := hbA.trans (hx3.mono hbA.size)
  have hsB := hx3.size
  go_wp2_with fail
  refine (check_any 100 30 300 L2 W2 3 3 [⟨40, 50⟩, ⟨40, 50⟩, ⟨40, 50⟩] [⟨0, 0⟩, ⟨10, 20⟩, ⟨30, 40⟩] _ hL2 hW2 (by simp) (by simp)).mono ?_
  rw [chk2.1]
  rintro e w4 ⟨rfl, hx4⟩
  have u0 := ((bcell hx4).1 _ 0 (by omega)).trans t0
  have u1 := ((bcell hx4).1 _ 1 (by omega)).trans t1
  have u2 := ((bcell hx4).1 _ 2 (by omega)).trans t2
  have hbC := hbB.trans (hx4.mono hbB.size)
  have hsC := hx4.size
  go_wp2_with fail
  refine (spare_any 100 30 300 L2 W2 3 3 [⟨40, 50⟩, ⟨40, 50⟩, ⟨40, 50⟩] [⟨0, 0⟩, ⟨10, 20⟩, ⟨30, 40⟩] _ (two_ext hL2 hx4) (two_ext hW2 hx4) (by simp) (by simp)).mono ?_
  rw [chk2.1, chk2.2.1, chk2.2.2]
  rintro e w5 ⟨rfl, hx5⟩
  have v0 := ((bcell hx5).1 _ 0 (by omega)).trans u0
  have v1 := ((bcell hx5).1 _ 1 (by omega)).trans u1
  have v2 := ((bcell hx5).1 _ 2 (by omega)).trans u2
  have hbD := hbC.trans (hx5.mono hbC.size)
  have hsD := hx5.size
  go_wp2_with fail
  refine (spare_any 100 30 300 none none 0 0 [] [] _ (Shows.empty _ _ _ _) (Shows.empty _ _ _ _) (by simp) (by simp)).mono ?_
  rw [chk3.1, chk3.2.1, chk3.2.2]
  rintro e w6 ⟨rfl, hx6⟩
  have y0 := ((bcell hx6).1 _ 0 (by omega)).trans v0
  have y1 := ((bcell hx6).1 _ 1 (by omega)).trans v1
  have y2 := ((bcell hx6).1 _ 2 (by omega)).trans v2
  have hbE := hbD.trans (hx6.mono hbD.size)
  have hsE := hx6.size
  have hL : Two w6 w6.heap.size L1 [⟨40, 60⟩, ⟨40, 60⟩, ⟨40, 60⟩] := two_ext (two_ext (two_ext (two_ext (two_ext hL1 hx2) hx3) hx4) hx5) hx6
  have hW : Two w6 w6.heap.size W1 [⟨0, 0⟩, ⟨10, 20⟩, ⟨30, 40⟩] := two_ext (two_ext (two_ext (two_ext (two_ext hW1 hx2) hx3) hx4) hx5) hx6
  go_wp2_with fail
  refine (right_any 100 30 300 L1 W1 3 3 [⟨40, 60⟩, ⟨40, 60⟩, ⟨40, 60⟩] [⟨0, 0⟩, ⟨10, 20⟩, ⟨30, 40⟩] _ hL hW (by simp) (by simp)).mono ?_
  rw [chk4.1]
  rintro e w7 ⟨rfl, hx7⟩
  have z0 := ((bcell hx7).1 _ 0 (by omega)).trans y0
  have z1 := ((bcell hx7).1 _ 1 (by omega)).trans y1
  have z2 := ((bcell hx7).1 _ 2 (by omega)).trans y2
  have hbF := hbE.trans (hx7.mono hbE.size)
  go_wp2_with fail
  refine (right_any 100 30 300 L1 none 3 0 [⟨40, 60⟩, ⟨40, 60⟩, ⟨40, 60⟩] [] _ (two_ext hL hx7) (Shows.empty _ _ _ _) (by simp) (by simp)).mono ?_
  rw [chk4.2]
  rintro e w8 ⟨rfl, hx8⟩
  go_wp2_with fail
  go_ret
  exact ⟨rfl, hbF.trans (hx8.mono hbF.size)⟩
end Go.Proofs.Ythjedajkebehbaa
