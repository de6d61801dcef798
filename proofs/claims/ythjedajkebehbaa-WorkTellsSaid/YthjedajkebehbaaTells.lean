/-
  WorkTells: for all shifts, legs and waits the program's functions return what the reference's return. Conditions: none.
-/
import Derived.Test.YthjedajkebehbaaWalkT
import Derived.Test.YthjedajkebehbaaLift
namespace Go.Proofs.Ythjedajkebehbaa
open Go.ChangeShapes Go.WideShapes Go.ChangeAt Go.RowKit Go.Deep Go.Joins

set_option maxHeartbeats 8000000 in
set_option maxRecDepth 100000 in
theorem tells_any (D R W : Int) (A1 A2 : Option Addr) (c1 c2 : Nat) (ls ws : List P2) (w : World) (h1 : Two w w.heap.size A1 ls) (h2 : Two w w.heap.size A2 ws) (hl1 : ls.length ≤ 9223372036854775807) (hl2 : ws.length ≤ 9223372036854775807) :
    Calls Try.prog 3 #[.agg #[.int .i64 D, .int .i64 R, .int .i64 W], .slice A1 ls.length c1, .slice A2 ws.length c2] w fun e w' => e = .returned (.bool true) ∧ Below w.heap.size w w' := by
  go_enter Try.func3, Try.ntmps3
  go_wp2_with fail
  refine (small_any _).mono ?_
  rintro e w1 ⟨rfl, hx⟩
  rw [size_alloc] at hx
  obtain ⟨q0, q1, q2, hb1, hs1⟩ := box_cells hx
  by_cases hn : ls.length ≤ 90
  · by_cases hm : ws.length ≤ 90
    · go_wp2_with fail
      refine (check_any _ _ _ _ _ _ _ _ _ _ (two_ext h1 hb1) (two_ext h2 hb1) hl1 hl2).mono ?_
      rintro e w2 ⟨rfl, hx2⟩
      have t0 := ((bcell hx2).1 _ 0 (by omega)).trans q0
      have t1 := ((bcell hx2).1 _ 1 (by omega)).trans q1
      have t2 := ((bcell hx2).1 _ 2 (by omega)).trans q2
      have hb2 := hb1.trans (hx2.mono hb1.size)
      have hs2 := hx2.size
      go_wp2_with fail
      refine (rcheck_any _ _ _ _ _ _ _ _ _ _ (two_ext h1 hb2) (two_ext h2 hb2)).mono ?_
      rintro e w3 ⟨rfl, hx3⟩
      have u0 := ((bcell hx3).1 _ 0 (by omega)).trans t0
      have u1 := ((bcell hx3).1 _ 1 (by omega)).trans t1
      have u2 := ((bcell hx3).1 _ 2 (by omega)).trans t2
      have hb3 := hb2.trans (hx3.mono hb2.size)
      have hs3 := hx3.size
      go_wp2_with fail
      refine (spare_any _ _ _ _ _ _ _ _ _ _ (two_ext h1 hb3) (two_ext h2 hb3) hl1 hl2).mono ?_
      rintro e w4 ⟨rfl, hx4⟩
      have v0 := ((bcell hx4).1 _ 0 (by omega)).trans u0
      have v1 := ((bcell hx4).1 _ 1 (by omega)).trans u1
      have v2 := ((bcell hx4).1 _ 2 (by omega)).trans u2
      have hb4 := hb3.trans (hx4.mono hb3.size)
      have hs4 := hx4.size
      go_wp2_with fail
      refine (rspare_any _ _ _ _ _ _ _ _ _ _ (two_ext h1 hb4) (two_ext h2 hb4) (by omega)).mono ?_
      rintro e w5 ⟨rfl, hx5⟩
      have y0 := ((bcell hx5).1 _ 0 (by omega)).trans v0
      have y1 := ((bcell hx5).1 _ 1 (by omega)).trans v1
      have y2 := ((bcell hx5).1 _ 2 (by omega)).trans v2
      have hb5 := hb4.trans (hx5.mono hb4.size)
      have hs5 := hx5.size
      have hs0 : w.heap.size < w5.heap.size := by omega
      go_wp2_with fail
      refine wp_region_mix [(0, true), (1, true), (2, true), (3, true), (4, true), (5, true), (6, true), (7, true), (8, true), (9, true), (10, true), (11, true), (12, true), (13, true), (14, true), (15, true), (16, true), (17, true), (18, true), (19, true), (20, true), (21, true), (22, true), (23, true), (24, true), (25, true), (26, true), (27, true), (28, true), (29, true), (31, true), (32, true), (33, true), (30, false), (34, false), (35, true), (36, true), (37, true)] (SB w.heap.size w w5.heap.size none _) (by kernel_rfl) (by kernel_rfl) (by kernel_rfl) (by decide) (SB.start hb5 (by omega)) (fun hS => ?_)
      simp only [planned, List.filterMap_cons, List.filterMap_nil, List.getElem?_cons_zero, List.getElem?_cons_succ, Option.map_some]
      repeat (first
        | (refine mix_skip (by rfl) ?_; try simp only [Act.put, List.setIfInBounds_toArray, List.set_cons_zero, List.set_cons_succ])
        | (refine mix_pass hS (by rfl) ?_; try simp only [Act.put, List.setIfInBounds_toArray, List.set_cons_zero, List.set_cons_succ])
        | (refine mix_take (by rfl) ?_
           apply Exists.intro
           refine ⟨?_, ?_⟩
           · intro w' hSw
             have hSc := hSw.cell
             clear hSw
             go_simp
             try with_reducible rfl
           try simp only [Act.put, List.setIfInBounds_toArray, List.set_cons_zero, List.set_cons_succ])
        | (refine mix_move (by rfl) (fun K hK => ?_)
           first
             | (go_simp; go_at_call 12; refine (right_any _ _ _ _ _ _ _ _ _ _ (two_ext h1 hS.below) (two_ext h2 hS.below) hl1 hl2).mono ?_; rintro e w6 ⟨rfl, hx⟩)
             | (go_simp; go_at_call 13; refine (rright_any _ _ _ _ _ _ _ _ _ _ (two_ext h1 hS.below) (two_ext h2 hS.below)).mono ?_; rintro e w6 ⟨rfl, hx⟩)
             | (go_simp; done)
           try dsimp only
           first
             | refine hK.out _ _ (hS.step hx (by omega)) ?_
             | refine hK.out _ _ hS ?_
             | refine hK.out _ _ (hS.alloc _ (by omega)) ?_
             | refine hK.out _ _ (hS.grown hg hx) ?_
           clear hK K hS
           intro hS
           try simp only [Act.put, List.setIfInBounds_toArray, List.set_cons_zero, List.set_cons_succ])
        | fail)
      refine mix_nil (NoPanic.normal ?_)
      go_wp2_with fail
      go_ret
      exact ⟨ret_bool (by simp), hS.below⟩
    · go_wp2_with fail
      go_ret
      exact ⟨rfl, hb1⟩
  · go_wp2_with fail
    go_ret
    exact ⟨rfl, hb1⟩

theorem contract (H : Type) (enc : TypeId × Value → H) (W : World) (base : Nat) (args : Array Value) (ds gs : List (DataW H)) (before : List MemPlace)
    (hval : ∀ (j : Nat) t v, Try.f3.params[j]? = some t → args[j]? = some v → Value.okWide Try.prog W .any base t v)
    (hW : DataW.Whole enc Try.prog Try.f3.params.toList Rows.workTellsSpec.vars false W args.toList ds gs before) :
    Calls Try.prog 3 args W fun e W' => ∃ v, e = .returned v ∧ Rows.workTellsSpec.post enc Try.prog Try.f3 false true false false W args v W' := by
  have hW' := hW
  obtain ⟨p, q, hA0, hV, rfl, hfz, hnd⟩ := hW
  have hA : DataW.TrodAll enc Try.prog W 0 (fun _ => true) true Try.f3.params.toList args.toList ds p := hA0
  have hlt := hA.lt
  rw [Try.params3] at hA hval
  obtain ⟨v0, vs0, d0, ds0, p0, q0, hargs0, rfl, rfl, h0, r0⟩ := trodAll_cons hA
  obtain ⟨v1, vs1, d1, ds1, p1, q1, rfl, rfl, rfl, h1, r1⟩ := trodAll_cons r0
  obtain ⟨v2, vs2, d2, ds2, p2, q2, rfl, rfl, rfl, h2, r2⟩ := trodAll_cons r1
  obtain ⟨rfl, rfl, rfl⟩ := trodAll_nil r2
  obtain rfl : args = #[v0, v1, v2] := by cases args; simp_all
  obtain ⟨rfl, rfl⟩ := trodVars_none hV
  obtain ⟨x0, x1, x2, y0, y1, y2, n, rfl, rfl, rfl, g0, g1, g2⟩ := open_agg3 Try.underlying23 (by kernel_rfl) (by kernel_rfl) (hval 0 23 v0 rfl rfl) h0
  obtain ⟨D, e0, _⟩ := DataW.trod_int Try.underlying3 g0
  obtain ⟨R, e1, _⟩ := DataW.trod_int Try.underlying3 g1
  obtain ⟨S, e2, _⟩ := DataW.trod_int Try.underlying3 g2
  simp only [List.cons.injEq, and_true] at e0 e1 e2
  subst e0 e1 e2
  obtain ⟨A1, n1, c1, rfl⟩ := okWide_slice Try.underlying24 (hval 1 24 v1 rfl rfl)
  obtain ⟨A2, n2, c2, rfl⟩ := okWide_slice Try.underlying24 (hval 2 24 v2 rfl rfl)
  obtain ⟨u1, f1⟩ := h1
  obtain ⟨u2, f2⟩ := h2
  obtain ⟨ls, rfl, t1, b1, m1⟩ := open_two (B := W.heap.size) Try.underlying24 Try.underlying41 rfl rfl Try.underlying3 (by kernel_rfl) rfl rfl (by kernel_rfl) (fun y (hy : y ∈ p1) => hlt y (by simp [hy])) f1
  obtain ⟨ws, rfl, t2, b2, m2⟩ := open_two (B := W.heap.size) Try.underlying24 Try.underlying41 rfl rfl Try.underlying3 (by kernel_rfl) rfl rfl (by kernel_rfl) (fun y (hy : y ∈ p2) => hlt y (by simp [hy])) f2
  unfold maxLen at m1 m2
  refine (tells_any D R S A1 A2 c1 c2 ls ws W t1 t2 (by omega) (by omega)).mono fun e W' ⟨he, hb⟩ => ?_
  subst he
  exact ⟨_, rfl, law_post laidOut Try.underlying4 rfl (by kernel_rfl) rfl hW' rfl hb⟩

set_option maxRecDepth 100000 in
theorem lifted (os : Os) (started : os.Started) (H : Type) (enc : TypeId × Value → H) :
    ReturnsInHanded {} Try.checked os 3 .any (Rows.workTellsSpec.pre6 enc Try.prog Try.f3 Rows.workTellsRow.domain false) (Rows.workTellsSpec.post enc Try.prog Try.f3 false true false false) := by
  refine returnsInHanded_of_change (C := Try.checked) own started (by kernel_rfl) Try.func3
    (ChangeSpec.witness6 (enc := enc) (C := Try.checked) false ⟨#[], #[.agg #[.int .i64 0, .int .i64 0, .int .i64 0], .slice none 0 0, .slice none 0 0], []⟩ 8 (by kernel_rfl) (by kernel_rfl) (by kernel_rfl) (by kernel_rfl)) ?_
  intro W base args ds gs before hval hW _ _
  exact contract H enc W base args ds gs before hval hW

theorem workTells_holds : Rows.WorkTellsSaid :=
  OpenClaim.holds_of_wide 3 Try.f3 rfl rfl rfl rfl rfl rfl rfl ⟨rfl, rfl, rfl, rfl, rfl⟩ rfl rfl rfl rfl rfl (by kernel_rfl) Try.func3 (by kernel_rfl)
    (of_decide_eq_true (by kernel_rfl)) (by unfold Func.isWrapper; first | (rw [if_pos (by decide +kernel)]; kernel_rfl) | (rw [if_neg (by decide +kernel)]; exact ⟨rfl, rfl⟩))
    (fun os started H enc _ => lifted os started H enc)
end Go.Proofs.Ythjedajkebehbaa
