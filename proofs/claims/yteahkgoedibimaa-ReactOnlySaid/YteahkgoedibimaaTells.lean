/-
  ReactTells: for all chains, guards, what legs take, and times, right or not, the program's functions return what the reference's return. Conditions: none.
-/
import Derived.Test.YteahkgoedibimaaWalkT
import Derived.Test.YteahkgoedibimaaWalkI
import Derived.Test.YteahkgoedibimaaLift
namespace Go.Proofs.Yteahkgoedibimaa
open Go.ChangeShapes Go.WideShapes Go.ChangeAt Go.RowKit Go.Deep Go.Joins

theorem slice_form {H : Type} {enc : TypeId × Value → H} {P : Program} {w : World} {base : Nat} {spare : Nat → Bool} {held : Bool} {t e : TypeId} {fuel : Nat} {v : Value} {x : DataW H × List MemPlace} (ht : P.underlying t = some (.slice e)) (h : DataW.trod enc P w base spare held fuel t [v] = some x) :
    ∃ A n c, v = .slice A n c := by
  rcases open_slice ht h with ⟨hcs, _⟩ | ⟨a, len, cap, m, k, D, Pl, hcs, _⟩
  · simp only [List.cons.injEq, and_true] at hcs
    exact ⟨_, _, _, hcs⟩
  · simp only [List.cons.injEq, and_true] at hcs
    exact ⟨_, _, _, hcs⟩
theorem guardR_le (ws ls : List P2) (rs : List P3) : (guardR ws ls rs).length ≤ ws.length := by
  unfold guardR
  split
  · rw [GL_length]; exact Nat.le_refl _
  · exact Nat.zero_le _
theorem runR_le (ws ls : List P2) (rs : List P3) (G T : List Int) : (runR ws ls rs G T).length ≤ ws.length := by
  unfold runR
  split
  · rw [runL_length]; exact Nat.le_refl _
  · exact Nat.zero_le _
theorem worstL_le (ws ls : List P2) (rs : List P3) (G : List Int) : (worstL ws ls rs G).length ≤ ws.length := by
  unfold worstL
  split
  · rw [runL_length]; exact Nat.le_refl _
  · exact Nat.zero_le _
set_option maxHeartbeats 8000000 in
set_option maxRecDepth 100000 in
theorem tells_any (A1 A2 A3 A4 A5 A6 : Option Addr) (c1 c2 c3 c4 c5 c6 : Nat) (ws ls : List P2) (rs : List P3) (G T U : List Int) (w : World) (h1 : Two w w.heap.size A1 ws) (h2 : Two w w.heap.size A2 ls) (h3 : Three w w.heap.size A3 rs)
    (h4 : Nums w w.heap.size A4 G) (h5 : Nums w w.heap.size A5 T) (h6 : Nums w w.heap.size A6 U) (hl1 : ws.length ≤ 9223372036854775807) (hl4 : G.length ≤ 9223372036854775807) :
    Calls Try.prog 3 #[.agg #[.slice A1 ws.length c1, .slice A2 ls.length c2, .slice A3 rs.length c3], .slice A4 G.length c4, .slice A5 T.length c5, .slice A6 U.length c6] w fun e w' => e = .returned (.bool true) ∧ Below w.heap.size w w' := by
  go_enter Try.func3, Try.ntmps3
  go_wp2_with fail
  have hbA := lit_below w (.cells #[.slice A1 ws.length c1, .slice A2 ls.length c2, .slice A3 rs.length c3] 26)
  have hbox := BoxC.new w (.slice A1 ws.length c1) (.slice A2 ls.length c2) (.slice A3 rs.length c3) 26
  generalize w.alloc (.cells #[.slice A1 ws.length c1, .slice A2 ls.length c2, .slice A3 rs.length c3] 26) = wA at hbA hbox ⊢
  refine (small_any _).mono ?_
  rintro e w1 ⟨rfl, hx1⟩
  obtain ⟨x0, x1, x2, sA⟩ := id hbox
  have hb1 := hbA.trans (hx1.mono hbA.size)
  have hbox := hbox.ext hx1
  clear x0 x1 x2 sA
  obtain ⟨x0, x1, x2, sA⟩ := id hbox
  go_wp2_with fail
  refine (few_any _ _ _ _ _ _ ws ls rs _).mono ?_
  rintro e w2 ⟨rfl, hx2⟩
  have hb2 := hb1.trans (hx2.mono hb1.size)
  have hbox := hbox.ext hx2
  clear x0 x1 x2 sA
  obtain ⟨x0, x1, x2, sA⟩ := id hbox
  cases hfew : fewC ws ls rs
  · clear hfew
    go_wp2_with fail
    go_ret
    exact ⟨rfl, hb2⟩
  by_cases l4 : (14 : Int) < (G.length : Int)
  · clear hfew
    go_wp2_with fail
    go_ret
    exact ⟨rfl, hb2⟩
  have l4' := decide_eq_false l4
  by_cases l5 : (14 : Int) < (T.length : Int)
  · clear hfew
    go_wp2_with fail
    go_ret
    exact ⟨rfl, hb2⟩
  have l5' := decide_eq_false l5
  by_cases l6 : (14 : Int) < (U.length : Int)
  · clear hfew
    go_wp2_with fail
    go_ret
    exact ⟨rfl, hb2⟩
  have l6' := decide_eq_false l6
  clear hfew
  have q1 : ws.length ≤ 9223372036854775807 := by omega
  have q4 : G.length ≤ 9223372036854775807 := by omega
  have r1 := guardR_le ws ls rs
  have r2 := runR_le ws ls rs G T
  have r3 := worstL_le ws ls rs G
  go_wp2_with fail
  refine (guard_any _ _ _ _ _ _ ws ls rs _ (two_ext h1 hb2) (two_ext h2 hb2) (three_ext h3 hb2) q1).mono ?_
  rintro e w3 ⟨B1, d1, _, rfl, n1, hx3⟩
  have hb3 := hb2.trans (hx3.mono hb2.size)
  have hbox := hbox.ext hx3
  clear x0 x1 x2 sA
  obtain ⟨x0, x1, x2, sA⟩ := id hbox
  go_wp2_with fail
  refine (rguard_any _ _ _ _ _ _ ws ls rs _ (two_ext h1 hb3) (two_ext h2 hb3) (three_ext h3 hb3) q1).mono ?_
  rintro e w4 ⟨B2, d2, _, rfl, n2, hx4⟩
  have hb4 := hb3.trans (hx4.mono hb3.size)
  have hbox := hbox.ext hx4
  clear x0 x1 x2 sA
  obtain ⟨x0, x1, x2, sA⟩ := id hbox
  go_wp2_with fail
  refine (run_any _ _ _ _ _ _ _ _ _ _ ws ls rs G T _ (two_ext h1 hb4) (two_ext h2 hb4) (three_ext h3 hb4) (num_ext h4 hb4) (num_ext h5 hb4) q1 q4).mono ?_
  rintro e w5 ⟨B3, d3, _, rfl, n3, hx5⟩
  have hb5 := hb4.trans (hx5.mono hb4.size)
  have hbox := hbox.ext hx5
  clear x0 x1 x2 sA
  obtain ⟨x0, x1, x2, sA⟩ := id hbox
  go_wp2_with fail
  refine (rrun_any _ _ _ _ _ _ _ _ _ _ ws ls rs G T _ (two_ext h1 hb5) (two_ext h2 hb5) (three_ext h3 hb5) (num_ext h4 hb5) (num_ext h5 hb5) q1 q4).mono ?_
  rintro e w6 ⟨B4, d4, _, rfl, n4, hx6⟩
  have hb6 := hb5.trans (hx6.mono hb5.size)
  have hbox := hbox.ext hx6
  clear x0 x1 x2 sA
  obtain ⟨x0, x1, x2, sA⟩ := id hbox
  go_wp2_with fail
  refine (worst_any _ _ _ _ _ _ _ _ ws ls rs G _ (two_ext h1 hb6) (two_ext h2 hb6) (three_ext h3 hb6) (num_ext h4 hb6) q1 q4).mono ?_
  rintro e w7 ⟨B5, d5, _, rfl, n5, hx7⟩
  have hb7 := hb6.trans (hx7.mono hb6.size)
  have hbox := hbox.ext hx7
  clear x0 x1 x2 sA
  obtain ⟨x0, x1, x2, sA⟩ := id hbox
  go_wp2_with fail
  refine (rworst_any _ _ _ _ _ _ _ _ ws ls rs G _ (two_ext h1 hb7) (two_ext h2 hb7) (three_ext h3 hb7) (num_ext h4 hb7) q1 q4).mono ?_
  rintro e w8 ⟨B6, d6, _, rfl, n6, hx8⟩
  have hb8 := hb7.trans (hx8.mono hb7.size)
  have hbox := hbox.ext hx8
  clear x0 x1 x2 sA
  obtain ⟨x0, x1, x2, sA⟩ := id hbox
  have n1 := num_ext (num_ext (num_ext (num_ext (num_ext n1 hx4) hx5) hx6) hx7) hx8
  have n2 := num_ext (num_ext (num_ext (num_ext n2 hx5) hx6) hx7) hx8
  have n3 := num_ext (num_ext (num_ext n3 hx6) hx7) hx8
  have n4 := num_ext (num_ext n4 hx7) hx8
  have n5 := num_ext n5 hx8
  go_wp2_with fail
  refine (ints_any _ _ _ _ _ _ _ n1 n2 (by omega) (by omega)).mono ?_
  rw [decide_eq_true rfl]
  rintro e w9 ⟨rfl, hx9⟩
  have hb9 := hb8.trans (hx9.mono hb8.size)
  have hbox := hbox.ext hx9
  clear x0 x1 x2 sA
  obtain ⟨x0, x1, x2, sA⟩ := id hbox
  have n3 := num_ext n3 hx9
  have n4 := num_ext n4 hx9
  have n5 := num_ext n5 hx9
  have n6 := num_ext n6 hx9
  go_wp2_with fail
  refine (ints_any _ _ _ _ _ _ _ n3 n4 (by omega) (by omega)).mono ?_
  rw [decide_eq_true rfl]
  rintro e w10 ⟨rfl, hx10⟩
  have hb10 := hb9.trans (hx10.mono hb9.size)
  have hbox := hbox.ext hx10
  clear x0 x1 x2 sA
  obtain ⟨x0, x1, x2, sA⟩ := id hbox
  have n5 := num_ext n5 hx10
  have n6 := num_ext n6 hx10
  go_wp2_with fail
  refine (ints_any _ _ _ _ _ _ _ n5 n6 (by omega) (by omega)).mono ?_
  rw [decide_eq_true rfl]
  rintro e w11 ⟨rfl, hx11⟩
  have hb11 := hb10.trans (hx11.mono hb10.size)
  have hbox := hbox.ext hx11
  clear x0 x1 x2 sA
  obtain ⟨x0, x1, x2, sA⟩ := id hbox
  have s11 := hb11.size
  go_wp2_with fail
  refine wp_region_mix [(0, true), (1, true), (2, true), (3, true), (4, true), (5, true), (7, true), (6, false), (8, false), (9, true), (10, true), (11, true), (12, true), (13, true), (15, true), (16, true), (14, false), (17, false), (18, true), (19, true)] [20] (SB w.heap.size w w11.heap.size none _) (by kernel_rfl) (by kernel_rfl) (by kernel_rfl) (by kernel_rfl) (by decide) (SB.start hb11 (by omega)) (fun hS => ?_)
  simp only [planned, List.filterMap_cons, List.filterMap_nil, List.getElem?_cons_zero, List.getElem?_cons_succ, Option.map_some]
  repeat (first
    | (refine mix_skip (by rfl) ?_; try simp only [Act.put, List.setIfInBounds_toArray, List.set_cons_zero, List.set_cons_succ])
    | (refine mix_pass hS (by rfl) ?_; try simp only [Act.put, List.setIfInBounds_toArray, List.set_cons_zero, List.set_cons_succ])
    | (refine mix_pure (by rfl) (by rfl) (fun K hK => ?_); go_big_quiet_op; refine hK _ ?_; clear hK K)
    | (refine mix_take (by rfl) ?_
       apply Exists.intro
       refine ⟨?_, ?_⟩
       · intro w' hSw
         have hSc := hSw.cell
         clear hSw
         go_simp
         try with_reducible rfl
       try simp only [Act.put, List.setIfInBounds_toArray, List.set_cons_zero, List.set_cons_succ])
    | (refine mix_move (by rfl) (fun K hK => ?_)
       first
         | (go_simp; go_at_call 17; refine (right_any _ _ _ _ _ _ ws ls rs _ (two_ext h1 hS.below) (two_ext h2 hS.below) (three_ext h3 hS.below) q1).mono ?_; rintro e w12 ⟨rfl, hx⟩)
         | (go_simp; go_at_call 18; refine (rright_any _ _ _ _ _ _ ws ls rs _ (two_ext h1 hS.below) (two_ext h2 hS.below) (three_ext h3 hS.below) q1).mono ?_; rintro e w13 ⟨rfl, hx⟩)
         | (go_simp; go_at_call 19; refine (keeps_any _ _ _ _ _ _ _ _ ws ls rs U _ (two_ext h1 hS.below) (two_ext h2 hS.below) (three_ext h3 hS.below) (num_ext h6 hS.below) q1).mono ?_; rintro e w14 ⟨rfl, hx⟩)
         | (go_simp; go_at_call 20; refine (rkeeps_any _ _ _ _ _ _ _ _ ws ls rs U _ (two_ext h1 hS.below) (two_ext h2 hS.below) (three_ext h3 hS.below) (num_ext h6 hS.below) q1).mono ?_; rintro e w15 ⟨rfl, hx⟩)
         | go_simp
       try dsimp only
       first
         | refine hK.out _ _ (hS.step hx (by omega)) ?_
         | refine hK.out _ _ hS ?_
         | refine hK.out _ _ (hS.alloc _ (by omega)) ?_
         | refine hK.out _ _ (hS.grown hg hx) ?_
       clear hK K hS
       intro hS
       try simp only [Act.put, List.setIfInBounds_toArray, List.set_cons_zero, List.set_cons_succ])
    | fail)
  refine mix_nil ?_
  simp only [tailed, List.filterMap_cons, List.filterMap_nil, List.getElem?_cons_zero, List.getElem?_cons_succ]
  go_wp2_with fail
  refine NoPanic.normal ?_
  have hb12 := hS.below
  go_wp2_with fail
  go_ret
  exact ⟨ret_bool (by simp), hb12⟩

theorem reactTells_contract (H : Type) (enc : TypeId × Value → H) (W : World) (base : Nat) (args : Array Value) (ds gs : List (DataW H)) (before : List MemPlace)
    (hval : ∀ (j : Nat) t v, Try.f3.params[j]? = some t → args[j]? = some v → Value.okWide Try.prog W .any base t v)
    (hW : DataW.Whole enc Try.prog Try.f3.params.toList Rows.reactTellsSpec.vars false W args.toList ds gs before) :
    Calls Try.prog 3 args W fun e W' => ∃ v, e = .returned v ∧ Rows.reactTellsSpec.post enc Try.prog Try.f3 false true false false W args v W' := by
  have hW' := hW
  obtain ⟨p, q, hA0, hV, rfl, hfz, hnd⟩ := hW
  have hA : DataW.TrodAll enc Try.prog W 0 (fun _ => true) true Try.f3.params.toList args.toList ds p := hA0
  have hlt := hA.lt
  rw [Try.params3] at hA hval
  obtain ⟨v0, vs0, d0, ds0, p0, q0, hargs0, rfl, rfl, h0, rr0⟩ := trodAll_cons hA
  obtain ⟨v1, vs1, d1, ds1, p1, q1, rfl, rfl, rfl, h1, rr1⟩ := trodAll_cons rr0
  obtain ⟨v2, vs2, d2, ds2, p2, q2, rfl, rfl, rfl, h2, rr2⟩ := trodAll_cons rr1
  obtain ⟨v3, vs3, d3, ds3, p3, q3, rfl, rfl, rfl, h3, rr3⟩ := trodAll_cons rr2
  obtain ⟨rfl, rfl, rfl⟩ := trodAll_nil rr3
  obtain rfl : args = #[v0, v1, v2, v3] := by cases args; simp_all
  obtain ⟨rfl, rfl⟩ := trodVars_none hV
  obtain ⟨x0a, x0b, x0c, y0a, y0b, y0c, n0, rfl, rfl, rfl, g0a, g0b, g0c⟩ := open_agg3 Try.underlying26 (by kernel_rfl) (by kernel_rfl) (hval 0 26 v0 rfl rfl) h0
  obtain ⟨A1, nn0a, c1, rfl⟩ := slice_form Try.underlying22 g0a
  obtain ⟨ws, rfl, t0a, b0a, m0a⟩ := open_two (B := W.heap.size) Try.underlying22 Try.underlying47 rfl rfl Try.underlying3 (by kernel_rfl) rfl rfl (by kernel_rfl) (fun y (hy : y ∈ y0a.2) => hlt y (by simp [hy])) g0a
  unfold maxLen at m0a
  obtain ⟨A2, nn0b, c2, rfl⟩ := slice_form Try.underlying23 g0b
  obtain ⟨ls, rfl, t0b, b0b, m0b⟩ := open_two (B := W.heap.size) Try.underlying23 Try.underlying44 rfl rfl Try.underlying3 (by kernel_rfl) rfl rfl (by kernel_rfl) (fun y (hy : y ∈ y0b.2) => hlt y (by simp [hy])) g0b
  unfold maxLen at m0b
  obtain ⟨A3, nn0c, c3, rfl⟩ := slice_form Try.underlying24 g0c
  obtain ⟨rs, rfl, t0c, b0c, m0c⟩ := open_three (B := W.heap.size) Try.underlying24 Try.underlying49 rfl rfl rfl Try.underlying3 (by kernel_rfl) rfl rfl rfl (by kernel_rfl) (fun y (hy : y ∈ y0c.2) => hlt y (by simp [hy])) g0c
  unfold maxLen at m0c
  obtain ⟨A4, nn1, c4, rfl⟩ := okWide_slice Try.underlying27 (hval 1 27 v1 rfl rfl)
  obtain ⟨fu1, ff1⟩ := h1
  obtain ⟨G, rfl, t1, b1, m1, z1⟩ := open_nums (B := W.heap.size) Try.underlying27 Try.underlying3 (by kernel_rfl) (fun y (hy : y ∈ p1) => hlt y (by simp [hy])) ff1
  unfold maxLen at m1
  obtain ⟨A5, nn2, c5, rfl⟩ := okWide_slice Try.underlying27 (hval 2 27 v2 rfl rfl)
  obtain ⟨fu2, ff2⟩ := h2
  obtain ⟨T, rfl, t2, b2, m2, z2⟩ := open_nums (B := W.heap.size) Try.underlying27 Try.underlying3 (by kernel_rfl) (fun y (hy : y ∈ p2) => hlt y (by simp [hy])) ff2
  unfold maxLen at m2
  obtain ⟨A6, nn3, c6, rfl⟩ := okWide_slice Try.underlying27 (hval 3 27 v3 rfl rfl)
  obtain ⟨fu3, ff3⟩ := h3
  obtain ⟨U, rfl, t3, b3, m3, z3⟩ := open_nums (B := W.heap.size) Try.underlying27 Try.underlying3 (by kernel_rfl) (fun y (hy : y ∈ p3) => hlt y (by simp [hy])) ff3
  unfold maxLen at m3
  refine (tells_any A1 A2 A3 A4 A5 A6 c1 c2 c3 c4 c5 c6 ws ls rs G T U W t0a t0b t0c t1 t2 t3 (by omega) (by omega)).mono fun e W' ⟨he, hb⟩ => ?_
  subst he
  exact ⟨_, rfl, law_post laidOut Try.underlying4 rfl (by kernel_rfl) rfl hW' rfl hb⟩
set_option maxRecDepth 100000 in
theorem reactTells_lifted (os : Os) (started : os.Started) (H : Type) (enc : TypeId × Value → H) :
    ReturnsInHanded {} Try.checked os 3 .any (Rows.reactTellsSpec.pre6 enc Try.prog Try.f3 Rows.reactTellsRow.domain false) (Rows.reactTellsSpec.post enc Try.prog Try.f3 false true false false) := by
  refine returnsInHanded_of_change (C := Try.checked) own started (by kernel_rfl) Try.func3
    (ChangeSpec.witness6 (enc := enc) (C := Try.checked) false ⟨#[], #[.agg #[.slice none 0 0, .slice none 0 0, .slice none 0 0], .slice none 0 0, .slice none 0 0, .slice none 0 0], []⟩ 8 (by kernel_rfl) (by kernel_rfl) (by kernel_rfl) (by kernel_rfl)) ?_
  intro W base args ds gs before hval hW _ _
  exact reactTells_contract H enc W base args ds gs before hval hW
theorem reactTells_holds : Rows.ReactTellsSaid :=
  OpenClaim.holds_of_wide 3 Try.f3 rfl rfl rfl rfl rfl rfl rfl ⟨rfl, rfl, rfl, rfl, rfl⟩ rfl rfl rfl rfl rfl (by kernel_rfl) Try.func3 (by kernel_rfl)
    (of_decide_eq_true (by kernel_rfl)) (by unfold Func.isWrapper; first | (rw [if_pos (by decide +kernel)]; kernel_rfl) | (rw [if_neg (by decide +kernel)]; exact ⟨rfl, rfl⟩))
    (fun os started H enc _ => reactTells_lifted os started H enc)
end Go.Proofs.Yteahkgoedibimaa
