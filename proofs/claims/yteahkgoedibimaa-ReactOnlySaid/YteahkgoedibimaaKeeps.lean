/-
  ReactKeeps: the run with the guard keeps the chain, whatever the legs take. Conditions: none.
-/
import Derived.Test.YteahkgoedibimaaWalkU
import Derived.Test.YteahkgoedibimaaTells
namespace Go.Proofs.Yteahkgoedibimaa
open Go.ChangeShapes Go.WideShapes Go.ChangeAt Go.RowKit Go.Deep Go.Joins

theorem guardE_ok {ws ls : List P2} {rs : List P3} (h : guardE ws ls rs = 0) : guardB ws ls rs = true := by
  unfold guardE at h
  split at h
  · split at h
    · assumption
    · omega
  · omega
theorem guardE_late {ws ls : List P2} {rs : List P3} (hr : rightC ws ls rs = true) (h : guardB ws ls rs = false) : guardE ws ls rs = 20 ∧ guardR ws ls rs = [] := by simp [guardE, guardR, hr, h]
theorem guardE_good {ws ls : List P2} {rs : List P3} (h : guardB ws ls rs = true) : guardE ws ls rs = 0 ∧ guardR ws ls rs = GL ws ls rs := by
  have hr := (guard_out h).1
  simp [guardE, guardR, hr, h]
theorem run_n (A1 A2 A3 A4 A5 : Option Addr) (c1 c2 c3 c4 c5 n m : Nat) (ws ls : List P2) (rs : List P3) (G T : List Int) (w : World) (hn : G.length = n) (hm : T.length = m) (h1 : Two w w.heap.size A1 ws) (h2 : Two w w.heap.size A2 ls) (h3 : Three w w.heap.size A3 rs) (h4 : Nums w w.heap.size A4 G) (h5 : Nums w w.heap.size A5 T)
    (hl1 : ws.length ≤ 9223372036854775807) (hl4 : G.length ≤ 9223372036854775807) :
    Calls Try.prog 12 #[.agg #[.slice A1 ws.length c1, .slice A2 ls.length c2, .slice A3 rs.length c3], .slice A4 n c4, .slice A5 m c5] w (PairSays (runR ws ls rs G T) (runE ws ls rs G T) w) := by
  subst hn hm
  exact run_any A1 A2 A3 A4 A5 c1 c2 c3 c4 c5 ws ls rs G T w h1 h2 h3 h4 h5 hl1 hl4
set_option maxHeartbeats 8000000 in
set_option maxRecDepth 100000 in
theorem keepsl_any (A1 A2 A3 A4 : Option Addr) (c1 c2 c3 c4 : Nat) (ws ls : List P2) (rs : List P3) (ns : List Int) (w : World) (h1 : Two w w.heap.size A1 ws) (h2 : Two w w.heap.size A2 ls) (h3 : Three w w.heap.size A3 rs)
    (h4 : Shows w w.heap.size 1 A4 ns.length (ns.map (Value.int .u16))) (hl1 : ws.length ≤ 9223372036854775807) (hn : ns.length ≤ 9223372036854775807) (hw : ∀ z ∈ ns, 0 ≤ z ∧ z ≤ 65535) :
    Calls Try.prog 4 #[.agg #[.slice A1 ws.length c1, .slice A2 ls.length c2, .slice A3 rs.length c3], .slice A4 ns.length c4] w fun e w' => e = .returned (.bool true) ∧ Below w.heap.size w w' := by
  go_enter Try.func4, Try.ntmps4
  go_wp2_with fail
  have hbA := lit_below w (.cells #[.slice A1 ws.length c1, .slice A2 ls.length c2, .slice A3 rs.length c3] 26)
  have hbox := BoxC.new w (.slice A1 ws.length c1) (.slice A2 ls.length c2) (.slice A3 rs.length c3) 26
  generalize w.alloc (.cells #[.slice A1 ws.length c1, .slice A2 ls.length c2, .slice A3 rs.length c3] 26) = wA at hbA hbox ⊢
  refine (small_any _).mono ?_
  rintro e w1 ⟨rfl, hx1⟩
  obtain ⟨x0, x1, x2, sA⟩ := id hbox
  have hb1 := hbA.trans (hx1.mono hbA.size)
  have hbox := hbox.ext hx1
  clear x0 x1 x2 sA
  obtain ⟨x0, x1, x2, sA⟩ := id hbox
  go_wp2_with fail
  refine (few_any _ _ _ _ _ _ ws ls rs _).mono ?_
  rintro e w2 ⟨rfl, hx2⟩
  have hb2 := hb1.trans (hx2.mono hb1.size)
  have hbox := hbox.ext hx2
  clear x0 x1 x2 sA
  obtain ⟨x0, x1, x2, sA⟩ := id hbox
  cases hfew : fewC ws ls rs
  · clear hfew
    go_wp2_with fail
    go_ret
    exact ⟨rfl, hb2⟩
  clear hfew
  go_wp2_with fail
  refine (right_any _ _ _ _ _ _ ws ls rs _ (two_ext h1 hb2) (two_ext h2 hb2) (three_ext h3 hb2) hl1).mono ?_
  rintro e w3 ⟨rfl, hx3⟩
  have hb3 := hb2.trans (hx3.mono hb2.size)
  have hbox := hbox.ext hx3
  clear x0 x1 x2 sA
  obtain ⟨x0, x1, x2, sA⟩ := id hbox
  cases hr : rightC ws ls rs
  · clear hr
    go_wp2_with fail
    go_ret
    exact ⟨rfl, hb3⟩
  have HR := Lib.hid hr
  clear hr
  go_wp2_with fail
  refine (guard_any _ _ _ _ _ _ ws ls rs _ (two_ext h1 hb3) (two_ext h2 hb3) (three_ext h3 hb3) hl1).mono ?_
  cases hg : guardB ws ls rs
  · unfold PairSays
    rw [(guardE_late HR.out hg).1, (guardE_late HR.out hg).2]
    rintro e w4 ⟨B1, d1, _, rfl, _, hx4⟩
    have hb4 := hb3.trans (hx4.mono hb3.size)
    have hbox := hbox.ext hx4
    clear x0 x1 x2 sA
    obtain ⟨x0, x1, x2, sA⟩ := id hbox
    clear hg
    go_wp2_with fail
    go_ret
    exact ⟨rfl, hb4⟩
  · unfold PairSays
    rw [(guardE_good hg).1, (guardE_good hg).2]
    rintro e w4 ⟨B1, d1, _, rfl, n1, hx4⟩
    have hb4 := hb3.trans (hx4.mono hb3.size)
    have hbox := hbox.ext hx4
    clear x0 x1 x2 sA
    obtain ⟨x0, x1, x2, sA⟩ := id hbox
    have HG := Lib.hid hg
    have HF := Lib.hid (fine_right HR.out)
    clear hg
    have s4 := hb4.size
    have hTl := takesL_length ls ns
    have HTL := Lib.hid hTl
    have HTI := Lib.hid (takesL_in HF.out ns)
    have HW := Lib.hid (fits_GL HR.out (guard_out HG.out).2.1)
    have hRB : runB ws ls rs (GL ws ls rs) (takesL ls ns) = true := run_of HW.out HTL.out HTI.out
    have HRR := Lib.hid (show runR ws ls rs (GL ws ls rs) (takesL ls ns) = runL (GL ws ls rs) (takesL ls ns) ws.length by simp [runR, hRB])
    have HRE := Lib.hid (show runE ws ls rs (GL ws ls rs) (takesL ls ns) = 0 by simp [runE, hRB])
    have HKP := Lib.hid (keeps_run HG.out HTI.out)
    have hgl : (GL ws ls rs).length ≤ 9223372036854775807 := by rw [GL_length]; exact hl1
    clear hRB hTl
    go_wp2_with fail
    refine wp_region_mix [(0, true), (1, true), (2, true), (3, true), (4, false), (5, false), (6, true), (7, true), (8, true), (9, true)] [10] (SB w.heap.size w w4.heap.size none _) (by kernel_rfl) (by kernel_rfl) (by kernel_rfl) (by kernel_rfl) (by decide) (SB.start hb4 (by omega)) (fun hS => ?_)
    simp only [planned, List.filterMap_cons, List.filterMap_nil, List.getElem?_cons_zero, List.getElem?_cons_succ, Option.map_some]
    repeat (first
      | (refine mix_skip (by rfl) ?_; try simp only [Act.put, List.setIfInBounds_toArray, List.set_cons_zero, List.set_cons_succ])
      | (refine mix_pass hS (by rfl) ?_; try simp only [Act.put, List.setIfInBounds_toArray, List.set_cons_zero, List.set_cons_succ])
      | (refine mix_pure (by rfl) (by rfl) (fun K hK => ?_); go_big_quiet_op; refine hK _ ?_; clear hK K)
      | (refine mix_take (by rfl) ?_
         apply Exists.intro
         refine ⟨?_, ?_⟩
         · intro w' hSw
           have hSc := hSw.cell
           clear hSw
           go_simp
           try with_reducible rfl
         try simp only [Act.put, List.setIfInBounds_toArray, List.set_cons_zero, List.set_cons_succ])
      | (refine mix_move (by rfl) (fun K hK => ?_)
         first
           | (go_simp; go_at_call 12; refine (run_n _ _ _ _ _ _ _ _ _ _ _ _ ws ls rs (GL ws ls rs) (takesL ls ns) _ rfl rfl (two_ext h1 hb5) (two_ext h2 hb5) (three_ext h3 hb5) (num_ext n1 hx5) sh6 hl1 hgl).mono ?_; unfold PairSays; rw [HRR.out, HRE.out]; rintro e w7 ⟨B7, d7, _, rfl, n7, hx⟩)
           | (go_simp; go_at_call 21; refine (takes_any _ _ _ _ _ _ _ _ ws ls rs ns _ (two_ext h2 hS.below) (Shows.more (h4.below hS.below) hS.below.size) HF.out hn hw).mono ?_; rintro e w6 ⟨v6, rfl, own6, hx⟩; obtain ⟨A6, c6, rfl, sh6, _, _⟩ := caps_of_own own6; have hx5 : Below w4.heap.size w4 w6 := (Below.refl _ w4).drew.trans hx; have hb5 := hb4.trans (hx5.mono hb4.size))
           | go_simp
         try dsimp only
         first
           | refine hK.out _ _ (hS.step hx (by omega)) ?_
           | refine hK.out _ _ hS ?_
           | refine hK.out _ _ (hS.alloc _ (by omega)) ?_
           | refine hK.out _ _ (hS.grown hg hx) ?_
         clear hK K hS
         intro hS
         try simp only [Act.put, List.setIfInBounds_toArray, List.set_cons_zero, List.set_cons_succ])
      | fail)
    refine mix_nil ?_
    simp only [tailed, List.filterMap_cons, List.filterMap_nil, List.getElem?_cons_zero, List.getElem?_cons_succ]
    go_wp2_with fail
    refine NoPanic.normal ?_
    have hb6 := hb5.trans (hx.mono hb5.size)
    have hbox := (hbox.ext hx5).ext hx
    clear x0 x1 x2 sA
    obtain ⟨x0, x1, x2, sA⟩ := id hbox
    go_wp2_with fail
    refine (keeps_any _ _ _ _ _ _ _ _ ws ls rs (runL (GL ws ls rs) (takesL ls ns) ws.length) _ (two_ext h1 hb6) (two_ext h2 hb6) (three_ext h3 hb6) n7 hl1).mono ?_
    rw [HKP.out]
    rintro e w8 ⟨rfl, hx8⟩
    have hb8 := hb6.trans (hx8.mono hb6.size)
    go_wp2_with fail
    go_ret
    exact ⟨rfl, hb8⟩

theorem reactKeeps_contract (H : Type) (enc : TypeId × Value → H) (W : World) (base : Nat) (args : Array Value) (ds gs : List (DataW H)) (before : List MemPlace)
    (hval : ∀ (j : Nat) t v, Try.f4.params[j]? = some t → args[j]? = some v → Value.okWide Try.prog W .any base t v)
    (hW : DataW.Whole enc Try.prog Try.f4.params.toList Rows.reactKeepsSpec.vars false W args.toList ds gs before) :
    Calls Try.prog 4 args W fun e W' => ∃ v, e = .returned v ∧ Rows.reactKeepsSpec.post enc Try.prog Try.f4 false true false false W args v W' := by
  have hW' := hW
  obtain ⟨p, q, hA0, hV, rfl, hfz, hnd⟩ := hW
  have hA : DataW.TrodAll enc Try.prog W 0 (fun _ => true) true Try.f4.params.toList args.toList ds p := hA0
  have hlt := hA.lt
  rw [Try.params4] at hA hval
  obtain ⟨v0, vs0, d0, ds0, p0, q0, hargs0, rfl, rfl, h0, rr0⟩ := trodAll_cons hA
  obtain ⟨v1, vs1, d1, ds1, p1, q1, rfl, rfl, rfl, h1, rr1⟩ := trodAll_cons rr0
  obtain ⟨rfl, rfl, rfl⟩ := trodAll_nil rr1
  obtain rfl : args = #[v0, v1] := by cases args; simp_all
  obtain ⟨rfl, rfl⟩ := trodVars_none hV
  obtain ⟨x0a, x0b, x0c, y0a, y0b, y0c, n0, rfl, rfl, rfl, g0a, g0b, g0c⟩ := open_agg3 Try.underlying26 (by kernel_rfl) (by kernel_rfl) (hval 0 26 v0 rfl rfl) h0
  obtain ⟨A1, nn0a, c1, rfl⟩ := slice_form Try.underlying22 g0a
  obtain ⟨ws, rfl, t0a, b0a, m0a⟩ := open_two (B := W.heap.size) Try.underlying22 Try.underlying47 rfl rfl Try.underlying3 (by kernel_rfl) rfl rfl (by kernel_rfl) (fun y (hy : y ∈ y0a.2) => hlt y (by simp [hy])) g0a
  unfold maxLen at m0a
  obtain ⟨A2, nn0b, c2, rfl⟩ := slice_form Try.underlying23 g0b
  obtain ⟨ls, rfl, t0b, b0b, m0b⟩ := open_two (B := W.heap.size) Try.underlying23 Try.underlying44 rfl rfl Try.underlying3 (by kernel_rfl) rfl rfl (by kernel_rfl) (fun y (hy : y ∈ y0b.2) => hlt y (by simp [hy])) g0b
  unfold maxLen at m0b
  obtain ⟨A3, nn0c, c3, rfl⟩ := slice_form Try.underlying24 g0c
  obtain ⟨rs, rfl, t0c, b0c, m0c⟩ := open_three (B := W.heap.size) Try.underlying24 Try.underlying49 rfl rfl rfl Try.underlying3 (by kernel_rfl) rfl rfl rfl (by kernel_rfl) (fun y (hy : y ∈ y0c.2) => hlt y (by simp [hy])) g0c
  unfold maxLen at m0c
  obtain ⟨A4, nn1, c4, rfl⟩ := okWide_slice Try.underlying38 (hval 1 38 v1 rfl rfl)
  obtain ⟨fu1, ff1⟩ := h1
  obtain ⟨ns, rfl, t1, b1, m1, z1⟩ := open_nums (B := W.heap.size) Try.underlying38 Try.underlying42 (by kernel_rfl) (fun y (hy : y ∈ p1) => hlt y (by simp [hy])) ff1
  unfold maxLen at m1
  refine (keepsl_any A1 A2 A3 A4 c1 c2 c3 c4 ws ls rs ns W t0a t0b t0c t1 (by omega) (by omega) (fun z hz => by simpa [Lit.wf, IntKind.min, IntKind.max, IntKind.signed, IntKind.bits] using z1 z hz)).mono fun e W' ⟨he, hb⟩ => ?_
  subst he
  exact ⟨_, rfl, law_post laidOut Try.underlying4 rfl (by kernel_rfl) rfl hW' rfl hb⟩
set_option maxRecDepth 100000 in
theorem reactKeeps_lifted (os : Os) (started : os.Started) (H : Type) (enc : TypeId × Value → H) :
    ReturnsInHanded {} Try.checked os 4 .any (Rows.reactKeepsSpec.pre6 enc Try.prog Try.f4 Rows.reactKeepsRow.domain false) (Rows.reactKeepsSpec.post enc Try.prog Try.f4 false true false false) := by
  refine returnsInHanded_of_change (C := Try.checked) own started (by kernel_rfl) Try.func4
    (ChangeSpec.witness6 (enc := enc) (C := Try.checked) false ⟨#[], #[.agg #[.slice none 0 0, .slice none 0 0, .slice none 0 0], .slice none 0 0], []⟩ 8 (by kernel_rfl) (by kernel_rfl) (by kernel_rfl) (by kernel_rfl)) ?_
  intro W base args ds gs before hval hW _ _
  exact reactKeeps_contract H enc W base args ds gs before hval hW
theorem reactKeeps_holds : Rows.ReactKeepsSaid :=
  OpenClaim.holds_of_wide 4 Try.f4 rfl rfl rfl rfl rfl rfl rfl ⟨rfl, rfl, rfl, rfl, rfl⟩ rfl rfl rfl rfl rfl (by kernel_rfl) Try.func4 (by kernel_rfl)
    (of_decide_eq_true (by kernel_rfl)) (by unfold Func.isWrapper; first | (rw [if_pos (by decide +kernel)]; kernel_rfl) | (rw [if_neg (by decide +kernel)]; exact ⟨rfl, rfl⟩))
    (fun os started H enc _ => reactKeeps_lifted os started H enc)
end Go.Proofs.Yteahkgoedibimaa
