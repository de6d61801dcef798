/-
  TiersTells: for all tiers, numbers that were used, claims, right or not, the program's functions return what the reference's return. Conditions: none.
-/
import Derived.Test.YtcienmbbfcljnaaWalkT
import Derived.Test.YtcienmbbfcljnaaLift
namespace Go.Proofs.Ytcienmbbfcljnaa
open Go.ChangeShapes Go.WideShapes Go.ChangeAt Go.RowKit Go.Deep Go.Joins

theorem payL_le (L : List P3) (U : List Int) (x : Int) : (payL L U x).length ≤ L.length := by
  unfold payL
  split
  · rw [pays_length]; exact Nat.le_refl _
  · exact Nat.zero_le _
theorem runR_le (L : List P3) (cs : List Int) : (runR L cs).length ≤ cs.length := by
  unfold runR
  split
  · rw [rests_length]; exact Nat.le_refl _
  · exact Nat.zero_le _
theorem runU_le (L : List P3) (cs : List Int) : (runU L cs).length ≤ L.length := by
  unfold runU
  split
  · rw [useAt_length]; exact Nat.le_refl _
  · exact Nat.zero_le _
set_option maxHeartbeats 8000000 in
set_option maxRecDepth 100000 in
theorem tells_any (A A2 A3 : Option Addr) (c c2 c3 : Nat) (L : List P3) (U : List Int) (x : Int) (cs : List Int) (w : World) (h : Three w w.heap.size A L) (h2 : Nums w w.heap.size A2 U) (h3 : Nums w w.heap.size A3 cs)
    (hl : L.length ≤ 9223372036854775807) (hl2 : U.length ≤ 9223372036854775807) (hl3 : cs.length ≤ 9223372036854775807) :
    Calls Try.prog 3 #[.slice A L.length c, .slice A2 U.length c2, .int .i64 x, .slice A3 cs.length c3] w fun e w' => e = .returned (.bool true) ∧ Below w.heap.size w w' := by
  go_enter Try.func3, Try.ntmps3
  go_wp2_with fail
  refine (small_any _).mono ?_
  rintro e w1 ⟨rfl, hb1⟩
  go_wp2_with fail
  refine (few_any _ _ _ _ _ _ _ _ _ _).mono ?_
  rintro e w2 ⟨rfl, hx2⟩
  have hb2 := hb1.trans (hx2.mono hb1.size)
  cases hfew : (decide (L.length ≤ 8) && decide (U.length ≤ 8) && decide (cs.length ≤ 30))
  · clear hfew
    go_wp2_with fail
    go_ret
    exact ⟨rfl, hb2⟩
  clear hfew
  go_wp2_with fail
  refine (pay_any _ _ _ _ _ _ _ _ (three_ext h hb2) (num_ext h2 hb2) hl hl2).mono ?_
  rintro e w3 ⟨v1, rfl, own1, hx3⟩
  obtain ⟨A4, c4, rfl, n1⟩ := nums_own own1
  clear own1
  have hb3 := hb2.trans (hx3.mono hb2.size)
  go_wp2_with fail
  refine (rpay_any _ _ _ _ _ _ _ _ (three_ext h hb3) (num_ext h2 hb3) hl hl2).mono ?_
  rintro e w4 ⟨v2, rfl, own2, hx4⟩
  obtain ⟨A5, c5, rfl, n2⟩ := nums_own own2
  clear own2
  have hb4 := hb3.trans (hx4.mono hb3.size)
  go_wp2_with fail
  refine (run_any _ _ _ _ _ _ _ (three_ext h hb4) (num_ext h3 hb4) hl hl3).mono ?_
  rintro e w5 ⟨A6, c6, A7, c7, _, rfl, n3, n4, hx5⟩
  have hb5 := hb4.trans (hx5.mono hb4.size)
  go_wp2_with fail
  refine (rrun_any _ _ _ _ _ _ _ (three_ext h hb5) (num_ext h3 hb5) hl hl3).mono ?_
  rintro e w6 ⟨A8, c8, A9, c9, _, rfl, n5, n6, hx6⟩
  have hb6 := hb5.trans (hx6.mono hb5.size)
  have n1 := num_ext (num_ext (num_ext n1 hx4) hx5) hx6
  have n2 := num_ext (num_ext n2 hx5) hx6
  have n3 := num_ext n3 hx6
  have n4 := num_ext n4 hx6
  have l1 := payL_le L U x
  have l2 := runR_le L cs
  have l3 := runU_le L cs
  go_wp2_with fail
  refine (ints_any _ _ _ _ _ _ _ n1 n2 (by omega) (by omega)).mono ?_
  rw [decide_eq_true rfl]
  rintro e w7 ⟨rfl, hx7⟩
  have hb7 := hb6.trans (hx7.mono hb6.size)
  have n3 := num_ext n3 hx7
  have n4 := num_ext n4 hx7
  have n5 := num_ext n5 hx7
  have n6 := num_ext n6 hx7
  go_wp2_with fail
  refine (ints_any _ _ _ _ _ _ _ n3 n5 (by omega) (by omega)).mono ?_
  rw [decide_eq_true rfl]
  rintro e w8 ⟨rfl, hx8⟩
  have hb8 := hb7.trans (hx8.mono hb7.size)
  have n4 := num_ext n4 hx8
  have n6 := num_ext n6 hx8
  go_wp2_with fail
  refine (ints_any _ _ _ _ _ _ _ n4 n6 (by omega) (by omega)).mono ?_
  rw [decide_eq_true rfl]
  rintro e w9 ⟨rfl, hx9⟩
  have hb9 := hb8.trans (hx9.mono hb8.size)
  go_wp2_with fail
  refine (right_any _ _ _ _ (three_ext h hb9) hl).mono ?_
  rintro e w10 ⟨rfl, hx10⟩
  have hb10 := hb9.trans (hx10.mono hb9.size)
  go_wp2_with fail
  refine (rright_any _ _ _ _ (three_ext h hb10) hl).mono ?_
  rintro e w11 ⟨rfl, hx11⟩
  have hb11 := hb10.trans (hx11.mono hb10.size)
  go_wp2_with fail
  go_ret
  exact ⟨ret_bool (by simp), hb11⟩

theorem tiersTells_contract (H : Type) (enc : TypeId × Value → H) (W : World) (base : Nat) (args : Array Value) (ds gs : List (DataW H)) (before : List MemPlace)
    (hval : ∀ (j : Nat) t v, Try.f3.params[j]? = some t → args[j]? = some v → Value.okWide Try.prog W .any base t v)
    (hW : DataW.Whole enc Try.prog Try.f3.params.toList Rows.tiersTellsSpec.vars false W args.toList ds gs before) :
    Calls Try.prog 3 args W fun e W' => ∃ v, e = .returned v ∧ Rows.tiersTellsSpec.post enc Try.prog Try.f3 false true false false W args v W' := by
  have hW' := hW
  obtain ⟨p, q, hA0, hV, rfl, hfz, hnd⟩ := hW
  have hA : DataW.TrodAll enc Try.prog W 0 (fun _ => true) true Try.f3.params.toList args.toList ds p := hA0
  have hlt := hA.lt
  rw [Try.params3] at hA hval
  obtain ⟨v0, vs0, d0, ds0, p0, q0, hargs0, rfl, rfl, h0, rr0⟩ := trodAll_cons hA
  obtain ⟨v1, vs1, d1, ds1, p1, q1, rfl, rfl, rfl, h1, rr1⟩ := trodAll_cons rr0
  obtain ⟨v2, vs2, d2, ds2, p2, q2, rfl, rfl, rfl, h2, rr2⟩ := trodAll_cons rr1
  obtain ⟨v3, vs3, d3, ds3, p3, q3, rfl, rfl, rfl, h3, rr3⟩ := trodAll_cons rr2
  obtain ⟨rfl, rfl, rfl⟩ := trodAll_nil rr3
  obtain rfl : args = #[v0, v1, v2, v3] := by cases args; simp_all
  obtain ⟨rfl, rfl⟩ := trodVars_none hV
  obtain ⟨A, nn0, c, rfl⟩ := okWide_slice Try.underlying22 (hval 0 22 v0 rfl rfl)
  obtain ⟨fu0, ff0⟩ := h0
  obtain ⟨L, rfl, t0, b0, m0⟩ := open_three (B := W.heap.size) Try.underlying22 Try.underlying36 rfl rfl rfl Try.underlying3 (by kernel_rfl) rfl rfl rfl (by kernel_rfl) (fun y (hy : y ∈ p0) => hlt y (by simp [hy])) ff0
  unfold maxLen at m0
  obtain ⟨A2, nn1, c2, rfl⟩ := okWide_slice Try.underlying23 (hval 1 23 v1 rfl rfl)
  obtain ⟨fu1, ff1⟩ := h1
  obtain ⟨U, rfl, t1, b1, m1, z1⟩ := open_nums (B := W.heap.size) Try.underlying23 Try.underlying3 (by kernel_rfl) (fun y (hy : y ∈ p1) => hlt y (by simp [hy])) ff1
  unfold maxLen at m1
  obtain ⟨x, rfl, rfl, rfl, hwf2⟩ := open_int Try.underlying3 (hval 2 3 v2 rfl rfl) h2
  have r2 : -9223372036854775808 ≤ x ∧ x ≤ 9223372036854775807 := by simpa [Lit.wf, IntKind.min, IntKind.max, IntKind.signed, IntKind.bits] using hwf2
  obtain ⟨A3, nn3, c3, rfl⟩ := okWide_slice Try.underlying23 (hval 3 23 v3 rfl rfl)
  obtain ⟨fu3, ff3⟩ := h3
  obtain ⟨cs, rfl, t3, b3, m3, z3⟩ := open_nums (B := W.heap.size) Try.underlying23 Try.underlying3 (by kernel_rfl) (fun y (hy : y ∈ p3) => hlt y (by simp [hy])) ff3
  unfold maxLen at m3
  refine (tells_any A A2 A3 c c2 c3 L U x cs W t0 t1 t3 (by omega) (by omega) (by omega)).mono fun e W' ⟨he, hb⟩ => ?_
  subst he
  exact ⟨_, rfl, law_post laidOut Try.underlying4 rfl (by kernel_rfl) rfl hW' rfl hb⟩
set_option maxRecDepth 100000 in
theorem tiersTells_lifted (os : Os) (started : os.Started) (H : Type) (enc : TypeId × Value → H) :
    ReturnsInHanded {} Try.checked os 3 .any (Rows.tiersTellsSpec.pre6 enc Try.prog Try.f3 Rows.tiersTellsRow.domain false) (Rows.tiersTellsSpec.post enc Try.prog Try.f3 false true false false) := by
  refine returnsInHanded_of_change (C := Try.checked) own started (by kernel_rfl) Try.func3
    (ChangeSpec.witness6 (enc := enc) (C := Try.checked) false ⟨#[], #[.slice none 0 0, .slice none 0 0, .int .i64 0, .slice none 0 0], []⟩ 8 (by kernel_rfl) (by kernel_rfl) (by kernel_rfl) (by kernel_rfl)) ?_
  intro W base args ds gs before hval hW _ _
  exact tiersTells_contract H enc W base args ds gs before hval hW
theorem tiersTells_holds : Rows.TiersTellsSaid :=
  OpenClaim.holds_of_wide 3 Try.f3 rfl rfl rfl rfl rfl rfl rfl ⟨rfl, rfl, rfl, rfl, rfl⟩ rfl rfl rfl rfl rfl (by kernel_rfl) Try.func3 (by kernel_rfl)
    (of_decide_eq_true (by kernel_rfl)) (by unfold Func.isWrapper; first | (rw [if_pos (by decide +kernel)]; kernel_rfl) | (rw [if_neg (by decide +kernel)]; exact ⟨rfl, rfl⟩))
    (fun os started H enc _ => tiersTells_lifted os started H enc)
end Go.Proofs.Ytcienmbbfcljnaa
