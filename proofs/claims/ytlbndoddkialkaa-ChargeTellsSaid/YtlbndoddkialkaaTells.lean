/-
  ChargeTells: for all batteries, charges and uses the program's functions return what the reference's return. Conditions: none.
-/
import Derived.Test.YtlbndoddkialkaaWalkT
import Derived.Test.YtlbndoddkialkaaLift
namespace Go.Proofs.Ytlbndoddkialkaa
open Go.ChangeShapes Go.WideShapes Go.ChangeAt Go.RowKit Go.Deep Go.Joins

set_option maxHeartbeats 8000000 in
set_option maxRecDepth 100000 in
theorem tells_any (F s : Int) (A : Option Addr) (c : Nat) (us : List P2) (w : World) (h : Two w w.heap.size A us) (hlen : us.length ≤ 9223372036854775807) :
    Calls Try.prog 3 #[.int .i64 F, .int .i64 s, .slice A us.length c] w fun e w' => e = .returned (.bool true) ∧ Below w.heap.size w w' := by
  go_enter Try.func3, Try.ntmps3
  go_wp2_with fail
  refine (small_any _).mono ?_
  rintro e w1 ⟨rfl, hb1⟩
  by_cases hn : us.length ≤ 60
  · go_wp2_with fail
    refine (run_any _ _ _ _ _ _ (two_ext h hb1) hlen).mono ?_
    rintro e w2 ⟨A1, c1, A2, c2, rfl, n1, n2, hx2⟩
    have hb2 := hb1.trans (hx2.mono hb1.size)
    go_wp2_with fail
    refine (rrun_any _ _ _ _ _ _ (two_ext h hb2) hlen).mono ?_
    rintro e w3 ⟨A3, c3, A4, c4, rfl, n3, n4, hx3⟩
    have hb3 := hb2.trans (hx3.mono hb2.size)
    go_wp2_with fail
    refine (need_any _ _ _ _ _ (two_ext h hb3)).mono ?_
    rintro e w4 ⟨rfl, hx4⟩
    have hb4 := hb3.trans (hx4.mono hb3.size)
    go_wp2_with fail
    refine (rneed_any _ _ _ _ _ (two_ext h hb4) hlen).mono ?_
    rintro e w5 ⟨rfl, hx5⟩
    have hb5 := hb4.trans (hx5.mono hb4.size)
    have n1 := num_ext (num_ext (num_ext n1 hx3) hx4) hx5
    have n2 := num_ext (num_ext (num_ext n2 hx3) hx4) hx5
    have n3 := num_ext (num_ext n3 hx4) hx5
    have n4 := num_ext (num_ext n4 hx4) hx5
    have hl1 := runL_le F s us
    have hl2 := runH_le F s us
    go_wp2_with fail
    refine (ints_any _ _ _ _ _ _ _ n1 n3 (by omega) (by omega)).mono ?_
    rw [decide_eq_true rfl]
    rintro e w6 ⟨rfl, hx6⟩
    have hb6 := hb5.trans (hx6.mono hb5.size)
    have n2 := num_ext n2 hx6
    have n4 := num_ext n4 hx6
    go_wp2_with fail
    refine (ints_any _ _ _ _ _ _ _ n2 n4 (by omega) (by omega)).mono ?_
    rw [decide_eq_true rfl]
    rintro e w7 ⟨rfl, hx7⟩
    have hb7 := hb6.trans (hx7.mono hb6.size)
    go_wp2_with fail
    refine (right_any _ _ _ _ _ (two_ext h hb7)).mono ?_
    rintro e w8 ⟨rfl, hx8⟩
    have hb8 := hb7.trans (hx8.mono hb7.size)
    go_wp2_with fail
    refine (rright_any _ _ _ _ _ (two_ext h hb8) hlen).mono ?_
    rintro e w9 ⟨rfl, hx9⟩
    have hb9 := hb8.trans (hx9.mono hb8.size)
    go_wp2_with fail
    go_ret
    exact ⟨ret_bool (by simp), hb9⟩
  · go_wp2_with fail
    go_ret
    exact ⟨rfl, hb1⟩

theorem chargeTells_contract (H : Type) (enc : TypeId × Value → H) (W : World) (base : Nat) (args : Array Value) (ds gs : List (DataW H)) (before : List MemPlace)
    (hval : ∀ (j : Nat) t v, Try.f3.params[j]? = some t → args[j]? = some v → Value.okWide Try.prog W .any base t v)
    (hW : DataW.Whole enc Try.prog Try.f3.params.toList Rows.chargeTellsSpec.vars false W args.toList ds gs before) :
    Calls Try.prog 3 args W fun e W' => ∃ v, e = .returned v ∧ Rows.chargeTellsSpec.post enc Try.prog Try.f3 false true false false W args v W' := by
  have hW' := hW
  obtain ⟨p, q, hA0, hV, rfl, hfz, hnd⟩ := hW
  have hA : DataW.TrodAll enc Try.prog W 0 (fun _ => true) true Try.f3.params.toList args.toList ds p := hA0
  have hlt := hA.lt
  rw [Try.params3] at hA hval
  obtain ⟨v0, vs0, d0, ds0, p0, q0, hargs0, rfl, rfl, h0, rr0⟩ := trodAll_cons hA
  obtain ⟨v1, vs1, d1, ds1, p1, q1, rfl, rfl, rfl, h1, rr1⟩ := trodAll_cons rr0
  obtain ⟨v2, vs2, d2, ds2, p2, q2, rfl, rfl, rfl, h2, rr2⟩ := trodAll_cons rr1
  obtain ⟨rfl, rfl, rfl⟩ := trodAll_nil rr2
  obtain rfl : args = #[v0, v1, v2] := by cases args; simp_all
  obtain ⟨rfl, rfl⟩ := trodVars_none hV
  obtain ⟨F, rfl, rfl, rfl, hwf0⟩ := open_int Try.underlying3 (hval 0 3 v0 rfl rfl) h0
  have r0 : -9223372036854775808 ≤ F ∧ F ≤ 9223372036854775807 := by simpa [Lit.wf, IntKind.min, IntKind.max, IntKind.signed, IntKind.bits] using hwf0
  obtain ⟨s, rfl, rfl, rfl, hwf1⟩ := open_int Try.underlying3 (hval 1 3 v1 rfl rfl) h1
  have r1 : -9223372036854775808 ≤ s ∧ s ≤ 9223372036854775807 := by simpa [Lit.wf, IntKind.min, IntKind.max, IntKind.signed, IntKind.bits] using hwf1
  obtain ⟨A, nn2, c, rfl⟩ := okWide_slice Try.underlying22 (hval 2 22 v2 rfl rfl)
  obtain ⟨fu2, ff2⟩ := h2
  obtain ⟨us, rfl, t2, b2, m2⟩ := open_two (B := W.heap.size) Try.underlying22 Try.underlying35 rfl rfl Try.underlying3 (by kernel_rfl) rfl rfl (by kernel_rfl) (fun y (hy : y ∈ p2) => hlt y (by simp [hy])) ff2
  unfold maxLen at m2
  refine (tells_any F s A c us W t2 (by omega)).mono fun e W' ⟨he, hb⟩ => ?_
  subst he
  exact ⟨_, rfl, law_post laidOut Try.underlying4 rfl (by kernel_rfl) rfl hW' rfl hb⟩
set_option maxRecDepth 100000 in
theorem chargeTells_lifted (os : Os) (started : os.Started) (H : Type) (enc : TypeId × Value → H) :
    ReturnsInHanded {} Try.checked os 3 .any (Rows.chargeTellsSpec.pre6 enc Try.prog Try.f3 Rows.chargeTellsRow.domain false) (Rows.chargeTellsSpec.post enc Try.prog Try.f3 false true false false) := by
  refine returnsInHanded_of_change (C := Try.checked) own started (by kernel_rfl) Try.func3
    (ChangeSpec.witness6 (enc := enc) (C := Try.checked) false ⟨#[], #[.int .i64 0, .int .i64 0, .slice none 0 0], []⟩ 8 (by kernel_rfl) (by kernel_rfl) (by kernel_rfl) (by kernel_rfl)) ?_
  intro W base args ds gs before hval hW _ _
  exact chargeTells_contract H enc W base args ds gs before hval hW
theorem chargeTells_holds : Rows.ChargeTellsSaid :=
  OpenClaim.holds_of_wide 3 Try.f3 rfl rfl rfl rfl rfl rfl rfl ⟨rfl, rfl, rfl, rfl, rfl⟩ rfl rfl rfl rfl rfl (by kernel_rfl) Try.func3 (by kernel_rfl)
    (of_decide_eq_true (by kernel_rfl)) (by unfold Func.isWrapper; first | (rw [if_pos (by decide +kernel)]; kernel_rfl) | (rw [if_neg (by decide +kernel)]; exact ⟨rfl, rfl⟩))
    (fun os started H enc _ => chargeTells_lifted os started H enc)
end Go.Proofs.Ytlbndoddkialkaa
