/-
  ReactOnly: there is a guard exactly if some policy keeps the chain. Conditions: none.
-/
import Derived.Test.YteahkgoedibimaaWalkP
namespace Go.Proofs.Yteahkgoedibimaa
open Go.ChangeShapes Go.WideShapes Go.ChangeAt Go.RowKit Go.Deep Go.Joins

theorem wins_nil (A1 A2 A3 : Option Addr) (c1 c2 c3 : Nat) (ws ls : List P2) (rs : List P3) (w : World) (hF : FineC ws ls rs) (h1 : Two w w.heap.size A1 ws) (h2 : Two w w.heap.size A2 ls) (h3 : Three w w.heap.size A3 rs) :
    Calls Try.prog 23 #[.agg #[.slice A1 ws.length c1, .slice A2 ls.length c2, .slice A3 rs.length c3], .int .i64 0, .int .i64 0, .slice none 0 0] w fun e w' => e = .returned (.bool (isB (Win ws ls rs ws.length 0 0 []))) ∧ Below w.heap.size w w' :=
  wins_any ws ls rs hF ws.length A1 A2 A3 none c1 c2 c3 0 0 0 0 0 [] w h1 h2 h3 (Shows.empty _ _ _ _) rfl rfl (by omega) rfl (by omega) (fun i => by simp)
set_option maxHeartbeats 8000000 in
set_option maxRecDepth 100000 in
theorem only_any (A1 A2 A3 : Option Addr) (c1 c2 c3 : Nat) (ws ls : List P2) (rs : List P3) (w : World) (h1 : Two w w.heap.size A1 ws) (h2 : Two w w.heap.size A2 ls) (h3 : Three w w.heap.size A3 rs) (hl1 : ws.length ≤ 9223372036854775807) :
    Calls Try.prog 5 #[.agg #[.slice A1 ws.length c1, .slice A2 ls.length c2, .slice A3 rs.length c3]] w fun e w' => e = .returned (.bool true) ∧ Below w.heap.size w w' := by
  go_enter Try.func5, Try.ntmps5
  go_wp2_with fail
  have hbA := lit_below w (.cells #[.slice A1 ws.length c1, .slice A2 ls.length c2, .slice A3 rs.length c3] 26)
  have hbox := BoxC.new w (.slice A1 ws.length c1) (.slice A2 ls.length c2) (.slice A3 rs.length c3) 26
  generalize w.alloc (.cells #[.slice A1 ws.length c1, .slice A2 ls.length c2, .slice A3 rs.length c3] 26) = wA at hbA hbox ⊢
  refine (small_any _).mono ?_
  rintro e w1 ⟨rfl, hx1⟩
  obtain ⟨x0, x1, x2, sA⟩ := id hbox
  have hb1 := hbA.trans (hx1.mono hbA.size)
  have hbox := hbox.ext hx1
  clear x0 x1 x2 sA
  obtain ⟨x0, x1, x2, sA⟩ := id hbox
  by_cases l4 : (4 : Int) < (ws.length : Int)
  · skip
    go_wp2_with fail
    go_ret
    exact ⟨rfl, hb1⟩
  have l4' := decide_eq_false l4
  go_wp2_with fail
  refine (few_any _ _ _ _ _ _ ws ls rs _).mono ?_
  rintro e w2 ⟨rfl, hx2⟩
  have hb2 := hb1.trans (hx2.mono hb1.size)
  have hbox := hbox.ext hx2
  clear x0 x1 x2 sA
  obtain ⟨x0, x1, x2, sA⟩ := id hbox
  cases hfew : fewC ws ls rs
  · clear hfew
    go_wp2_with fail
    go_ret
    exact ⟨rfl, hb2⟩
  clear hfew
  go_wp2_with fail
  refine (tiny_any _ _ _ _ _ _ ws ls rs _ (two_ext h1 hb2) (two_ext h2 hb2) (three_ext h3 hb2) hl1).mono ?_
  rintro e w3 ⟨rfl, hx3⟩
  have hb3 := hb2.trans (hx3.mono hb2.size)
  have hbox := hbox.ext hx3
  clear x0 x1 x2 sA
  obtain ⟨x0, x1, x2, sA⟩ := id hbox
  cases ht : tinyB ws ls rs
  · clear ht
    go_wp2_with fail
    go_ret
    exact ⟨rfl, hb3⟩
  have hr : rightC ws ls rs = true := by
    simp only [tinyB, Bool.and_eq_true] at ht
    exact ht.1.1.1
  have HR := Lib.hid hr
  clear ht hr
  go_wp2_with fail
  refine (guard_any _ _ _ _ _ _ ws ls rs _ (two_ext h1 hb3) (two_ext h2 hb3) (three_ext h3 hb3) hl1).mono ?_
  cases hg : guardB ws ls rs
  · unfold PairSays
    rw [(guardE_late HR.out hg).1, (guardE_late HR.out hg).2]
    rintro e w4 ⟨B1, d1, _, rfl, _, hx4⟩
    have hb4 := hb3.trans (hx4.mono hb3.size)
    have hbox := hbox.ext hx4
    clear x0 x1 x2 sA
    obtain ⟨x0, x1, x2, sA⟩ := id hbox
    have hw : isB (Win ws ls rs ws.length 0 0 []) = false := isB_false fun h => by
      rw [(win_iff HR.out).1 h] at hg
      cases hg
    clear hg
    go_wp2_with fail
    refine (wins_nil _ _ _ _ _ _ ws ls rs _ (fine_right HR.out) (two_ext h1 hb4) (two_ext h2 hb4) (three_ext h3 hb4)).mono ?_
    rw [hw]
    rintro e w5 ⟨rfl, hx5⟩
    have hb5 := hb4.trans (hx5.mono hb4.size)
    clear hw
    go_wp2_with fail
    go_ret
    exact ⟨rfl, hb5⟩
  · unfold PairSays
    rw [(guardE_good hg).1, (guardE_good hg).2]
    rintro e w4 ⟨B1, d1, _, rfl, _, hx4⟩
    have hb4 := hb3.trans (hx4.mono hb3.size)
    have hbox := hbox.ext hx4
    clear x0 x1 x2 sA
    obtain ⟨x0, x1, x2, sA⟩ := id hbox
    have hw : isB (Win ws ls rs ws.length 0 0 []) = true := isB_true ((win_iff HR.out).2 hg)
    clear hg
    go_wp2_with fail
    refine (wins_nil _ _ _ _ _ _ ws ls rs _ (fine_right HR.out) (two_ext h1 hb4) (two_ext h2 hb4) (three_ext h3 hb4)).mono ?_
    rw [hw]
    rintro e w5 ⟨rfl, hx5⟩
    have hb5 := hb4.trans (hx5.mono hb4.size)
    clear hw
    go_wp2_with fail
    go_ret
    exact ⟨rfl, hb5⟩

theorem reactOnly_contract (H : Type) (enc : TypeId × Value → H) (W : World) (base : Nat) (args : Array Value) (ds gs : List (DataW H)) (before : List MemPlace)
    (hval : ∀ (j : Nat) t v, Try.f5.params[j]? = some t → args[j]? = some v → Value.okWide Try.prog W .any base t v)
    (hW : DataW.Whole enc Try.prog Try.f5.params.toList Rows.reactOnlySpec.vars false W args.toList ds gs before) :
    Calls Try.prog 5 args W fun e W' => ∃ v, e = .returned v ∧ Rows.reactOnlySpec.post enc Try.prog Try.f5 false true false false W args v W' := by
  have hW' := hW
  obtain ⟨p, q, hA0, hV, rfl, hfz, hnd⟩ := hW
  have hA : DataW.TrodAll enc Try.prog W 0 (fun _ => true) true Try.f5.params.toList args.toList ds p := hA0
  have hlt := hA.lt
  rw [Try.params5] at hA hval
  obtain ⟨v0, vs0, d0, ds0, p0, q0, hargs0, rfl, rfl, h0, rr0⟩ := trodAll_cons hA
  obtain ⟨rfl, rfl, rfl⟩ := trodAll_nil rr0
  obtain rfl : args = #[v0] := by cases args; simp_all
  obtain ⟨rfl, rfl⟩ := trodVars_none hV
  obtain ⟨x0a, x0b, x0c, y0a, y0b, y0c, n0, rfl, rfl, rfl, g0a, g0b, g0c⟩ := open_agg3 Try.underlying26 (by kernel_rfl) (by kernel_rfl) (hval 0 26 v0 rfl rfl) h0
  obtain ⟨A1, nn0a, c1, rfl⟩ := slice_form Try.underlying22 g0a
  obtain ⟨ws, rfl, t0a, b0a, m0a⟩ := open_two (B := W.heap.size) Try.underlying22 Try.underlying47 rfl rfl Try.underlying3 (by kernel_rfl) rfl rfl (by kernel_rfl) (fun y (hy : y ∈ y0a.2) => hlt y (by simp [hy])) g0a
  unfold maxLen at m0a
  obtain ⟨A2, nn0b, c2, rfl⟩ := slice_form Try.underlying23 g0b
  obtain ⟨ls, rfl, t0b, b0b, m0b⟩ := open_two (B := W.heap.size) Try.underlying23 Try.underlying44 rfl rfl Try.underlying3 (by kernel_rfl) rfl rfl (by kernel_rfl) (fun y (hy : y ∈ y0b.2) => hlt y (by simp [hy])) g0b
  unfold maxLen at m0b
  obtain ⟨A3, nn0c, c3, rfl⟩ := slice_form Try.underlying24 g0c
  obtain ⟨rs, rfl, t0c, b0c, m0c⟩ := open_three (B := W.heap.size) Try.underlying24 Try.underlying49 rfl rfl rfl Try.underlying3 (by kernel_rfl) rfl rfl rfl (by kernel_rfl) (fun y (hy : y ∈ y0c.2) => hlt y (by simp [hy])) g0c
  unfold maxLen at m0c
  refine (only_any A1 A2 A3 c1 c2 c3 ws ls rs W t0a t0b t0c (by omega)).mono fun e W' ⟨he, hb⟩ => ?_
  subst he
  exact ⟨_, rfl, law_post laidOut Try.underlying4 rfl (by kernel_rfl) rfl hW' rfl hb⟩
set_option maxRecDepth 100000 in
theorem reactOnly_lifted (os : Os) (started : os.Started) (H : Type) (enc : TypeId × Value → H) :
    ReturnsInHanded {} Try.checked os 5 .any (Rows.reactOnlySpec.pre6 enc Try.prog Try.f5 Rows.reactOnlyRow.domain false) (Rows.reactOnlySpec.post enc Try.prog Try.f5 false true false false) := by
  refine returnsInHanded_of_change (C := Try.checked) own started (by kernel_rfl) Try.func5
    (ChangeSpec.witness6 (enc := enc) (C := Try.checked) false ⟨#[], #[.agg #[.slice none 0 0, .slice none 0 0, .slice none 0 0]], []⟩ 8 (by kernel_rfl) (by kernel_rfl) (by kernel_rfl) (by kernel_rfl)) ?_
  intro W base args ds gs before hval hW _ _
  exact reactOnly_contract H enc W base args ds gs before hval hW
theorem reactOnly_holds : Rows.ReactOnlySaid :=
  OpenClaim.holds_of_wide 5 Try.f5 rfl rfl rfl rfl rfl rfl rfl ⟨rfl, rfl, rfl, rfl, rfl⟩ rfl rfl rfl rfl rfl (by kernel_rfl) Try.func5 (by kernel_rfl)
    (of_decide_eq_true (by kernel_rfl)) (by unfold Func.isWrapper; first | (rw [if_pos (by decide +kernel)]; kernel_rfl) | (rw [if_neg (by decide +kernel)]; exact ⟨rfl, rfl⟩))
    (fun os started H enc _ => reactOnly_lifted os started H enc)
end Go.Proofs.Yteahkgoedibimaa
