/-
  WorkSpare: a further leg after a wait that takes no time is permitted exactly if its greatest minutes are at most what Spare returns. Conditions: none.
-/
import Derived.Test.YthjedajkebehbaaWalkT
import Derived.Test.YthjedajkebehbaaLift
namespace Go.Proofs.Ythjedajkebehbaa
open Go.ChangeShapes Go.WideShapes Go.ChangeAt Go.RowKit Go.Deep Go.Joins

theorem getD_app {l r : List P2} {k : Nat} (h : k < l.length) : (l ++ r).getD k ⟨0, 0⟩ = l.getD k ⟨0, 0⟩ := by
  simp [List.getD, List.getElem?_append_left h]
theorem dAt_app (R : Int) (ls ws xs ys : List P2) (hm : ws.length = ls.length) : ∀ k, k ≤ ls.length → dAt R (ls ++ xs) (ws ++ ys) k = dAt R ls ws k
  | 0, _ => rfl
  | k + 1, h => by rw [dAt, dAt, dAt_app R ls ws xs ys hm k (by omega), getD_app (by omega), getD_app (by omega)]
theorem wAt_app (ls ws xs ys : List P2) (hm : ws.length = ls.length) : ∀ k, k ≤ ls.length → wAt (ls ++ xs) (ws ++ ys) k = wAt ls ws k
  | 0, _ => rfl
  | k + 1, h => by rw [wAt, wAt, wAt_app ls ws xs ys hm k (by omega), getD_app (by omega), getD_app (by omega)]
theorem getD_end (l : List P2) (x : P2) : (l ++ [x]).getD l.length ⟨0, 0⟩ = x := by simp [List.getD]

theorem first_none {D R W : Int} {ls ws : List P2} (h : firstLong D R W ls ws = none) (i : Nat) (hi : i < ls.length) : tooLong D R W ls ws i = false := by
  have := List.find?_eq_none.1 h i (by simpa using hi)
  simpa using this

theorem first_more {D R W h : Int} {ls ws : List P2} (hm : ws.length = ls.length) (hR : 1 ≤ R) (hf : firstLong D R W ls ws = none) :
    firstLong D R W (ls ++ [⟨0, h⟩]) (ws ++ [⟨0, 0⟩]) = if h ≤ D - dAt R ls ws ls.length ∧ h ≤ W - wAt ls ws ls.length then none else some ls.length := by
  have hd : dAt R (ls ++ [⟨0, h⟩]) (ws ++ [⟨0, 0⟩]) (ls.length + 1) = dAt R ls ws ls.length + h := by
    rw [dAt, getD_end, ← hm, getD_end, hm, dAt_app R ls ws _ _ hm _ (Nat.le_refl _), if_neg (by simp; omega)]
  have hw : wAt (ls ++ [⟨0, h⟩]) (ws ++ [⟨0, 0⟩]) (ls.length + 1) = wAt ls ws ls.length + h := by
    rw [wAt, getD_end, ← hm, getD_end, hm, wAt_app ls ws _ _ hm _ (Nat.le_refl _)]
    split <;> simp
  have hold : ∀ i, i < ls.length → tooLong D R W (ls ++ [⟨0, h⟩]) (ws ++ [⟨0, 0⟩]) i = false := fun i hi => by
    have := first_none hf i hi
    unfold tooLong at this ⊢
    rw [dAt_app R ls ws _ _ hm _ (by omega), wAt_app ls ws _ _ hm _ (by omega)]
    exact this
  have hlast : tooLong D R W (ls ++ [⟨0, h⟩]) (ws ++ [⟨0, 0⟩]) ls.length = !decide (h ≤ D - dAt R ls ws ls.length ∧ h ≤ W - wAt ls ws ls.length) := by
    unfold tooLong
    rw [hd, hw, Bool.eq_iff_iff]
    simp
    omega
  split
  · rename_i hc
    refine find_range_none (fun j hj => ?_)
    simp at hj
    by_cases e : j = ls.length
    · subst e
      rw [hlast]
      simpa using hc
    · exact hold j (by omega)
  · rename_i hc
    exact find_range_some (by simp) (by rw [hlast, decide_eq_false hc]; rfl) hold

theorem right_more {D R W h : Int} {ls ws : List P2} (hr : rightB D R W ls ws = true) (hl : ls.length ≤ 40) (h0 : 0 ≤ h) (h1 : h ≤ 65535) : rightB D R W (ls ++ [⟨0, h⟩]) (ws ++ [⟨0, 0⟩]) = true := by
  unfold rightB at hr ⊢
  simp only [Bool.and_eq_true, decide_eq_true_eq, Bool.not_eq_true'] at hr ⊢
  obtain ⟨⟨⟨⟨⟨⟨a1, a2⟩, a3⟩, a4⟩, a5⟩, a6⟩, a7⟩ := hr
  refine ⟨⟨⟨⟨⟨⟨a1, a2⟩, a3⟩, by simp; omega⟩, by simp; omega⟩, ?_⟩, ?_⟩
  · rw [List.any_append, a6]
    simp [badLeg, within]
    omega
  · rw [List.any_append, a7]
    simp [badLeg, within]

theorem check_more {D R W h : Int} {ls ws : List P2} (he : checkE D R W ls ws = 0) (hl : ls.length ≤ 40) (h0 : 0 ≤ h) (h1 : h ≤ 65535) :
    (h ≤ spareD D R W ls ws ∧ h ≤ spareW D R W ls ws → checkE D R W (ls ++ [⟨0, h⟩]) (ws ++ [⟨0, 0⟩]) = 0 ∧ spareD D R W (ls ++ [⟨0, h⟩]) (ws ++ [⟨0, 0⟩]) = spareD D R W ls ws - h ∧ spareW D R W (ls ++ [⟨0, h⟩]) (ws ++ [⟨0, 0⟩]) = spareW D R W ls ws - h) ∧
    (¬(h ≤ spareD D R W ls ws ∧ h ≤ spareW D R W ls ws) → checkE D R W (ls ++ [⟨0, h⟩]) (ws ++ [⟨0, 0⟩]) = 29 ∧ checkI D R W (ls ++ [⟨0, h⟩]) (ws ++ [⟨0, 0⟩]) = ls.length) ∧ 0 ≤ spareD D R W ls ws ∧ spareD D R W ls ws ≤ 1048576 ∧ 0 ≤ spareW D R W ls ws ∧ spareW D R W ls ws ≤ 1048576 := by
  obtain ⟨hr, hf⟩ := check_ok he
  obtain ⟨_, hm, f1, f2, _, _, hR, _⟩ := right_parts hr
  have hr' := right_more hr hl h0 h1
  have hf' := first_more (h := h) hm hR hf
  have b1 := dAt_bd (R := R) (ws := ws) f1 ls.length
  have b2 := wAt_bd f1 f2 ls.length
  obtain ⟨_, _, _, _, d1, d2, _, _, d3, d4⟩ := right_parts hr
  have e1 : spareD D R W ls ws = D - dAt R ls ws ls.length := by simp [spareD, he]
  have e2 : spareW D R W ls ws = W - wAt ls ws ls.length := by simp [spareW, he]
  have hdn : dAt R ls ws ls.length ≤ D ∧ wAt ls ws ls.length ≤ W := by
    cases hk : ls.length with
    | zero => simp [dAt, wAt]; omega
    | succ k =>
      have := first_none hf k (by omega)
      simp [tooLong] at this
      exact this
  rw [e1, e2]
  refine ⟨fun hc => ?_, fun hc => ?_, by omega, by omega, by omega, by omega⟩
  · rw [if_pos hc] at hf'
    have hce : checkE D R W (ls ++ [⟨0, h⟩]) (ws ++ [⟨0, 0⟩]) = 0 := by simp [checkE, hr', hf']
    have hd : dAt R (ls ++ [⟨0, h⟩]) (ws ++ [⟨0, 0⟩]) (ls.length + 1) = dAt R ls ws ls.length + h := by
      rw [dAt, getD_end, ← hm, getD_end, hm, dAt_app R ls ws _ _ hm _ (Nat.le_refl _), if_neg (by simp; omega)]
    have hw : wAt (ls ++ [⟨0, h⟩]) (ws ++ [⟨0, 0⟩]) (ls.length + 1) = wAt ls ws ls.length + h := by
      rw [wAt, getD_end, ← hm, getD_end, hm, wAt_app ls ws _ _ hm _ (Nat.le_refl _)]
      split <;> simp
    refine ⟨hce, ?_, ?_⟩
    · simp only [spareD, hce, if_true, List.length_append, List.length_cons, List.length_nil, Nat.zero_add]
      rw [hd]
      omega
    · simp only [spareW, hce, if_true, List.length_append, List.length_cons, List.length_nil, Nat.zero_add]
      rw [hw]
      omega
  · rw [if_neg hc] at hf'
    exact ⟨by simp [checkE, hr', hf'], by simp [checkI, hr', hf']⟩

theorem info_leg : (Try.prog.info? 41).map (fun i => (i.zero, i.size, i.bytes)) = some (some (.agg #[.int .i64 0, .int .i64 0]), 2, 16) := by kernel_rfl

theorem check_n (D R W : Int) (A1 A2 : Option Addr) (m1 m2 c1 c2 : Nat) (ls ws : List P2) (w : World) (h1 : Two w w.heap.size A1 ls) (h2 : Two w w.heap.size A2 ws) (e1 : ls.length = m1) (e2 : ws.length = m2) (hl1 : m1 ≤ 9223372036854775807) (hl2 : m2 ≤ 9223372036854775807) :
    Calls Try.prog 8 #[.agg #[.int .i64 D, .int .i64 R, .int .i64 W], .slice A1 m1 c1, .slice A2 m2 c2] w
      fun e w' => e = .returned (.tuple #[.int .i64 (checkI D R W ls ws), .int .i64 (checkE D R W ls ws)]) ∧ Below w.heap.size w w' := by
  subst e1 e2
  exact check_any D R W A1 A2 c1 c2 ls ws w h1 h2 hl1 hl2
theorem spare_n (D R W : Int) (A1 A2 : Option Addr) (m1 m2 c1 c2 : Nat) (ls ws : List P2) (w : World) (h1 : Two w w.heap.size A1 ls) (h2 : Two w w.heap.size A2 ws) (e1 : ls.length = m1) (e2 : ws.length = m2) (hl1 : m1 ≤ 9223372036854775807) (hl2 : m2 ≤ 9223372036854775807) :
    Calls Try.prog 10 #[.agg #[.int .i64 D, .int .i64 R, .int .i64 W], .slice A1 m1 c1, .slice A2 m2 c2] w
      fun e w' => e = .returned (.tuple #[.int .i64 (spareD D R W ls ws), .int .i64 (spareW D R W ls ws), .int .i64 (checkE D R W ls ws)]) ∧ Below w.heap.size w w' := by
  subst e1 e2
  exact spare_any D R W A1 A2 c1 c2 ls ws w h1 h2 hl1 hl2

set_option maxHeartbeats 8000000 in
set_option maxRecDepth 100000 in
theorem wspare_any (D R W : Int) (A1 A2 : Option Addr) (c1 c2 : Nat) (ls ws : List P2) (x : Int) (w : World) (h1 : Two w w.heap.size A1 ls) (h2 : Two w w.heap.size A2 ws) (hl1 : ls.length ≤ 9223372036854775807) (hl2 : ws.length ≤ 9223372036854775807) (g0 : 0 ≤ x) (g1 : x ≤ 65535) :
    Calls Try.prog 5 #[.agg #[.int .i64 D, .int .i64 R, .int .i64 W], .slice A1 ls.length c1, .slice A2 ws.length c2, .int .u16 x] w fun e w' => e = .returned (.bool true) ∧ Below w.heap.size w w' := by
  obtain ⟨i0, hi, hz0, hz1, hz2⟩ := info_parts info_leg
  go_enter Try.func5, Try.ntmps5
  go_wp2_with fail
  refine (small_any _).mono ?_
  rintro e w1 ⟨rfl, hx⟩
  rw [size_alloc] at hx
  obtain ⟨q0, q1, q2, hb1, hs1⟩ := box_cells hx
  go_wp2_with fail
  refine (right_any _ _ _ _ _ _ _ _ _ _ (two_ext h1 hb1) (two_ext h2 hb1) hl1 hl2).mono ?_
  rintro e w2 ⟨rfl, hx2⟩
  have t0 := ((bcell hx2).1 _ 0 (by omega)).trans q0
  have t1 := ((bcell hx2).1 _ 1 (by omega)).trans q1
  have t2 := ((bcell hx2).1 _ 2 (by omega)).trans q2
  have hb2 := hb1.trans (hx2.mono hb1.size)
  have hs2 := hx2.size
  cases hR : rightB D R W ls ws
  · have HR := Lib.hid hR
    clear hR
    go_wp2_with fail
    go_ret
    exact ⟨rfl, hb2⟩
  have HR := Lib.hid hR
  clear hR
  by_cases hn : ls.length ≤ 40
  · go_wp2_with fail
    refine (spare_any _ _ _ _ _ _ _ _ _ _ (two_ext h1 hb2) (two_ext h2 hb2) hl1 hl2).mono ?_
    rintro e w3 ⟨rfl, hx3⟩
    have u0 := ((bcell hx3).1 _ 0 (by omega)).trans t0
    have u1 := ((bcell hx3).1 _ 1 (by omega)).trans t1
    have u2 := ((bcell hx3).1 _ 2 (by omega)).trans t2
    have hb3 := hb2.trans (hx3.mono hb2.size)
    have hs3 := hx3.size
    by_cases hE : checkE D R W ls ws = 0
    · obtain ⟨hyes, hno, s0, s1, s2, s3⟩ := check_more (h := x) hE hn g0 g1
      have HM := Lib.hid (right_parts HR.out).2.1
      have hm1 : ws.length ≤ 40 := by have := HM.out; omega
      rw [hE]
      have HE := Lib.hid hE
      clear hE
      have Hyes := Lib.hid hyes
      have Hno := Lib.hid hno
      clear hyes hno
      go_wp2_with (at_builtin; refine wpList_app rfl _ _ 24 rfl w3.heap.size 41 i0 _ 2 16 Try.underlying24 hi hz0 hz1 hz2 rfl (by decide) _ _ 0 [] rfl (World.ownsRow_lit w3 #[] 0 (Nat.le_refl _) (by decide) rfl) w3.heap.size A1 ls.length c1 (P2.cells ls) rfl (Shows.alloc (two_ext h1 hb3) (Nat.le_refl _) _) (P2.oneCells ls) (by simp) (by omega) (by omega) ?_)
      intro v1 w4 own1 hb4' _
      have hb4 : Below w3.heap.size w3 w4 := ((Below.refl _ _).alloc (Nat.le_refl _) _).trans hb4'
      clear hb4'
      go_wp2_with (at_builtin; refine push_own rfl _ _ 24 rfl w3.heap.size 41 i0 _ 2 16 Try.underlying24 hi hz0 hz1 hz2 rfl (by decide) w4 v1 ls.length (P2.cells ls) rfl own1 1 1 [.int .i64 0, .int .i64 x] rfl rfl (by simp [Value.oneCell']) hb4.size (by omega) (by omega) ?_)
      intro v2 w5 own2 hb5' _
      have hb5 : Below w3.heap.size w3 w5 := hb4.trans hb5'
      rw [show P2.cells ls ++ [.int .i64 0, .int .i64 x] = P2.cells (ls ++ [⟨0, x⟩]) from by rw [P2.append]; rfl] at own2
      clear hb5' own1
      have u0 := ((bcell hb5).1 _ 0 (by omega)).trans u0
      have u1 := ((bcell hb5).1 _ 1 (by omega)).trans u1
      have u2 := ((bcell hb5).1 _ 2 (by omega)).trans u2
      have hbB := hb3.trans (hb5.mono hb3.size)
      have hsB := hb5.size
      go_wp2_with (at_builtin; refine wpList_app rfl _ _ 24 rfl w5.heap.size 41 i0 _ 2 16 Try.underlying24 hi hz0 hz1 hz2 rfl (by decide) _ _ 0 [] rfl (World.ownsRow_lit w5 #[] 0 (Nat.le_refl _) (by decide) rfl) w5.heap.size A2 ws.length c2 (P2.cells ws) rfl (Shows.alloc (two_ext h2 hbB) (Nat.le_refl _) _) (P2.oneCells ws) (by simp) (by omega) (by omega) ?_)
      intro v3 w6 own3 hb6' _
      have hb6 : Below w5.heap.size w5 w6 := ((Below.refl _ _).alloc (Nat.le_refl _) _).trans hb6'
      clear hb6'
      go_wp2_with (at_builtin; refine push_own rfl _ _ 24 rfl w5.heap.size 41 i0 _ 2 16 Try.underlying24 hi hz0 hz1 hz2 rfl (by decide) w6 v3 ws.length (P2.cells ws) rfl own3 1 1 [.int .i64 0, .int .i64 0] rfl rfl (by simp [Value.oneCell']) hb6.size (by omega) (by omega) ?_)
      intro v4 w7 own4 hb7' _
      have hb7 : Below w5.heap.size w5 w7 := hb6.trans hb7'
      rw [show P2.cells ws ++ [.int .i64 0, .int .i64 0] = P2.cells (ws ++ [⟨0, 0⟩]) from by rw [P2.append]; rfl] at own4
      clear hb7' own3
      have u0 := ((bcell hb7).1 _ 0 (by omega)).trans u0
      have u1 := ((bcell hb7).1 _ 1 (by omega)).trans u1
      have u2 := ((bcell hb7).1 _ 2 (by omega)).trans u2
      have hbC := hbB.trans (hb7.mono hbB.size)
      have hsC := hb7.size
      have own2 := own_below own2 hb7
      obtain ⟨A3, c3, rfl, hs3'⟩ := shows_of_own own2
      obtain ⟨A4, c4, rfl, hs4'⟩ := shows_of_own own4
      have hT3 : Two w7 w7.heap.size A3 (ls ++ [⟨0, x⟩]) := by unfold Two; rw [List.length_append]; exact hs3'
      have hT4 : Two w7 w7.heap.size A4 (ws ++ [⟨0, 0⟩]) := by unfold Two; rw [List.length_append]; exact hs4'
      clear own2 own4 hs3' hs4'
      go_wp2_with fail
      refine (check_n _ _ _ _ _ _ _ _ _ _ _ _ hT3 hT4 (by simp) (by simp) (by omega) (by omega)).mono ?_
      rintro e w8 ⟨rfl, hx8⟩
      have u0 := ((bcell hx8).1 _ 0 (by omega)).trans u0
      have u1 := ((bcell hx8).1 _ 1 (by omega)).trans u1
      have u2 := ((bcell hx8).1 _ 2 (by omega)).trans u2
      have hbD := hbC.trans (hx8.mono hbC.size)
      have hsD := hx8.size
      go_wp2_with fail
      refine (spare_n _ _ _ _ _ _ _ _ _ _ _ _ (two_ext hT3 hx8) (two_ext hT4 hx8) (by simp) (by simp) (by omega) (by omega)).mono ?_
      rintro e w9 ⟨rfl, hx9⟩
      have hbE := hbD.trans (hx9.mono hbD.size)
      have n0 : decide (spareD D R W ls ws < 0) = false := decide_eq_false (by omega)
      have n1 : decide (spareW D R W ls ws < 0) = false := decide_eq_false (by omega)
      by_cases hf1 : x ≤ spareD D R W ls ws
      · by_cases hf2 : x ≤ spareW D R W ls ws
        · obtain ⟨k1, k2, k3⟩ := Hyes.out ⟨hf1, hf2⟩
          have hv1 : IntKind.i64.wrap (spareD D R W ls ws - x) = spareD D R W ls ws - x := IntWalk.i64_in _ (by omega)
          have hv2 : IntKind.i64.wrap (spareW D R W ls ws - x) = spareW D R W ls ws - x := IntWalk.i64_in _ (by omega)
          rw [k1, k2, k3]
          clear k1 k2 k3
          go_wp2_with fail
          go_ret
          exact ⟨rfl, hbE⟩
        · obtain ⟨k1, k2⟩ := Hno.out (fun hc => hf2 hc.2)
          have hd2 : decide (x ≤ spareW D R W ls ws) = false := decide_eq_false hf2
          rw [k1, k2]
          clear k1 k2
          go_wp2_with fail
          go_ret
          exact ⟨rfl, hbE⟩
      · obtain ⟨k1, k2⟩ := Hno.out (fun hc => hf1 hc.1)
        have hd1 : decide (x ≤ spareD D R W ls ws) = false := decide_eq_false hf1
        rw [k1, k2]
        clear k1 k2
        go_wp2_with fail
        go_ret
        exact ⟨rfl, hbE⟩
    · have hEb : (checkE D R W ls ws != 0) = true := by simpa using hE
      have e1 : spareD D R W ls ws = 0 := by simp [spareD, hE]
      have e2 : spareW D R W ls ws = 0 := by simp [spareW, hE]
      have e3 : checkE D R W ls ws = 29 := by
        have := HR.out
        unfold checkE at hE ⊢
        rw [this] at hE ⊢
        cases hf : firstLong D R W ls ws <;> rw [hf] at hE
        · simp at hE
        · rfl
      rw [e1, e2, e3]
      clear e1 e2 e3 hEb hE
      go_wp2_with fail
      go_ret
      exact ⟨rfl, hb3⟩
  · go_wp2_with fail
    go_ret
    exact ⟨rfl, hb2⟩

theorem workSpare_contract (H : Type) (enc : TypeId × Value → H) (W : World) (base : Nat) (args : Array Value) (ds gs : List (DataW H)) (before : List MemPlace)
    (hval : ∀ (j : Nat) t v, Try.f5.params[j]? = some t → args[j]? = some v → Value.okWide Try.prog W .any base t v)
    (hW : DataW.Whole enc Try.prog Try.f5.params.toList Rows.workSpareSpec.vars false W args.toList ds gs before) :
    Calls Try.prog 5 args W fun e W' => ∃ v, e = .returned v ∧ Rows.workSpareSpec.post enc Try.prog Try.f5 false true false false W args v W' := by
  have hW' := hW
  obtain ⟨p, q, hA0, hV, rfl, hfz, hnd⟩ := hW
  have hA : DataW.TrodAll enc Try.prog W 0 (fun _ => true) true Try.f5.params.toList args.toList ds p := hA0
  have hlt := hA.lt
  rw [Try.params5] at hA hval
  obtain ⟨v0, vs0, d0, ds0, p0, q0, hargs0, rfl, rfl, h0, rr0⟩ := trodAll_cons hA
  obtain ⟨v1, vs1, d1, ds1, p1, q1, rfl, rfl, rfl, h1, rr1⟩ := trodAll_cons rr0
  obtain ⟨v2, vs2, d2, ds2, p2, q2, rfl, rfl, rfl, h2, rr2⟩ := trodAll_cons rr1
  obtain ⟨v3, vs3, d3, ds3, p3, q3, rfl, rfl, rfl, h3, rr3⟩ := trodAll_cons rr2
  obtain ⟨rfl, rfl, rfl⟩ := trodAll_nil rr3
  obtain rfl : args = #[v0, v1, v2, v3] := by cases args; simp_all
  obtain ⟨rfl, rfl⟩ := trodVars_none hV
  obtain ⟨x0a, x0b, x0c, y0a, y0b, y0c, n0, rfl, rfl, rfl, g0a, g0b, g0c⟩ := open_agg3 Try.underlying23 (by kernel_rfl) (by kernel_rfl) (hval 0 23 v0 rfl rfl) h0
  obtain ⟨D, e0a, hwf0a⟩ := DataW.trod_int Try.underlying3 g0a
  obtain ⟨R, e0b, hwf0b⟩ := DataW.trod_int Try.underlying3 g0b
  obtain ⟨S, e0c, hwf0c⟩ := DataW.trod_int Try.underlying3 g0c
  simp only [List.cons.injEq, and_true] at e0a e0b e0c
  subst e0a e0b e0c
  obtain ⟨A1, nn1, c1, rfl⟩ := okWide_slice Try.underlying24 (hval 1 24 v1 rfl rfl)
  obtain ⟨fu1, ff1⟩ := h1
  obtain ⟨ls, rfl, t1, b1, m1⟩ := open_two (B := W.heap.size) Try.underlying24 Try.underlying41 rfl rfl Try.underlying3 (by kernel_rfl) rfl rfl (by kernel_rfl) (fun y (hy : y ∈ p1) => hlt y (by simp [hy])) ff1
  unfold maxLen at m1
  obtain ⟨A2, nn2, c2, rfl⟩ := okWide_slice Try.underlying24 (hval 2 24 v2 rfl rfl)
  obtain ⟨fu2, ff2⟩ := h2
  obtain ⟨ws, rfl, t2, b2, m2⟩ := open_two (B := W.heap.size) Try.underlying24 Try.underlying41 rfl rfl Try.underlying3 (by kernel_rfl) rfl rfl (by kernel_rfl) (fun y (hy : y ∈ p2) => hlt y (by simp [hy])) ff2
  unfold maxLen at m2
  obtain ⟨x, rfl, rfl, rfl, hwf3⟩ := open_int Try.underlying39 (hval 3 39 v3 rfl rfl) h3
  have r3 : 0 ≤ x ∧ x ≤ 65535 := by simpa [Lit.wf, IntKind.min, IntKind.max, IntKind.signed, IntKind.bits] using hwf3
  refine (wspare_any D R S A1 A2 c1 c2 ls ws x W t1 t2 (by omega) (by omega) r3.1 r3.2).mono fun e W' ⟨he, hb⟩ => ?_
  subst he
  exact ⟨_, rfl, law_post laidOut Try.underlying4 rfl (by kernel_rfl) rfl hW' rfl hb⟩
set_option maxRecDepth 100000 in
theorem workSpare_lifted (os : Os) (started : os.Started) (H : Type) (enc : TypeId × Value → H) :
    ReturnsInHanded {} Try.checked os 5 .any (Rows.workSpareSpec.pre6 enc Try.prog Try.f5 Rows.workSpareRow.domain false) (Rows.workSpareSpec.post enc Try.prog Try.f5 false true false false) := by
  refine returnsInHanded_of_change (C := Try.checked) own started (by kernel_rfl) Try.func5
    (ChangeSpec.witness6 (enc := enc) (C := Try.checked) false ⟨#[], #[.agg #[.int .i64 0, .int .i64 0, .int .i64 0], .slice none 0 0, .slice none 0 0, .int .u16 0], []⟩ 8 (by kernel_rfl) (by kernel_rfl) (by kernel_rfl) (by kernel_rfl)) ?_
  intro W base args ds gs before hval hW _ _
  exact workSpare_contract H enc W base args ds gs before hval hW
theorem workSpare_holds : Rows.WorkSpareSaid :=
  OpenClaim.holds_of_wide 5 Try.f5 rfl rfl rfl rfl rfl rfl rfl ⟨rfl, rfl, rfl, rfl, rfl⟩ rfl rfl rfl rfl rfl (by kernel_rfl) Try.func5 (by kernel_rfl)
    (of_decide_eq_true (by kernel_rfl)) (by unfold Func.isWrapper; first | (rw [if_pos (by decide +kernel)]; kernel_rfl) | (rw [if_neg (by decide +kernel)]; exact ⟨rfl, rfl⟩))
    (fun os started H enc _ => workSpare_lifted os started H enc)
end Go.Proofs.Ythjedajkebehbaa
