/-
  ChargeHolds: whatever the legs take within their bounds, the charge is between the two that Run says; a leg that Run names fails, if all take the most. Conditions: none.
-/
import Derived.Test.YtlbndoddkialkaaWalkT
import Derived.Test.YtlbndoddkialkaaLift
namespace Go.Proofs.Ytlbndoddkialkaa
open Go.ChangeShapes Go.WideShapes Go.ChangeAt Go.RowKit Go.Deep Go.Joins

theorem find_range_spec {p : Nat → Bool} {n i : Nat} (h : (List.range n).find? p = some i) : p i = true ∧ i < n ∧ ∀ j, j < i → p j = false := by
  rw [List.find?_eq_some_iff_getElem] at h
  obtain ⟨h1, k, hk, hke, hb⟩ := h
  simp at hke
  subst hke
  refine ⟨h1, by simpa using hk, fun j hj => ?_⟩
  have := hb j hj
  simpa using this
theorem low_nn {F s : Int} {us : List P2} (h0 : 0 ≤ s) {k : Nat} (h : ∀ j, j < k → fails F s us j = false) : 0 ≤ lowAt F s us k := by
  cases k with
  | zero => exact h0
  | succ k =>
    have := h k (by omega)
    simp [fails] at this
    omega
theorem mn_mono {F x y : Int} (h : x ≤ y) : mn F x ≤ mn F y := by unfold mn; split <;> split <;> omega
theorem lows_get (F s : Int) (us : List P2) (n k : Nat) (h : k < (lows F s us n).length) : (lows F s us n)[k] = lowAt F s us (k + 1) := by simp [lows]
theorem highs_get (F s : Int) (us : List P2) (n k : Nat) (h : k < (highs F s us n).length) : (highs F s us n)[k] = highAt F s us (k + 1) := by simp [highs]
theorem okRun_parts {F s : Int} {us : List P2} (h : okRun F s us = true) : rightB F us = true ∧ 0 ≤ s ∧ s ≤ F := by
  simp only [okRun, Bool.and_eq_true, decide_eq_true_eq] at h
  exact ⟨h.1.1, h.1.2, h.2⟩
theorem Nums.at_n {w : World} {B : Nat} {A : Option Addr} {l : List Int} (h : Nums w B A l) {k : Nat} {v : Int} (hk : k < l.length) (hv : l[k] = v) :
    ∃ b o, A = some ⟨b, o, none⟩ ∧ b < B ∧ w.cell? ⟨b, o + k, none⟩ = some (.int .i64 v) := by
  obtain ⟨b, o, e, hb, hc⟩ := h.at_ hk
  exact ⟨b, o, e, hb, hv ▸ hc⟩


set_option maxHeartbeats 8000000 in
set_option maxRecDepth 100000 in
theorem holds_any (F s : Int) (A A2 : Option Addr) (c c2 : Nat) (us : List P2) (ta : List Int) (w : World) (h : Two w w.heap.size A us) (h2 : Shows w w.heap.size 1 A2 ta.length (ta.map (Value.int .u8)))
    (hlen : us.length ≤ 9223372036854775807) (hlen2 : ta.length ≤ 9223372036854775807) (z2 : ∀ z ∈ ta, 0 ≤ z ∧ z ≤ 255) :
    Calls Try.prog 4 #[.int .i64 F, .int .i64 s, .slice A us.length c, .slice A2 ta.length c2] w fun e w' => e = .returned (.bool true) ∧ Below w.heap.size w w' := by
  have Z2 := Lib.hid z2
  clear z2
  go_enter Try.func4, Try.ntmps4
  go_wp2_with fail
  refine (small_any _).mono ?_
  rintro e w1 ⟨rfl, hb1⟩
  by_cases hn : us.length ≤ 60
  rotate_left
  · go_wp2_with fail
    go_ret
    exact ⟨rfl, hb1⟩
  by_cases hn2 : ta.length ≤ 60
  rotate_left
  · go_wp2_with fail
    go_ret
    exact ⟨rfl, hb1⟩
  go_wp2_with fail
  refine (run_any _ _ _ _ _ _ (two_ext h hb1) hlen).mono ?_
  rintro e w2 ⟨A3, c3, A4, c4, rfl, n1, n2, hx2⟩
  have hb2 := hb1.trans (hx2.mono hb1.size)
  cases hok : okRun F s us
  · have e1 : runE F s us = 1 := by simp [runE, hok]
    rw [e1]
    have HK := Lib.hid hok
    clear e1 hok
    go_wp2_with fail
    refine (right_any _ _ _ _ _ (two_ext h hb2)).mono ?_
    rintro e w3 ⟨rfl, hx3⟩
    have hb3 := hb2.trans (hx3.mono hb2.size)
    cases hr : rightB F us
    · go_wp2_with fail
      go_ret
      exact ⟨rfl, hb3⟩
    · by_cases hs0 : s < 0
      · go_wp2_with fail
        go_ret
        exact ⟨rfl, hb3⟩
      · have ts0 := decide_eq_false hs0
        have ts1 : F < s := by
          have := HK.out
          simp only [okRun, hr, Bool.true_and, Bool.and_eq_false_iff, decide_eq_false_iff_not] at this
          omega
        clear HK hr
        go_wp2_with fail
        go_ret
        exact ⟨rfl, hb3⟩
  · obtain ⟨hr, hs0, hs1⟩ := okRun_parts hok
    obtain ⟨f0, f1, hn200, fu⟩ := right_parts hr
    have HK := Lib.hid hok
    have HS0 := Lib.hid hs0
    have HS1 := Lib.hid hs1
    have HFU := Lib.hid fu
    clear hr hs0 hs1 fu
    cases hf : firstLow F s us with
    | some im =>
      obtain ⟨ht, hin, hbef⟩ := find_range_spec hf
      have e1 : runE F s us = 28 := by simp [runE, hok, hf]
      have e2 : runI F s us = im := by simp [runI, hok, hf]
      have e3 : (runL F s us).length = 0 := by simp [runL, hok, hf]
      have e4 : (runH F s us).length = 0 := by simp [runH, hok, hf]
      rw [e1, e2, e3, e4]
      have HT := Lib.hid ht
      have HA := Lib.hid hbef
      clear e1 e2 e3 e4 ht hbef hok hf n1 n2
      go_wp2_with fail
      go_loopw [14, 15] (fun v i wr => ∃ k : Nat, k ≤ im + 1 ∧ i = .int .i64 k ∧ v = .int .i64 (lowAt F s us k) ∧ wr = w2) (fun _ i _ => im + 1 - (intOf i).toNat)
      case atStart => exact ⟨0, Nat.zero_le _, rfl, rfl, rfl⟩
      case round =>
        obtain ⟨k, hk, rfl, rfl, rfl⟩ := hrel
        by_cases hlt : k ≤ im
        · have hkl : k < us.length := by omega
          obtain ⟨b, o, rfl, hb, e0, e1⟩ := (h.below hb2).at_ hkl
          have d0 := low_nn (F := F) (us := us) HS0.out (k := k) (fun j hj => HA.out j (by omega))
          have d1 := low_le (us := us) HS1.out k
          have x1 := HFU.out us[k] (List.getElem_mem _)
          have HL := low_succ (F := F) (s := s) hkl
          have hfk : fails F s us k = decide (lowAt F s us (k + 1) < 0) := rfl
          generalize hlx : lowAt F s us (k + 1) = lx at HL hfk
          have HLX := Lib.hid hlx
          have HFK := Lib.hid hfk
          clear hlx hfk
          have w1' : IntKind.i64.wrap (lowAt F s us k - us[k].b) = lowAt F s us k - us[k].b := IntWalk.i64_in _ (by omega)
          have i0' : (0 : Int) ≤ k := by omega
          have i1' : (k : Int) < (us.length : Int) := by omega
          by_cases he : k = im
          · subst he
            have hneg : lx < 0 := by
              have := HT.out
              rw [HFK.out] at this
              simpa using this
            have hy : lowAt F s us k - us[k].b < 0 := by
              split at HL <;> omega
            have hyx : lowAt F s us (k + 1) = lowAt F s us k - us[k].b := by
              rw [HLX.out, ← HL, if_pos (by omega)]
            have HYX := Lib.hid hyx
            clear HL hneg hyx HLX HFK
            have hle : decide (0 ≤ lowAt F s us k - us[k].b) = false := decide_eq_false (by omega)
            have hnt : decide (lowAt F s us k - us[k].b < 0) = true := decide_eq_true hy
            go_wp2_with fail
            go_roundw
            case rel => exact ⟨k + 1, by omega, by go_num, by rw [HYX.out], by first | rfl | trivial⟩
            case measure => simp [intOf]
          · have hneg : decide (lx < 0) = false := by rw [← HFK.out]; exact HA.out k (by omega)
            have hki : ((k : Int) == (im : Int)) = false := by simp; omega
            go_wp2_with fail
            go_roundw
            case rel => exact ⟨k + 1, by omega, by go_num, by rw [HLX.out], by first | rfl | trivial⟩
            case measure => simp [intOf]; omega
        · obtain rfl : k = im + 1 := by omega
          have j1 : ¬ ((im + 1 : Nat) : Int) ≤ (im : Int) := by omega
          have j1' := decide_eq_false j1
          have j2 : (im : Int) < (us.length : Int) := by omega
          have j3 : (0 : Int) ≤ (im : Int) := by omega
          by_cases hkl : im + 1 < us.length
          · have j4 : ((im + 1 : Nat) : Int) < (us.length : Int) := by omega
            go_wp2_with fail
            go_ret
            exact ⟨rfl, hb2⟩
          · have j4 : ¬ ((im + 1 : Nat) : Int) < (us.length : Int) := by omega
            have j4' := decide_eq_false j4
            go_wp2_with fail
            go_ret
            exact ⟨rfl, hb2⟩
    | none =>
      have e1 : runE F s us = 0 := by simp [runE, hok, hf]
      have e3 : runL F s us = lows F s us us.length := by simp [runL, hok, hf]
      have e4 : runH F s us = highs F s us us.length := by simp [runH, hok, hf]
      rw [e3] at n1
      rw [e4] at n2
      rw [e1, e3, e4, lows_length, highs_length]
      have HA := Lib.hid (show ∀ j, j < us.length → fails F s us j = false from fun j hj => by
        have := List.find?_eq_none.1 hf j (by simpa using hj)
        simpa using this)
      clear e1 e3 e4 hok hf
      go_wp2_with fail
      go_loopw [16, 17] (fun v i wr => ∃ k : Nat, k ≤ us.length ∧ i = .int .i64 k ∧ ∃ x : Int, v = .int .i64 x ∧ lowAt F s us k ≤ x ∧ x ≤ highAt F s us k ∧ Below w2.heap.size w2 wr) (fun _ i _ => us.length - (intOf i).toNat)
      case atStart => exact ⟨0, Nat.zero_le _, rfl, s, rfl, Int.le_refl _, Int.le_refl _, Below.refl _ _⟩
      case round =>
        obtain ⟨k, hk, rfl, x, rfl, hx0, hx1, hbr⟩ := hrel
        have hbw := hb2.trans (hbr.mono hb2.size)
        by_cases hlt : k < us.length
        · obtain ⟨b, o, rfl, hb, e0, e1⟩ := (h.below hbw).at_ hlt
          obtain ⟨b3, o3, rfl, hb3, g0⟩ := (n1.below hbr).at_n (k := k) (by rw [lows_length]; exact hlt) (lows_get _ _ _ _ _ _)
          obtain ⟨b4, o4, rfl, hb4, g1⟩ := (n2.below hbr).at_n (k := k) (by rw [highs_length]; exact hlt) (highs_get _ _ _ _ _ _)
          have d0 := low_nn (F := F) (us := us) HS0.out (k := k) (fun j hj => HA.out j (by omega))
          have d1 := high_le (us := us) HS1.out k
          have x1 := HFU.out us[k] (List.getElem_mem _)
          have i0' : (0 : Int) ≤ k := by omega
          have i1' : (k : Int) < (us.length : Int) := by omega
          have hsz := hbw.size
          have hsr := hbr.size
          have p1 : b < wr.heap.size := by omega
          have p3 : b3 < wr.heap.size := by omega
          have p4 : b4 < wr.heap.size := by omega
          have hszA := size_alloc wr (.cells #[.int .i64 us[k].a, .int .i64 us[k].b] 35)
          have hbA := hbw.alloc (o := .cells #[.int .i64 us[k].a, .int .i64 us[k].b] 35) (by omega)
          have hbf := hbr.alloc (o := .cells #[.int .i64 us[k].a, .int .i64 us[k].b] 35) hsr
          by_cases hj : k < ta.length
          · obtain ⟨bt, ot, rfl, hbt, hc2⟩ := (h2.below hbw).2 (by omega)
            have q0 := hc2 k (.int .u8 ta[k]) (by simp [hj])
            have z := Z2.out ta[k] (List.getElem_mem _)
            have i2' : (k : Int) < (ta.length : Int) := by omega
            have p5 : bt < wr.heap.size := by omega
            clear hc2
            generalize ta[k] = z0 at q0 z
            have wc : IntKind.i64.wrap z0 = z0 := IntWalk.i64_in _ (by omega)
            have wd : IntKind.i64.wrap (us[k].b - us[k].a) = us[k].b - us[k].a := IntWalk.i64_in _ (by omega)
            have m0 : 0 ≤ (us[k].b - us[k].a) * z0 := Int.mul_nonneg (by omega) (by omega)
            have m1 : (us[k].b - us[k].a) * z0 ≤ (us[k].b - us[k].a) * 255 := Int.mul_le_mul_of_nonneg_left (by omega) (by omega)
            have wm : IntKind.i64.wrap ((us[k].b - us[k].a) * z0) = (us[k].b - us[k].a) * z0 := IntWalk.i64_in _ (by omega)
            go_wp2_with fail
            refine wp_region_mix [(0, true), (1, true), (2, true), (3, true), (4, true), (5, true), (6, true), (7, true), (8, true), (9, true), (10, true), (11, true)] [12] (SB w.heap.size w (wr.heap.size+1) none _) (by kernel_rfl) (by kernel_rfl) (by kernel_rfl) (by kernel_rfl) (by decide) (SB.start hbA (by omega)) (fun hS => ?_)
            simp only [planned, List.filterMap_cons, List.filterMap_nil, List.getElem?_cons_zero, List.getElem?_cons_succ, Option.map_some]
            repeat (first
              | (refine mix_skip (by rfl) ?_; try simp only [Act.put, List.setIfInBounds_toArray, List.set_cons_zero, List.set_cons_succ])
              | (refine mix_pass hS (by rfl) ?_; try simp only [Act.put, List.setIfInBounds_toArray, List.set_cons_zero, List.set_cons_succ])
              | (refine mix_pure (by rfl) (by rfl) (fun K hK => ?_); go_big_quiet_op; refine hK _ ?_; clear hK K)
              | (refine mix_take (by rfl) ?_
                 apply Exists.intro
                 refine ⟨?_, ?_⟩
                 · intro w' hSw
                   have hSc := hSw.cell
                   clear hSw
                   go_simp
                   try with_reducible rfl
                 try simp only [Act.put, List.setIfInBounds_toArray, List.set_cons_zero, List.set_cons_succ])
              | (refine mix_move (by rfl) (fun K hK => ?_)
                 go_simp
                 try dsimp only
                 first
                   | refine hK.out _ _ (hS.step hx (by omega)) ?_
                   | refine hK.out _ _ hS ?_
                   | refine hK.out _ _ (hS.alloc _ (by omega)) ?_
                   | refine hK.out _ _ (hS.grown hg hx) ?_
                 clear hK K hS
                 intro hS
                 try simp only [Act.put, List.setIfInBounds_toArray, List.set_cons_zero, List.set_cons_succ])
              | fail)
            refine mix_nil ?_
            simp only [tailed, List.filterMap_cons, List.filterMap_nil, List.getElem?_cons_zero, List.getElem?_cons_succ]
            go_wp2_with fail
            refine NoPanic.normal ?_
            have hbf := hbf.drew
            have hp0 : 0 ≤ (us[k].b - us[k].a) * z0 / 255 := by omega
            have hp1 : (us[k].b - us[k].a) * z0 / 255 ≤ us[k].b - us[k].a := by omega
            generalize (us[k].b - us[k].a) * z0 / 255 = part at hp0 hp1 ⊢
            clear wm m0 m1
            have hcm : lowAt F s us (k + 1) ≤ mn F (x - us[k].a - part) ∧ mn F (x - us[k].a - part) ≤ highAt F s us (k + 1) := by
              rw [lowAt, highAt, getD_eq hlt]
              exact ⟨mn_mono (by omega), mn_mono (by omega)⟩
            have hc0 : 0 ≤ lowAt F s us (k + 1) := low_nn HS0.out (fun j hj => HA.out j (by omega))
            have hc1 : highAt F s us (k + 1) ≤ F := high_le HS1.out (k + 1)
            have hv : (if x - us[k].a - part < F then x - us[k].a - part else F) = mn F (x - us[k].a - part) := rfl
            have wv1 : IntKind.i64.wrap (x - us[k].a) = x - us[k].a := IntWalk.i64_in _ (by omega)
            have wv2 : IntKind.i64.wrap (x - us[k].a - part) = x - us[k].a - part := IntWalk.i64_in _ (by omega)
            generalize mn F (x - us[k].a - part) = y at hcm hv
            have t1 : decide (y < lowAt F s us (k + 1)) = false := decide_eq_false (by omega)
            have t2 : decide (highAt F s us (k + 1) < y) = false := decide_eq_false (by omega)
            have t3 : decide (lowAt F s us (k + 1) < 0) = false := decide_eq_false (by omega)
            have t4 : decide (F < highAt F s us (k + 1)) = false := decide_eq_false (by omega)
            go_wp2_with fail
            go_roundw
            case rel => exact ⟨k + 1, by omega, by go_num, y, rfl, hcm.1, hcm.2, hbf⟩
            case measure => simp [intOf]; omega
          · have j5 : ¬ (k : Int) < (ta.length : Int) := by omega
            have j5' := decide_eq_false j5
            have hcm : lowAt F s us (k + 1) ≤ mn F (x - us[k].a) ∧ mn F (x - us[k].a) ≤ highAt F s us (k + 1) := by
              rw [lowAt, highAt, getD_eq hlt]
              exact ⟨mn_mono (by omega), mn_mono (by omega)⟩
            have hc0 : 0 ≤ lowAt F s us (k + 1) := low_nn HS0.out (fun j hj => HA.out j (by omega))
            have hc1 : highAt F s us (k + 1) ≤ F := high_le HS1.out (k + 1)
            have hv : (if x - us[k].a < F then x - us[k].a else F) = mn F (x - us[k].a) := rfl
            have wv1 : IntKind.i64.wrap (x - us[k].a) = x - us[k].a := IntWalk.i64_in _ (by omega)
            have wv2 : IntKind.i64.wrap (x - us[k].a) = x - us[k].a := IntWalk.i64_in _ (by omega)
            generalize mn F (x - us[k].a) = y at hcm hv
            have t1 : decide (y < lowAt F s us (k + 1)) = false := decide_eq_false (by omega)
            have t2 : decide (highAt F s us (k + 1) < y) = false := decide_eq_false (by omega)
            have t3 : decide (lowAt F s us (k + 1) < 0) = false := decide_eq_false (by omega)
            have t4 : decide (F < highAt F s us (k + 1)) = false := decide_eq_false (by omega)
            go_wp2_with fail
            go_roundw
            case rel => exact ⟨k + 1, by omega, by go_num, y, rfl, hcm.1, hcm.2, hbf⟩
            case measure => simp [intOf]; omega
        · go_wp2_with fail
          go_ret
          exact ⟨rfl, hbw⟩

theorem chargeHolds_contract (H : Type) (enc : TypeId × Value → H) (W : World) (base : Nat) (args : Array Value) (ds gs : List (DataW H)) (before : List MemPlace)
    (hval : ∀ (j : Nat) t v, Try.f4.params[j]? = some t → args[j]? = some v → Value.okWide Try.prog W .any base t v)
    (hW : DataW.Whole enc Try.prog Try.f4.params.toList Rows.chargeHoldsSpec.vars false W args.toList ds gs before) :
    Calls Try.prog 4 args W fun e W' => ∃ v, e = .returned v ∧ Rows.chargeHoldsSpec.post enc Try.prog Try.f4 false true false false W args v W' := by
  have hW' := hW
  obtain ⟨p, q, hA0, hV, rfl, hfz, hnd⟩ := hW
  have hA : DataW.TrodAll enc Try.prog W 0 (fun _ => true) true Try.f4.params.toList args.toList ds p := hA0
  have hlt := hA.lt
  rw [Try.params4] at hA hval
  obtain ⟨v0, vs0, d0, ds0, p0, q0, hargs0, rfl, rfl, h0, rr0⟩ := trodAll_cons hA
  obtain ⟨v1, vs1, d1, ds1, p1, q1, rfl, rfl, rfl, h1, rr1⟩ := trodAll_cons rr0
  obtain ⟨v2, vs2, d2, ds2, p2, q2, rfl, rfl, rfl, h2, rr2⟩ := trodAll_cons rr1
  obtain ⟨v3, vs3, d3, ds3, p3, q3, rfl, rfl, rfl, h3, rr3⟩ := trodAll_cons rr2
  obtain ⟨rfl, rfl, rfl⟩ := trodAll_nil rr3
  obtain rfl : args = #[v0, v1, v2, v3] := by cases args; simp_all
  obtain ⟨rfl, rfl⟩ := trodVars_none hV
  obtain ⟨F, rfl, rfl, rfl, hwf0⟩ := open_int Try.underlying3 (hval 0 3 v0 rfl rfl) h0
  have r0 : -9223372036854775808 ≤ F ∧ F ≤ 9223372036854775807 := by simpa [Lit.wf, IntKind.min, IntKind.max, IntKind.signed, IntKind.bits] using hwf0
  obtain ⟨s, rfl, rfl, rfl, hwf1⟩ := open_int Try.underlying3 (hval 1 3 v1 rfl rfl) h1
  have r1 : -9223372036854775808 ≤ s ∧ s ≤ 9223372036854775807 := by simpa [Lit.wf, IntKind.min, IntKind.max, IntKind.signed, IntKind.bits] using hwf1
  obtain ⟨A, nn2, c, rfl⟩ := okWide_slice Try.underlying22 (hval 2 22 v2 rfl rfl)
  obtain ⟨fu2, ff2⟩ := h2
  obtain ⟨us, rfl, t2, b2, m2⟩ := open_two (B := W.heap.size) Try.underlying22 Try.underlying35 rfl rfl Try.underlying3 (by kernel_rfl) rfl rfl (by kernel_rfl) (fun y (hy : y ∈ p2) => hlt y (by simp [hy])) ff2
  unfold maxLen at m2
  obtain ⟨A2, nn3, c2, rfl⟩ := okWide_slice Try.underlying33 (hval 3 33 v3 rfl rfl)
  obtain ⟨fu3, ff3⟩ := h3
  obtain ⟨ta, rfl, t3, b3, m3, z3⟩ := open_nums (B := W.heap.size) Try.underlying33 Try.underlying5 (by kernel_rfl) (fun y (hy : y ∈ p3) => hlt y (by simp [hy])) ff3
  unfold maxLen at m3
  have k2 : ∀ z ∈ ta, 0 ≤ z ∧ z ≤ 255 := fun z hz => by simpa [Lit.wf, IntKind.min, IntKind.max, IntKind.signed, IntKind.bits] using z3 z hz
  refine (holds_any F s A A2 c c2 us ta W t2 t3 (by omega) (by omega) k2).mono fun e W' ⟨he, hb⟩ => ?_
  subst he
  exact ⟨_, rfl, law_post laidOut Try.underlying4 rfl (by kernel_rfl) rfl hW' rfl hb⟩
set_option maxRecDepth 100000 in
theorem chargeHolds_lifted (os : Os) (started : os.Started) (H : Type) (enc : TypeId × Value → H) :
    ReturnsInHanded {} Try.checked os 4 .any (Rows.chargeHoldsSpec.pre6 enc Try.prog Try.f4 Rows.chargeHoldsRow.domain false) (Rows.chargeHoldsSpec.post enc Try.prog Try.f4 false true false false) := by
  refine returnsInHanded_of_change (C := Try.checked) own started (by kernel_rfl) Try.func4
    (ChangeSpec.witness6 (enc := enc) (C := Try.checked) false ⟨#[], #[.int .i64 0, .int .i64 0, .slice none 0 0, .slice none 0 0], []⟩ 8 (by kernel_rfl) (by kernel_rfl) (by kernel_rfl) (by kernel_rfl)) ?_
  intro W base args ds gs before hval hW _ _
  exact chargeHolds_contract H enc W base args ds gs before hval hW
theorem chargeHolds_holds : Rows.ChargeHoldsSaid :=
  OpenClaim.holds_of_wide 4 Try.f4 rfl rfl rfl rfl rfl rfl rfl ⟨rfl, rfl, rfl, rfl, rfl⟩ rfl rfl rfl rfl rfl (by kernel_rfl) Try.func4 (by kernel_rfl)
    (of_decide_eq_true (by kernel_rfl)) (by unfold Func.isWrapper; first | (rw [if_pos (by decide +kernel)]; kernel_rfl) | (rw [if_neg (by decide +kernel)]; exact ⟨rfl, rfl⟩))
    (fun os started H enc _ => chargeHolds_lifted os started H enc)
end Go.Proofs.Ytlbndoddkialkaa
