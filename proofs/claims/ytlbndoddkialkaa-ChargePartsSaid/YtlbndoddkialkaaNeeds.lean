/-
  ChargeNeeds: Run is OK exactly for a charge that is at least Need; with a greater one the charges are not less. Conditions: none.
-/
import Derived.Test.YtlbndoddkialkaaHolds
namespace Go.Proofs.Ytlbndoddkialkaa
open Go.ChangeShapes Go.WideShapes Go.ChangeAt Go.RowKit Go.Deep Go.Joins

theorem mn_mx {F x y b : Int} (h0 : 0 ≤ y) : x ≤ mn F (y - b) → mx (x + b) ≤ y := by
  unfold mn mx
  split <;> split <;> omega
theorem mx_mn {F x y b : Int} (hF : x ≤ F) : mx (x + b) ≤ y → x ≤ mn F (y - b) := by
  unfold mn mx
  split <;> split <;> omega
/-- If no leg fails, what the last legs need is there. -/
theorem need_le_low {F s : Int} {us : List P2} (h0 : 0 ≤ s) (hn : ∀ i, i < us.length → fails F s us i = false) : ∀ j, j ≤ us.length → needAt us j ≤ lowAt F s us (us.length - j)
  | 0, _ => by
    rw [needAt]
    exact low_nn h0 (fun j hj => hn j (by omega))
  | j + 1, hj => by
    have ih := need_le_low h0 hn j (by omega)
    rw [show us.length - j = (us.length - (j + 1)) + 1 from by omega, lowAt] at ih
    rw [needAt, show us.length - 1 - j = us.length - (j + 1) from by omega]
    exact mn_mx (low_nn h0 (fun i hi => hn i (by omega))) ih
theorem low_ge_need {F s : Int} {us : List P2} (hn : ∀ j, j < us.length → needAt us (j + 1) ≤ F) (hF : 0 ≤ F) (hs : needAt us us.length ≤ s) : ∀ k, k ≤ us.length → needAt us (us.length - k) ≤ lowAt F s us k
  | 0, _ => hs
  | k + 1, hk => by
    have ih := low_ge_need hn hF hs k (by omega)
    have hle : needAt us (us.length - (k + 1)) ≤ F := by
      cases he : us.length - (k + 1) with
      | zero => exact hF
      | succ j => exact hn j (by omega)
    rw [show us.length - k = (us.length - (k + 1)) + 1 from by omega, needAt, show us.length - 1 - (us.length - (k + 1)) = k from by omega] at ih
    rw [lowAt]
    exact mx_mn hle ih
theorem needAt_nn (us : List P2) (k : Nat) : 0 ≤ needAt us k := by
  cases k with
  | zero => exact Int.le_refl _
  | succ k => exact mx_nn _
theorem firstNeed_none {F : Int} {us : List P2} (h : firstNeed F us = none) : ∀ j, j < us.length → needAt us (j + 1) ≤ F := fun j hj => by
  have := List.find?_eq_none.1 h j (by simpa using hj)
  simpa using this
theorem firstLow_none {F s : Int} {us : List P2} (h : firstLow F s us = none) : ∀ j, j < us.length → fails F s us j = false := fun j hj => by
  have := List.find?_eq_none.1 h j (by simpa using hj)
  simpa using this
/-- Run is OK exactly where Need is, and the charge is at least what it says. -/
theorem low_iff {F s : Int} {us : List P2} (hF : 0 ≤ F) (h0 : 0 ≤ s) (h1 : s ≤ F) : firstLow F s us = none ↔ firstNeed F us = none ∧ needAt us us.length ≤ s := by
  constructor
  · intro h
    have hn := firstLow_none h
    have hle := need_le_low h0 hn
    refine ⟨find_range_none (fun j hj => decide_eq_false ?_), by simpa [lowAt] using hle us.length (Nat.le_refl _)⟩
    have := hle (j + 1) (by omega)
    have := low_le (F := F) (us := us) h1 (us.length - (j + 1))
    omega
  · rintro ⟨h, hs⟩
    refine find_range_none (fun j hj => decide_eq_false ?_)
    have := low_ge_need (firstNeed_none h) hF hs (j + 1) (by omega)
    have := needAt_nn us (us.length - (j + 1))
    omega
theorem need_le_F {F : Int} {us : List P2} (hF : 0 ≤ F) (h : firstNeed F us = none) : needAt us us.length ≤ F := by
  cases hl : us.length with
  | zero => exact hF
  | succ n => exact firstNeed_none h n (by omega)
theorem low_mono {F s m : Int} {us : List P2} (h : s ≤ m) (k : Nat) : lowAt F s us k ≤ lowAt F m us k := by
  induction k with
  | zero => exact h
  | succ k ih => exact mn_mono (by omega)
theorem high_mono {F s m : Int} {us : List P2} (h : s ≤ m) (k : Nat) : highAt F s us k ≤ highAt F m us k := by
  induction k with
  | zero => exact h
  | succ k ih => exact mn_mono (by omega)
theorem run_good {F s : Int} {us : List P2} (hr : rightB F us = true) (h0 : 0 ≤ s) (h1 : s ≤ F) (hf : firstNeed F us = none) (hs : needAt us us.length ≤ s) :
    runE F s us = 0 ∧ runL F s us = lows F s us us.length ∧ runH F s us = highs F s us us.length := by
  have hok : okRun F s us = true := by simp [okRun, hr, h0, h1]
  have hl := (low_iff (us := us) (right_parts hr).1 h0 h1).2 ⟨hf, hs⟩
  simp [runE, runL, runH, hok, hl]
theorem run_bad {F s : Int} {us : List P2} (hr : rightB F us = true) (h0 : 0 ≤ s) (h1 : s ≤ F) (hs : ¬ (firstNeed F us = none ∧ needAt us us.length ≤ s)) :
    runE F s us = 28 ∧ runL F s us = [] ∧ runH F s us = [] := by
  have hok : okRun F s us = true := by simp [okRun, hr, h0, h1]
  cases hl : firstLow F s us with
  | none => exact absurd ((low_iff (us := us) (right_parts hr).1 h0 h1).1 hl) hs
  | some i => simp [runE, runL, runH, hok, hl]

set_option maxHeartbeats 8000000 in
set_option maxRecDepth 100000 in
theorem needs_any (F s m : Int) (A : Option Addr) (c : Nat) (us : List P2) (w : World) (h : Two w w.heap.size A us) (hlen : us.length ≤ 9223372036854775807) :
    Calls Try.prog 5 #[.int .i64 F, .int .i64 s, .int .i64 m, .slice A us.length c] w fun e w' => e = .returned (.bool true) ∧ Below w.heap.size w w' := by
  go_enter Try.func5, Try.ntmps5
  go_wp2_with fail
  refine (small_any _).mono ?_
  rintro e w1 ⟨rfl, hb1⟩
  by_cases hn : us.length ≤ 60
  rotate_left
  · go_wp2_with fail
    go_ret
    exact ⟨rfl, hb1⟩
  go_wp2_with fail
  refine (right_any _ _ _ _ _ (two_ext h hb1)).mono ?_
  rintro e w2 ⟨rfl, hx2⟩
  have hb2 := hb1.trans (hx2.mono hb1.size)
  cases hr : rightB F us
  · clear hr
    go_wp2_with fail
    go_ret
    exact ⟨rfl, hb2⟩
  by_cases hs0 : s < 0
  · clear hr
    go_wp2_with fail
    go_ret
    exact ⟨rfl, hb2⟩
  by_cases hs1 : F < s
  · clear hr
    have hs0' := decide_eq_false hs0
    go_wp2_with fail
    go_ret
    exact ⟨rfl, hb2⟩
  by_cases hm0 : m < s
  · clear hr
    have hs0' := decide_eq_false hs0
    have hs1' := decide_eq_false hs1
    go_wp2_with fail
    go_ret
    exact ⟨rfl, hb2⟩
  by_cases hm1 : F < m
  · clear hr
    have hs0' := decide_eq_false hs0
    have hs1' := decide_eq_false hs1
    have hm0' := decide_eq_false hm0
    go_wp2_with fail
    go_ret
    exact ⟨rfl, hb2⟩
  have hs0' := decide_eq_false hs0
  have hs1' := decide_eq_false hs1
  have hm0' := decide_eq_false hm0
  have hm1' := decide_eq_false hm1
  obtain ⟨f0, f1, _, _⟩ := right_parts hr
  have HR := Lib.hid hr
  clear hr
  go_wp2_with fail
  refine (need_any _ _ _ _ _ (two_ext h hb2)).mono ?_
  rintro e w3 ⟨rfl, hx3⟩
  have hb3 := hb2.trans (hx3.mono hb2.size)
  go_wp2_with fail
  refine (run_any _ _ _ _ _ _ (two_ext h hb3) hlen).mono ?_
  rintro e w4 ⟨A1, c1, A2, c2, rfl, n1, n2, hx4⟩
  have hb4 := hb3.trans (hx4.mono hb3.size)
  go_wp2_with fail
  refine (run_any _ _ _ _ _ _ (two_ext h hb4) hlen).mono ?_
  rintro e w5 ⟨A3, c3, A4, c4, rfl, n3, n4, hx5⟩
  have hb5 := hb4.trans (hx5.mono hb4.size)
  have n1 := num_ext n1 hx5
  have n2 := num_ext n2 hx5
  cases hf : firstNeed F us with
  | some j =>
    obtain ⟨e1, e2, e3⟩ := run_bad (s := s) HR.out (by omega) (by omega) (by simp [hf])
    obtain ⟨g1, g2, g3⟩ := run_bad (s := m) HR.out (by omega) (by omega) (by simp [hf])
    have q1 : needN F us = 0 := by simp [needN, HR.out, hf]
    have q2 : needE F us = 28 := by simp [needE, HR.out, hf]
    rw [e1, g1, q1, q2]
    clear e1 e2 e3 g1 g2 g3 q1 q2 hf n1 n2 n3 n4
    go_wp2_with fail
    go_ret
    exact ⟨rfl, hb5⟩
  | none =>
    have q1 : needN F us = needAt us us.length := by simp [needN, HR.out, hf]
    have q2 : needE F us = 0 := by simp [needE, HR.out, hf]
    have z0 := needAt_nn us us.length
    have z1 := need_le_F f0 hf
    have ez := (run_good HR.out z0 z1 hf (Int.le_refl _)).1
    have EZ := Lib.hid ez
    rw [q1, q2]
    have z0' : decide (needAt us us.length < 0) = false := decide_eq_false (by omega)
    have z1' : decide (F < needAt us us.length) = false := decide_eq_false (by omega)
    generalize hN : needAt us us.length = N at z0 z1 z0' z1' ⊢
    have HN := Lib.hid hN
    have HF := Lib.hid hf
    clear q1 q2 ez hN hf
    by_cases c1' : N ≤ s
    · obtain ⟨e1, e2, e3⟩ := run_good (s := s) HR.out (by omega) (by omega) HF.out (by rw [HN.out]; omega)
      obtain ⟨g1, g2, g3⟩ := run_good (s := m) HR.out (by omega) (by omega) HF.out (by rw [HN.out]; omega)
      rw [e2] at n1
      rw [e3] at n2
      rw [g2] at n3
      rw [g3] at n4
      rw [e1, e2, e3, g1, g2, g3, lows_length, highs_length, lows_length, highs_length]
      clear e1 e2 e3 g1 g2 g3
      have c2' : N ≤ m := by omega
      go_wp2_with fail
      refine (run_any _ _ _ _ _ _ (two_ext h hb5) hlen).mono ?_
      rintro e w6 ⟨A5, c5, A6, c6, rfl, _, _, hx6⟩
      have hb6 := hb5.trans (hx6.mono hb5.size)
      have n1 := num_ext n1 hx6
      have n2 := num_ext n2 hx6
      have n3 := num_ext n3 hx6
      have n4 := num_ext n4 hx6
      have ez := EZ.out
      rw [HN.out] at ez
      rw [ez]
      clear ez
      go_wp2_with fail
      go_loopw [24] (fun i wr => ∃ k : Nat, k ≤ us.length ∧ i = .int .i64 k ∧ Below w6.heap.size w6 wr) (fun i _ => us.length - (intOf i).toNat)
      case atStart => exact ⟨0, Nat.zero_le _, rfl, Below.refl _ _⟩
      case round =>
        obtain ⟨k, hk, rfl, hbr⟩ := hrel
        have hbw := hb6.trans (hbr.mono hb6.size)
        by_cases hlt : k < us.length
        · obtain ⟨b1, o1, rfl, hbb1, g1⟩ := (n1.below hbr).at_n (k := k) (by rw [lows_length]; exact hlt) (lows_get _ _ _ _ _ _)
          obtain ⟨b2, o2, rfl, hbb2, g2⟩ := (n2.below hbr).at_n (k := k) (by rw [highs_length]; exact hlt) (highs_get _ _ _ _ _ _)
          obtain ⟨b3, o3, rfl, hbb3, g3⟩ := (n3.below hbr).at_n (k := k) (by rw [lows_length]; exact hlt) (lows_get _ _ _ _ _ _)
          obtain ⟨b4, o4, rfl, hbb4, g4⟩ := (n4.below hbr).at_n (k := k) (by rw [highs_length]; exact hlt) (highs_get _ _ _ _ _ _)
          have i0' : (0 : Int) ≤ k := by omega
          have i1' : (k : Int) < (us.length : Int) := by omega
          have hsr := hbr.size
          have p1 : b1 < wr.heap.size := by omega
          have p2 : b2 < wr.heap.size := by omega
          have p3 : b3 < wr.heap.size := by omega
          have p4 : b4 < wr.heap.size := by omega
          have t1 : decide (lowAt F m us (k + 1) < lowAt F s us (k + 1)) = false := decide_eq_false (by have := low_mono (F := F) (us := us) (show s ≤ m by omega) (k + 1); omega)
          have t2 : decide (highAt F m us (k + 1) < highAt F s us (k + 1)) = false := decide_eq_false (by have := high_mono (F := F) (us := us) (show s ≤ m by omega) (k + 1); omega)
          go_wp2_with fail
          refine wp_region_mix [(0, true), (1, true), (2, true), (3, true), (4, true), (5, true), (6, true), (7, true), (8, true), (9, true), (10, true), (11, true), (12, true), (13, true), (14, true), (15, true), (16, true), (17, true), (18, true), (19, true)] [] (SB w.heap.size w wr.heap.size none _) (by kernel_rfl) (by kernel_rfl) (by kernel_rfl) (by kernel_rfl) (by decide) (SB.start hbw (by omega)) (fun hS => ?_)
          simp only [planned, List.filterMap_cons, List.filterMap_nil, List.getElem?_cons_zero, List.getElem?_cons_succ, Option.map_some]
          repeat (first
            | (refine mix_skip (by rfl) ?_; try simp only [Act.put, List.setIfInBounds_toArray, List.set_cons_zero, List.set_cons_succ])
            | (refine mix_pass hS (by rfl) ?_; try simp only [Act.put, List.setIfInBounds_toArray, List.set_cons_zero, List.set_cons_succ])
            | (refine mix_pure (by rfl) (by rfl) (fun K hK => ?_); go_big_quiet_op; refine hK _ ?_; clear hK K)
            | (refine mix_take (by rfl) ?_
               apply Exists.intro
               refine ⟨?_, ?_⟩
               · intro w' hSw
                 have hSc := hSw.cell
                 clear hSw
                 go_simp
                 try with_reducible rfl
               try simp only [Act.put, List.setIfInBounds_toArray, List.set_cons_zero, List.set_cons_succ])
            | (refine mix_move (by rfl) (fun K hK => ?_)
               go_simp
               try dsimp only
               first
                 | refine hK.out _ _ (hS.step hx (by omega)) ?_
                 | refine hK.out _ _ hS ?_
                 | refine hK.out _ _ (hS.alloc _ (by omega)) ?_
                 | refine hK.out _ _ (hS.grown hg hx) ?_
               clear hK K hS
               intro hS
               try simp only [Act.put, List.setIfInBounds_toArray, List.set_cons_zero, List.set_cons_succ])
            | fail)
          refine mix_nil ?_
          simp only [tailed, List.filterMap_nil]
          go_wp2_with fail
          refine NoPanic.normal ?_
          go_wp2_with fail
          go_roundw
          case rel => exact ⟨k + 1, by omega, by go_num, hbr.drew⟩
          case measure => simp [intOf]; omega
        · have i1' : decide ((k : Int) < (us.length : Int)) = false := decide_eq_false (by omega)
          go_wp2_with fail
          go_ret
          exact ⟨rfl, hbw⟩
    · obtain ⟨e1, e2, e3⟩ := run_bad (s := s) HR.out (by omega) (by omega) (by rintro ⟨_, h2⟩; rw [HN.out] at h2; omega)
      have c1'' := decide_eq_false c1'
      rw [e1, e2, e3]
      clear e1 e2 e3 n1 n2 n3 n4
      by_cases c2' : N ≤ m
      · obtain ⟨g1, g2, g3⟩ := run_good (s := m) HR.out (by omega) (by omega) HF.out (by rw [HN.out]; omega)
        rw [g1, g2, g3, lows_length, highs_length]
        clear g1 g2 g3
        go_wp2_with fail
        refine (run_any _ _ _ _ _ _ (two_ext h hb5) hlen).mono ?_
        rintro e w6 ⟨A5, c5, A6, c6, rfl, _, _, hx6⟩
        have hb6 := hb5.trans (hx6.mono hb5.size)
        have ez := EZ.out
        rw [HN.out] at ez
        rw [ez]
        clear ez
        go_wp2_with fail
        go_loopw [24] (fun i wr => i = .int .i64 0 ∧ wr = w6) (fun i _ => 0)
        case atStart => exact ⟨rfl, rfl⟩
        case round =>
          obtain ⟨rfl, rfl⟩ := hrel
          go_wp2_with fail
          go_ret
          exact ⟨rfl, hb6⟩
      · obtain ⟨g1, g2, g3⟩ := run_bad (s := m) HR.out (by omega) (by omega) (by rintro ⟨_, h2⟩; rw [HN.out] at h2; omega)
        have c2'' := decide_eq_false c2'
        rw [g1, g2, g3]
        clear g1 g2 g3
        go_wp2_with fail
        refine (run_any _ _ _ _ _ _ (two_ext h hb5) hlen).mono ?_
        rintro e w6 ⟨A5, c5, A6, c6, rfl, _, _, hx6⟩
        have hb6 := hb5.trans (hx6.mono hb5.size)
        have ez := EZ.out
        rw [HN.out] at ez
        rw [ez]
        clear ez
        go_wp2_with fail
        go_loopw [24] (fun i wr => i = .int .i64 0 ∧ wr = w6) (fun i _ => 0)
        case atStart => exact ⟨rfl, rfl⟩
        case round =>
          obtain ⟨rfl, rfl⟩ := hrel
          go_wp2_with fail
          go_ret
          exact ⟨rfl, hb6⟩

theorem chargeNeeds_contract (H : Type) (enc : TypeId × Value → H) (W : World) (base : Nat) (args : Array Value) (ds gs : List (DataW H)) (before : List MemPlace)
    (hval : ∀ (j : Nat) t v, Try.f5.params[j]? = some t → args[j]? = some v → Value.okWide Try.prog W .any base t v)
    (hW : DataW.Whole enc Try.prog Try.f5.params.toList Rows.chargeNeedsSpec.vars false W args.toList ds gs before) :
    Calls Try.prog 5 args W fun e W' => ∃ v, e = .returned v ∧ Rows.chargeNeedsSpec.post enc Try.prog Try.f5 false true false false W args v W' := by
  have hW' := hW
  obtain ⟨p, q, hA0, hV, rfl, hfz, hnd⟩ := hW
  have hA : DataW.TrodAll enc Try.prog W 0 (fun _ => true) true Try.f5.params.toList args.toList ds p := hA0
  have hlt := hA.lt
  rw [Try.params5] at hA hval
  obtain ⟨v0, vs0, d0, ds0, p0, q0, hargs0, rfl, rfl, h0, rr0⟩ := trodAll_cons hA
  obtain ⟨v1, vs1, d1, ds1, p1, q1, rfl, rfl, rfl, h1, rr1⟩ := trodAll_cons rr0
  obtain ⟨v2, vs2, d2, ds2, p2, q2, rfl, rfl, rfl, h2, rr2⟩ := trodAll_cons rr1
  obtain ⟨v3, vs3, d3, ds3, p3, q3, rfl, rfl, rfl, h3, rr3⟩ := trodAll_cons rr2
  obtain ⟨rfl, rfl, rfl⟩ := trodAll_nil rr3
  obtain rfl : args = #[v0, v1, v2, v3] := by cases args; simp_all
  obtain ⟨rfl, rfl⟩ := trodVars_none hV
  obtain ⟨F, rfl, rfl, rfl, hwf0⟩ := open_int Try.underlying3 (hval 0 3 v0 rfl rfl) h0
  have r0 : -9223372036854775808 ≤ F ∧ F ≤ 9223372036854775807 := by simpa [Lit.wf, IntKind.min, IntKind.max, IntKind.signed, IntKind.bits] using hwf0
  obtain ⟨s, rfl, rfl, rfl, hwf1⟩ := open_int Try.underlying3 (hval 1 3 v1 rfl rfl) h1
  have r1 : -9223372036854775808 ≤ s ∧ s ≤ 9223372036854775807 := by simpa [Lit.wf, IntKind.min, IntKind.max, IntKind.signed, IntKind.bits] using hwf1
  obtain ⟨m, rfl, rfl, rfl, hwf2⟩ := open_int Try.underlying3 (hval 2 3 v2 rfl rfl) h2
  have r2 : -9223372036854775808 ≤ m ∧ m ≤ 9223372036854775807 := by simpa [Lit.wf, IntKind.min, IntKind.max, IntKind.signed, IntKind.bits] using hwf2
  obtain ⟨A, nn3, c, rfl⟩ := okWide_slice Try.underlying22 (hval 3 22 v3 rfl rfl)
  obtain ⟨fu3, ff3⟩ := h3
  obtain ⟨us, rfl, t3, b3, m3⟩ := open_two (B := W.heap.size) Try.underlying22 Try.underlying35 rfl rfl Try.underlying3 (by kernel_rfl) rfl rfl (by kernel_rfl) (fun y (hy : y ∈ p3) => hlt y (by simp [hy])) ff3
  unfold maxLen at m3
  refine (needs_any F s m A c us W t3 (by omega)).mono fun e W' ⟨he, hb⟩ => ?_
  subst he
  exact ⟨_, rfl, law_post laidOut Try.underlying4 rfl (by kernel_rfl) rfl hW' rfl hb⟩
set_option maxRecDepth 100000 in
theorem chargeNeeds_lifted (os : Os) (started : os.Started) (H : Type) (enc : TypeId × Value → H) :
    ReturnsInHanded {} Try.checked os 5 .any (Rows.chargeNeedsSpec.pre6 enc Try.prog Try.f5 Rows.chargeNeedsRow.domain false) (Rows.chargeNeedsSpec.post enc Try.prog Try.f5 false true false false) := by
  refine returnsInHanded_of_change (C := Try.checked) own started (by kernel_rfl) Try.func5
    (ChangeSpec.witness6 (enc := enc) (C := Try.checked) false ⟨#[], #[.int .i64 0, .int .i64 0, .int .i64 0, .slice none 0 0], []⟩ 8 (by kernel_rfl) (by kernel_rfl) (by kernel_rfl) (by kernel_rfl)) ?_
  intro W base args ds gs before hval hW _ _
  exact chargeNeeds_contract H enc W base args ds gs before hval hW
theorem chargeNeeds_holds : Rows.ChargeNeedsSaid :=
  OpenClaim.holds_of_wide 5 Try.f5 rfl rfl rfl rfl rfl rfl rfl ⟨rfl, rfl, rfl, rfl, rfl⟩ rfl rfl rfl rfl rfl (by kernel_rfl) Try.func5 (by kernel_rfl)
    (of_decide_eq_true (by kernel_rfl)) (by unfold Func.isWrapper; first | (rw [if_pos (by decide +kernel)]; kernel_rfl) | (rw [if_neg (by decide +kernel)]; exact ⟨rfl, rfl⟩))
    (fun os started H enc _ => chargeNeeds_lifted os started H enc)
end Go.Proofs.Ytlbndoddkialkaa
