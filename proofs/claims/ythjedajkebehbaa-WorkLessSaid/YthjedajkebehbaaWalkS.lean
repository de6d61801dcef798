/-
  The walks of the reference's Check and Spare. Conditions: none but the slices' sizes.
-/
import Derived.Test.YthjedajkebehbaaWalkR
import Derived.Test.YthjedajkebehbaaMix
namespace Go.Proofs.Ythjedajkebehbaa
open Go.RowKit

theorem nums_ext {w w' : World} {A : Option Addr} {l : List Int} (h : Nums w w.heap.size A l) (hb : Below w.heap.size w w') : Nums w' w'.heap.size A l := (h.below hb).more hb.size

theorem two_up {w w' : World} {A : Option Addr} {l : List P2} (h : Two w w.heap.size A l) (hb : Below w.heap.size w w') : Two w' w'.heap.size A l := two_ext h hb

theorem driving_n (R : Int) (A1 A2 : Option Addr) (n1 n2 c1 c2 : Nat) (hs lo : List Int) (i : Nat) (w : World) (h1 : Nums w w.heap.size A1 hs) (h2 : Nums w w.heap.size A2 lo) (e1 : hs.length = n1) (e2 : lo.length = n2) (hi : i < n1) (hi2 : n1 ≤ n2) (hl : n1 ≤ 1000000) (f1 : Small hs) :
    Calls Try.prog 15 #[.int .i64 R, .slice A1 n1 c1, .slice A2 n2 c2, .int .i64 i] w fun e w' => e = .returned (.int .i64 (driveTo R hs lo (i + 1))) ∧ w = w' := by
  subst e1 e2
  exact driving_any R A1 A2 c1 c2 hs lo i w h1 h2 hi hi2 hl f1
theorem working_n (A1 A2 : Option Addr) (n1 n2 c1 c2 : Nat) (hs hw : List Int) (i : Nat) (w : World) (h1 : Nums w w.heap.size A1 hs) (h2 : Nums w w.heap.size A2 hw) (e1 : hs.length = n1) (e2 : hw.length = n2) (hi : i < n1) (hi2 : n1 ≤ n2) (hl : n1 ≤ 1000000) (f1 : Small hs) (f2 : Small hw) :
    Calls Try.prog 16 #[.slice A1 n1 c1, .slice A2 n2 c2, .int .i64 i] w fun e w' => e = .returned (.int .i64 (workTo hs hw (i + 1))) ∧ w = w' := by
  subst e1 e2
  exact working_any A1 A2 c1 c2 hs hw i w h1 h2 hi hi2 hl f1 f2

set_option maxHeartbeats 4000000 in
set_option maxRecDepth 100000 in
theorem rcheck_any (D R W : Int) (A1 A2 : Option Addr) (c1 c2 : Nat) (ls ws : List P2) (w : World) (h1 : Two w w.heap.size A1 ls) (h2 : Two w w.heap.size A2 ws) :
    Calls Try.prog 9 #[.agg #[.int .i64 D, .int .i64 R, .int .i64 W], .slice A1 ls.length c1, .slice A2 ws.length c2] w
      fun e w' => e = .returned (.tuple #[.int .i64 (checkI D R W ls ws), .int .i64 (checkE D R W ls ws)]) ∧ Below w.heap.size w w' := by
  have hbx : Below w.heap.size w (w.alloc (shiftBox D R W)) := (Below.refl _ _).alloc (Nat.le_refl _) _
  go_enter Try.func9, Try.ntmps9
  go_wp2_with fail
  refine (rright_any _ _ _ _ _ _ _ _ _ _ (two_ext h1 hbx) (two_ext h2 hbx)).mono ?_
  rintro e w1 ⟨rfl, hx⟩
  rw [size_alloc] at hx
  obtain ⟨q0, q1, q2, hb1, hs1⟩ := box_cells hx
  cases hR : rightB D R W ls ws
  · have H := Lib.hid hR
    clear hR
    go_wp2_with fail
    go_ret2
    exact ⟨by simp [checkI, checkE, H.out], hb1⟩
  · obtain ⟨hn, hm, f1, f2, _⟩ := right_parts hR
    have H := Lib.hid hR
    have HM := Lib.hid hm
    clear hR hm
    go_wp2_with fail
    go_loopw [8] (fun i wr => ∃ k : Nat, k ≤ ls.length ∧ i = .int .i64 k ∧ (∀ j, j < k → tooLong D R W ls ws j = false) ∧
        wr.cell? ⟨w.heap.size, 0, none⟩ = some (.int .i64 D) ∧ wr.cell? ⟨w.heap.size, 1, none⟩ = some (.int .i64 R) ∧ wr.cell? ⟨w.heap.size, 2, none⟩ = some (.int .i64 W) ∧ Below w.heap.size w wr ∧ w.heap.size < wr.heap.size) (fun i _ => ls.length - (intOf i).toNat)
    case atStart => exact ⟨0, Nat.zero_le _, rfl, fun j h => absurd h (by omega), q0, q1, q2, hb1, hs1⟩
    case round =>
      obtain ⟨k, hk, rfl, hall, q0, q1, q2, hbw, hsz⟩ := hrel
      have HA := Lib.hid hall
      clear hall
      by_cases hlt : k < ls.length
      · have HD := Lib.hid (dAt_eq R ls ws (k + 1))
        have HW := Lib.hid (wAt_eq ls ws (k + 1))
        have hm1 : ws.length ≤ ls.length := by have := HM.out; omega
        have hm2 : ls.length ≤ ws.length := by have := HM.out; omega
        have hm1 : ws.length ≤ ls.length := by have := HM.out; omega
        have hm2 : ls.length ≤ ws.length := by have := HM.out; omega
        by_cases hd : D < dAt R ls ws (k + 1)
        · go_wp2_with fail
          refine wp_region_mix [(0, true), (1, true), (2, true), (4, true), (6, true), (8, true), (9, true), (3, false), (5, false), (7, false), (10, true), (11, true), (12, true), (14, true), (16, true), (18, true), (19, true), (13, false), (15, false), (17, false), (20, true), (21, true)] [] (SB w.heap.size w wr.heap.size none _) (by kernel_rfl) (by kernel_rfl) (by kernel_rfl) (by kernel_rfl) (by decide) (SB.start hbw (by omega)) (fun hS => ?_)
          simp only [planned, List.filterMap_cons, List.filterMap_nil, List.getElem?_cons_zero, List.getElem?_cons_succ, Option.map_some]
          repeat (first
            | (refine mix_skip (by rfl) ?_; try simp only [Act.put, List.setIfInBounds_toArray, List.set_cons_zero, List.set_cons_succ])
            | (refine mix_pass hS (by rfl) ?_; try simp only [Act.put, List.setIfInBounds_toArray, List.set_cons_zero, List.set_cons_succ])
            | (refine mix_pure (by rfl) (by rfl) (fun K hK => ?_); go_big_quiet_op; refine hK _ ?_; clear hK K)
            | (refine mix_take (by rfl) ?_
               apply Exists.intro
               refine ⟨?_, ?_⟩
               · intro w' hSw
                 have hSc := hSw.cell
                 clear hSw
                 go_simp
                 try with_reducible rfl
               try simp only [Act.put, List.setIfInBounds_toArray, List.set_cons_zero, List.set_cons_succ])
            | (refine mix_move (by rfl) (fun K hK => ?_)
               first
                 | (go_simp; go_at_call_of 17 (Value.slice A1 ls.length c1); refine (highs_any _ _ ls _ (two_up h1 hS.below) (by omega)).mono ?_; rintro e w2 ⟨AH, cH, rfl, hH, hx⟩)
                 | (go_simp; go_at_call_of 17 (Value.slice A2 ws.length c2); refine (highs_any _ _ ws _ (two_up h2 hS.below) (by omega)).mono ?_; rintro e w2 ⟨AW, cW, rfl, hW, hx⟩)
                 | (go_simp; go_at_call 18; refine (lows_any _ _ ws _ (two_up h2 hS.below) (by omega)).mono ?_; rintro e w2 ⟨AL, cL, rfl, hL, hx⟩)
                 | (go_simp; go_at_call 15; refine (driving_n _ _ _ _ _ _ _ _ _ k _ (nums_ext hH hx) hL (by simp) (by simp) hlt (by omega) (by omega) (small_b f1)).mono ?_; rw [HD.out]; rintro e w' ⟨rfl, rfl⟩)
                 | (go_simp; go_at_call 16; refine (working_n _ _ _ _ _ _ _ _ k _ (nums_ext hH hx) hW (by simp) (by simp) hlt (by omega) (by omega) (small_b f1) (small_b f2)).mono ?_; rw [HW.out]; rintro e w' ⟨rfl, rfl⟩)
                 | go_simp
               try dsimp only
               first
                 | refine hK.out _ _ (hS.step hx (by omega)) ?_
                 | refine hK.out _ _ hS ?_
                 | refine hK.out _ _ (hS.alloc _ (by omega)) ?_
                 | refine hK.out _ _ (hS.grown hg hx) ?_
               clear hK K hS
               intro hS
               try simp only [Act.put, List.setIfInBounds_toArray, List.set_cons_zero, List.set_cons_succ])
            | fail)
          refine mix_nil ?_
          simp only [tailed, List.filterMap_nil]
          go_wp2_with fail
          refine NoPanic.normal ?_
          go_wp2_with fail
          go_ret2
          have ht : tooLong D R W ls ws k = true := by simp [tooLong, hd]
          have hf : firstLong D R W ls ws = some k := find_range_some hlt ht HA.out
          exact ⟨by simp [checkI, checkE, H.out, hf], hS.below⟩
        · have hd' : decide (D < dAt R ls ws (k + 1)) = false := by simpa using hd
          by_cases hw : W < wAt ls ws (k + 1)
          · go_wp2_with fail
            refine wp_region_mix [(0, true), (1, true), (2, true), (4, true), (6, true), (8, true), (9, true), (3, false), (5, false), (7, false), (10, true), (11, true), (12, true), (14, true), (16, true), (18, true), (19, true), (13, false), (15, false), (17, false), (20, true), (21, true)] [] (SB w.heap.size w wr.heap.size none _) (by kernel_rfl) (by kernel_rfl) (by kernel_rfl) (by kernel_rfl) (by decide) (SB.start hbw (by omega)) (fun hS => ?_)
            simp only [planned, List.filterMap_cons, List.filterMap_nil, List.getElem?_cons_zero, List.getElem?_cons_succ, Option.map_some]
            repeat (first
              | (refine mix_skip (by rfl) ?_; try simp only [Act.put, List.setIfInBounds_toArray, List.set_cons_zero, List.set_cons_succ])
              | (refine mix_pass hS (by rfl) ?_; try simp only [Act.put, List.setIfInBounds_toArray, List.set_cons_zero, List.set_cons_succ])
              | (refine mix_pure (by rfl) (by rfl) (fun K hK => ?_); go_big_quiet_op; refine hK _ ?_; clear hK K)
              | (refine mix_take (by rfl) ?_
                 apply Exists.intro
                 refine ⟨?_, ?_⟩
                 · intro w' hSw
                   have hSc := hSw.cell
                   clear hSw
                   go_simp
                   try with_reducible rfl
                 try simp only [Act.put, List.setIfInBounds_toArray, List.set_cons_zero, List.set_cons_succ])
              | (refine mix_move (by rfl) (fun K hK => ?_)
                 first
                   | (go_simp; go_at_call_of 17 (Value.slice A1 ls.length c1); refine (highs_any _ _ ls _ (two_up h1 hS.below) (by omega)).mono ?_; rintro e w2 ⟨AH, cH, rfl, hH, hx⟩)
                   | (go_simp; go_at_call_of 17 (Value.slice A2 ws.length c2); refine (highs_any _ _ ws _ (two_up h2 hS.below) (by omega)).mono ?_; rintro e w2 ⟨AW, cW, rfl, hW, hx⟩)
                   | (go_simp; go_at_call 18; refine (lows_any _ _ ws _ (two_up h2 hS.below) (by omega)).mono ?_; rintro e w2 ⟨AL, cL, rfl, hL, hx⟩)
                   | (go_simp; go_at_call 15; refine (driving_n _ _ _ _ _ _ _ _ _ k _ (nums_ext hH hx) hL (by simp) (by simp) hlt (by omega) (by omega) (small_b f1)).mono ?_; rw [HD.out]; rintro e w' ⟨rfl, rfl⟩)
                   | (go_simp; go_at_call 16; refine (working_n _ _ _ _ _ _ _ _ k _ (nums_ext hH hx) hW (by simp) (by simp) hlt (by omega) (by omega) (small_b f1) (small_b f2)).mono ?_; rw [HW.out]; rintro e w' ⟨rfl, rfl⟩)
                   | go_simp
                 try dsimp only
                 first
                   | refine hK.out _ _ (hS.step hx (by omega)) ?_
                   | refine hK.out _ _ hS ?_
                   | refine hK.out _ _ (hS.alloc _ (by omega)) ?_
                   | refine hK.out _ _ (hS.grown hg hx) ?_
                 clear hK K hS
                 intro hS
                 try simp only [Act.put, List.setIfInBounds_toArray, List.set_cons_zero, List.set_cons_succ])
              | fail)
            refine mix_nil ?_
            simp only [tailed, List.filterMap_nil]
            go_wp2_with fail
            refine NoPanic.normal ?_
            go_wp2_with fail
            go_ret2
            have ht : tooLong D R W ls ws k = true := by simp [tooLong, hw]
            have hf : firstLong D R W ls ws = some k := find_range_some hlt ht HA.out
            exact ⟨by simp [checkI, checkE, H.out, hf], hS.below⟩
          · have hw' : decide (W < wAt ls ws (k + 1)) = false := by simpa using hw
            go_wp2_with fail
            refine wp_region_mix [(0, true), (1, true), (2, true), (4, true), (6, true), (8, true), (9, true), (3, false), (5, false), (7, false), (10, true), (11, true), (12, true), (14, true), (16, true), (18, true), (19, true), (13, false), (15, false), (17, false), (20, true), (21, true)] [] (SB w.heap.size w wr.heap.size none _) (by kernel_rfl) (by kernel_rfl) (by kernel_rfl) (by kernel_rfl) (by decide) (SB.start hbw (by omega)) (fun hS => ?_)
            simp only [planned, List.filterMap_cons, List.filterMap_nil, List.getElem?_cons_zero, List.getElem?_cons_succ, Option.map_some]
            repeat (first
              | (refine mix_skip (by rfl) ?_; try simp only [Act.put, List.setIfInBounds_toArray, List.set_cons_zero, List.set_cons_succ])
              | (refine mix_pass hS (by rfl) ?_; try simp only [Act.put, List.setIfInBounds_toArray, List.set_cons_zero, List.set_cons_succ])
              | (refine mix_pure (by rfl) (by rfl) (fun K hK => ?_); go_big_quiet_op; refine hK _ ?_; clear hK K)
              | (refine mix_take (by rfl) ?_
                 apply Exists.intro
                 refine ⟨?_, ?_⟩
                 · intro w' hSw
                   have hSc := hSw.cell
                   clear hSw
                   go_simp
                   try with_reducible rfl
                 try simp only [Act.put, List.setIfInBounds_toArray, List.set_cons_zero, List.set_cons_succ])
              | (refine mix_move (by rfl) (fun K hK => ?_)
                 first
                   | (go_simp; go_at_call_of 17 (Value.slice A1 ls.length c1); refine (highs_any _ _ ls _ (two_up h1 hS.below) (by omega)).mono ?_; rintro e w2 ⟨AH, cH, rfl, hH, hx⟩)
                   | (go_simp; go_at_call_of 17 (Value.slice A2 ws.length c2); refine (highs_any _ _ ws _ (two_up h2 hS.below) (by omega)).mono ?_; rintro e w2 ⟨AW, cW, rfl, hW, hx⟩)
                   | (go_simp; go_at_call 18; refine (lows_any _ _ ws _ (two_up h2 hS.below) (by omega)).mono ?_; rintro e w2 ⟨AL, cL, rfl, hL, hx⟩)
                   | (go_simp; go_at_call 15; refine (driving_n _ _ _ _ _ _ _ _ _ k _ (nums_ext hH hx) hL (by simp) (by simp) hlt (by omega) (by omega) (small_b f1)).mono ?_; rw [HD.out]; rintro e w' ⟨rfl, rfl⟩)
                   | (go_simp; go_at_call 16; refine (working_n _ _ _ _ _ _ _ _ k _ (nums_ext hH hx) hW (by simp) (by simp) hlt (by omega) (by omega) (small_b f1) (small_b f2)).mono ?_; rw [HW.out]; rintro e w' ⟨rfl, rfl⟩)
                   | go_simp
                 try dsimp only
                 first
                   | refine hK.out _ _ (hS.step hx (by omega)) ?_
                   | refine hK.out _ _ hS ?_
                   | refine hK.out _ _ (hS.alloc _ (by omega)) ?_
                   | refine hK.out _ _ (hS.grown hg hx) ?_
                 clear hK K hS
                 intro hS
                 try simp only [Act.put, List.setIfInBounds_toArray, List.set_cons_zero, List.set_cons_succ])
              | fail)
            refine mix_nil ?_
            simp only [tailed, List.filterMap_nil]
            go_wp2_with fail
            refine NoPanic.normal ?_
            have s0 := (hS.cell _ 0 hsz (by simp)).trans q0
            have s1 := (hS.cell _ 1 hsz (by simp)).trans q1
            have s2 := (hS.cell _ 2 hsz (by simp)).trans q2
            go_wp2_with fail
            go_roundw
            case rel =>
              refine ⟨k + 1, by omega, by go_num, fun i hi => ?_, s0, s1, s2, hS.below, by have := hS.size; omega⟩
              by_cases e : i = k
              · subst e
                simp only [tooLong, hd', hw', Bool.or_self]
              · exact HA.out i (by omega)
            case measure => simp [intOf]; omega
      · go_wp2_with fail
        go_ret2
        have hf : firstLong D R W ls ws = none := find_range_none (fun j hj => HA.out j (by omega))
        exact ⟨by simp [checkI, checkE, H.out, hf], hbw⟩

set_option maxHeartbeats 4000000 in
set_option maxRecDepth 100000 in
theorem rspare_any (D R W : Int) (A1 A2 : Option Addr) (c1 c2 : Nat) (ls ws : List P2) (w : World) (h1 : Two w w.heap.size A1 ls) (h2 : Two w w.heap.size A2 ws) (hl1 : ls.length ≤ 9223372036854775807) :
    Calls Try.prog 11 #[.agg #[.int .i64 D, .int .i64 R, .int .i64 W], .slice A1 ls.length c1, .slice A2 ws.length c2] w
      fun e w' => e = .returned (.tuple #[.int .i64 (spareD D R W ls ws), .int .i64 (spareW D R W ls ws), .int .i64 (checkE D R W ls ws)]) ∧ Below w.heap.size w w' := by
  have hbx : Below w.heap.size w (w.alloc (shiftBox D R W)) := (Below.refl _ _).alloc (Nat.le_refl _) _
  go_enter Try.func11, Try.ntmps11
  go_wp2_with fail
  refine (rcheck_any _ _ _ _ _ _ _ _ _ _ (two_ext h1 hbx) (two_ext h2 hbx)).mono ?_
  rintro e w1 ⟨rfl, hx⟩
  rw [size_alloc] at hx
  obtain ⟨q0, q1, q2, hb1, hs1⟩ := box_cells hx
  by_cases hE : checkE D R W ls ws = 0
  · obtain ⟨hR, hF⟩ := check_ok hE
    obtain ⟨hn, hm, f1, f2, d1, d2, _, _, d3, d4⟩ := right_parts hR
    have hE' := hE
    have HE := Lib.hid hE
    have HM := Lib.hid hm
    have hm1 : ws.length ≤ ls.length := by omega
    have hm2 : ls.length ≤ ws.length := by omega
    rw [hE]
    clear hR hF hm hE hE'
    by_cases hl0 : ls.length = 0
    · have hlb : ((ls.length : Int) == 0) = true := by simp [hl0]
      have hd0 : dAt R ls ws ls.length = 0 := by rw [hl0]; rfl
      have hw0 : wAt ls ws ls.length = 0 := by rw [hl0]; rfl
      have HD := Lib.hid hd0
      have HW := Lib.hid hw0
      clear hd0 hw0 hl0
      go_wp2_with fail
      refine wp_region_mix [(0, true), (1, true), (2, true), (3, true), (4, true)] [5, 6] (SB w.heap.size w w1.heap.size none _) (by kernel_rfl) (by kernel_rfl) (by kernel_rfl) (by kernel_rfl) (by decide) (SB.start hb1 (by omega)) (fun hS => ?_)
      simp only [planned, List.filterMap_cons, List.filterMap_nil, List.getElem?_cons_zero, List.getElem?_cons_succ, Option.map_some]
      repeat (first
        | (refine mix_skip (by rfl) ?_; try simp only [Act.put, List.setIfInBounds_toArray, List.set_cons_zero, List.set_cons_succ])
        | (refine mix_pass hS (by rfl) ?_; try simp only [Act.put, List.setIfInBounds_toArray, List.set_cons_zero, List.set_cons_succ])
        | (refine mix_pure (by rfl) (by rfl) (fun K hK => ?_); go_big_quiet_op; refine hK _ ?_; clear hK K)
        | (refine mix_take (by rfl) ?_
           apply Exists.intro
           refine ⟨?_, ?_⟩
           · intro w' hSw
             have hSc := hSw.cell
             clear hSw
             go_simp
             try with_reducible rfl
           try simp only [Act.put, List.setIfInBounds_toArray, List.set_cons_zero, List.set_cons_succ])
        | (refine mix_move (by rfl) (fun K hK => ?_)
           go_simp
           try dsimp only
           first
             | refine hK.out _ _ (hS.step hx (by omega)) ?_
             | refine hK.out _ _ hS ?_
             | refine hK.out _ _ (hS.alloc _ (by omega)) ?_
             | refine hK.out _ _ (hS.grown hg hx) ?_
           clear hK K hS
           intro hS
           try simp only [Act.put, List.setIfInBounds_toArray, List.set_cons_zero, List.set_cons_succ])
        | fail)
      refine mix_nil ?_
      simp only [tailed, List.filterMap_cons, List.filterMap_nil, List.getElem?_cons_zero, List.getElem?_cons_succ]
      go_wp2_with fail
      refine NoPanic.normal ?_
      go_wp2_with fail
      go_ret3
      exact ⟨by simp [spareD, spareW, HE.out, HD.out, HW.out], hS.below⟩
    · have hlb : ((ls.length : Int) == 0) = false := beq_eq_false_iff_ne.2 (by omega)
      have hd := dAt_bd (R := R) (ws := ws) f1 ls.length
      have hw := wAt_bd f1 f2 ls.length
      have hk : ls.length - 1 + 1 = ls.length := by omega
      have h3 := dAt_eq R ls ws (ls.length - 1 + 1)
      have h4 := wAt_eq ls ws (ls.length - 1 + 1)
      rw [hk] at h3 h4
      have HD := Lib.hid h3
      have HW := Lib.hid h4
      have HK := Lib.hid hk
      have hv1 : IntKind.i64.wrap (D - dAt R ls ws ls.length) = D - dAt R ls ws ls.length := IntWalk.i64_in _ (by omega)
      have hv2 : IntKind.i64.wrap (W - wAt ls ws ls.length) = W - wAt ls ws ls.length := IntWalk.i64_in _ (by omega)
      have hpos : 1 ≤ ls.length := by omega
      clear h3 h4 hk hl0
      go_wp2_with fail
      refine wp_region_mix [(0, true), (1, true), (2, true), (3, true), (4, true), (6, true), (8, true), (11, true), (12, true), (13, true), (15, true), (17, true), (5, false), (7, false), (9, false), (10, true), (14, false), (16, false), (18, false), (19, true), (20, true)] [21, 22] (SB w.heap.size w w1.heap.size none _) (by kernel_rfl) (by kernel_rfl) (by kernel_rfl) (by kernel_rfl) (by decide) (SB.start hb1 (by omega)) (fun hS => ?_)
      simp only [planned, List.filterMap_cons, List.filterMap_nil, List.getElem?_cons_zero, List.getElem?_cons_succ, Option.map_some]
      repeat (first
        | (refine mix_skip (by rfl) ?_; try simp only [Act.put, List.setIfInBounds_toArray, List.set_cons_zero, List.set_cons_succ])
        | (refine mix_pass hS (by rfl) ?_; try simp only [Act.put, List.setIfInBounds_toArray, List.set_cons_zero, List.set_cons_succ])
        | (refine mix_pure (by rfl) (by rfl) (fun K hK => ?_); go_big_quiet_op; refine hK _ ?_; clear hK K)
        | (refine mix_take (by rfl) ?_
           apply Exists.intro
           refine ⟨?_, ?_⟩
           · intro w' hSw
             have hSc := hSw.cell
             clear hSw
             go_simp
             try with_reducible rfl
           try simp only [Act.put, List.setIfInBounds_toArray, List.set_cons_zero, List.set_cons_succ])
        | (refine mix_move (by rfl) (fun K hK => ?_)
           first
             | (go_simp; go_at_call_of 17 (Value.slice A1 ls.length c1); refine (highs_any _ _ ls _ (two_up h1 hS.below) (by omega)).mono ?_; rintro e w2 ⟨AH, cH, rfl, hH, hx⟩)
             | (go_simp; go_at_call_of 17 (Value.slice A2 ws.length c2); refine (highs_any _ _ ws _ (two_up h2 hS.below) (by omega)).mono ?_; rintro e w2 ⟨AW, cW, rfl, hW, hx⟩)
             | (go_simp; go_at_call 18; refine (lows_any _ _ ws _ (two_up h2 hS.below) (by omega)).mono ?_; rintro e w2 ⟨AL, cL, rfl, hL, hx⟩)
             | (go_simp; go_at_call 15; (try rw [show ((ls.length : Int) - 1) = ((ls.length - 1 : Nat) : Int) from by omega]); refine (driving_n _ _ _ _ _ _ _ _ _ _ _ (nums_ext hH hx) hL (by simp) (by simp) (by omega) (by omega) (by omega) (small_b f1)).mono ?_; rw [HK.out, HD.out]; rintro e w' ⟨rfl, rfl⟩)
             | (go_simp; go_at_call 16; (try rw [show ((ls.length : Int) - 1) = ((ls.length - 1 : Nat) : Int) from by omega]); refine (working_n _ _ _ _ _ _ _ _ _ _ (nums_ext hH hx) hW (by simp) (by simp) (by omega) (by omega) (by omega) (small_b f1) (small_b f2)).mono ?_; rw [HK.out, HW.out]; rintro e w' ⟨rfl, rfl⟩)
             | go_simp
           try dsimp only
           first
             | refine hK.out _ _ (hS.step hx (by omega)) ?_
             | refine hK.out _ _ hS ?_
             | refine hK.out _ _ (hS.alloc _ (by omega)) ?_
             | refine hK.out _ _ (hS.grown hg hx) ?_
           clear hK K hS
           intro hS
           try simp only [Act.put, List.setIfInBounds_toArray, List.set_cons_zero, List.set_cons_succ])
        | fail)
      refine mix_nil ?_
      simp only [tailed, List.filterMap_cons, List.filterMap_nil, List.getElem?_cons_zero, List.getElem?_cons_succ]
      go_wp2_with fail
      refine NoPanic.normal ?_
      go_wp2_with fail
      go_ret3
      exact ⟨by simp [spareD, spareW, HE.out], hS.below⟩
  · have hEb : (checkE D R W ls ws == 0) = false := by simpa using hE
    have hEn : (checkE D R W ls ws != 0) = true := by simpa using hE
    go_wp2_with fail
    go_ret3
    exact ⟨by simp [spareD, spareW, hE], hb1⟩
end Go.Proofs.Ythjedajkebehbaa
