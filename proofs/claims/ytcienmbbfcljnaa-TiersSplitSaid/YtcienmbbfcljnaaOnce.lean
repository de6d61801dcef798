/-
  TiersOnce: what the tiers pay and the rest are together each claim; no tier pays more than its Cap; what has been paid, and the rests, are the claims. Conditions: none.
-/
import Derived.Test.YtcienmbbfcljnaaLawA
import Derived.Test.YtcienmbbfcljnaaTells
namespace Go.Proofs.Ytcienmbbfcljnaa
open Go.ChangeShapes Go.WideShapes Go.ChangeAt Go.RowKit Go.Deep Go.Joins

theorem sum_n (A : Option Addr) (n c : Nat) (l : List Int) (w : World) (hn : l.length = n) (h : Nums w w.heap.size A l) (h1 : l.length ≤ 1000) (hs : ∀ i, i < l.length → 0 ≤ l.getD i 0 ∧ l.getD i 0 ≤ 1000000000000000) :
    Calls Try.prog 17 #[.slice A n c] w fun e w' => e = .returned (.int .i64 (sumTo l n)) ∧ Below w.heap.size w w' := by
  subst hn
  refine sum_any A c l w h (by omega) (fun k hk => ?_)
  have := sumTo_bounds hs k hk
  omega
theorem ints_n (A1 A2 : Option Addr) (n m c1 c2 : Nat) (xs ys : List Int) (w : World) (hn : xs.length = n) (hm : ys.length = m) (h1 : Nums w w.heap.size A1 xs) (h2 : Nums w w.heap.size A2 ys) (hlen : n ≤ 9223372036854775807) (hlen2 : m ≤ 9223372036854775807) :
    Calls Try.prog 14 #[.slice A1 n c1, .slice A2 m c2] w fun e w' => e = .returned (.bool (decide (xs = ys))) ∧ Below w.heap.size w w' := by
  subst hn hm
  exact ints_any A1 A2 c1 c2 xs ys w h1 h2 hlen hlen2

set_option maxHeartbeats 8000000 in
set_option maxRecDepth 100000 in
theorem once_any (A A2 : Option Addr) (c c2 : Nat) (L : List P3) (cs : List Int) (w : World) (h : Three w w.heap.size A L) (h2 : Nums w w.heap.size A2 cs)
    (hl : L.length ≤ 9223372036854775807) (hl2 : cs.length ≤ 9223372036854775807) :
    Calls Try.prog 4 #[.slice A L.length c, .slice A2 cs.length c2] w fun e w' => e = .returned (.bool true) ∧ Below w.heap.size w w' := by
  have hT := h
  clear h
  go_enter Try.func4, Try.ntmps4
  go_wp2_with fail
  refine (small_any _).mono ?_
  rintro e w1 ⟨rfl, hb1⟩
  go_wp2_with fail
  refine (few_any _ _ _ _ _ _ _ _ _ _).mono ?_
  rintro e w2 ⟨rfl, hx2⟩
  have hb2 := hb1.trans (hx2.mono hb1.size)
  cases hfew : (decide (L.length ≤ 8) && decide (0 ≤ 8) && decide (cs.length ≤ 30))
  · clear hfew
    go_wp2_with fail
    go_ret
    exact ⟨rfl, hb2⟩
  have hfw : L.length ≤ 8 ∧ cs.length ≤ 30 := by simpa using hfew
  obtain ⟨hl8, hc30⟩ := hfw
  clear hfew
  go_wp2_with fail
  refine (run_any _ _ _ _ _ _ _ (three_ext hT hb2) (num_ext h2 hb2) hl hl2).mono ?_
  rintro e w3 ⟨A3, c3, A4, c4, _, rfl, n1, n2, hx3⟩
  have hb3 := hb2.trans (hx3.mono hb2.size)
  cases hok : okRun L cs
  · have e1 : runE L cs = 1 := by simp [runE, hok]
    have e2 : runR L cs = [] := by simp [runR, hok]
    have e3 : runU L cs = [] := by simp [runU, hok]
    rw [e1, e2, e3]
    clear e1 e2 e3 n1 n2 hok
    go_wp2_with fail
    go_ret
    exact ⟨rfl, hb3⟩
  have hok' := hok
  simp only [okRun, Bool.and_eq_true] at hok'
  obtain ⟨hr, hcl⟩ := hok'
  have e1 : runE L cs = 0 := by simp [runE, hok]; omega
  have e2 : runR L cs = rests L cs cs.length := by simp [runR, hok]; omega
  have e3 : runU L cs = useAt L cs cs.length := by simp [runU, hok]; omega
  rw [e2] at n1
  rw [e3] at n2
  rw [e1, e2, e3, rests_length, useAt_length]
  have HR := Lib.hid hr
  have HC := Lib.hid hcl
  have HL := Lib.hid (fine_of_right hr)
  clear e1 e2 e3 hok hr hcl hx2 hx3 hb1 hb2
  obtain ⟨i0, hi, hz0, hz1, hz2⟩ := info_parts info3
  have s3 := Nat.le_refl w3.heap.size
  go_wp2_with (at_make; refine wpList_make_full w3 rfl _ _ 23 rfl w3.heap.size 3 i0 _ 1 Try.underlying23 hi hz0 hz1 .i64 .i64 _ _ L.length rfl rfl rfl rfl (by rw [hz2]; omega) (by unfold maxLen; omega) s3 ?_; intro w4 own2 hg4)
  rw [zeros] at own2
  have hx4 : Below w3.heap.size w3 w4 := (Below.refl _ _).grown hg4 s3 (fun k e => by cases e)
  have hg2 : w3.heap.size ≤ w3.heap.size := s3
  have hg2' : w3.heap.size < w4.heap.size := (own2.lt _ rfl).2
  obtain ⟨g, hg⟩ : ∃ g, w3.heap.size = g := ⟨_, rfl⟩
  rw [hg] at own2
  rw [hg]
  clear hg4
  go_wp2_with fail
  go_loopw [10] (fun i wr => ∃ k : Nat, k ≤ cs.length ∧ i = .int .i64 k ∧ wr.ownsRow w3.heap.size 3 1 (.slice (some ⟨g, 0, none⟩) L.length L.length) L.length (ints (useAt L cs k)) ∧ Below w3.heap.size w3 wr) (fun i _ => cs.length - (intOf i).toNat)
  case atStart => exact ⟨0, Nat.zero_le _, rfl, by rw [hg]; exact own2, hx4⟩
  case round =>
    clear hx4 own2 hg2'
    obtain ⟨k, hk, rfl, own2, hb0⟩ := hrel
    have hbw := hb3.trans (hb0.mono hb3.size)
    by_cases hlt : k < cs.length
    · obtain ⟨b, o, rfl, hb, e0⟩ := (h2.below hbw).at_ hlt
      obtain ⟨b3, o3, rfl, hb3', r0⟩ := (n1.below hb0).at_ (k := k) (by rw [rests_length]; exact hlt)
      rw [← getD1 (by rw [rests_length]; exact hlt), rests_get hlt] at r0
      rw [← getD1 hlt] at e0
      have hgw := (own2.lt _ rfl).2
      have hgb := (own2.lt _ rfl).1
      have hU : Nums wr wr.heap.size (some ⟨g, 0, none⟩) (useAt L cs k) := by
        obtain ⟨_, _, ev, sh, _, _⟩ := caps_of_own own2
        cases ev
        unfold Nums
        rw [useAt_length]
        exact sh
      have HB := Lib.hid (useAt_bounds HL.out cs k)
      have HP := Lib.hid (fun i hi => payAt_bounds (x := cs.getD k 0) (i := i) HL.out HB.out hi)
      have HQ := Lib.hid (pay_runs HR.out HC.out hlt)
      have HUL := Lib.hid (useAt_length L cs k)
      have hus : useAt L cs (k + 1) = addTo (useAt L cs k) (pays L (useAt L cs k) (cs.getD k 0) L.length) L.length := rfl
      have HUS := Lib.hid hus
      have hx01 := claim_bounds HC.out k hlt
      have hrn := (rest_ge HL.out HB.out hx01.1 L.length (Nat.le_refl _)).1
      have hsm0 := sumTo_pays L (useAt L cs k) (cs.getD k 0) L.length L.length (Nat.le_refl _)
      clear hus
      generalize cs.getD k 0 = x at *
      generalize hUU : useAt L cs k = U at *
      clear hUU
      have hszw := hb0.size
      have hsz3 := hb3.size
      go_wp2_with fail
      refine (pay_n _ _ _ _ L.length L U x wr HUL.out (three_ext hT hbw) hU hl (by omega)).mono ?_
      unfold PaySays
      rw [HQ.out.1, HQ.out.2.1, HQ.out.2.2, pays_length]
      rintro e w5 ⟨v3, rfl, own3, hx5⟩
      obtain ⟨A5, c5, rfl, sh5, _, _⟩ := caps_of_own own3
      have own2 := own_below own2 hx5
      have hb5 := hb0.trans (hx5.mono hb0.size)
      have e0 := ((bcell hx5).1 b _ (by omega)).trans e0
      have r0 := ((bcell hx5).1 b3 _ (by omega)).trans r0
      have HPG := Lib.hid (fun i (hi : i < L.length) => pays_get (L := L) (U := U) (x := x) hi)
      have HPL := Lib.hid (pays_length L U x L.length)
      generalize pays L U x L.length = P at *
      have n5 : Nums w5 w5.heap.size A5 P := by
        unfold Nums
        rw [HPL.out]
        exact sh5
      have hpb : ∀ i, i < P.length → 0 ≤ P.getD i 0 ∧ P.getD i 0 ≤ 1000000000000000 := fun i hi => by
        rw [HPL.out] at hi
        have := HP.out i hi
        rw [HPG.out i hi]
        omega
      have HPB := Lib.hid hpb
      clear hpb
      have hsm : restAt L U x L.length + sumTo P L.length = x := by omega
      clear hsm0
      have wx : IntKind.i64.wrap x = x := IntWalk.i64_in _ (by omega)
      have t1 : decide (restAt L U x L.length < 0) = false := decide_eq_false (by omega)
      clear hrn
      generalize restAt L U x L.length = rv at *
      have hz5 := hx5.size
      have i0' : (0 : Int) ≤ (k : Int) := by omega
      have i1' : (k : Int) < (cs.length : Int) := by omega
      have i3' : b < w5.heap.size := by omega
      have i4' : b3 < w5.heap.size := by omega
      go_wp2_with fail
      refine wp_region_mix [(0, true), (1, true), (2, true), (3, true), (4, true), (5, true), (6, true), (7, true), (8, true), (9, true), (10, true), (11, true), (12, true), (13, true), (14, true), (15, true), (16, true), (17, true), (18, true), (19, true), (20, true), (21, true), (22, true), (23, true), (26, true), (27, true), (28, true), (29, true), (24, false), (25, true), (30, true), (31, true)] [] (SB w5.heap.size w5 w5.heap.size none _) (by kernel_rfl) (by kernel_rfl) (by kernel_rfl) (by kernel_rfl) (by decide) (SB.start (Below.refl _ _) (by omega)) (fun hS => ?_)
      simp only [planned, List.filterMap_cons, List.filterMap_nil, List.getElem?_cons_zero, List.getElem?_cons_succ, Option.map_some]
      repeat (first
        | (refine mix_skip (by rfl) ?_; try simp only [Act.put, List.setIfInBounds_toArray, List.set_cons_zero, List.set_cons_succ])
        | (refine mix_pass hS (by rfl) ?_; try simp only [Act.put, List.setIfInBounds_toArray, List.set_cons_zero, List.set_cons_succ])
        | (refine mix_pure (by rfl) (by rfl) (fun K hK => ?_); go_big_quiet_op; refine hK _ ?_; clear hK K)
        | (refine mix_take (by rfl) ?_
           apply Exists.intro
           refine ⟨?_, ?_⟩
           · intro w' hSw
             have hSc := hSw.cell
             clear hSw
             go_simp
             try with_reducible rfl
           try simp only [Act.put, List.setIfInBounds_toArray, List.set_cons_zero, List.set_cons_succ])
        | (refine mix_move (by rfl) (fun K hK => ?_)
           first
             | (go_simp; go_at_call 17; refine (sum_n A5 L.length c5 P _ HPL.out (num_ext n5 hS.below) (by rw [HPL.out]; omega) HPB.out).mono ?_; rintro e w6 ⟨rfl, hx⟩)
             | go_simp
           try dsimp only
           first
             | refine hK.out _ _ (hS.step hx (by omega)) ?_
             | refine hK.out _ _ hS ?_
             | refine hK.out _ _ (hS.alloc _ (by omega)) ?_
             | refine hK.out _ _ (hS.grown hg hx) ?_
           clear hK K hS
           intro hS
           try simp only [Act.put, List.setIfInBounds_toArray, List.set_cons_zero, List.set_cons_succ])
        | fail)
      refine mix_nil ?_
      simp only [tailed, List.filterMap_nil]
      go_wp2_with fail
      refine NoPanic.normal ?_
      have hx6 := hS.below
      clear hS
      have own2 := own_below own2 hx6
      have own3 := own_below own3 hx6
      have hb6 := hb5.trans (hx6.mono hb5.size)
      obtain ⟨B3, hB3⟩ : ∃ B3, wr.heap.size = B3 := ⟨_, rfl⟩
      rw [hB3] at own3 hgw
      clear hx5 hx6 e0 r0 n5 sh5 hU hbw hB3 hb5
      go_wp2_with fail
      clear wx t1 hsm
      generalize sumTo P L.length = sv
      go_loopw [14] (fun i wj => ∃ j : Nat, j ≤ L.length ∧ i = .int .i64 j ∧ wj.ownsRow w3.heap.size 3 1 (.slice (some ⟨g, 0, none⟩) L.length L.length) L.length (ints (addTo U P j)) ∧ wj.ownsRow B3 3 1 (.slice A5 L.length c5) L.length (ints P) ∧ Below w3.heap.size w3 wj) (fun i _ => L.length - (intOf i).toNat)
      case atStart => exact ⟨0, Nat.zero_le _, rfl, own2, own3, hb6⟩
      case round =>
        clear own2 own3
        obtain ⟨j, hj, rfl, own2, own3, hbj⟩ := hrel
        by_cases hltj : j < L.length
        · obtain ⟨g3, cap3, ev, hg3, hg3', _⟩ := own_form own3 (by omega)
          cases ev
          have hgj := (own2.lt _ rfl).2
          have a0 := own2.cellAt j (by omega)
          rw [ints_getD (by rw [addTo_length, HUL.out]; exact hltj), addTo_get, if_neg (fun h => absurd h.1 (by omega))] at a0
          have af := own2.frozenAt j
          have p0 := own3.cellAt j (by omega)
          rw [ints_getD (by rw [HPL.out]; exact hltj)] at p0
          have q1 := HB.out j hltj
          have q2 := HP.out j hltj
          have q3 := HL.out.2 j hltj
          rw [← HPG.out j hltj] at q2
          have hnx : addTo U P (j + 1) = (addTo U P j).set j (U.getD j 0 + P.getD j 0) := rfl
          have hn2 : (addTo U P (j + 1)).getD j 0 = U.getD j 0 + P.getD j 0 := by rw [addTo_get, if_pos ⟨by omega, by rw [HUL.out]; exact hltj⟩]
          have HNX := Lib.hid hnx
          have HN2 := Lib.hid hn2
          have HPJ := Lib.hid (ints_getD (l := P) (k := j) (by rw [HPL.out]; exact hltj))
          clear hnx hn2
          rw [getD3 hltj] at q1 q2 q3
          generalize U.getD j 0 = uj at *
          generalize P.getD j 0 = pj at *
          have ws : IntKind.i64.wrap (uj + pj) = uj + pj := IntWalk.i64_in _ (by omega)
          have j0 : (0 : Int) ≤ (j : Int) := by omega
          have j1 : (j : Int) < (L.length : Int) := by omega
          have hszj := hbj.size
          go_wp2_with fail
          refine wp_region_mix [(0, true), (1, true), (2, true), (3, true), (4, true), (5, true), (6, true), (7, true), (8, true), (9, true), (10, true)] [11, 12] (SB w3.heap.size w3 wr.heap.size none _) (by kernel_rfl) (by kernel_rfl) (by kernel_rfl) (by kernel_rfl) (by decide) (SB.start hbj (by omega)) (fun hS => ?_)
          simp only [planned, List.filterMap_cons, List.filterMap_nil, List.getElem?_cons_zero, List.getElem?_cons_succ, Option.map_some]
          repeat (first
            | (refine mix_skip (by rfl) ?_; try simp only [Act.put, List.setIfInBounds_toArray, List.set_cons_zero, List.set_cons_succ])
            | (refine mix_pass hS (by rfl) ?_; try simp only [Act.put, List.setIfInBounds_toArray, List.set_cons_zero, List.set_cons_succ])
            | (refine mix_pure (by rfl) (by rfl) (fun K hK => ?_); go_big_quiet_op; refine hK _ ?_; clear hK K)
            | (refine mix_take (by rfl) ?_
               apply Exists.intro
               refine ⟨?_, ?_⟩
               · intro w' hSw
                 have hSc := hSw.cell
                 clear hSw
                 go_simp
                 try with_reducible rfl
               try simp only [Act.put, List.setIfInBounds_toArray, List.set_cons_zero, List.set_cons_succ])
            | (refine mix_move (by rfl) (fun K hK => ?_)
               go_simp
               try dsimp only
               first
                 | refine hK.out _ _ (hS.step hx (by omega)) ?_
                 | refine hK.out _ _ hS ?_
                 | refine hK.out _ _ (hS.alloc _ (by omega)) ?_
                 | refine hK.out _ _ (hS.grown hg hx) ?_
               clear hK K hS
               intro hS
               try simp only [Act.put, List.setIfInBounds_toArray, List.set_cons_zero, List.set_cons_succ])
            | fail)
          refine mix_nil ?_
          simp only [tailed, List.filterMap_cons, List.filterMap_nil, List.getElem?_cons_zero, List.getElem?_cons_succ]
          go_wp2_with fail
          refine NoPanic.normal ?_
          clear hS
          obtain ⟨own2', hgr⟩ := own2.stored j (.int .i64 (uj + pj))
          rw [ints_set, ← HNX.out] at own2'
          have own2' := own2'.drew
          have own3' := (own3.kept hgr (.inr (by simp [Value.ownBlock]; omega))).drew
          have hbj' := (hbj.setCell (p := ⟨g, j, none⟩) (by simp; omega) (.int .i64 (uj + pj))).drew
          clear a0 af p0 ws
          generalize (wr.setCell ⟨g, j, none⟩ (.int .i64 (uj + pj))).drew = wm at own2' own3' hbj' ⊢
          have a1 := own2'.cellAt j (by omega)
          rw [ints_getD (by rw [addTo_length, HUL.out]; exact hltj), HN2.out] at a1
          have p1 := own3'.cellAt j (by omega)
          rw [HPJ.out] at p1
          obtain ⟨bt, ot, rfl, hbt, t0, t1, t2⟩ := (hT.below (hb3.trans (hbj'.mono hb3.size))).at_ hltj
          have hgm := (own2'.lt _ rfl).2
          have hgm3 := (own3'.lt _ rfl).2
          have hszm := hbj'.size
          have i5 : bt < wm.heap.size := by omega
          have d1 : decide (pj < 0) = false := decide_eq_false (by omega)
          have d2 : decide (L[j].c < uj + pj) = false := decide_eq_false (by omega)
          clear q1 q2 q3
          go_wp2_with fail
          refine wp_region_mix [(0, true), (1, true), (2, true), (3, true), (4, true), (5, true), (6, true), (7, true), (8, true), (9, true), (10, true), (11, true), (12, true), (13, true), (14, true), (15, true), (16, true)] [] (SB w3.heap.size w3 wm.heap.size none _) (by kernel_rfl) (by kernel_rfl) (by kernel_rfl) (by kernel_rfl) (by decide) (SB.start hbj' (by omega)) (fun hS => ?_)
          simp only [planned, List.filterMap_cons, List.filterMap_nil, List.getElem?_cons_zero, List.getElem?_cons_succ, Option.map_some]
          repeat (first
            | (refine mix_skip (by rfl) ?_; try simp only [Act.put, List.setIfInBounds_toArray, List.set_cons_zero, List.set_cons_succ])
            | (refine mix_pass hS (by rfl) ?_; try simp only [Act.put, List.setIfInBounds_toArray, List.set_cons_zero, List.set_cons_succ])
            | (refine mix_pure (by rfl) (by rfl) (fun K hK => ?_); go_big_quiet_op; refine hK _ ?_; clear hK K)
            | (refine mix_take (by rfl) ?_
               apply Exists.intro
               refine ⟨?_, ?_⟩
               · intro w' hSw
                 have hSc := hSw.cell
                 clear hSw
                 go_simp
                 try with_reducible rfl
               try simp only [Act.put, List.setIfInBounds_toArray, List.set_cons_zero, List.set_cons_succ])
            | (refine mix_move (by rfl) (fun K hK => ?_)
               go_simp
               try dsimp only
               first
                 | refine hK.out _ _ (hS.step hx (by omega)) ?_
                 | refine hK.out _ _ hS ?_
                 | refine hK.out _ _ (hS.alloc _ (by omega)) ?_
                 | refine hK.out _ _ (hS.grown hg hx) ?_
               clear hK K hS
               intro hS
               try simp only [Act.put, List.setIfInBounds_toArray, List.set_cons_zero, List.set_cons_succ])
            | fail)
          refine mix_nil ?_
          simp only [tailed, List.filterMap_nil]
          go_wp2_with fail
          refine NoPanic.normal ?_
          go_wp2_with fail
          go_roundw
          case rel => exact ⟨j + 1, by omega, by go_num, own2'.drew, own3'.drew, hbj'.drew⟩
          case measure => simp [intOf]; omega
        · obtain rfl : j = L.length := by omega
          rw [← HUS.out] at own2
          go_wp2_with fail
          go_roundw
          case rel => exact ⟨k + 1, by omega, by go_num, own2, hbj⟩
          case measure => simp [intOf]; omega
    · obtain rfl : k = cs.length := by omega
      have hU : Nums wr wr.heap.size (some ⟨g, 0, none⟩) (useAt L cs cs.length) := by
        obtain ⟨_, _, ev, sh, _, _⟩ := caps_of_own own2
        cases ev
        unfold Nums
        rw [useAt_length]
        exact sh
      have n1 := num_ext n1 hb0
      have n2 := num_ext n2 hb0
      have hn6 := HL.out.1
      have k1 := sumTo_bounds (rests_bounds HL.out HC.out) cs.length (by rw [rests_length]; exact Nat.le_refl _)
      have k2 := sumTo_bounds (useAt_bounds' HL.out cs cs.length) L.length (by rw [useAt_length]; exact Nat.le_refl _)
      have k3 := once_sum L cs cs.length cs.length (Nat.le_refl _)
      go_wp2_with fail
      refine (ints_n _ _ L.length L.length _ _ (useAt L cs cs.length) (useAt L cs cs.length) wr (useAt_length _ _ _) (useAt_length _ _ _) hU n2 hl hl).mono ?_
      rw [decide_eq_true rfl]
      rintro e w5 ⟨rfl, hx5⟩
      have hb5 := hbw.trans (hx5.mono hbw.size)
      go_wp2_with fail
      refine (sum_n _ cs.length _ (rests L cs cs.length) w5 (rests_length _ _ _) (num_ext n1 hx5) (by rw [rests_length]; omega) (rests_bounds HL.out HC.out)).mono ?_
      rintro e w6 ⟨rfl, hx6⟩
      have hb6 := hb5.trans (hx6.mono hb5.size)
      go_wp2_with fail
      refine (sum_n _ L.length _ (useAt L cs cs.length) w6 (useAt_length _ _ _) (num_ext (num_ext n2 hx5) hx6) (by rw [useAt_length]; omega) (useAt_bounds' HL.out cs cs.length)).mono ?_
      rintro e w7 ⟨rfl, hx7⟩
      have hb7 := hb6.trans (hx7.mono hb6.size)
      have wx : IntKind.i64.wrap (sumTo (rests L cs cs.length) cs.length + sumTo (useAt L cs cs.length) L.length) = sumTo cs cs.length := by
        rw [← k3]
        exact IntWalk.i64_in _ (by omega)
      go_wp2_with fail
      refine (sum_n _ cs.length _ cs w7 rfl (num_ext h2 hb7) (by omega) (claim_bounds HC.out)).mono ?_
      rintro e w8 ⟨rfl, hx8⟩
      go_wp2_with fail
      go_ret
      exact ⟨rfl, hb7.trans (hx8.mono hb7.size)⟩

theorem tiersOnce_contract (H : Type) (enc : TypeId × Value → H) (W : World) (base : Nat) (args : Array Value) (ds gs : List (DataW H)) (before : List MemPlace)
    (hval : ∀ (j : Nat) t v, Try.f4.params[j]? = some t → args[j]? = some v → Value.okWide Try.prog W .any base t v)
    (hW : DataW.Whole enc Try.prog Try.f4.params.toList Rows.tiersOnceSpec.vars false W args.toList ds gs before) :
    Calls Try.prog 4 args W fun e W' => ∃ v, e = .returned v ∧ Rows.tiersOnceSpec.post enc Try.prog Try.f4 false true false false W args v W' := by
  have hW' := hW
  obtain ⟨p, q, hA0, hV, rfl, hfz, hnd⟩ := hW
  have hA : DataW.TrodAll enc Try.prog W 0 (fun _ => true) true Try.f4.params.toList args.toList ds p := hA0
  have hlt := hA.lt
  rw [Try.params4] at hA hval
  obtain ⟨v0, vs0, d0, ds0, p0, q0, hargs0, rfl, rfl, h0, rr0⟩ := trodAll_cons hA
  obtain ⟨v1, vs1, d1, ds1, p1, q1, rfl, rfl, rfl, h1, rr1⟩ := trodAll_cons rr0
  obtain ⟨rfl, rfl, rfl⟩ := trodAll_nil rr1
  obtain rfl : args = #[v0, v1] := by cases args; simp_all
  obtain ⟨rfl, rfl⟩ := trodVars_none hV
  obtain ⟨A, nn0, c, rfl⟩ := okWide_slice Try.underlying22 (hval 0 22 v0 rfl rfl)
  obtain ⟨fu0, ff0⟩ := h0
  obtain ⟨L, rfl, t0, b0, m0⟩ := open_three (B := W.heap.size) Try.underlying22 Try.underlying36 rfl rfl rfl Try.underlying3 (by kernel_rfl) rfl rfl rfl (by kernel_rfl) (fun y (hy : y ∈ p0) => hlt y (by simp [hy])) ff0
  unfold maxLen at m0
  obtain ⟨A2, nn1, c2, rfl⟩ := okWide_slice Try.underlying23 (hval 1 23 v1 rfl rfl)
  obtain ⟨fu1, ff1⟩ := h1
  obtain ⟨cs, rfl, t1, b1, m1, z1⟩ := open_nums (B := W.heap.size) Try.underlying23 Try.underlying3 (by kernel_rfl) (fun y (hy : y ∈ p1) => hlt y (by simp [hy])) ff1
  unfold maxLen at m1
  refine (once_any A A2 c c2 L cs W t0 t1 (by omega) (by omega)).mono fun e W' ⟨he, hb⟩ => ?_
  subst he
  exact ⟨_, rfl, law_post laidOut Try.underlying4 rfl (by kernel_rfl) rfl hW' rfl hb⟩
set_option maxRecDepth 100000 in
theorem tiersOnce_lifted (os : Os) (started : os.Started) (H : Type) (enc : TypeId × Value → H) :
    ReturnsInHanded {} Try.checked os 4 .any (Rows.tiersOnceSpec.pre6 enc Try.prog Try.f4 Rows.tiersOnceRow.domain false) (Rows.tiersOnceSpec.post enc Try.prog Try.f4 false true false false) := by
  refine returnsInHanded_of_change (C := Try.checked) own started (by kernel_rfl) Try.func4
    (ChangeSpec.witness6 (enc := enc) (C := Try.checked) false ⟨#[], #[.slice none 0 0, .slice none 0 0], []⟩ 8 (by kernel_rfl) (by kernel_rfl) (by kernel_rfl) (by kernel_rfl)) ?_
  intro W base args ds gs before hval hW _ _
  exact tiersOnce_contract H enc W base args ds gs before hval hW
theorem tiersOnce_holds : Rows.TiersOnceSaid :=
  OpenClaim.holds_of_wide 4 Try.f4 rfl rfl rfl rfl rfl rfl rfl ⟨rfl, rfl, rfl, rfl, rfl⟩ rfl rfl rfl rfl rfl (by kernel_rfl) Try.func4 (by kernel_rfl)
    (of_decide_eq_true (by kernel_rfl)) (by unfold Func.isWrapper; first | (rw [if_pos (by decide +kernel)]; kernel_rfl) | (rw [if_neg (by decide +kernel)]; exact ⟨rfl, rfl⟩))
    (fun os started H enc _ => tiersOnce_lifted os started H enc)
end Go.Proofs.Ytcienmbbfcljnaa
