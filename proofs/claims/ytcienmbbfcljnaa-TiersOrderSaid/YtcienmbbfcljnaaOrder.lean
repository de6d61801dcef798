/-
  TiersOrder: what has been used is the sum of the parts, at most the Cap; the order of the claims makes no difference. Conditions: none.
-/
import Derived.Test.YtcienmbbfcljnaaLawB
import Derived.Test.YtcienmbbfcljnaaOnce
namespace Go.Proofs.Ytcienmbbfcljnaa
open Go.ChangeShapes Go.WideShapes Go.ChangeAt Go.RowKit Go.Deep Go.Joins

theorem run_n (A A2 : Option Addr) (c n c2 : Nat) (L : List P3) (cs : List Int) (w : World) (hn : cs.length = n) (h : Three w w.heap.size A L) (h2 : Nums w w.heap.size A2 cs) (hl : L.length ≤ 9223372036854775807) (hl2 : n ≤ 9223372036854775807) :
    Calls Try.prog 12 #[.slice A L.length c, .slice A2 n c2] w (RunSays L cs w) := by
  subst hn
  exact run_any A A2 c c2 L cs w h h2 hl hl2
theorem nums_oneCells (l : List Int) : ∀ u ∈ ints l, u.oneCell' = true := by
  intro u hu
  obtain ⟨x, _, rfl⟩ := List.mem_map.1 hu
  rfl

def usedOf (L : List P3) (cs : List Int) (n i : Nat) : Int := (useAt L cs n).getD i 0
set_option maxHeartbeats 16000000 in
set_option maxRecDepth 100000 in
theorem order_any (A A2 : Option Addr) (c c2 : Nat) (L : List P3) (cs : List Int) (f s : Int) (w : World) (h : Three w w.heap.size A L) (h2 : Nums w w.heap.size A2 cs)
    (hl : L.length ≤ 9223372036854775807) (hl2 : cs.length ≤ 9223372036854775807) (hf0 : 0 ≤ f) (hf1 : f ≤ 255) (hs0 : 0 ≤ s) (hs1 : s ≤ 255) :
    Calls Try.prog 5 #[.slice A L.length c, .slice A2 cs.length c2, .int .u8 f, .int .u8 s] w fun e w' => e = .returned (.bool true) ∧ Below w.heap.size w w' := by
  have hT := h
  clear h
  go_enter Try.func5, Try.ntmps5
  go_wp2_with fail
  refine (small_any _).mono ?_
  rintro e w1 ⟨rfl, hb1⟩
  go_wp2_with fail
  refine (few_any _ _ _ _ _ _ _ _ _ _).mono ?_
  rintro e w2 ⟨rfl, hx2⟩
  have hb2 := hb1.trans (hx2.mono hb1.size)
  cases hfew : (decide (L.length ≤ 8) && decide (0 ≤ 8) && decide (cs.length ≤ 30))
  · clear hfew
    go_wp2_with fail
    go_ret
    exact ⟨rfl, hb2⟩
  have hfw : L.length ≤ 8 ∧ cs.length ≤ 30 := by simpa using hfew
  obtain ⟨hl8, hc30⟩ := hfw
  clear hfew
  go_wp2_with fail
  refine (run_any _ _ _ _ _ _ _ (three_ext hT hb2) (num_ext h2 hb2) hl hl2).mono ?_
  rintro e w3 ⟨A3, c3, A4, c4, _, rfl, n1, n2, hx3⟩
  have hb3 := hb2.trans (hx3.mono hb2.size)
  cases hok : okRun L cs
  · have e1 : runE L cs = 1 := by simp [runE, hok]
    rw [e1]
    clear e1 n1 n2 hok
    go_wp2_with fail
    go_ret
    exact ⟨rfl, hb3⟩
  have hok' := hok
  simp only [okRun, Bool.and_eq_true] at hok'
  obtain ⟨hr, hcl⟩ := hok'
  have e1 : runE L cs = 0 := by simp [runE, hok]; omega
  have e2 : runR L cs = rests L cs cs.length := by simp [runR, hok]; omega
  have e3 : runU L cs = useAt L cs cs.length := by simp [runU, hok]; omega
  rw [e2] at n1
  rw [e3] at n2
  rw [e1, e2, e3, rests_length, useAt_length]
  have HR := Lib.hid hr
  have HC := Lib.hid hcl
  have HL := Lib.hid (fine_of_right hr)
  clear e1 e2 e3 hok hr hcl hx2 hx3 hb1 hb2
  obtain ⟨i0, hi, hz0, hz1, hz2⟩ := info_parts info3
  have wn1 : IntKind.i64.wrap ((cs.length : Int) - 1) = (cs.length : Int) - 1 := IntWalk.i64_in _ (by omega)
  go_wp2_with fail
  go_loopw [13, 14] (fun v i wr => ∃ m : Nat, m ≤ cs.length ∧ i = .int .i64 ((cs.length : Int) - 1 - m) ∧ wr.ownsRow w3.heap.size 3 1 v m (ints (cs.reverse.take m)) ∧ Below w3.heap.size w3 wr) (fun _ i _ => (intOf i + 1).toNat)
  case atStart => exact ⟨0, Nat.zero_le _, by go_num, World.ownsRow_nil _ _ _ _, Below.refl _ _⟩
  case round =>
    clear wn1
    obtain ⟨m, hm, rfl, own1, hb0⟩ := hrel
    generalize u13 = v at own1 ⊢
    have hbw := hb3.trans (hb0.mono hb3.size)
    have hszw := hb0.size
    by_cases hlt : m < cs.length
    · obtain ⟨q, hq⟩ : ∃ q : Nat, (cs.length : Int) - 1 - m = (q : Int) := ⟨cs.length - 1 - m, by omega⟩
      have hqn : q < cs.length := by omega
      obtain ⟨b, o, rfl, hb, e0⟩ := (h2.below hbw).at_ hqn
      rw [← getD1 hqn] at e0
      have HS := Lib.hid (back_snoc hlt)
      have hqe : cs.length - 1 - m = q := by omega
      rw [hqe] at HS
      rw [hq]
      have HQ := Lib.hid hq
      have wq : IntKind.i64.wrap ((q : Int) - 1) = (q : Int) - 1 := IntWalk.i64_in _ (by omega)
      clear hq hqe
      generalize cs.getD q 0 = x at *
      go_wp2_with (first | (at_builtin; refine push_own rfl _ _ 23 rfl w3.heap.size 3 i0 (.int .i64 0) 1 8 Try.underlying23 hi hz0 hz1 hz2 rfl (by decide) _ _ _ _ rfl own1 1 1 [.int .i64 x] rfl rfl (by simp [Value.oneCell']) hszw (by omega) (by omega) ?_; intro v1' wa own1' hba hga))
      go_roundw
      case rel => exact ⟨m + 1, by omega, by have := HQ.out; congr 1; omega, by rw [← HS.out]; exact own1', hb0.trans hba⟩
      case measure => have := HQ.out; simp [intOf] <;> omega
    · obtain rfl : m = cs.length := by omega
      have hneg : decide ((0 : Int) ≤ (cs.length : Int) - 1 - (cs.length : Int)) = false := decide_eq_false (by omega)
      rw [show (cs.length : Int) - 1 - (cs.length : Int) = -1 from by omega]
      obtain ⟨A5, c5, rfl, nb, _, _⟩ := caps_of_own own1
      rw [show cs.reverse.take cs.length = cs.reverse from by rw [← List.length_reverse, List.take_length]] at nb
      have nb : Nums wr wr.heap.size A5 cs.reverse := by
        unfold Nums
        rw [List.length_reverse]
        exact nb
      clear own1 hneg
      go_wp2_with (at_builtin; refine wpList_app rfl _ _ 23 rfl wr.heap.size 3 i0 _ 1 8 Try.underlying23 hi hz0 hz1 hz2 rfl (by decide) _ _ 0 [] rfl (World.ownsRow_lit wr #[] 0 (Nat.le_refl _) (by decide) rfl) wr.heap.size A2 cs.length c2 (ints cs) rfl (Shows.alloc (num_ext h2 hbw) (Nat.le_refl _) _) (nums_oneCells cs) (by simp) (by omega) (by omega) ?_)
      intro v2 w4 own2 hx4 _
      have hx4 := ((Below.refl wr.heap.size wr).alloc (Nat.le_refl _) (.cells #[] 3)).trans hx4
      have hz4 := hx4.size
      by_cases hpos : 0 < cs.length
      · have hn0 : (cs.length : Int) ≠ 0 := by omega
        obtain ⟨a, ha⟩ : ∃ a : Nat, f % (cs.length : Int) = (a : Int) := ⟨(f % (cs.length : Int)).toNat, by
          have := Int.emod_nonneg f hn0
          omega⟩
        obtain ⟨d, hd⟩ : ∃ d : Nat, s % (cs.length : Int) = (d : Int) := ⟨(s % (cs.length : Int)).toNat, by
          have := Int.emod_nonneg s hn0
          omega⟩
        have hal : a < cs.length := by
          have := Int.emod_lt_of_pos f (show 0 < (cs.length : Int) by omega)
          omega
        have hdl : d < cs.length := by
          have := Int.emod_lt_of_pos s (show 0 < (cs.length : Int) by omega)
          omega
        have HPM := Lib.hid (swap_perm hal hdl)
        obtain ⟨g, cap, rfl, hg, hg', _⟩ := own_form own2 hpos
        obtain ⟨b, o, rfl, hb, ea⟩ := (h2.below (hbw.trans (hx4.mono hbw.size))).at_ hal
        obtain ⟨b', o', q1, _, ed⟩ := (h2.below (hbw.trans (hx4.mono hbw.size))).at_ hdl
        cases q1
        rw [← getD1 hal] at ea
        rw [← getD1 hdl] at ed
        have wf : IntKind.i64.wrap f = f := IntWalk.i64_in _ (by omega)
        have wsx : IntKind.i64.wrap s = s := IntWalk.i64_in _ (by omega)
        have a0 : (0 : Int) ≤ (a : Int) := by omega
        have a1 : (a : Int) < (cs.length : Int) := by omega
        have d0 : (0 : Int) ≤ (d : Int) := by omega
        have d1 : (d : Int) < (cs.length : Int) := by omega
        have hww := hbw.size
        have hne : ¬ b = g := by omega
        have f1 := own2.frozenAt a
        have f2 := own2.frozenAt d
        have ca := own2.cellAt a (by omega)
        have cd := own2.cellAt d (by omega)
        rw [ints_getD hal] at ca
        rw [ints_getD hdl] at cd
        obtain ⟨own2, hgr⟩ := own2.stored a (.int .i64 (cs.getD d 0))
        obtain ⟨own2, hgr2⟩ := own2.stored d (.int .i64 (cs.getD a 0))
        rw [ints_set, ints_set] at own2
        have hx5 := (hx4.setCell (p := ⟨g, a, none⟩) (by simp; omega) (.int .i64 (cs.getD d 0))).setCell (p := ⟨g, d, none⟩) (by simp; omega) (.int .i64 (cs.getD a 0))
        have hds : ((cs.set a (cs.getD d 0)).set d (cs.getD a 0)).length = cs.length := by simp
        have HDS := Lib.hid hds
        clear hds hgr hgr2
        generalize hDD : (cs.set a (cs.getD d 0)).set d (cs.getD a 0) = DS at *
        clear hDD
        by_cases had : a = d
        · subst had
          generalize cs.getD a 0 = xa at *
          go_wp2_with fail
          generalize (w4.setCell ⟨g, a, none⟩ (.int .i64 xa)).setCell ⟨g, a, none⟩ (.int .i64 xa) = w5 at own2 hx5 ⊢
          obtain ⟨AT, CT, ev, nD, _, _⟩ := caps_of_own own2
          cases ev
          have nD : Nums w5 w5.heap.size (some ⟨g, 0, none⟩) DS := by
            unfold Nums
            rw [HDS.out]
            exact nD
          clear own2 ea ed ca cd f1 f2 HDS
          have hbW := hbw.trans (hx5.mono hbw.size)
          have n1 := num_ext (num_ext n1 hb0) hx5
          have n2 := num_ext (num_ext n2 hb0) hx5
          have hn6 := HL.out.1
          obtain ⟨r1, r2, r3, r4, r5⟩ := run_perm (L := L) (List.reverse_perm cs).symm HR.out HC.out (by omega)
          refine (run_n _ A5 _ cs.length _ L cs.reverse w5 r4 (three_ext hT hbW) (num_ext nb hx5) hl hl2).mono ?_
          unfold RunSays
          rw [r1, r2, r3, rests_length, r4, useAt_length]
          rw [r4] at r5
          have HS1 := Lib.hid r5
          clear r1 r2 r3 r5
          rintro e w6 ⟨A6, c6, A7, c7, _, rfl, n6, n7, hx6⟩
          have hb6 := hbW.trans (hx6.mono hbW.size)
          have nD := num_ext nD hx6
          have n1 := num_ext n1 hx6
          have n2 := num_ext n2 hx6
          have hrl : cs.reverse.length = cs.length := r4
          go_wp2_with fail
          obtain ⟨r1, r2, r3, r4, r5⟩ := run_perm (L := L) HPM.out HR.out HC.out (by omega)
          refine (run_n _ (some ⟨g, 0, none⟩) _ cs.length _ L DS w6 r4 (three_ext hT hb6) nD hl hl2).mono ?_
          unfold RunSays
          rw [r1, r2, r3, rests_length, r4, useAt_length]
          rw [r4] at r5
          have HS2 := Lib.hid r5
          clear r1 r2 r3 r4 r5
          rintro e w7 ⟨A8, c8, A9, c9, _, rfl, n8, n9, hx7⟩
          have hb7 := hb6.trans (hx7.mono hb6.size)
          have n1 := num_ext n1 hx7
          have n2 := num_ext n2 hx7
          have n6 := num_ext n6 hx7
          have n7 := num_ext n7 hx7
          go_wp2_with fail
          refine (ints_n A7 _ L.length L.length c7 _ _ _ w7 (useAt_length _ _ _) (useAt_length _ _ _) n7 n2 hl hl).mono ?_
          rw [decide_eq_true rfl]
          rintro e w8 ⟨rfl, hx8⟩
          have hb8 := hb7.trans (hx8.mono hb7.size)
          have n1 := num_ext n1 hx8
          have n2 := num_ext n2 hx8
          have n6 := num_ext n6 hx8
          have n8 := num_ext n8 hx8
          have n9 := num_ext n9 hx8
          go_wp2_with fail
          refine (ints_n A9 _ L.length L.length c9 _ _ _ w8 (useAt_length _ _ _) (useAt_length _ _ _) n9 n2 hl hl).mono ?_
          rw [decide_eq_true rfl]
          rintro e w9 ⟨rfl, hx9⟩
          have hb9 := hb8.trans (hx9.mono hb8.size)
          have n1 := num_ext n1 hx9
          have n2 := num_ext n2 hx9
          have n6 := num_ext n6 hx9
          have n8 := num_ext n8 hx9
          clear n7 n9 nD hx6 hx7 hx8 hx9 hb6 hb7 hb8 hx5 hx4 nb hrl
          go_wp2_with fail
          go_loopw [24] (fun i wi => ∃ i' : Nat, i' ≤ L.length ∧ i = .int .i64 i' ∧ Below w9.heap.size w9 wi) (fun i _ => L.length - (intOf i).toNat)
          case atStart => exact ⟨0, Nat.zero_le _, rfl, Below.refl _ _⟩
          case round =>
            obtain ⟨i', hi', rfl, hbi⟩ := hrel
            by_cases hlti : i' < L.length
            · have hd := HL.out.2 i' hlti
              have hub := useAt_sum HL.out cs hlti cs.length
              have HPB := Lib.hid (partSum_bounds (t := L.getD i' ⟨0, 0, 0⟩) (by omega) (by omega) (by omega) cs)
              have HPN : ∀ k, partSum (L.getD i' ⟨0, 0, 0⟩) cs (k + 1) = partSum (L.getD i' ⟨0, 0, 0⟩) cs k + part (L.getD i' ⟨0, 0, 0⟩) (cs.getD k 0) := fun _ => rfl
              have HPN := Lib.hid HPN
              have hz0' : partSum (L.getD i' ⟨0, 0, 0⟩) cs 0 = 0 := rfl
              have HZ := Lib.hid hz0'
              have HUB := Lib.hid hub
              clear hz0' hub
              rw [getD3 hlti] at hd HPB HPN HZ HUB
              generalize hSS : partSum L[i'] cs = SS at *
              clear hSS
              go_wp2_with fail
              go_loopw [25, 26] (fun a k wk => ∃ k' : Nat, k' ≤ cs.length ∧ k = .int .i64 k' ∧ a = .int .i64 (SS k') ∧ Below w9.heap.size w9 wk) (fun _ k _ => cs.length - (intOf k).toNat)
              case atStart => exact ⟨0, Nat.zero_le _, rfl, by rw [HZ.out], hbi⟩
              case round =>
                obtain ⟨k', hk', rfl, rfl, hbk⟩ := hrel
                have hbwk := hb9.trans (hbk.mono hb9.size)
                obtain ⟨bt, ot, rfl, hbt, e0, e1, e2⟩ := (hT.below hbwk).at_ hlti
                have hszk := hbwk.size
                have j0 : (0 : Int) ≤ (i' : Int) := by omega
                have j1 : (i' : Int) < (L.length : Int) := by omega
                have i5 : bt < wr.heap.size := by omega
                have hs1 := HPB.out k'
                generalize L[i'] = t at hd HPN HUB e0 e1 e2
                by_cases hltk : k' < cs.length
                · obtain ⟨bb, ob, qe, hbb, f0⟩ := (h2.below hbwk).at_ hltk
                  have i6 : bb < wr.heap.size := by omega
                  cases qe
                  rw [← getD1 hltk] at f0
                  have hnx := HPN.out k'
                  have HNX := Lib.hid hnx
                  have hx01 := claim_bounds HC.out k' hltk
                  have j2 : (0 : Int) ≤ (k' : Int) := by omega
                  have j3 : (k' : Int) < (cs.length : Int) := by omega
                  clear hnx
                  generalize cs.getD k' 0 = x at *
                  have dp := part_bounds (t := t) (x := x) (by omega) (by omega) (by omega)
                  by_cases p1 : t.b < x
                  · have hp : part t x = t.b - t.a := by unfold part; rw [if_neg (by omega), if_pos (by omega)]
                    rw [hp] at HNX dp
                    clear hp
                    have ws : IntKind.i64.wrap (SS k' + (t.b - t.a)) = SS k' + (t.b - t.a) := IntWalk.i64_in _ (by omega)
                    go_wp2_with fail
                    refine wp_region_mix [(0, true), (1, true), (2, true), (3, true), (4, true), (5, true), (6, true), (7, true), (8, true), (9, true), (10, true), (11, true), (12, true), (13, true), (14, true), (15, true), (16, true), (17, true), (18, true)] [19] (SB w9.heap.size w9 wr.heap.size none _) (by kernel_rfl) (by kernel_rfl) (by kernel_rfl) (by kernel_rfl) (by decide) (SB.start hbk (by omega)) (fun hS => ?_)
                    simp only [planned, List.filterMap_cons, List.filterMap_nil, List.getElem?_cons_zero, List.getElem?_cons_succ, Option.map_some]
                    repeat (first
                      | (refine mix_skip (by rfl) ?_; try simp only [Act.put, List.setIfInBounds_toArray, List.set_cons_zero, List.set_cons_succ])
                      | (refine mix_pass hS (by rfl) ?_; try simp only [Act.put, List.setIfInBounds_toArray, List.set_cons_zero, List.set_cons_succ])
                      | (refine mix_pure (by rfl) (by rfl) (fun K hK => ?_); go_big_quiet_op; refine hK _ ?_; clear hK K)
                      | (refine mix_take (by rfl) ?_
                         apply Exists.intro
                         refine ⟨?_, ?_⟩
                         · intro w' hSw
                           have hSc := hSw.cell
                           clear hSw
                           go_simp
                           try with_reducible rfl
                         try simp only [Act.put, List.setIfInBounds_toArray, List.set_cons_zero, List.set_cons_succ])
                      | (refine mix_move (by rfl) (fun K hK => ?_)
                         go_simp
                         try dsimp only
                         first
                           | refine hK.out _ _ (hS.step hx (by omega)) ?_
                           | refine hK.out _ _ hS ?_
                           | refine hK.out _ _ (hS.alloc _ (by omega)) ?_
                           | refine hK.out _ _ (hS.grown hg hx) ?_
                         clear hK K hS
                         intro hS
                         try simp only [Act.put, List.setIfInBounds_toArray, List.set_cons_zero, List.set_cons_succ])
                      | fail)
                    refine mix_nil ?_
                    simp only [tailed, List.filterMap_cons, List.filterMap_nil, List.getElem?_cons_zero, List.getElem?_cons_succ]
                    go_wp2_with fail
                    refine NoPanic.normal ?_
                    go_wp2_with fail
                    go_roundw
                    case rel => exact ⟨k' + 1, by omega, by go_num, by rw [HNX.out] <;> go_num, hbk.drew⟩
                    case measure => simp [intOf]; omega
                  · by_cases p2 : t.a < x
                    · have hp : part t x = x - t.a := by
                        unfold part
                        rw [if_neg (by omega)]
                        split <;> omega
                      rw [hp] at HNX dp
                      clear hp
                      have ws : IntKind.i64.wrap (SS k' + (x - t.a)) = SS k' + (x - t.a) := IntWalk.i64_in _ (by omega)
                      go_wp2_with fail
                      refine wp_region_mix [(0, true), (1, true), (2, true), (3, true), (4, true), (5, true), (6, true), (7, true), (8, true), (9, true), (10, true), (11, true), (12, true), (13, true), (14, true), (15, true), (16, true), (17, true), (18, true)] [19] (SB w9.heap.size w9 wr.heap.size none _) (by kernel_rfl) (by kernel_rfl) (by kernel_rfl) (by kernel_rfl) (by decide) (SB.start hbk (by omega)) (fun hS => ?_)
                      simp only [planned, List.filterMap_cons, List.filterMap_nil, List.getElem?_cons_zero, List.getElem?_cons_succ, Option.map_some]
                      repeat (first
                        | (refine mix_skip (by rfl) ?_; try simp only [Act.put, List.setIfInBounds_toArray, List.set_cons_zero, List.set_cons_succ])
                        | (refine mix_pass hS (by rfl) ?_; try simp only [Act.put, List.setIfInBounds_toArray, List.set_cons_zero, List.set_cons_succ])
                        | (refine mix_pure (by rfl) (by rfl) (fun K hK => ?_); go_big_quiet_op; refine hK _ ?_; clear hK K)
                        | (refine mix_take (by rfl) ?_
                           apply Exists.intro
                           refine ⟨?_, ?_⟩
                           · intro w' hSw
                             have hSc := hSw.cell
                             clear hSw
                             go_simp
                             try with_reducible rfl
                           try simp only [Act.put, List.setIfInBounds_toArray, List.set_cons_zero, List.set_cons_succ])
                        | (refine mix_move (by rfl) (fun K hK => ?_)
                           go_simp
                           try dsimp only
                           first
                             | refine hK.out _ _ (hS.step hx (by omega)) ?_
                             | refine hK.out _ _ hS ?_
                             | refine hK.out _ _ (hS.alloc _ (by omega)) ?_
                             | refine hK.out _ _ (hS.grown hg hx) ?_
                           clear hK K hS
                           intro hS
                           try simp only [Act.put, List.setIfInBounds_toArray, List.set_cons_zero, List.set_cons_succ])
                        | fail)
                      refine mix_nil ?_
                      simp only [tailed, List.filterMap_cons, List.filterMap_nil, List.getElem?_cons_zero, List.getElem?_cons_succ]
                      go_wp2_with fail
                      refine NoPanic.normal ?_
                      go_wp2_with fail
                      go_roundw
                      case rel => exact ⟨k' + 1, by omega, by go_num, by rw [HNX.out] <;> go_num, hbk.drew⟩
                      case measure => simp [intOf]; omega
                    · have hp : part t x = 0 := by unfold part; rw [if_pos (by omega)]
                      rw [hp] at HNX dp
                      clear hp
                      have ws : IntKind.i64.wrap (SS k' + (0)) = SS k' + (0) := IntWalk.i64_in _ (by omega)
                      go_wp2_with fail
                      refine wp_region_mix [(0, true), (1, true), (2, true), (3, true), (4, true), (5, true), (6, true), (7, true), (8, true), (9, true), (10, true), (11, true), (12, true), (13, true), (14, true), (15, true), (16, true), (17, true), (18, true)] [19] (SB w9.heap.size w9 wr.heap.size none _) (by kernel_rfl) (by kernel_rfl) (by kernel_rfl) (by kernel_rfl) (by decide) (SB.start hbk (by omega)) (fun hS => ?_)
                      simp only [planned, List.filterMap_cons, List.filterMap_nil, List.getElem?_cons_zero, List.getElem?_cons_succ, Option.map_some]
                      repeat (first
                        | (refine mix_skip (by rfl) ?_; try simp only [Act.put, List.setIfInBounds_toArray, List.set_cons_zero, List.set_cons_succ])
                        | (refine mix_pass hS (by rfl) ?_; try simp only [Act.put, List.setIfInBounds_toArray, List.set_cons_zero, List.set_cons_succ])
                        | (refine mix_pure (by rfl) (by rfl) (fun K hK => ?_); go_big_quiet_op; refine hK _ ?_; clear hK K)
                        | (refine mix_take (by rfl) ?_
                           apply Exists.intro
                           refine ⟨?_, ?_⟩
                           · intro w' hSw
                             have hSc := hSw.cell
                             clear hSw
                             go_simp
                             try with_reducible rfl
                           try simp only [Act.put, List.setIfInBounds_toArray, List.set_cons_zero, List.set_cons_succ])
                        | (refine mix_move (by rfl) (fun K hK => ?_)
                           go_simp
                           try dsimp only
                           first
                             | refine hK.out _ _ (hS.step hx (by omega)) ?_
                             | refine hK.out _ _ hS ?_
                             | refine hK.out _ _ (hS.alloc _ (by omega)) ?_
                             | refine hK.out _ _ (hS.grown hg hx) ?_
                           clear hK K hS
                           intro hS
                           try simp only [Act.put, List.setIfInBounds_toArray, List.set_cons_zero, List.set_cons_succ])
                        | fail)
                      refine mix_nil ?_
                      simp only [tailed, List.filterMap_cons, List.filterMap_nil, List.getElem?_cons_zero, List.getElem?_cons_succ]
                      go_wp2_with fail
                      refine NoPanic.normal ?_
                      go_wp2_with fail
                      go_roundw
                      case rel => exact ⟨k' + 1, by omega, by go_num, by rw [HNX.out] <;> go_num, hbk.drew⟩
                      case measure => simp [intOf]; omega
                · obtain rfl : k' = cs.length := by omega
                  obtain ⟨bu, ou, qe, hbu, u0⟩ := (n2.below hbk).at_ (k := i') (by rw [useAt_length]; exact hlti)
                  have i7 : bu < wr.heap.size := Nat.lt_of_lt_of_le hbu hbk.size
                  cases qe
                  rw [← getD1 (by rw [useAt_length]; exact hlti)] at u0
                  have hmn : usedOf L cs cs.length i' = mn (SS cs.length) t.c := HUB.out
                  change wr.cell? ⟨bu, ou + i', none⟩ = some (.int .i64 (usedOf L cs cs.length i')) at u0
                  by_cases p1 : t.c < SS cs.length
                  · have hu : usedOf L cs cs.length i' = t.c := by rw [hmn, mn, if_pos p1]
                    rw [hu] at u0
                    clear hu hmn
                    go_wp2_with fail
                    refine wp_region_mix [(0, true), (1, true), (2, true), (3, true), (4, true), (5, true), (6, true), (7, true), (8, true), (9, true), (10, true), (11, true)] [] (SB w9.heap.size w9 wr.heap.size none _) (by kernel_rfl) (by kernel_rfl) (by kernel_rfl) (by kernel_rfl) (by decide) (SB.start hbk (by omega)) (fun hS => ?_)
                    simp only [planned, List.filterMap_cons, List.filterMap_nil, List.getElem?_cons_zero, List.getElem?_cons_succ, Option.map_some]
                    repeat (first
                      | (refine mix_skip (by rfl) ?_; try simp only [Act.put, List.setIfInBounds_toArray, List.set_cons_zero, List.set_cons_succ])
                      | (refine mix_pass hS (by rfl) ?_; try simp only [Act.put, List.setIfInBounds_toArray, List.set_cons_zero, List.set_cons_succ])
                      | (refine mix_pure (by rfl) (by rfl) (fun K hK => ?_); go_big_quiet_op; refine hK _ ?_; clear hK K)
                      | (refine mix_take (by rfl) ?_
                         apply Exists.intro
                         refine ⟨?_, ?_⟩
                         · intro w' hSw
                           have hSc := hSw.cell
                           clear hSw
                           go_simp
                           try with_reducible rfl
                         try simp only [Act.put, List.setIfInBounds_toArray, List.set_cons_zero, List.set_cons_succ])
                      | (refine mix_move (by rfl) (fun K hK => ?_)
                         go_simp
                         try dsimp only
                         first
                           | refine hK.out _ _ (hS.step hx (by omega)) ?_
                           | refine hK.out _ _ hS ?_
                           | refine hK.out _ _ (hS.alloc _ (by omega)) ?_
                           | refine hK.out _ _ (hS.grown hg hx) ?_
                         clear hK K hS
                         intro hS
                         try simp only [Act.put, List.setIfInBounds_toArray, List.set_cons_zero, List.set_cons_succ])
                      | fail)
                    refine mix_nil ?_
                    simp only [tailed, List.filterMap_nil]
                    go_wp2_with fail
                    refine NoPanic.normal ?_
                    go_wp2_with fail
                    go_roundw
                    case rel => exact ⟨i' + 1, by omega, by go_num, hbk.drew⟩
                    case measure => simp [intOf]; omega
                  · have hu : usedOf L cs cs.length i' = SS cs.length := by rw [hmn, mn, if_neg p1]
                    rw [hu] at u0
                    clear hu hmn
                    go_wp2_with fail
                    refine wp_region_mix [(0, true), (1, true), (2, true), (3, true), (4, true), (5, true), (6, true), (7, true), (8, true), (9, true), (10, true), (11, true)] [] (SB w9.heap.size w9 wr.heap.size none _) (by kernel_rfl) (by kernel_rfl) (by kernel_rfl) (by kernel_rfl) (by decide) (SB.start hbk (by omega)) (fun hS => ?_)
                    simp only [planned, List.filterMap_cons, List.filterMap_nil, List.getElem?_cons_zero, List.getElem?_cons_succ, Option.map_some]
                    repeat (first
                      | (refine mix_skip (by rfl) ?_; try simp only [Act.put, List.setIfInBounds_toArray, List.set_cons_zero, List.set_cons_succ])
                      | (refine mix_pass hS (by rfl) ?_; try simp only [Act.put, List.setIfInBounds_toArray, List.set_cons_zero, List.set_cons_succ])
                      | (refine mix_pure (by rfl) (by rfl) (fun K hK => ?_); go_big_quiet_op; refine hK _ ?_; clear hK K)
                      | (refine mix_take (by rfl) ?_
                         apply Exists.intro
                         refine ⟨?_, ?_⟩
                         · intro w' hSw
                           have hSc := hSw.cell
                           clear hSw
                           go_simp
                           try with_reducible rfl
                         try simp only [Act.put, List.setIfInBounds_toArray, List.set_cons_zero, List.set_cons_succ])
                      | (refine mix_move (by rfl) (fun K hK => ?_)
                         go_simp
                         try dsimp only
                         first
                           | refine hK.out _ _ (hS.step hx (by omega)) ?_
                           | refine hK.out _ _ hS ?_
                           | refine hK.out _ _ (hS.alloc _ (by omega)) ?_
                           | refine hK.out _ _ (hS.grown hg hx) ?_
                         clear hK K hS
                         intro hS
                         try simp only [Act.put, List.setIfInBounds_toArray, List.set_cons_zero, List.set_cons_succ])
                      | fail)
                    refine mix_nil ?_
                    simp only [tailed, List.filterMap_nil]
                    go_wp2_with fail
                    refine NoPanic.normal ?_
                    go_wp2_with fail
                    go_roundw
                    case rel => exact ⟨i' + 1, by omega, by go_num, hbk.drew⟩
                    case measure => simp [intOf]; omega
            · have hbwi := hb9.trans (hbi.mono hb9.size)
              have hrd := claims_perm HPM.out HC.out
              have hrb := claims_perm (List.reverse_perm cs).symm HC.out
              have k1 := rests_bounds HL.out HC.out
              have k2 := rests_bounds HL.out hrd
              have k3 := rests_bounds HL.out hrb
              rw [← HPM.out.length_eq] at k2
              rw [List.length_reverse] at k3
              clear hrd hrb
              go_wp2_with fail
              refine (sum_n _ cs.length _ (rests L cs.reverse cs.length) wr (rests_length _ _ _) (num_ext n6 hbi) (by rw [rests_length]; omega) k3).mono ?_
              rw [HS1.out]
              rintro e wa ⟨rfl, hxa⟩
              have hba := hbwi.trans (hxa.mono hbwi.size)
              go_wp2_with fail
              refine (sum_n _ cs.length _ (rests L cs cs.length) wa (rests_length _ _ _) (num_ext (num_ext n1 hbi) hxa) (by rw [rests_length]; omega) k1).mono ?_
              rintro e wb ⟨rfl, hxb⟩
              have hbb := hba.trans (hxb.mono hba.size)
              go_wp2_with fail
              refine (sum_n _ cs.length _ (rests L DS cs.length) wb (rests_length _ _ _) (num_ext (num_ext (num_ext n8 hbi) hxa) hxb) (by rw [rests_length]; omega) k2).mono ?_
              try rw [HS2.out]
              rintro e wc ⟨rfl, hxc⟩
              have hbc := hbb.trans (hxc.mono hbb.size)
              go_wp2_with fail
              refine (sum_n _ cs.length _ (rests L cs cs.length) wc (rests_length _ _ _) (num_ext (num_ext (num_ext (num_ext n1 hbi) hxa) hxb) hxc) (by rw [rests_length]; omega) k1).mono ?_
              rintro e wd ⟨rfl, hxd⟩
              go_wp2_with fail
              go_ret
              exact ⟨rfl, hbc.trans (hxd.mono hbc.size)⟩
        · have hda : ¬ d = a := fun e => had e.symm
          generalize cs.getD d 0 = xd at *
          generalize cs.getD a 0 = xa at *
          go_wp2_with fail
          generalize (w4.setCell ⟨g, a, none⟩ (.int .i64 xd)).setCell ⟨g, d, none⟩ (.int .i64 xa) = w5 at own2 hx5 ⊢
          obtain ⟨AT, CT, ev, nD, _, _⟩ := caps_of_own own2
          cases ev
          have nD : Nums w5 w5.heap.size (some ⟨g, 0, none⟩) DS := by
            unfold Nums
            rw [HDS.out]
            exact nD
          clear own2 ea ed ca cd f1 f2 HDS
          have hbW := hbw.trans (hx5.mono hbw.size)
          have n1 := num_ext (num_ext n1 hb0) hx5
          have n2 := num_ext (num_ext n2 hb0) hx5
          have hn6 := HL.out.1
          obtain ⟨r1, r2, r3, r4, r5⟩ := run_perm (L := L) (List.reverse_perm cs).symm HR.out HC.out (by omega)
          refine (run_n _ A5 _ cs.length _ L cs.reverse w5 r4 (three_ext hT hbW) (num_ext nb hx5) hl hl2).mono ?_
          unfold RunSays
          rw [r1, r2, r3, rests_length, r4, useAt_length]
          rw [r4] at r5
          have HS1 := Lib.hid r5
          clear r1 r2 r3 r5
          rintro e w6 ⟨A6, c6, A7, c7, _, rfl, n6, n7, hx6⟩
          have hb6 := hbW.trans (hx6.mono hbW.size)
          have nD := num_ext nD hx6
          have n1 := num_ext n1 hx6
          have n2 := num_ext n2 hx6
          have hrl : cs.reverse.length = cs.length := r4
          go_wp2_with fail
          obtain ⟨r1, r2, r3, r4, r5⟩ := run_perm (L := L) HPM.out HR.out HC.out (by omega)
          refine (run_n _ (some ⟨g, 0, none⟩) _ cs.length _ L DS w6 r4 (three_ext hT hb6) nD hl hl2).mono ?_
          unfold RunSays
          rw [r1, r2, r3, rests_length, r4, useAt_length]
          rw [r4] at r5
          have HS2 := Lib.hid r5
          clear r1 r2 r3 r4 r5
          rintro e w7 ⟨A8, c8, A9, c9, _, rfl, n8, n9, hx7⟩
          have hb7 := hb6.trans (hx7.mono hb6.size)
          have n1 := num_ext n1 hx7
          have n2 := num_ext n2 hx7
          have n6 := num_ext n6 hx7
          have n7 := num_ext n7 hx7
          go_wp2_with fail
          refine (ints_n A7 _ L.length L.length c7 _ _ _ w7 (useAt_length _ _ _) (useAt_length _ _ _) n7 n2 hl hl).mono ?_
          rw [decide_eq_true rfl]
          rintro e w8 ⟨rfl, hx8⟩
          have hb8 := hb7.trans (hx8.mono hb7.size)
          have n1 := num_ext n1 hx8
          have n2 := num_ext n2 hx8
          have n6 := num_ext n6 hx8
          have n8 := num_ext n8 hx8
          have n9 := num_ext n9 hx8
          go_wp2_with fail
          refine (ints_n A9 _ L.length L.length c9 _ _ _ w8 (useAt_length _ _ _) (useAt_length _ _ _) n9 n2 hl hl).mono ?_
          rw [decide_eq_true rfl]
          rintro e w9 ⟨rfl, hx9⟩
          have hb9 := hb8.trans (hx9.mono hb8.size)
          have n1 := num_ext n1 hx9
          have n2 := num_ext n2 hx9
          have n6 := num_ext n6 hx9
          have n8 := num_ext n8 hx9
          clear n7 n9 nD hx6 hx7 hx8 hx9 hb6 hb7 hb8 hx5 hx4 nb hrl
          go_wp2_with fail
          go_loopw [24] (fun i wi => ∃ i' : Nat, i' ≤ L.length ∧ i = .int .i64 i' ∧ Below w9.heap.size w9 wi) (fun i _ => L.length - (intOf i).toNat)
          case atStart => exact ⟨0, Nat.zero_le _, rfl, Below.refl _ _⟩
          case round =>
            obtain ⟨i', hi', rfl, hbi⟩ := hrel
            by_cases hlti : i' < L.length
            · have hd := HL.out.2 i' hlti
              have hub := useAt_sum HL.out cs hlti cs.length
              have HPB := Lib.hid (partSum_bounds (t := L.getD i' ⟨0, 0, 0⟩) (by omega) (by omega) (by omega) cs)
              have HPN : ∀ k, partSum (L.getD i' ⟨0, 0, 0⟩) cs (k + 1) = partSum (L.getD i' ⟨0, 0, 0⟩) cs k + part (L.getD i' ⟨0, 0, 0⟩) (cs.getD k 0) := fun _ => rfl
              have HPN := Lib.hid HPN
              have hz0' : partSum (L.getD i' ⟨0, 0, 0⟩) cs 0 = 0 := rfl
              have HZ := Lib.hid hz0'
              have HUB := Lib.hid hub
              clear hz0' hub
              rw [getD3 hlti] at hd HPB HPN HZ HUB
              generalize hSS : partSum L[i'] cs = SS at *
              clear hSS
              go_wp2_with fail
              go_loopw [25, 26] (fun a k wk => ∃ k' : Nat, k' ≤ cs.length ∧ k = .int .i64 k' ∧ a = .int .i64 (SS k') ∧ Below w9.heap.size w9 wk) (fun _ k _ => cs.length - (intOf k).toNat)
              case atStart => exact ⟨0, Nat.zero_le _, rfl, by rw [HZ.out], hbi⟩
              case round =>
                obtain ⟨k', hk', rfl, rfl, hbk⟩ := hrel
                have hbwk := hb9.trans (hbk.mono hb9.size)
                obtain ⟨bt, ot, rfl, hbt, e0, e1, e2⟩ := (hT.below hbwk).at_ hlti
                have hszk := hbwk.size
                have j0 : (0 : Int) ≤ (i' : Int) := by omega
                have j1 : (i' : Int) < (L.length : Int) := by omega
                have i5 : bt < wr.heap.size := by omega
                have hs1 := HPB.out k'
                generalize L[i'] = t at hd HPN HUB e0 e1 e2
                by_cases hltk : k' < cs.length
                · obtain ⟨bb, ob, qe, hbb, f0⟩ := (h2.below hbwk).at_ hltk
                  have i6 : bb < wr.heap.size := by omega
                  cases qe
                  rw [← getD1 hltk] at f0
                  have hnx := HPN.out k'
                  have HNX := Lib.hid hnx
                  have hx01 := claim_bounds HC.out k' hltk
                  have j2 : (0 : Int) ≤ (k' : Int) := by omega
                  have j3 : (k' : Int) < (cs.length : Int) := by omega
                  clear hnx
                  generalize cs.getD k' 0 = x at *
                  have dp := part_bounds (t := t) (x := x) (by omega) (by omega) (by omega)
                  by_cases p1 : t.b < x
                  · have hp : part t x = t.b - t.a := by unfold part; rw [if_neg (by omega), if_pos (by omega)]
                    rw [hp] at HNX dp
                    clear hp
                    have ws : IntKind.i64.wrap (SS k' + (t.b - t.a)) = SS k' + (t.b - t.a) := IntWalk.i64_in _ (by omega)
                    go_wp2_with fail
                    refine wp_region_mix [(0, true), (1, true), (2, true), (3, true), (4, true), (5, true), (6, true), (7, true), (8, true), (9, true), (10, true), (11, true), (12, true), (13, true), (14, true), (15, true), (16, true), (17, true), (18, true)] [19] (SB w9.heap.size w9 wr.heap.size none _) (by kernel_rfl) (by kernel_rfl) (by kernel_rfl) (by kernel_rfl) (by decide) (SB.start hbk (by omega)) (fun hS => ?_)
                    simp only [planned, List.filterMap_cons, List.filterMap_nil, List.getElem?_cons_zero, List.getElem?_cons_succ, Option.map_some]
                    repeat (first
                      | (refine mix_skip (by rfl) ?_; try simp only [Act.put, List.setIfInBounds_toArray, List.set_cons_zero, List.set_cons_succ])
                      | (refine mix_pass hS (by rfl) ?_; try simp only [Act.put, List.setIfInBounds_toArray, List.set_cons_zero, List.set_cons_succ])
                      | (refine mix_pure (by rfl) (by rfl) (fun K hK => ?_); go_big_quiet_op; refine hK _ ?_; clear hK K)
                      | (refine mix_take (by rfl) ?_
                         apply Exists.intro
                         refine ⟨?_, ?_⟩
                         · intro w' hSw
                           have hSc := hSw.cell
                           clear hSw
                           go_simp
                           try with_reducible rfl
                         try simp only [Act.put, List.setIfInBounds_toArray, List.set_cons_zero, List.set_cons_succ])
                      | (refine mix_move (by rfl) (fun K hK => ?_)
                         go_simp
                         try dsimp only
                         first
                           | refine hK.out _ _ (hS.step hx (by omega)) ?_
                           | refine hK.out _ _ hS ?_
                           | refine hK.out _ _ (hS.alloc _ (by omega)) ?_
                           | refine hK.out _ _ (hS.grown hg hx) ?_
                         clear hK K hS
                         intro hS
                         try simp only [Act.put, List.setIfInBounds_toArray, List.set_cons_zero, List.set_cons_succ])
                      | fail)
                    refine mix_nil ?_
                    simp only [tailed, List.filterMap_cons, List.filterMap_nil, List.getElem?_cons_zero, List.getElem?_cons_succ]
                    go_wp2_with fail
                    refine NoPanic.normal ?_
                    go_wp2_with fail
                    go_roundw
                    case rel => exact ⟨k' + 1, by omega, by go_num, by rw [HNX.out] <;> go_num, hbk.drew⟩
                    case measure => simp [intOf]; omega
                  · by_cases p2 : t.a < x
                    · have hp : part t x = x - t.a := by
                        unfold part
                        rw [if_neg (by omega)]
                        split <;> omega
                      rw [hp] at HNX dp
                      clear hp
                      have ws : IntKind.i64.wrap (SS k' + (x - t.a)) = SS k' + (x - t.a) := IntWalk.i64_in _ (by omega)
                      go_wp2_with fail
                      refine wp_region_mix [(0, true), (1, true), (2, true), (3, true), (4, true), (5, true), (6, true), (7, true), (8, true), (9, true), (10, true), (11, true), (12, true), (13, true), (14, true), (15, true), (16, true), (17, true), (18, true)] [19] (SB w9.heap.size w9 wr.heap.size none _) (by kernel_rfl) (by kernel_rfl) (by kernel_rfl) (by kernel_rfl) (by decide) (SB.start hbk (by omega)) (fun hS => ?_)
                      simp only [planned, List.filterMap_cons, List.filterMap_nil, List.getElem?_cons_zero, List.getElem?_cons_succ, Option.map_some]
                      repeat (first
                        | (refine mix_skip (by rfl) ?_; try simp only [Act.put, List.setIfInBounds_toArray, List.set_cons_zero, List.set_cons_succ])
                        | (refine mix_pass hS (by rfl) ?_; try simp only [Act.put, List.setIfInBounds_toArray, List.set_cons_zero, List.set_cons_succ])
                        | (refine mix_pure (by rfl) (by rfl) (fun K hK => ?_); go_big_quiet_op; refine hK _ ?_; clear hK K)
                        | (refine mix_take (by rfl) ?_
                           apply Exists.intro
                           refine ⟨?_, ?_⟩
                           · intro w' hSw
                             have hSc := hSw.cell
                             clear hSw
                             go_simp
                             try with_reducible rfl
                           try simp only [Act.put, List.setIfInBounds_toArray, List.set_cons_zero, List.set_cons_succ])
                        | (refine mix_move (by rfl) (fun K hK => ?_)
                           go_simp
                           try dsimp only
                           first
                             | refine hK.out _ _ (hS.step hx (by omega)) ?_
                             | refine hK.out _ _ hS ?_
                             | refine hK.out _ _ (hS.alloc _ (by omega)) ?_
                             | refine hK.out _ _ (hS.grown hg hx) ?_
                           clear hK K hS
                           intro hS
                           try simp only [Act.put, List.setIfInBounds_toArray, List.set_cons_zero, List.set_cons_succ])
                        | fail)
                      refine mix_nil ?_
                      simp only [tailed, List.filterMap_cons, List.filterMap_nil, List.getElem?_cons_zero, List.getElem?_cons_succ]
                      go_wp2_with fail
                      refine NoPanic.normal ?_
                      go_wp2_with fail
                      go_roundw
                      case rel => exact ⟨k' + 1, by omega, by go_num, by rw [HNX.out] <;> go_num, hbk.drew⟩
                      case measure => simp [intOf]; omega
                    · have hp : part t x = 0 := by unfold part; rw [if_pos (by omega)]
                      rw [hp] at HNX dp
                      clear hp
                      have ws : IntKind.i64.wrap (SS k' + (0)) = SS k' + (0) := IntWalk.i64_in _ (by omega)
                      go_wp2_with fail
                      refine wp_region_mix [(0, true), (1, true), (2, true), (3, true), (4, true), (5, true), (6, true), (7, true), (8, true), (9, true), (10, true), (11, true), (12, true), (13, true), (14, true), (15, true), (16, true), (17, true), (18, true)] [19] (SB w9.heap.size w9 wr.heap.size none _) (by kernel_rfl) (by kernel_rfl) (by kernel_rfl) (by kernel_rfl) (by decide) (SB.start hbk (by omega)) (fun hS => ?_)
                      simp only [planned, List.filterMap_cons, List.filterMap_nil, List.getElem?_cons_zero, List.getElem?_cons_succ, Option.map_some]
                      repeat (first
                        | (refine mix_skip (by rfl) ?_; try simp only [Act.put, List.setIfInBounds_toArray, List.set_cons_zero, List.set_cons_succ])
                        | (refine mix_pass hS (by rfl) ?_; try simp only [Act.put, List.setIfInBounds_toArray, List.set_cons_zero, List.set_cons_succ])
                        | (refine mix_pure (by rfl) (by rfl) (fun K hK => ?_); go_big_quiet_op; refine hK _ ?_; clear hK K)
                        | (refine mix_take (by rfl) ?_
                           apply Exists.intro
                           refine ⟨?_, ?_⟩
                           · intro w' hSw
                             have hSc := hSw.cell
                             clear hSw
                             go_simp
                             try with_reducible rfl
                           try simp only [Act.put, List.setIfInBounds_toArray, List.set_cons_zero, List.set_cons_succ])
                        | (refine mix_move (by rfl) (fun K hK => ?_)
                           go_simp
                           try dsimp only
                           first
                             | refine hK.out _ _ (hS.step hx (by omega)) ?_
                             | refine hK.out _ _ hS ?_
                             | refine hK.out _ _ (hS.alloc _ (by omega)) ?_
                             | refine hK.out _ _ (hS.grown hg hx) ?_
                           clear hK K hS
                           intro hS
                           try simp only [Act.put, List.setIfInBounds_toArray, List.set_cons_zero, List.set_cons_succ])
                        | fail)
                      refine mix_nil ?_
                      simp only [tailed, List.filterMap_cons, List.filterMap_nil, List.getElem?_cons_zero, List.getElem?_cons_succ]
                      go_wp2_with fail
                      refine NoPanic.normal ?_
                      go_wp2_with fail
                      go_roundw
                      case rel => exact ⟨k' + 1, by omega, by go_num, by rw [HNX.out] <;> go_num, hbk.drew⟩
                      case measure => simp [intOf]; omega
                · obtain rfl : k' = cs.length := by omega
                  obtain ⟨bu, ou, qe, hbu, u0⟩ := (n2.below hbk).at_ (k := i') (by rw [useAt_length]; exact hlti)
                  have i7 : bu < wr.heap.size := Nat.lt_of_lt_of_le hbu hbk.size
                  cases qe
                  rw [← getD1 (by rw [useAt_length]; exact hlti)] at u0
                  have hmn : usedOf L cs cs.length i' = mn (SS cs.length) t.c := HUB.out
                  change wr.cell? ⟨bu, ou + i', none⟩ = some (.int .i64 (usedOf L cs cs.length i')) at u0
                  by_cases p1 : t.c < SS cs.length
                  · have hu : usedOf L cs cs.length i' = t.c := by rw [hmn, mn, if_pos p1]
                    rw [hu] at u0
                    clear hu hmn
                    go_wp2_with fail
                    refine wp_region_mix [(0, true), (1, true), (2, true), (3, true), (4, true), (5, true), (6, true), (7, true), (8, true), (9, true), (10, true), (11, true)] [] (SB w9.heap.size w9 wr.heap.size none _) (by kernel_rfl) (by kernel_rfl) (by kernel_rfl) (by kernel_rfl) (by decide) (SB.start hbk (by omega)) (fun hS => ?_)
                    simp only [planned, List.filterMap_cons, List.filterMap_nil, List.getElem?_cons_zero, List.getElem?_cons_succ, Option.map_some]
                    repeat (first
                      | (refine mix_skip (by rfl) ?_; try simp only [Act.put, List.setIfInBounds_toArray, List.set_cons_zero, List.set_cons_succ])
                      | (refine mix_pass hS (by rfl) ?_; try simp only [Act.put, List.setIfInBounds_toArray, List.set_cons_zero, List.set_cons_succ])
                      | (refine mix_pure (by rfl) (by rfl) (fun K hK => ?_); go_big_quiet_op; refine hK _ ?_; clear hK K)
                      | (refine mix_take (by rfl) ?_
                         apply Exists.intro
                         refine ⟨?_, ?_⟩
                         · intro w' hSw
                           have hSc := hSw.cell
                           clear hSw
                           go_simp
                           try with_reducible rfl
                         try simp only [Act.put, List.setIfInBounds_toArray, List.set_cons_zero, List.set_cons_succ])
                      | (refine mix_move (by rfl) (fun K hK => ?_)
                         go_simp
                         try dsimp only
                         first
                           | refine hK.out _ _ (hS.step hx (by omega)) ?_
                           | refine hK.out _ _ hS ?_
                           | refine hK.out _ _ (hS.alloc _ (by omega)) ?_
                           | refine hK.out _ _ (hS.grown hg hx) ?_
                         clear hK K hS
                         intro hS
                         try simp only [Act.put, List.setIfInBounds_toArray, List.set_cons_zero, List.set_cons_succ])
                      | fail)
                    refine mix_nil ?_
                    simp only [tailed, List.filterMap_nil]
                    go_wp2_with fail
                    refine NoPanic.normal ?_
                    go_wp2_with fail
                    go_roundw
                    case rel => exact ⟨i' + 1, by omega, by go_num, hbk.drew⟩
                    case measure => simp [intOf]; omega
                  · have hu : usedOf L cs cs.length i' = SS cs.length := by rw [hmn, mn, if_neg p1]
                    rw [hu] at u0
                    clear hu hmn
                    go_wp2_with fail
                    refine wp_region_mix [(0, true), (1, true), (2, true), (3, true), (4, true), (5, true), (6, true), (7, true), (8, true), (9, true), (10, true), (11, true)] [] (SB w9.heap.size w9 wr.heap.size none _) (by kernel_rfl) (by kernel_rfl) (by kernel_rfl) (by kernel_rfl) (by decide) (SB.start hbk (by omega)) (fun hS => ?_)
                    simp only [planned, List.filterMap_cons, List.filterMap_nil, List.getElem?_cons_zero, List.getElem?_cons_succ, Option.map_some]
                    repeat (first
                      | (refine mix_skip (by rfl) ?_; try simp only [Act.put, List.setIfInBounds_toArray, List.set_cons_zero, List.set_cons_succ])
                      | (refine mix_pass hS (by rfl) ?_; try simp only [Act.put, List.setIfInBounds_toArray, List.set_cons_zero, List.set_cons_succ])
                      | (refine mix_pure (by rfl) (by rfl) (fun K hK => ?_); go_big_quiet_op; refine hK _ ?_; clear hK K)
                      | (refine mix_take (by rfl) ?_
                         apply Exists.intro
                         refine ⟨?_, ?_⟩
                         · intro w' hSw
                           have hSc := hSw.cell
                           clear hSw
                           go_simp
                           try with_reducible rfl
                         try simp only [Act.put, List.setIfInBounds_toArray, List.set_cons_zero, List.set_cons_succ])
                      | (refine mix_move (by rfl) (fun K hK => ?_)
                         go_simp
                         try dsimp only
                         first
                           | refine hK.out _ _ (hS.step hx (by omega)) ?_
                           | refine hK.out _ _ hS ?_
                           | refine hK.out _ _ (hS.alloc _ (by omega)) ?_
                           | refine hK.out _ _ (hS.grown hg hx) ?_
                         clear hK K hS
                         intro hS
                         try simp only [Act.put, List.setIfInBounds_toArray, List.set_cons_zero, List.set_cons_succ])
                      | fail)
                    refine mix_nil ?_
                    simp only [tailed, List.filterMap_nil]
                    go_wp2_with fail
                    refine NoPanic.normal ?_
                    go_wp2_with fail
                    go_roundw
                    case rel => exact ⟨i' + 1, by omega, by go_num, hbk.drew⟩
                    case measure => simp [intOf]; omega
            · have hbwi := hb9.trans (hbi.mono hb9.size)
              have hrd := claims_perm HPM.out HC.out
              have hrb := claims_perm (List.reverse_perm cs).symm HC.out
              have k1 := rests_bounds HL.out HC.out
              have k2 := rests_bounds HL.out hrd
              have k3 := rests_bounds HL.out hrb
              rw [← HPM.out.length_eq] at k2
              rw [List.length_reverse] at k3
              clear hrd hrb
              go_wp2_with fail
              refine (sum_n _ cs.length _ (rests L cs.reverse cs.length) wr (rests_length _ _ _) (num_ext n6 hbi) (by rw [rests_length]; omega) k3).mono ?_
              rw [HS1.out]
              rintro e wa ⟨rfl, hxa⟩
              have hba := hbwi.trans (hxa.mono hbwi.size)
              go_wp2_with fail
              refine (sum_n _ cs.length _ (rests L cs cs.length) wa (rests_length _ _ _) (num_ext (num_ext n1 hbi) hxa) (by rw [rests_length]; omega) k1).mono ?_
              rintro e wb ⟨rfl, hxb⟩
              have hbb := hba.trans (hxb.mono hba.size)
              go_wp2_with fail
              refine (sum_n _ cs.length _ (rests L DS cs.length) wb (rests_length _ _ _) (num_ext (num_ext (num_ext n8 hbi) hxa) hxb) (by rw [rests_length]; omega) k2).mono ?_
              try rw [HS2.out]
              rintro e wc ⟨rfl, hxc⟩
              have hbc := hbb.trans (hxc.mono hbb.size)
              go_wp2_with fail
              refine (sum_n _ cs.length _ (rests L cs cs.length) wc (rests_length _ _ _) (num_ext (num_ext (num_ext (num_ext n1 hbi) hxa) hxb) hxc) (by rw [rests_length]; omega) k1).mono ?_
              rintro e wd ⟨rfl, hxd⟩
              go_wp2_with fail
              go_ret
              exact ⟨rfl, hbc.trans (hxd.mono hbc.size)⟩
      · obtain ⟨AT, CT, rfl, nD, _, _⟩ := caps_of_own own2
        have HPM := Lib.hid (List.Perm.refl cs)
        have hx5 := hx4
        clear own2
        have hneg : decide (0 < cs.length) = false := decide_eq_false hpos
        go_wp2_with fail
        clear hneg hpos
        have hbW := hbw.trans (hx5.mono hbw.size)
        have n1 := num_ext (num_ext n1 hb0) hx5
        have n2 := num_ext (num_ext n2 hb0) hx5
        have hn6 := HL.out.1
        obtain ⟨r1, r2, r3, r4, r5⟩ := run_perm (L := L) (List.reverse_perm cs).symm HR.out HC.out (by omega)
        refine (run_n _ A5 _ cs.length _ L cs.reverse w4 r4 (three_ext hT hbW) (num_ext nb hx5) hl hl2).mono ?_
        unfold RunSays
        rw [r1, r2, r3, rests_length, r4, useAt_length]
        rw [r4] at r5
        have HS1 := Lib.hid r5
        clear r1 r2 r3 r5
        rintro e w6 ⟨A6, c6, A7, c7, _, rfl, n6, n7, hx6⟩
        have hb6 := hbW.trans (hx6.mono hbW.size)
        have nD := num_ext nD hx6
        have n1 := num_ext n1 hx6
        have n2 := num_ext n2 hx6
        have hrl : cs.reverse.length = cs.length := r4
        go_wp2_with fail
        obtain ⟨r1, r2, r3, r4, r5⟩ := run_perm (L := L) HPM.out HR.out HC.out (by omega)
        refine (run_n _ AT _ cs.length _ L cs w6 r4 (three_ext hT hb6) nD hl hl2).mono ?_
        unfold RunSays
        rw [r1, r2, r3, rests_length, r4, useAt_length]
        rw [r4] at r5
        have HS2 := Lib.hid r5
        clear r1 r2 r3 r4 r5
        rintro e w7 ⟨A8, c8, A9, c9, _, rfl, n8, n9, hx7⟩
        have hb7 := hb6.trans (hx7.mono hb6.size)
        have n1 := num_ext n1 hx7
        have n2 := num_ext n2 hx7
        have n6 := num_ext n6 hx7
        have n7 := num_ext n7 hx7
        go_wp2_with fail
        refine (ints_n A7 _ L.length L.length c7 _ _ _ w7 (useAt_length _ _ _) (useAt_length _ _ _) n7 n2 hl hl).mono ?_
        rw [decide_eq_true rfl]
        rintro e w8 ⟨rfl, hx8⟩
        have hb8 := hb7.trans (hx8.mono hb7.size)
        have n1 := num_ext n1 hx8
        have n2 := num_ext n2 hx8
        have n6 := num_ext n6 hx8
        have n8 := num_ext n8 hx8
        have n9 := num_ext n9 hx8
        go_wp2_with fail
        refine (ints_n A9 _ L.length L.length c9 _ _ _ w8 (useAt_length _ _ _) (useAt_length _ _ _) n9 n2 hl hl).mono ?_
        rw [decide_eq_true rfl]
        rintro e w9 ⟨rfl, hx9⟩
        have hb9 := hb8.trans (hx9.mono hb8.size)
        have n1 := num_ext n1 hx9
        have n2 := num_ext n2 hx9
        have n6 := num_ext n6 hx9
        have n8 := num_ext n8 hx9
        clear n7 n9 nD hx6 hx7 hx8 hx9 hb6 hb7 hb8 hx5 hx4 nb hrl
        go_wp2_with fail
        go_loopw [24] (fun i wi => ∃ i' : Nat, i' ≤ L.length ∧ i = .int .i64 i' ∧ Below w9.heap.size w9 wi) (fun i _ => L.length - (intOf i).toNat)
        case atStart => exact ⟨0, Nat.zero_le _, rfl, Below.refl _ _⟩
        case round =>
          obtain ⟨i', hi', rfl, hbi⟩ := hrel
          by_cases hlti : i' < L.length
          · have hd := HL.out.2 i' hlti
            have hub := useAt_sum HL.out cs hlti cs.length
            have HPB := Lib.hid (partSum_bounds (t := L.getD i' ⟨0, 0, 0⟩) (by omega) (by omega) (by omega) cs)
            have HPN : ∀ k, partSum (L.getD i' ⟨0, 0, 0⟩) cs (k + 1) = partSum (L.getD i' ⟨0, 0, 0⟩) cs k + part (L.getD i' ⟨0, 0, 0⟩) (cs.getD k 0) := fun _ => rfl
            have HPN := Lib.hid HPN
            have hz0' : partSum (L.getD i' ⟨0, 0, 0⟩) cs 0 = 0 := rfl
            have HZ := Lib.hid hz0'
            have HUB := Lib.hid hub
            clear hz0' hub
            rw [getD3 hlti] at hd HPB HPN HZ HUB
            generalize hSS : partSum L[i'] cs = SS at *
            clear hSS
            go_wp2_with fail
            go_loopw [25, 26] (fun a k wk => ∃ k' : Nat, k' ≤ cs.length ∧ k = .int .i64 k' ∧ a = .int .i64 (SS k') ∧ Below w9.heap.size w9 wk) (fun _ k _ => cs.length - (intOf k).toNat)
            case atStart => exact ⟨0, Nat.zero_le _, rfl, by rw [HZ.out], hbi⟩
            case round =>
              obtain ⟨k', hk', rfl, rfl, hbk⟩ := hrel
              have hbwk := hb9.trans (hbk.mono hb9.size)
              obtain ⟨bt, ot, rfl, hbt, e0, e1, e2⟩ := (hT.below hbwk).at_ hlti
              have hszk := hbwk.size
              have j0 : (0 : Int) ≤ (i' : Int) := by omega
              have j1 : (i' : Int) < (L.length : Int) := by omega
              have i5 : bt < wr.heap.size := by omega
              have hs1 := HPB.out k'
              generalize L[i'] = t at hd HPN HUB e0 e1 e2
              by_cases hltk : k' < cs.length
              · obtain ⟨bb, ob, qe, hbb, f0⟩ := (h2.below hbwk).at_ hltk
                have i6 : bb < wr.heap.size := by omega
                cases qe
                rw [← getD1 hltk] at f0
                have hnx := HPN.out k'
                have HNX := Lib.hid hnx
                have hx01 := claim_bounds HC.out k' hltk
                have j2 : (0 : Int) ≤ (k' : Int) := by omega
                have j3 : (k' : Int) < (cs.length : Int) := by omega
                clear hnx
                generalize cs.getD k' 0 = x at *
                have dp := part_bounds (t := t) (x := x) (by omega) (by omega) (by omega)
                by_cases p1 : t.b < x
                · have hp : part t x = t.b - t.a := by unfold part; rw [if_neg (by omega), if_pos (by omega)]
                  rw [hp] at HNX dp
                  clear hp
                  have ws : IntKind.i64.wrap (SS k' + (t.b - t.a)) = SS k' + (t.b - t.a) := IntWalk.i64_in _ (by omega)
                  go_wp2_with fail
                  refine wp_region_mix [(0, true), (1, true), (2, true), (3, true), (4, true), (5, true), (6, true), (7, true), (8, true), (9, true), (10, true), (11, true), (12, true), (13, true), (14, true), (15, true), (16, true), (17, true), (18, true)] [19] (SB w9.heap.size w9 wr.heap.size none _) (by kernel_rfl) (by kernel_rfl) (by kernel_rfl) (by kernel_rfl) (by decide) (SB.start hbk (by omega)) (fun hS => ?_)
                  simp only [planned, List.filterMap_cons, List.filterMap_nil, List.getElem?_cons_zero, List.getElem?_cons_succ, Option.map_some]
                  repeat (first
                    | (refine mix_skip (by rfl) ?_; try simp only [Act.put, List.setIfInBounds_toArray, List.set_cons_zero, List.set_cons_succ])
                    | (refine mix_pass hS (by rfl) ?_; try simp only [Act.put, List.setIfInBounds_toArray, List.set_cons_zero, List.set_cons_succ])
                    | (refine mix_pure (by rfl) (by rfl) (fun K hK => ?_); go_big_quiet_op; refine hK _ ?_; clear hK K)
                    | (refine mix_take (by rfl) ?_
                       apply Exists.intro
                       refine ⟨?_, ?_⟩
                       · intro w' hSw
                         have hSc := hSw.cell
                         clear hSw
                         go_simp
                         try with_reducible rfl
                       try simp only [Act.put, List.setIfInBounds_toArray, List.set_cons_zero, List.set_cons_succ])
                    | (refine mix_move (by rfl) (fun K hK => ?_)
                       go_simp
                       try dsimp only
                       first
                         | refine hK.out _ _ (hS.step hx (by omega)) ?_
                         | refine hK.out _ _ hS ?_
                         | refine hK.out _ _ (hS.alloc _ (by omega)) ?_
                         | refine hK.out _ _ (hS.grown hg hx) ?_
                       clear hK K hS
                       intro hS
                       try simp only [Act.put, List.setIfInBounds_toArray, List.set_cons_zero, List.set_cons_succ])
                    | fail)
                  refine mix_nil ?_
                  simp only [tailed, List.filterMap_cons, List.filterMap_nil, List.getElem?_cons_zero, List.getElem?_cons_succ]
                  go_wp2_with fail
                  refine NoPanic.normal ?_
                  go_wp2_with fail
                  go_roundw
                  case rel => exact ⟨k' + 1, by omega, by go_num, by rw [HNX.out] <;> go_num, hbk.drew⟩
                  case measure => simp [intOf]; omega
                · by_cases p2 : t.a < x
                  · have hp : part t x = x - t.a := by
                      unfold part
                      rw [if_neg (by omega)]
                      split <;> omega
                    rw [hp] at HNX dp
                    clear hp
                    have ws : IntKind.i64.wrap (SS k' + (x - t.a)) = SS k' + (x - t.a) := IntWalk.i64_in _ (by omega)
                    go_wp2_with fail
                    refine wp_region_mix [(0, true), (1, true), (2, true), (3, true), (4, true), (5, true), (6, true), (7, true), (8, true), (9, true), (10, true), (11, true), (12, true), (13, true), (14, true), (15, true), (16, true), (17, true), (18, true)] [19] (SB w9.heap.size w9 wr.heap.size none _) (by kernel_rfl) (by kernel_rfl) (by kernel_rfl) (by kernel_rfl) (by decide) (SB.start hbk (by omega)) (fun hS => ?_)
                    simp only [planned, List.filterMap_cons, List.filterMap_nil, List.getElem?_cons_zero, List.getElem?_cons_succ, Option.map_some]
                    repeat (first
                      | (refine mix_skip (by rfl) ?_; try simp only [Act.put, List.setIfInBounds_toArray, List.set_cons_zero, List.set_cons_succ])
                      | (refine mix_pass hS (by rfl) ?_; try simp only [Act.put, List.setIfInBounds_toArray, List.set_cons_zero, List.set_cons_succ])
                      | (refine mix_pure (by rfl) (by rfl) (fun K hK => ?_); go_big_quiet_op; refine hK _ ?_; clear hK K)
                      | (refine mix_take (by rfl) ?_
                         apply Exists.intro
                         refine ⟨?_, ?_⟩
                         · intro w' hSw
                           have hSc := hSw.cell
                           clear hSw
                           go_simp
                           try with_reducible rfl
                         try simp only [Act.put, List.setIfInBounds_toArray, List.set_cons_zero, List.set_cons_succ])
                      | (refine mix_move (by rfl) (fun K hK => ?_)
                         go_simp
                         try dsimp only
                         first
                           | refine hK.out _ _ (hS.step hx (by omega)) ?_
                           | refine hK.out _ _ hS ?_
                           | refine hK.out _ _ (hS.alloc _ (by omega)) ?_
                           | refine hK.out _ _ (hS.grown hg hx) ?_
                         clear hK K hS
                         intro hS
                         try simp only [Act.put, List.setIfInBounds_toArray, List.set_cons_zero, List.set_cons_succ])
                      | fail)
                    refine mix_nil ?_
                    simp only [tailed, List.filterMap_cons, List.filterMap_nil, List.getElem?_cons_zero, List.getElem?_cons_succ]
                    go_wp2_with fail
                    refine NoPanic.normal ?_
                    go_wp2_with fail
                    go_roundw
                    case rel => exact ⟨k' + 1, by omega, by go_num, by rw [HNX.out] <;> go_num, hbk.drew⟩
                    case measure => simp [intOf]; omega
                  · have hp : part t x = 0 := by unfold part; rw [if_pos (by omega)]
                    rw [hp] at HNX dp
                    clear hp
                    have ws : IntKind.i64.wrap (SS k' + (0)) = SS k' + (0) := IntWalk.i64_in _ (by omega)
                    go_wp2_with fail
                    refine wp_region_mix [(0, true), (1, true), (2, true), (3, true), (4, true), (5, true), (6, true), (7, true), (8, true), (9, true), (10, true), (11, true), (12, true), (13, true), (14, true), (15, true), (16, true), (17, true), (18, true)] [19] (SB w9.heap.size w9 wr.heap.size none _) (by kernel_rfl) (by kernel_rfl) (by kernel_rfl) (by kernel_rfl) (by decide) (SB.start hbk (by omega)) (fun hS => ?_)
                    simp only [planned, List.filterMap_cons, List.filterMap_nil, List.getElem?_cons_zero, List.getElem?_cons_succ, Option.map_some]
                    repeat (first
                      | (refine mix_skip (by rfl) ?_; try simp only [Act.put, List.setIfInBounds_toArray, List.set_cons_zero, List.set_cons_succ])
                      | (refine mix_pass hS (by rfl) ?_; try simp only [Act.put, List.setIfInBounds_toArray, List.set_cons_zero, List.set_cons_succ])
                      | (refine mix_pure (by rfl) (by rfl) (fun K hK => ?_); go_big_quiet_op; refine hK _ ?_; clear hK K)
                      | (refine mix_take (by rfl) ?_
                         apply Exists.intro
                         refine ⟨?_, ?_⟩
                         · intro w' hSw
                           have hSc := hSw.cell
                           clear hSw
                           go_simp
                           try with_reducible rfl
                         try simp only [Act.put, List.setIfInBounds_toArray, List.set_cons_zero, List.set_cons_succ])
                      | (refine mix_move (by rfl) (fun K hK => ?_)
                         go_simp
                         try dsimp only
                         first
                           | refine hK.out _ _ (hS.step hx (by omega)) ?_
                           | refine hK.out _ _ hS ?_
                           | refine hK.out _ _ (hS.alloc _ (by omega)) ?_
                           | refine hK.out _ _ (hS.grown hg hx) ?_
                         clear hK K hS
                         intro hS
                         try simp only [Act.put, List.setIfInBounds_toArray, List.set_cons_zero, List.set_cons_succ])
                      | fail)
                    refine mix_nil ?_
                    simp only [tailed, List.filterMap_cons, List.filterMap_nil, List.getElem?_cons_zero, List.getElem?_cons_succ]
                    go_wp2_with fail
                    refine NoPanic.normal ?_
                    go_wp2_with fail
                    go_roundw
                    case rel => exact ⟨k' + 1, by omega, by go_num, by rw [HNX.out] <;> go_num, hbk.drew⟩
                    case measure => simp [intOf]; omega
              · obtain rfl : k' = cs.length := by omega
                obtain ⟨bu, ou, qe, hbu, u0⟩ := (n2.below hbk).at_ (k := i') (by rw [useAt_length]; exact hlti)
                have i7 : bu < wr.heap.size := Nat.lt_of_lt_of_le hbu hbk.size
                cases qe
                rw [← getD1 (by rw [useAt_length]; exact hlti)] at u0
                have hmn : usedOf L cs cs.length i' = mn (SS cs.length) t.c := HUB.out
                change wr.cell? ⟨bu, ou + i', none⟩ = some (.int .i64 (usedOf L cs cs.length i')) at u0
                by_cases p1 : t.c < SS cs.length
                · have hu : usedOf L cs cs.length i' = t.c := by rw [hmn, mn, if_pos p1]
                  rw [hu] at u0
                  clear hu hmn
                  go_wp2_with fail
                  refine wp_region_mix [(0, true), (1, true), (2, true), (3, true), (4, true), (5, true), (6, true), (7, true), (8, true), (9, true), (10, true), (11, true)] [] (SB w9.heap.size w9 wr.heap.size none _) (by kernel_rfl) (by kernel_rfl) (by kernel_rfl) (by kernel_rfl) (by decide) (SB.start hbk (by omega)) (fun hS => ?_)
                  simp only [planned, List.filterMap_cons, List.filterMap_nil, List.getElem?_cons_zero, List.getElem?_cons_succ, Option.map_some]
                  repeat (first
                    | (refine mix_skip (by rfl) ?_; try simp only [Act.put, List.setIfInBounds_toArray, List.set_cons_zero, List.set_cons_succ])
                    | (refine mix_pass hS (by rfl) ?_; try simp only [Act.put, List.setIfInBounds_toArray, List.set_cons_zero, List.set_cons_succ])
                    | (refine mix_pure (by rfl) (by rfl) (fun K hK => ?_); go_big_quiet_op; refine hK _ ?_; clear hK K)
                    | (refine mix_take (by rfl) ?_
                       apply Exists.intro
                       refine ⟨?_, ?_⟩
                       · intro w' hSw
                         have hSc := hSw.cell
                         clear hSw
                         go_simp
                         try with_reducible rfl
                       try simp only [Act.put, List.setIfInBounds_toArray, List.set_cons_zero, List.set_cons_succ])
                    | (refine mix_move (by rfl) (fun K hK => ?_)
                       go_simp
                       try dsimp only
                       first
                         | refine hK.out _ _ (hS.step hx (by omega)) ?_
                         | refine hK.out _ _ hS ?_
                         | refine hK.out _ _ (hS.alloc _ (by omega)) ?_
                         | refine hK.out _ _ (hS.grown hg hx) ?_
                       clear hK K hS
                       intro hS
                       try simp only [Act.put, List.setIfInBounds_toArray, List.set_cons_zero, List.set_cons_succ])
                    | fail)
                  refine mix_nil ?_
                  simp only [tailed, List.filterMap_nil]
                  go_wp2_with fail
                  refine NoPanic.normal ?_
                  go_wp2_with fail
                  go_roundw
                  case rel => exact ⟨i' + 1, by omega, by go_num, hbk.drew⟩
                  case measure => simp [intOf]; omega
                · have hu : usedOf L cs cs.length i' = SS cs.length := by rw [hmn, mn, if_neg p1]
                  rw [hu] at u0
                  clear hu hmn
                  go_wp2_with fail
                  refine wp_region_mix [(0, true), (1, true), (2, true), (3, true), (4, true), (5, true), (6, true), (7, true), (8, true), (9, true), (10, true), (11, true)] [] (SB w9.heap.size w9 wr.heap.size none _) (by kernel_rfl) (by kernel_rfl) (by kernel_rfl) (by kernel_rfl) (by decide) (SB.start hbk (by omega)) (fun hS => ?_)
                  simp only [planned, List.filterMap_cons, List.filterMap_nil, List.getElem?_cons_zero, List.getElem?_cons_succ, Option.map_some]
                  repeat (first
                    | (refine mix_skip (by rfl) ?_; try simp only [Act.put, List.setIfInBounds_toArray, List.set_cons_zero, List.set_cons_succ])
                    | (refine mix_pass hS (by rfl) ?_; try simp only [Act.put, List.setIfInBounds_toArray, List.set_cons_zero, List.set_cons_succ])
                    | (refine mix_pure (by rfl) (by rfl) (fun K hK => ?_); go_big_quiet_op; refine hK _ ?_; clear hK K)
                    | (refine mix_take (by rfl) ?_
                       apply Exists.intro
                       refine ⟨?_, ?_⟩
                       · intro w' hSw
                         have hSc := hSw.cell
                         clear hSw
                         go_simp
                         try with_reducible rfl
                       try simp only [Act.put, List.setIfInBounds_toArray, List.set_cons_zero, List.set_cons_succ])
                    | (refine mix_move (by rfl) (fun K hK => ?_)
                       go_simp
                       try dsimp only
                       first
                         | refine hK.out _ _ (hS.step hx (by omega)) ?_
                         | refine hK.out _ _ hS ?_
                         | refine hK.out _ _ (hS.alloc _ (by omega)) ?_
                         | refine hK.out _ _ (hS.grown hg hx) ?_
                       clear hK K hS
                       intro hS
                       try simp only [Act.put, List.setIfInBounds_toArray, List.set_cons_zero, List.set_cons_succ])
                    | fail)
                  refine mix_nil ?_
                  simp only [tailed, List.filterMap_nil]
                  go_wp2_with fail
                  refine NoPanic.normal ?_
                  go_wp2_with fail
                  go_roundw
                  case rel => exact ⟨i' + 1, by omega, by go_num, hbk.drew⟩
                  case measure => simp [intOf]; omega
          · have hbwi := hb9.trans (hbi.mono hb9.size)
            have hrd := claims_perm HPM.out HC.out
            have hrb := claims_perm (List.reverse_perm cs).symm HC.out
            have k1 := rests_bounds HL.out HC.out
            have k2 := rests_bounds HL.out hrd
            have k3 := rests_bounds HL.out hrb
            rw [← HPM.out.length_eq] at k2
            rw [List.length_reverse] at k3
            clear hrd hrb
            go_wp2_with fail
            refine (sum_n _ cs.length _ (rests L cs.reverse cs.length) wr (rests_length _ _ _) (num_ext n6 hbi) (by rw [rests_length]; omega) k3).mono ?_
            rw [HS1.out]
            rintro e wa ⟨rfl, hxa⟩
            have hba := hbwi.trans (hxa.mono hbwi.size)
            go_wp2_with fail
            refine (sum_n _ cs.length _ (rests L cs cs.length) wa (rests_length _ _ _) (num_ext (num_ext n1 hbi) hxa) (by rw [rests_length]; omega) k1).mono ?_
            rintro e wb ⟨rfl, hxb⟩
            have hbb := hba.trans (hxb.mono hba.size)
            go_wp2_with fail
            refine (sum_n _ cs.length _ (rests L cs cs.length) wb (rests_length _ _ _) (num_ext (num_ext (num_ext n8 hbi) hxa) hxb) (by rw [rests_length]; omega) k2).mono ?_
            try rw [HS2.out]
            rintro e wc ⟨rfl, hxc⟩
            have hbc := hbb.trans (hxc.mono hbb.size)
            go_wp2_with fail
            refine (sum_n _ cs.length _ (rests L cs cs.length) wc (rests_length _ _ _) (num_ext (num_ext (num_ext (num_ext n1 hbi) hxa) hxb) hxc) (by rw [rests_length]; omega) k1).mono ?_
            rintro e wd ⟨rfl, hxd⟩
            go_wp2_with fail
            go_ret
            exact ⟨rfl, hbc.trans (hxd.mono hbc.size)⟩

theorem tiersOrder_contract (H : Type) (enc : TypeId × Value → H) (W : World) (base : Nat) (args : Array Value) (ds gs : List (DataW H)) (before : List MemPlace)
    (hval : ∀ (j : Nat) t v, Try.f5.params[j]? = some t → args[j]? = some v → Value.okWide Try.prog W .any base t v)
    (hW : DataW.Whole enc Try.prog Try.f5.params.toList Rows.tiersOrderSpec.vars false W args.toList ds gs before) :
    Calls Try.prog 5 args W fun e W' => ∃ v, e = .returned v ∧ Rows.tiersOrderSpec.post enc Try.prog Try.f5 false true false false W args v W' := by
  have hW' := hW
  obtain ⟨p, q, hA0, hV, rfl, hfz, hnd⟩ := hW
  have hA : DataW.TrodAll enc Try.prog W 0 (fun _ => true) true Try.f5.params.toList args.toList ds p := hA0
  have hlt := hA.lt
  rw [Try.params5] at hA hval
  obtain ⟨v0, vs0, d0, ds0, p0, q0, hargs0, rfl, rfl, h0, rr0⟩ := trodAll_cons hA
  obtain ⟨v1, vs1, d1, ds1, p1, q1, rfl, rfl, rfl, h1, rr1⟩ := trodAll_cons rr0
  obtain ⟨v2, vs2, d2, ds2, p2, q2, rfl, rfl, rfl, h2, rr2⟩ := trodAll_cons rr1
  obtain ⟨v3, vs3, d3, ds3, p3, q3, rfl, rfl, rfl, h3, rr3⟩ := trodAll_cons rr2
  obtain ⟨rfl, rfl, rfl⟩ := trodAll_nil rr3
  obtain rfl : args = #[v0, v1, v2, v3] := by cases args; simp_all
  obtain ⟨rfl, rfl⟩ := trodVars_none hV
  obtain ⟨A, nn0, c, rfl⟩ := okWide_slice Try.underlying22 (hval 0 22 v0 rfl rfl)
  obtain ⟨fu0, ff0⟩ := h0
  obtain ⟨L, rfl, t0, b0, m0⟩ := open_three (B := W.heap.size) Try.underlying22 Try.underlying36 rfl rfl rfl Try.underlying3 (by kernel_rfl) rfl rfl rfl (by kernel_rfl) (fun y (hy : y ∈ p0) => hlt y (by simp [hy])) ff0
  unfold maxLen at m0
  obtain ⟨A2, nn1, c2, rfl⟩ := okWide_slice Try.underlying23 (hval 1 23 v1 rfl rfl)
  obtain ⟨fu1, ff1⟩ := h1
  obtain ⟨cs, rfl, t1, b1, m1, z1⟩ := open_nums (B := W.heap.size) Try.underlying23 Try.underlying3 (by kernel_rfl) (fun y (hy : y ∈ p1) => hlt y (by simp [hy])) ff1
  unfold maxLen at m1
  obtain ⟨f, rfl, rfl, rfl, hwf2⟩ := open_int Try.underlying5 (hval 2 5 v2 rfl rfl) h2
  have r2 : 0 ≤ f ∧ f ≤ 255 := by simpa [Lit.wf, IntKind.min, IntKind.max, IntKind.signed, IntKind.bits] using hwf2
  obtain ⟨s, rfl, rfl, rfl, hwf3⟩ := open_int Try.underlying5 (hval 3 5 v3 rfl rfl) h3
  have r3 : 0 ≤ s ∧ s ≤ 255 := by simpa [Lit.wf, IntKind.min, IntKind.max, IntKind.signed, IntKind.bits] using hwf3
  refine (order_any A A2 c c2 L cs f s W t0 t1 (by omega) (by omega) (by omega) (by omega) (by omega) (by omega)).mono fun e W' ⟨he, hb⟩ => ?_
  subst he
  exact ⟨_, rfl, law_post laidOut Try.underlying4 rfl (by kernel_rfl) rfl hW' rfl hb⟩
set_option maxRecDepth 100000 in
theorem tiersOrder_lifted (os : Os) (started : os.Started) (H : Type) (enc : TypeId × Value → H) :
    ReturnsInHanded {} Try.checked os 5 .any (Rows.tiersOrderSpec.pre6 enc Try.prog Try.f5 Rows.tiersOrderRow.domain false) (Rows.tiersOrderSpec.post enc Try.prog Try.f5 false true false false) := by
  refine returnsInHanded_of_change (C := Try.checked) own started (by kernel_rfl) Try.func5
    (ChangeSpec.witness6 (enc := enc) (C := Try.checked) false ⟨#[], #[.slice none 0 0, .slice none 0 0, .int .u8 0, .int .u8 0], []⟩ 8 (by kernel_rfl) (by kernel_rfl) (by kernel_rfl) (by kernel_rfl)) ?_
  intro W base args ds gs before hval hW _ _
  exact tiersOrder_contract H enc W base args ds gs before hval hW
theorem tiersOrder_holds : Rows.TiersOrderSaid :=
  OpenClaim.holds_of_wide 5 Try.f5 rfl rfl rfl rfl rfl rfl rfl ⟨rfl, rfl, rfl, rfl, rfl⟩ rfl rfl rfl rfl rfl (by kernel_rfl) Try.func5 (by kernel_rfl)
    (of_decide_eq_true (by kernel_rfl)) (by unfold Func.isWrapper; first | (rw [if_pos (by decide +kernel)]; kernel_rfl) | (rw [if_neg (by decide +kernel)]; exact ⟨rfl, rfl⟩))
    (fun os started H enc _ => tiersOrder_lifted os started H enc)
end Go.Proofs.Ytcienmbbfcljnaa
