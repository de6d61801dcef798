/-
  The walks of the reference's Run and Few, and of Keeps. Conditions: none.
-/
import Derived.Test.YteahkgoedibimaaWalkH
namespace Go.Proofs.Yteahkgoedibimaa
open Go.RowKit

set_option maxHeartbeats 2000000 in
theorem rrun_any (A1 A2 A3 A4 A5 : Option Addr) (c1 c2 c3 c4 c5 : Nat) (ws ls : List P2) (rs : List P3) (G T : List Int) (w : World) (h1 : Two w w.heap.size A1 ws) (h2 : Two w w.heap.size A2 ls) (h3 : Three w w.heap.size A3 rs) (h4 : Nums w w.heap.size A4 G) (h5 : Nums w w.heap.size A5 T)
    (hl1 : ws.length ≤ 9223372036854775807) (hl4 : G.length ≤ 9223372036854775807) :
    Calls Try.prog 13 #[.agg #[.slice A1 ws.length c1, .slice A2 ls.length c2, .slice A3 rs.length c3], .slice A4 G.length c4, .slice A5 T.length c5] w (PairSays (runR ws ls rs G T) (runE ws ls rs G T) w) := by
  go_enter Try.func13, Try.ntmps13
  go_wp2_with fail
  have hbA := lit_below w (.cells #[.slice A1 ws.length c1, .slice A2 ls.length c2, .slice A3 rs.length c3] 26)
  have hbox := BoxC.new w (.slice A1 ws.length c1) (.slice A2 ls.length c2) (.slice A3 rs.length c3) 26
  generalize w.alloc (.cells #[.slice A1 ws.length c1, .slice A2 ls.length c2, .slice A3 rs.length c3] 26) = wA at hbA hbox ⊢
  obtain ⟨x0, x1, x2, sA⟩ := hbox
  refine (rright_any _ _ _ _ _ _ ws ls rs _ (two_ext h1 hbA) (two_ext h2 hbA) (three_ext h3 hbA) hl1).mono ?_
  rintro e w1 ⟨rfl, hx1⟩
  have hb1 := hbA.trans (hx1.mono hbA.size)
  obtain ⟨x0, x1, x2, sA⟩ := BoxC.ext ⟨x0, x1, x2, sA⟩ hx1
  cases hr : rightC ws ls rs
  · have HR := Lib.hid hr
    clear hr
    go_wp2_with fail
    go_ret2
    exact run_bad (by simp [runB, worstB, HR.out]) hb1
  have HR := Lib.hid hr
  clear hr
  go_wp2_with fail
  refine (rfits_any _ _ _ _ _ _ _ _ ws ls rs G _ (num_ext h4 hb1) hl4).mono ?_
  rintro e w2 ⟨rfl, hx2⟩
  have hb2 := hb1.trans (hx2.mono hb1.size)
  obtain ⟨x0, x1, x2, sA⟩ := BoxC.ext ⟨x0, x1, x2, sA⟩ hx2
  cases hr : fitsB ws.length G
  · have HS := Lib.hid hr
    clear hr
    go_wp2_with fail
    go_ret2
    exact run_bad (by simp [runB, worstB, HS.out]) hb2
  have HS := Lib.hid hr
  clear hr
  by_cases hn : T.length = ls.length
  rotate_left
  · have hnb : ((T.length : Int) != (ls.length : Int)) = true := by simp; omega
    go_wp2_with fail
    go_ret2
    exact run_bad (by simp [runB, hn]) hb2
  have hnb : ((T.length : Int) != (ls.length : Int)) = false := by simp; omega
  have HN := Lib.hid hn
  have HF := Lib.hid (fine_right HR.out)
  have HT := Lib.hid (fits_at HS.out)
  have HW := Lib.hid (show worstB ws ls rs G = true by simp [worstB, HR.out, HS.out])
  clear hn
  have hll : ls.length ≤ 1000000000 := by have := HF.out.1; omega
  have hlT : T.length ≤ 1000000000 := by have := HN.out; omega
  have sB := hb2.size
  go_wp2_with fail
  clear hnb
  go_loopw [8] (fun i wr => ∃ k : Nat, k ≤ T.length ∧ i = .int .i64 k ∧ (∀ j, j < k → tookB ls T j = true) ∧ Below w2.heap.size w2 wr) (fun i _ => T.length - (intOf i).toNat)
  case atStart => exact ⟨0, Nat.zero_le _, rfl, fun j h => absurd h (by omega), Below.refl _ _⟩
  case round =>
    obtain ⟨k, hk, rfl, hall, hbB⟩ := hrel
    have HA := Lib.hid hall
    clear hall
    have hbw := hb2.trans (hbB.mono hb2.size)
    have x1 := ((bcell hbB).1 _ _ sA).trans x1
    by_cases hltT : k < T.length
    · have hlt : k < ls.length := by have := HN.out; omega
      obtain ⟨b', o, rfl, hb', e0, e1⟩ := (h2.below hbw).at_ hlt
      obtain ⟨b5, o5, rfl, hb5, f0⟩ := (h5.below hbw).at_ hltT
      have i0' : (0 : Int) ≤ k := by omega
      have i1' : (k : Int) < (ls.length : Int) := by omega
      have i2' : (k : Int) < (T.length : Int) := by omega
      have hq : tookB ls T k = inB T[k] ls[k].a ls[k].b := by rw [tookB, getD1 hltT, getD2 hlt]
      have HQ := Lib.hid hq
      clear hq
      generalize ls[k] = t at *
      generalize T[k] = y at *
      have hsz := hbB.size
      have i3' : b5 < wr.heap.size := by omega
      have i4' : b' < wr.heap.size := by omega
      have i5' : w.heap.size < wr.heap.size := by omega
      cases hin : inB y t.a t.b
      · go_wp2_with fail
        refine wp_region_mix [(0, true), (1, true), (2, true), (3, true), (4, true), (5, true), (6, true), (7, true), (8, true), (9, true), (10, true), (11, true), (12, true), (13, true), (14, true), (15, true), (16, false), (17, true)] [] (SB w.heap.size w wr.heap.size none _) (by kernel_rfl) (by kernel_rfl) (by kernel_rfl) (by kernel_rfl) (by decide) (SB.start hbw (by omega)) (fun hS => ?_)
        simp only [planned, List.filterMap_cons, List.filterMap_nil, List.getElem?_cons_zero, List.getElem?_cons_succ, Option.map_some]
        repeat (first
          | (refine mix_skip (by rfl) ?_; try simp only [Act.put, List.setIfInBounds_toArray, List.set_cons_zero, List.set_cons_succ])
          | (refine mix_pass hS (by rfl) ?_; try simp only [Act.put, List.setIfInBounds_toArray, List.set_cons_zero, List.set_cons_succ])
          | (refine mix_pure (by rfl) (by rfl) (fun K hK => ?_); go_big_quiet_op; refine hK _ ?_; clear hK K)
          | (refine mix_take (by rfl) ?_
             apply Exists.intro
             refine ⟨?_, ?_⟩
             · intro w' hSw
               have hSc := hSw.cell
               clear hSw
               go_simp
               try with_reducible rfl
             try simp only [Act.put, List.setIfInBounds_toArray, List.set_cons_zero, List.set_cons_succ])
          | (refine mix_move (by rfl) (fun K hK => ?_)
             first
               | (go_simp; go_at_call 33; refine (in_any _ _ _ _).mono ?_; rw [hin]; rintro e w6 ⟨rfl, hx⟩)
               | go_simp
             try dsimp only
             first
               | refine hK.out _ _ (hS.step hx (by omega)) ?_
               | refine hK.out _ _ hS ?_
               | refine hK.out _ _ (hS.alloc _ (by omega)) ?_
               | refine hK.out _ _ (hS.grown hg hx) ?_
             clear hK K hS
             intro hS
             try simp only [Act.put, List.setIfInBounds_toArray, List.set_cons_zero, List.set_cons_succ])
          | fail)
        refine mix_nil ?_
        simp only [tailed, List.filterMap_nil]
        go_wp2_with fail
        refine NoPanic.normal ?_
        have hb9 := hS.below
        have HI := Lib.hid hin
        clear hin
        go_wp2_with fail
        go_ret2
        exact run_bad (run_not hlt (by rw [HQ.out, HI.out])) hb9
      · go_wp2_with fail
        refine wp_region_mix [(0, true), (1, true), (2, true), (3, true), (4, true), (5, true), (6, true), (7, true), (8, true), (9, true), (10, true), (11, true), (12, true), (13, true), (14, true), (15, true), (16, false), (17, true)] [] (SB w2.heap.size w2 wr.heap.size none _) (by kernel_rfl) (by kernel_rfl) (by kernel_rfl) (by kernel_rfl) (by decide) (SB.start hbB (by omega)) (fun hS => ?_)
        simp only [planned, List.filterMap_cons, List.filterMap_nil, List.getElem?_cons_zero, List.getElem?_cons_succ, Option.map_some]
        repeat (first
          | (refine mix_skip (by rfl) ?_; try simp only [Act.put, List.setIfInBounds_toArray, List.set_cons_zero, List.set_cons_succ])
          | (refine mix_pass hS (by rfl) ?_; try simp only [Act.put, List.setIfInBounds_toArray, List.set_cons_zero, List.set_cons_succ])
          | (refine mix_pure (by rfl) (by rfl) (fun K hK => ?_); go_big_quiet_op; refine hK _ ?_; clear hK K)
          | (refine mix_take (by rfl) ?_
             apply Exists.intro
             refine ⟨?_, ?_⟩
             · intro w' hSw
               have hSc := hSw.cell
               clear hSw
               go_simp
               try with_reducible rfl
             try simp only [Act.put, List.setIfInBounds_toArray, List.set_cons_zero, List.set_cons_succ])
          | (refine mix_move (by rfl) (fun K hK => ?_)
             first
               | (go_simp; go_at_call 33; refine (in_any _ _ _ _).mono ?_; rw [hin]; rintro e w6 ⟨rfl, hx⟩)
               | go_simp
             try dsimp only
             first
               | refine hK.out _ _ (hS.step hx (by omega)) ?_
               | refine hK.out _ _ hS ?_
               | refine hK.out _ _ (hS.alloc _ (by omega)) ?_
               | refine hK.out _ _ (hS.grown hg hx) ?_
             clear hK K hS
             intro hS
             try simp only [Act.put, List.setIfInBounds_toArray, List.set_cons_zero, List.set_cons_succ])
          | fail)
        refine mix_nil ?_
        simp only [tailed, List.filterMap_nil]
        go_wp2_with fail
        refine NoPanic.normal ?_
        have hb9 := hS.below
        have HI := Lib.hid hin
        clear hin
        go_wp2_with fail
        go_roundw
        case rel =>
          refine ⟨k + 1, by omega, by go_num, fun j hj => ?_, hb9⟩
          by_cases e : j = k
          · subst e; rw [HQ.out, HI.out]
          · exact HA.out j (by omega)
        case measure => simp [intOf]; omega
    · have hal := run_all (ls := ls) (T := T) (fun j hj => HA.out j (by have := HN.out; omega))
      have HL := Lib.hid hal
      clear hal
      obtain ⟨x0, x1, x2, sA⟩ : BoxC wr w.heap.size (.slice A1 ws.length c1) (.slice A2 ls.length c2) (.slice A3 rs.length c3) := BoxC.ext ⟨x0, by assumption, x2, sA⟩ hbB
      go_wp2_with fail
      refine (rplay_any _ _ _ _ _ _ _ _ _ _ ws ls rs G T _ (num_ext h4 hbw) (num_ext h5 hbw) HF.out.1.2.1 HT.out.1 (by rw [HN.out]; exact HF.out.1.2.2.1) (fun k _ => HT.out.2 k) (took_bounds HF.out (fun k hk => took_at HL.out hk))).mono ?_
      rintro e w7 ⟨v7, rfl, own7, hx⟩
      have hb9 := hbw.trans (hx.mono hbw.size)
      go_wp2_with fail
      go_ret2
      exact run_good (by rw [runB, HW.out, HL.out, HN.out]; simp) own7 hb9

def fewC (ws ls : List P2) (rs : List P3) : Bool := decide (ws.length ≤ 14) && decide (ls.length ≤ 14) && decide (rs.length ≤ 20)
set_option maxHeartbeats 400000 in
theorem few_any (A1 A2 A3 : Option Addr) (c1 c2 c3 : Nat) (ws ls : List P2) (rs : List P3) (w : World) :
    Calls Try.prog 9 #[.agg #[.slice A1 ws.length c1, .slice A2 ls.length c2, .slice A3 rs.length c3]] w fun e w' => e = .returned (.bool (fewC ws ls rs)) ∧ Below w.heap.size w w' := by
  by_cases p1 : ws.length ≤ 14
  rotate_left
  · have p1' : decide ((ws.length : Int) ≤ 14) = false := decide_eq_false (by omega)
    go_enter Try.func9, Try.ntmps9
    go_wp2
    go_ret
    exact ⟨by simp [fewC]; omega, (Below.refl _ _).alloc (Nat.le_refl _) _⟩
  by_cases p2 : ls.length ≤ 14
  rotate_left
  · have p2' : decide ((ls.length : Int) ≤ 14) = false := decide_eq_false (by omega)
    go_enter Try.func9, Try.ntmps9
    go_wp2
    go_ret
    exact ⟨by simp [fewC]; omega, (Below.refl _ _).alloc (Nat.le_refl _) _⟩
  have p1' : decide ((ws.length : Int) ≤ 14) = true := decide_eq_true (by omega)
  have p2' : decide ((ls.length : Int) ≤ 14) = true := decide_eq_true (by omega)
  by_cases p3 : rs.length ≤ 20
  · have p3' : decide ((rs.length : Int) ≤ 20) = true := decide_eq_true (by omega)
    go_enter Try.func9, Try.ntmps9
    go_wp2
    go_ret
    exact ⟨by simp [fewC]; omega, (Below.refl _ _).alloc (Nat.le_refl _) _⟩
  · have p3' : decide ((rs.length : Int) ≤ 20) = false := decide_eq_false (by omega)
    go_enter Try.func9, Try.ntmps9
    go_wp2
    go_ret
    exact ⟨by simp [fewC]; omega, (Below.refl _ _).alloc (Nat.le_refl _) _⟩
end Go.Proofs.Yteahkgoedibimaa
