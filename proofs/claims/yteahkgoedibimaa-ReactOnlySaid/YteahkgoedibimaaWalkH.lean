/-
  The walks of react's Worst and Run, and of the reference's Run. Conditions: none.
-/
import Derived.Test.YteahkgoedibimaaWalkG
namespace Go.Proofs.Yteahkgoedibimaa
open Go.RowKit

set_option maxHeartbeats 1000000 in
theorem worst_any (A1 A2 A3 A4 : Option Addr) (c1 c2 c3 c4 : Nat) (ws ls : List P2) (rs : List P3) (G : List Int) (w : World) (h1 : Two w w.heap.size A1 ws) (h2 : Two w w.heap.size A2 ls) (h3 : Three w w.heap.size A3 rs) (h4 : Nums w w.heap.size A4 G)
    (hl1 : ws.length ≤ 9223372036854775807) (hl4 : G.length ≤ 9223372036854775807) :
    Calls Try.prog 14 #[.agg #[.slice A1 ws.length c1, .slice A2 ls.length c2, .slice A3 rs.length c3], .slice A4 G.length c4] w (PairSays (worstL ws ls rs G) (worstE ws ls rs G) w) := by
  obtain ⟨i0, hi, hz0, hz1, hz2⟩ := info_parts info3
  go_enter Try.func14, Try.ntmps14
  go_wp2_with fail
  have hbA := lit_below w (.cells #[.slice A1 ws.length c1, .slice A2 ls.length c2, .slice A3 rs.length c3] 26)
  have hbox := BoxC.new w (.slice A1 ws.length c1) (.slice A2 ls.length c2) (.slice A3 rs.length c3) 26
  generalize w.alloc (.cells #[.slice A1 ws.length c1, .slice A2 ls.length c2, .slice A3 rs.length c3] 26) = wA at hbA hbox ⊢
  obtain ⟨x0, x1, x2, sA⟩ := hbox
  refine (fits_any _ _ _ _ _ _ _ _ ws ls rs G _ (two_ext h1 hbA) (two_ext h2 hbA) (three_ext h3 hbA) (num_ext h4 hbA) hl1 hl4).mono ?_
  rintro e w1 ⟨rfl, hx1⟩
  have hb1 := hbA.trans (hx1.mono hbA.size)
  obtain ⟨x0, x1, x2, sA⟩ := BoxC.ext ⟨x0, x1, x2, sA⟩ hx1
  cases hr : worstB ws ls rs G
  · have HR := Lib.hid hr
    clear hr
    go_wp2_with fail
    go_ret2
    exact worst_bad HR.out hb1
  have HOK := Lib.hid hr
  have hr2 := hr
  simp only [worstB, Bool.and_eq_true] at hr2
  have HF := Lib.hid (fine_right hr2.1)
  have HT := Lib.hid (fits_at hr2.2)
  clear hr hr2
  have hll : ls.length ≤ 1000000000 := by have := HF.out.1; omega
  have sB := hb1.size
  go_wp2_with fail
  go_loopw [6, 16] (fun v i wr => ∃ k : Nat, k ≤ ls.length ∧ i = .int .i64 k ∧ wr.ownsRow w.heap.size 3 1 v k (ints ((highL ls).take k)) ∧ Below w.heap.size w wr) (fun _ i _ => ls.length - (intOf i).toNat)
  case atStart => exact ⟨0, Nat.zero_le _, rfl, World.ownsRow_nil _ _ _ _, hb1⟩
  case round =>
    obtain ⟨k, hk, rfl, own1, hbw⟩ := hrel
    generalize u6 = v at own1 ⊢
    by_cases hlt : k < ls.length
    · obtain ⟨b', o, rfl, hb', e0, e1⟩ := (h2.below hbw).at_ hlt
      have i0' : (0 : Int) ≤ k := by omega
      have i1' : (k : Int) < (ls.length : Int) := by omega
      have hnx : ints ((highL ls).take k) ++ [.int .i64 ls[k].b] = ints ((highL ls).take (k + 1)) := by
        rw [take_snoc _ k (by rw [highL_length]; exact hlt)]; simp [ints, highL]
      have HN := Lib.hid hnx
      clear hnx
      generalize ls[k] = t at *
      have hsz := hbw.size
      have hbB := hbw.alloc (o := .cells #[.int .i64 t.a, .int .i64 t.b] 44) hsz
      have hszB := hbB.size
      have own2 := own1.alloc (.cells #[.int .i64 t.a, .int .i64 t.b] 44)
      go_wp2_with (first | (at_builtin; refine push_own rfl _ _ 27 rfl w.heap.size 3 i0 (.int .i64 0) 1 8 Try.underlying27 hi hz0 hz1 hz2 rfl (by decide) _ _ _ _ rfl own2 1 1 [.int .i64 t.b] (by rw [size_alloc]; rfl) rfl (by simp [Value.oneCell']) hszB (by omega) (by omega) ?_; intro v1' wa own1' hba hga))
      go_roundw
      case rel => exact ⟨k + 1, by omega, by go_num, by rw [← HN.out]; exact own1', hbB.trans hba⟩
      case measure => simp [intOf]; omega
    · obtain rfl : k = ls.length := by omega
      rw [← highL_length, List.take_length] at own1
      obtain ⟨A6, c6, rfl, sh6, _, _⟩ := caps_of_own own1
      go_wp2_with fail
      refine (play_any _ _ _ _ ws.length G (highL ls) _ (num_ext h4 hbw) sh6 HF.out.1.2.1 HT.out.1 (by rw [highL_length]; exact HF.out.1.2.2.1) (fun k _ => HT.out.2 k) (fun k _ => highL_bounds HF.out k)).mono ?_
      rintro e w7 ⟨v7, rfl, own7, hx⟩
      have hb9 := hbw.trans (hx.mono hbw.size)
      go_wp2_with fail
      go_ret2
      exact worst_good HOK.out own7 hb9

def tookB (ls : List P2) (T : List Int) (i : Nat) : Bool := inB (T.getD i 0) (ls.getD i ⟨0, 0⟩).a (ls.getD i ⟨0, 0⟩).b
def runB (ws ls : List P2) (rs : List P3) (G T : List Int) : Bool := worstB ws ls rs G && decide (T.length = ls.length) && (List.range ls.length).all (tookB ls T)
def runR (ws ls : List P2) (rs : List P3) (G T : List Int) : List Int := if runB ws ls rs G T then runL G T ws.length else []
def runE (ws ls : List P2) (rs : List P3) (G T : List Int) : Int := if runB ws ls rs G T then 0 else 1
theorem run_bad {ws ls : List P2} {rs : List P3} {G T : List Int} (h : runB ws ls rs G T = false) {w w' : World} (hb : Below w.heap.size w w') : PairSays (runR ws ls rs G T) (runE ws ls rs G T) w (.returned (.tuple #[.slice none 0 0, .int .i64 1])) w' :=
  pair_bad (by simp [runR, h]) (by simp [runE, h]) hb
theorem run_good {ws ls : List P2} {rs : List P3} {G T : List Int} (h : runB ws ls rs G T = true) {w w' : World} {base n : Nat} {v : Value} (own : w'.ownsRow base 3 1 v n (ints (runL G T ws.length))) (hb : Below w.heap.size w w') :
    PairSays (runR ws ls rs G T) (runE ws ls rs G T) w (.returned (.tuple #[v, .int .i64 0])) w' :=
  pair_good (by simp [runR, h]) (by simp [runE, h]) own hb
theorem run_not {ws ls : List P2} {rs : List P3} {G T : List Int} {k : Nat} (hk : k < ls.length) (h : tookB ls T k = false) : runB ws ls rs G T = false := by
  simp only [runB, Bool.and_eq_false_iff]
  right
  rw [List.all_eq_false]
  exact ⟨k, by simpa using hk, by simp [h]⟩
theorem run_all {ls : List P2} {T : List Int} (h : ∀ k, k < ls.length → tookB ls T k = true) : (List.range ls.length).all (tookB ls T) = true := by
  rw [List.all_eq_true]
  intro k hk
  exact h k (by simpa using hk)
theorem took_at {ls : List P2} {T : List Int} (h : (List.range ls.length).all (tookB ls T) = true) {k : Nat} (hk : k < ls.length) : (ls.getD k ⟨0, 0⟩).a ≤ T.getD k 0 ∧ T.getD k 0 ≤ (ls.getD k ⟨0, 0⟩).b := by
  rw [List.all_eq_true] at h
  have := h k (by simpa using hk)
  simp only [tookB, inB, Bool.and_eq_true, decide_eq_true_eq] at this
  exact this
theorem took_bounds {ws ls : List P2} {rs : List P3} {T : List Int} (h : FineC ws ls rs) (ht : ∀ k, k < ls.length → (ls.getD k ⟨0, 0⟩).a ≤ T.getD k 0 ∧ T.getD k 0 ≤ (ls.getD k ⟨0, 0⟩).b) (k : Nat) (hk : k + 1 < ws.length) : 0 ≤ T.getD k 0 ∧ T.getD k 0 ≤ 1048576 := by
  have h1 := ht k (by have := h.1; omega)
  have h2 := h.2.2.1 k
  unfold okP at h2
  omega
set_option maxHeartbeats 2000000 in
theorem run_any (A1 A2 A3 A4 A5 : Option Addr) (c1 c2 c3 c4 c5 : Nat) (ws ls : List P2) (rs : List P3) (G T : List Int) (w : World) (h1 : Two w w.heap.size A1 ws) (h2 : Two w w.heap.size A2 ls) (h3 : Three w w.heap.size A3 rs) (h4 : Nums w w.heap.size A4 G) (h5 : Nums w w.heap.size A5 T)
    (hl1 : ws.length ≤ 9223372036854775807) (hl4 : G.length ≤ 9223372036854775807) :
    Calls Try.prog 12 #[.agg #[.slice A1 ws.length c1, .slice A2 ls.length c2, .slice A3 rs.length c3], .slice A4 G.length c4, .slice A5 T.length c5] w (PairSays (runR ws ls rs G T) (runE ws ls rs G T) w) := by
  go_enter Try.func12, Try.ntmps12
  go_wp2_with fail
  have hbA := lit_below w (.cells #[.slice A1 ws.length c1, .slice A2 ls.length c2, .slice A3 rs.length c3] 26)
  have hbox := BoxC.new w (.slice A1 ws.length c1) (.slice A2 ls.length c2) (.slice A3 rs.length c3) 26
  generalize w.alloc (.cells #[.slice A1 ws.length c1, .slice A2 ls.length c2, .slice A3 rs.length c3] 26) = wA at hbA hbox ⊢
  obtain ⟨x0, x1, x2, sA⟩ := hbox
  refine (fits_any _ _ _ _ _ _ _ _ ws ls rs G _ (two_ext h1 hbA) (two_ext h2 hbA) (three_ext h3 hbA) (num_ext h4 hbA) hl1 hl4).mono ?_
  rintro e w1 ⟨rfl, hx1⟩
  have hb1 := hbA.trans (hx1.mono hbA.size)
  obtain ⟨x0, x1, x2, sA⟩ := BoxC.ext ⟨x0, x1, x2, sA⟩ hx1
  cases hr : worstB ws ls rs G
  · have HR := Lib.hid hr
    clear hr
    go_wp2_with fail
    go_ret2
    exact run_bad (by simp [runB, HR.out]) hb1
  by_cases hn : T.length = ls.length
  rotate_left
  · have hnb : ((T.length : Int) != (ls.length : Int)) = true := by simp; omega
    go_wp2_with fail
    go_ret2
    exact run_bad (by simp [runB, hn]) hb1
  have hnb : ((T.length : Int) != (ls.length : Int)) = false := by simp; omega
  have HN := Lib.hid hn
  have HW := Lib.hid hr
  simp only [worstB, Bool.and_eq_true] at hr
  have HF := Lib.hid (fine_right hr.1)
  have HT := Lib.hid (fits_at hr.2)
  clear hr hn
  have hll : ls.length ≤ 1000000000 := by have := HF.out.1; omega
  have sB := hb1.size
  go_wp2_with fail
  clear hnb
  go_loopw [25] (fun i wr => ∃ k : Nat, k ≤ ls.length ∧ i = .int .i64 k ∧ (∀ j, j < k → tookB ls T j = true) ∧ Below w.heap.size w wr) (fun i _ => ls.length - (intOf i).toNat)
  case atStart => exact ⟨0, Nat.zero_le _, rfl, fun j h => absurd h (by omega), hb1⟩
  case round =>
    obtain ⟨k, hk, rfl, hall, hbw⟩ := hrel
    have HA := Lib.hid hall
    clear hall
    by_cases hlt : k < ls.length
    · have hltT : k < T.length := by have := HN.out; omega
      obtain ⟨b', o, rfl, hb', e0, e1⟩ := (h2.below hbw).at_ hlt
      obtain ⟨b5, o5, rfl, hb5, f0⟩ := (h5.below hbw).at_ hltT
      have i0' : (0 : Int) ≤ k := by omega
      have i1' : (k : Int) < (ls.length : Int) := by omega
      have i2' : (k : Int) < (T.length : Int) := by omega
      have hq : tookB ls T k = inB T[k] ls[k].a ls[k].b := by rw [tookB, getD1 hltT, getD2 hlt]
      have HQ := Lib.hid hq
      clear hq
      generalize ls[k] = t at *
      generalize T[k] = y at *
      have hsz := hbw.size
      have i3' : b5 < wr.heap.size := by omega
      have i4' : b' < wr.heap.size := by omega
      have hbB := hbw.alloc (o := .cells #[.int .i64 t.a, .int .i64 t.b] 44) hsz
      have hszA := size_alloc wr (.cells #[.int .i64 t.a, .int .i64 t.b] 44)
      by_cases q1 : y < t.a
      · skip
        go_wp2_with fail
        refine wp_region_mix [(0, true), (1, true), (2, true), (3, true), (4, true), (5, true), (6, true), (7, true), (8, true), (9, true), (10, true), (11, true), (12, true), (13, true), (14, true), (15, true)] [] (SB w.heap.size w (wr.heap.size+1) none _) (by kernel_rfl) (by kernel_rfl) (by kernel_rfl) (by kernel_rfl) (by decide) (SB.start hbB (by omega)) (fun hS => ?_)
        simp only [planned, List.filterMap_cons, List.filterMap_nil, List.getElem?_cons_zero, List.getElem?_cons_succ, Option.map_some]
        repeat (first
          | (refine mix_skip (by rfl) ?_; try simp only [Act.put, List.setIfInBounds_toArray, List.set_cons_zero, List.set_cons_succ])
          | (refine mix_pass hS (by rfl) ?_; try simp only [Act.put, List.setIfInBounds_toArray, List.set_cons_zero, List.set_cons_succ])
          | (refine mix_pure (by rfl) (by rfl) (fun K hK => ?_); go_big_quiet_op; refine hK _ ?_; clear hK K)
          | (refine mix_take (by rfl) ?_
             apply Exists.intro
             refine ⟨?_, ?_⟩
             · intro w' hSw
               have hSc := hSw.cell
               clear hSw
               go_simp
               try with_reducible rfl
             try simp only [Act.put, List.setIfInBounds_toArray, List.set_cons_zero, List.set_cons_succ])
          | (refine mix_move (by rfl) (fun K hK => ?_)
             go_simp
             try dsimp only
             first
               | refine hK.out _ _ (hS.step hx (by omega)) ?_
               | refine hK.out _ _ hS ?_
               | refine hK.out _ _ (hS.alloc _ (by omega)) ?_
               | refine hK.out _ _ (hS.grown hg hx) ?_
             clear hK K hS
             intro hS
             try simp only [Act.put, List.setIfInBounds_toArray, List.set_cons_zero, List.set_cons_succ])
          | fail)
        refine mix_nil ?_
        simp only [tailed, List.filterMap_nil]
        go_wp2_with fail
        refine NoPanic.normal ?_
        have hb9 := hS.below
        go_wp2_with fail
        go_ret2
        exact run_bad (run_not hlt (by rw [HQ.out]; simp [inB]; omega)) hb9
      have q1' := decide_eq_false q1
      by_cases q2 : t.b < y
      · skip
        go_wp2_with fail
        refine wp_region_mix [(0, true), (1, true), (2, true), (3, true), (4, true), (5, true), (6, true), (7, true), (8, true), (9, true), (10, true), (11, true), (12, true), (13, true), (14, true), (15, true)] [] (SB w.heap.size w (wr.heap.size+1) none _) (by kernel_rfl) (by kernel_rfl) (by kernel_rfl) (by kernel_rfl) (by decide) (SB.start hbB (by omega)) (fun hS => ?_)
        simp only [planned, List.filterMap_cons, List.filterMap_nil, List.getElem?_cons_zero, List.getElem?_cons_succ, Option.map_some]
        repeat (first
          | (refine mix_skip (by rfl) ?_; try simp only [Act.put, List.setIfInBounds_toArray, List.set_cons_zero, List.set_cons_succ])
          | (refine mix_pass hS (by rfl) ?_; try simp only [Act.put, List.setIfInBounds_toArray, List.set_cons_zero, List.set_cons_succ])
          | (refine mix_pure (by rfl) (by rfl) (fun K hK => ?_); go_big_quiet_op; refine hK _ ?_; clear hK K)
          | (refine mix_take (by rfl) ?_
             apply Exists.intro
             refine ⟨?_, ?_⟩
             · intro w' hSw
               have hSc := hSw.cell
               clear hSw
               go_simp
               try with_reducible rfl
             try simp only [Act.put, List.setIfInBounds_toArray, List.set_cons_zero, List.set_cons_succ])
          | (refine mix_move (by rfl) (fun K hK => ?_)
             go_simp
             try dsimp only
             first
               | refine hK.out _ _ (hS.step hx (by omega)) ?_
               | refine hK.out _ _ hS ?_
               | refine hK.out _ _ (hS.alloc _ (by omega)) ?_
               | refine hK.out _ _ (hS.grown hg hx) ?_
             clear hK K hS
             intro hS
             try simp only [Act.put, List.setIfInBounds_toArray, List.set_cons_zero, List.set_cons_succ])
          | fail)
        refine mix_nil ?_
        simp only [tailed, List.filterMap_nil]
        go_wp2_with fail
        refine NoPanic.normal ?_
        have hb9 := hS.below
        go_wp2_with fail
        go_ret2
        exact run_bad (run_not hlt (by rw [HQ.out]; simp [inB]; omega)) hb9
      have q2' := decide_eq_false q2
      go_wp2_with fail
      refine wp_region_mix [(0, true), (1, true), (2, true), (3, true), (4, true), (5, true), (6, true), (7, true), (8, true), (9, true), (10, true), (11, true), (12, true), (13, true), (14, true), (15, true)] [] (SB w.heap.size w (wr.heap.size+1) none _) (by kernel_rfl) (by kernel_rfl) (by kernel_rfl) (by kernel_rfl) (by decide) (SB.start hbB (by omega)) (fun hS => ?_)
      simp only [planned, List.filterMap_cons, List.filterMap_nil, List.getElem?_cons_zero, List.getElem?_cons_succ, Option.map_some]
      repeat (first
        | (refine mix_skip (by rfl) ?_; try simp only [Act.put, List.setIfInBounds_toArray, List.set_cons_zero, List.set_cons_succ])
        | (refine mix_pass hS (by rfl) ?_; try simp only [Act.put, List.setIfInBounds_toArray, List.set_cons_zero, List.set_cons_succ])
        | (refine mix_pure (by rfl) (by rfl) (fun K hK => ?_); go_big_quiet_op; refine hK _ ?_; clear hK K)
        | (refine mix_take (by rfl) ?_
           apply Exists.intro
           refine ⟨?_, ?_⟩
           · intro w' hSw
             have hSc := hSw.cell
             clear hSw
             go_simp
             try with_reducible rfl
           try simp only [Act.put, List.setIfInBounds_toArray, List.set_cons_zero, List.set_cons_succ])
        | (refine mix_move (by rfl) (fun K hK => ?_)
           go_simp
           try dsimp only
           first
             | refine hK.out _ _ (hS.step hx (by omega)) ?_
             | refine hK.out _ _ hS ?_
             | refine hK.out _ _ (hS.alloc _ (by omega)) ?_
             | refine hK.out _ _ (hS.grown hg hx) ?_
           clear hK K hS
           intro hS
           try simp only [Act.put, List.setIfInBounds_toArray, List.set_cons_zero, List.set_cons_succ])
        | fail)
      refine mix_nil ?_
      simp only [tailed, List.filterMap_nil]
      go_wp2_with fail
      refine NoPanic.normal ?_
      have hb9 := hS.below
      go_wp2_with fail
      go_roundw
      case rel =>
        refine ⟨k + 1, by omega, by go_num, fun j hj => ?_, hb9⟩
        by_cases e : j = k
        · subst e; rw [HQ.out]; simp [inB]; omega
        · exact HA.out j (by omega)
      case measure => simp [intOf]; omega
    · have hal := run_all (ls := ls) (T := T) (fun j hj => HA.out j (by omega))
      have HL := Lib.hid hal
      clear hal
      go_wp2_with fail
      refine (play_any _ _ _ _ ws.length G T _ (num_ext h4 hbw) (num_ext h5 hbw) HF.out.1.2.1 HT.out.1 (by rw [HN.out]; exact HF.out.1.2.2.1) (fun k _ => HT.out.2 k) (took_bounds HF.out (fun k hk => took_at HL.out hk))).mono ?_
      rintro e w7 ⟨v7, rfl, own7, hx⟩
      have hb9 := hbw.trans (hx.mono hbw.size)
      go_wp2_with fail
      go_ret2
      exact run_good (by rw [runB, HW.out, HL.out, HN.out]; simp) own7 hb9
end Go.Proofs.Yteahkgoedibimaa
