/-
  The walks of the reference's kept, Tiny and Wins. Conditions: none.
-/
import Derived.Test.YteahkgoedibimaaKeeps
import Derived.Test.YteahkgoedibimaaLawO
namespace Go.Proofs.Yteahkgoedibimaa
open Go.RowKit
open Classical in
/-- a Prop as a Bool -/
noncomputable def isB (p : Prop) : Bool := decide p
theorem isB_true {p : Prop} (h : p) : isB p = true := by simp [isB, h]
theorem isB_false {p : Prop} (h : ¬ p) : isB p = false := by simp [isB, h]
set_option maxHeartbeats 2000000 in
theorem kept_any (A1 A2 A3 A4 : Option Addr) (c1 c2 c3 c4 n : Nat) (ws ls : List P2) (rs : List P3) (k : Nat) (t : Int) (T : List Int) (w : World) (h3 : Three w w.heap.size A3 rs) (h4 : Shows w w.heap.size 1 A4 n (ints T)) (hn : T.length = n) (hk : n = k) (hF : FineC ws ls rs)
    (ht : 0 ≤ t ∧ t ≤ 4194304) (hT : ∀ i, 0 ≤ T.getD i 0 ∧ T.getD i 0 ≤ 4194304) :
    Calls Try.prog 41 #[.agg #[.slice A1 ws.length c1, .slice A2 ls.length c2, .slice A3 rs.length c3], .int .i64 k, .int .i64 t, .slice A4 n c4] w fun e w' => e = .returned (.bool (isB (keptAt rs k t T))) ∧ Below w.heap.size w w' := by
  have HF := Lib.hid hF
  have HT := Lib.hid hT
  have HN := Lib.hid hn
  have HK := Lib.hid hk
  clear hF hT hn hk
  have hr200 : rs.length ≤ 200 := HF.out.1.2.2.2
  go_enter Try.func41, Try.ntmps41
  go_wp2_with fail
  have hbA := lit_below w (.cells #[.slice A1 ws.length c1, .slice A2 ls.length c2, .slice A3 rs.length c3] 26)
  have hbox := BoxC.new w (.slice A1 ws.length c1) (.slice A2 ls.length c2) (.slice A3 rs.length c3) 26
  generalize w.alloc (.cells #[.slice A1 ws.length c1, .slice A2 ls.length c2, .slice A3 rs.length c3] 26) = wA at hbA hbox ⊢
  obtain ⟨x0, x1, x2, sA⟩ := hbox
  go_loopw [9] (fun i wr => ∃ q : Nat, q ≤ rs.length ∧ i = .int .i64 q ∧ (∀ j, j < q → (rs.getD j ⟨0, 0, 0⟩).b = k → t - T.getD (rs.getD j ⟨0, 0, 0⟩).a.toNat 0 ≤ (rs.getD j ⟨0, 0, 0⟩).c) ∧ Below wA.heap.size wA wr) (fun i _ => rs.length - (intOf i).toNat)
  case atStart => exact ⟨0, Nat.zero_le _, rfl, fun j h => absurd h (by omega), Below.refl _ _⟩
  case round =>
    obtain ⟨q, hq, rfl, hall, hbB⟩ := hrel
    have HA := Lib.hid hall
    clear hall
    have hbw := hbA.trans (hbB.mono hbA.size)
    have y2 := ((bcell hbB).1 _ _ sA).trans x2
    by_cases hlt : q < rs.length
    · obtain ⟨b3, o3, rfl, hb3, e0, e1, e2⟩ := (h3.below hbw).at_ hlt
      have hr := HF.out.2.2.2 q hlt
      have hT3 := getD3 hlt
      rw [hT3] at hr
      have HT3 := Lib.hid hT3
      clear hT3
      generalize hT9 : rs[q] = r at e0 e1 e2 hr HT3
      clear hT9
      obtain ⟨ra, rb, rc⟩ := r
      obtain ⟨g0, g1, g2, g3, g4⟩ := hr
      simp only at g0 g1 g2 g3 g4 e0 e1 e2
      obtain ⟨na, rfl⟩ := Int.eq_ofNat_of_zero_le g0
      obtain ⟨nb, rfl⟩ := Int.eq_ofNat_of_zero_le (a := rb) (by omega)
      have i0' : (0 : Int) ≤ q := by omega
      have i1' : (q : Int) < (rs.length : Int) := by omega
      have hszB := hbB.size
      have i2' : b3 < wr.heap.size := by have := hbw.size; omega
      have wq : IntKind.i64.wrap ((q : Int) + 1) = (q : Int) + 1 := IntWalk.i64_in _ (by omega)
      have hbD := hbw.alloc (o := .cells #[.int .i64 na, .int .i64 nb, .int .i64 rc] 49) hbw.size
      have hbE := hbB.alloc (o := .cells #[.int .i64 na, .int .i64 nb, .int .i64 rc] 49) hszB
      have hszA := size_alloc wr (.cells #[.int .i64 na, .int .i64 nb, .int .i64 rc] 49)
      by_cases hbk : nb = k
      rotate_left
      · have t1 : ((nb : Int) == (k : Int)) = false := by simp; omega
        have t1' : (nb == k) = false := by simp [hbk]
        have HBK := Lib.hid hbk
        clear hbk
        go_wp2_with fail
        refine wp_region_mix [(0, true), (1, true), (2, true), (3, true), (4, true), (5, true), (6, true), (7, true), (8, true), (9, true), (10, true), (11, true), (12, true), (13, true), (14, true), (15, true)] [] (SB wA.heap.size wA (wr.heap.size+1) none _) (by kernel_rfl) (by kernel_rfl) (by kernel_rfl) (by kernel_rfl) (by decide) (SB.start hbE (by omega)) (fun hS => ?_)
        simp only [planned, List.filterMap_cons, List.filterMap_nil, List.getElem?_cons_zero, List.getElem?_cons_succ, Option.map_some]
        repeat (first
          | (refine mix_skip (by rfl) ?_; try simp only [Act.put, List.setIfInBounds_toArray, List.set_cons_zero, List.set_cons_succ])
          | (refine mix_pass hS (by rfl) ?_; try simp only [Act.put, List.setIfInBounds_toArray, List.set_cons_zero, List.set_cons_succ])
          | (refine mix_pure (by rfl) (by rfl) (fun K hK => ?_); go_big_quiet_op; refine hK _ ?_; clear hK K)
          | (refine mix_take (by rfl) ?_
             apply Exists.intro
             refine ⟨?_, ?_⟩
             · intro w' hSw
               have hSc := hSw.cell
               clear hSw
               go_simp
               try with_reducible rfl
             try simp only [Act.put, List.setIfInBounds_toArray, List.set_cons_zero, List.set_cons_succ])
          | (refine mix_move (by rfl) (fun K hK => ?_)
             go_simp
             try dsimp only
             first
               | refine hK.out _ _ (hS.step hx (by omega)) ?_
               | refine hK.out _ _ hS ?_
               | refine hK.out _ _ (hS.alloc _ (by omega)) ?_
               | refine hK.out _ _ (hS.grown hg hx) ?_
             clear hK K hS
             intro hS
             try simp only [Act.put, List.setIfInBounds_toArray, List.set_cons_zero, List.set_cons_succ])
          | fail)
        refine mix_nil ?_
        simp only [tailed, List.filterMap_nil]
        go_wp2_with fail
        refine NoPanic.normal ?_
        have hb9 := hS.below
        go_wp2_with fail
        go_roundw
        case rel =>
          refine ⟨q + 1, by omega, by go_num, fun j hj hjb => ?_, hb9⟩
          by_cases e : j = q
          · subst e; rw [HT3.out] at hjb; simp only at hjb; exact absurd (by omega) HBK.out
          · exact HA.out j (by omega) hjb
        case measure => simp [intOf]; omega
      have t1 : ((nb : Int) == (k : Int)) = true := by simp; omega
      have t1' : (nb == k) = true := by simp [hbk]
      have HBK := Lib.hid hbk
      have hnan : na < n := by have := HK.out; omega
      clear hbk
      obtain ⟨b4, o4, rfl, hb4, hc4⟩ := h4.2 (by omega)
      have f0 : wr.cell? ⟨b4, o4 + na, none⟩ = some (.int .i64 (T.getD na 0)) := ((bcell hbw).1 _ _ hb4).trans (hc4 na _ (ints_getD (by have := HN.out; omega)))
      clear hc4
      have k0 := HT.out na
      have HRQ := Lib.hid (show T.getD (rs.getD q ⟨0, 0, 0⟩).a.toNat 0 = T.getD na 0 by rw [HT3.out]; simp)
      generalize T.getD na 0 = ya at f0 k0 HRQ
      have ws1 : IntKind.i64.wrap (t - ya) = t - ya := IntWalk.i64_in _ (by omega)
      have j0' : (0 : Int) ≤ na := by omega
      have j1' : (na : Int) < (n : Int) := by omega
      have i3' : b4 < wr.heap.size := by have := hbw.size; omega
      by_cases hbad : rc < t - ya
      · go_wp2_with fail
        refine wp_region_mix [(0, true), (1, true), (2, true), (3, true), (4, true), (5, true), (6, true), (7, true), (8, true), (9, true), (10, true), (11, true), (12, true), (13, true), (14, true), (15, true)] [] (SB w.heap.size w (wr.heap.size+1) none _) (by kernel_rfl) (by kernel_rfl) (by kernel_rfl) (by kernel_rfl) (by decide) (SB.start hbD (by omega)) (fun hS => ?_)
        simp only [planned, List.filterMap_cons, List.filterMap_nil, List.getElem?_cons_zero, List.getElem?_cons_succ, Option.map_some]
        repeat (first
          | (refine mix_skip (by rfl) ?_; try simp only [Act.put, List.setIfInBounds_toArray, List.set_cons_zero, List.set_cons_succ])
          | (refine mix_pass hS (by rfl) ?_; try simp only [Act.put, List.setIfInBounds_toArray, List.set_cons_zero, List.set_cons_succ])
          | (refine mix_pure (by rfl) (by rfl) (fun K hK => ?_); go_big_quiet_op; refine hK _ ?_; clear hK K)
          | (refine mix_take (by rfl) ?_
             apply Exists.intro
             refine ⟨?_, ?_⟩
             · intro w' hSw
               have hSc := hSw.cell
               clear hSw
               go_simp
               try with_reducible rfl
             try simp only [Act.put, List.setIfInBounds_toArray, List.set_cons_zero, List.set_cons_succ])
          | (refine mix_move (by rfl) (fun K hK => ?_)
             go_simp
             try dsimp only
             first
               | refine hK.out _ _ (hS.step hx (by omega)) ?_
               | refine hK.out _ _ hS ?_
               | refine hK.out _ _ (hS.alloc _ (by omega)) ?_
               | refine hK.out _ _ (hS.grown hg hx) ?_
             clear hK K hS
             intro hS
             try simp only [Act.put, List.setIfInBounds_toArray, List.set_cons_zero, List.set_cons_succ])
          | fail)
        refine mix_nil ?_
        simp only [tailed, List.filterMap_nil]
        go_wp2_with fail
        refine NoPanic.normal ?_
        have hb9 := hS.below
        go_wp2_with fail
        go_ret
        refine ⟨ret_bool (isB_false fun h => ?_).symm, hb9⟩
        have := h q hlt (by rw [HT3.out]; simp only; have := HBK.out; omega)
        rw [HRQ.out, HT3.out] at this
        simp only at this
        omega
      · have hbad' := decide_eq_false hbad
        have HBD := Lib.hid hbad
        clear hbad
        go_wp2_with fail
        refine wp_region_mix [(0, true), (1, true), (2, true), (3, true), (4, true), (5, true), (6, true), (7, true), (8, true), (9, true), (10, true), (11, true), (12, true), (13, true), (14, true), (15, true)] [] (SB wA.heap.size wA (wr.heap.size+1) none _) (by kernel_rfl) (by kernel_rfl) (by kernel_rfl) (by kernel_rfl) (by decide) (SB.start hbE (by omega)) (fun hS => ?_)
        simp only [planned, List.filterMap_cons, List.filterMap_nil, List.getElem?_cons_zero, List.getElem?_cons_succ, Option.map_some]
        repeat (first
          | (refine mix_skip (by rfl) ?_; try simp only [Act.put, List.setIfInBounds_toArray, List.set_cons_zero, List.set_cons_succ])
          | (refine mix_pass hS (by rfl) ?_; try simp only [Act.put, List.setIfInBounds_toArray, List.set_cons_zero, List.set_cons_succ])
          | (refine mix_pure (by rfl) (by rfl) (fun K hK => ?_); go_big_quiet_op; refine hK _ ?_; clear hK K)
          | (refine mix_take (by rfl) ?_
             apply Exists.intro
             refine ⟨?_, ?_⟩
             · intro w' hSw
               have hSc := hSw.cell
               clear hSw
               go_simp
               try with_reducible rfl
             try simp only [Act.put, List.setIfInBounds_toArray, List.set_cons_zero, List.set_cons_succ])
          | (refine mix_move (by rfl) (fun K hK => ?_)
             go_simp
             try dsimp only
             first
               | refine hK.out _ _ (hS.step hx (by omega)) ?_
               | refine hK.out _ _ hS ?_
               | refine hK.out _ _ (hS.alloc _ (by omega)) ?_
               | refine hK.out _ _ (hS.grown hg hx) ?_
             clear hK K hS
             intro hS
             try simp only [Act.put, List.setIfInBounds_toArray, List.set_cons_zero, List.set_cons_succ])
          | fail)
        refine mix_nil ?_
        simp only [tailed, List.filterMap_nil]
        go_wp2_with fail
        refine NoPanic.normal ?_
        have hb9 := hS.below
        go_wp2_with fail
        go_roundw
        case rel =>
          refine ⟨q + 1, by omega, by go_num, fun j hj hjb => ?_, hb9⟩
          by_cases e : j = q
          · subst e; rw [HRQ.out, HT3.out]; have := HBD.out; simp only; omega
          · exact HA.out j (by omega) hjb
        case measure => simp [intOf]; omega
    · go_wp2_with fail
      go_ret
      exact ⟨ret_bool (isB_true fun j hj hjb => HA.out j (by omega) hjb).symm, hbw⟩

def tinyB (ws ls : List P2) (rs : List P3) : Bool := rightC ws ls rs && decide (ws.length ≤ 4) && !ws.any (fun u => decide (5 < u.b - u.a)) && !ls.any (fun u => decide (3 < u.b - u.a))
set_option maxHeartbeats 2000000 in
theorem tiny_any (A1 A2 A3 : Option Addr) (c1 c2 c3 : Nat) (ws ls : List P2) (rs : List P3) (w : World) (h1 : Two w w.heap.size A1 ws) (h2 : Two w w.heap.size A2 ls) (h3 : Three w w.heap.size A3 rs) (hl1 : ws.length ≤ 9223372036854775807) :
    Calls Try.prog 22 #[.agg #[.slice A1 ws.length c1, .slice A2 ls.length c2, .slice A3 rs.length c3]] w fun e w' => e = .returned (.bool (tinyB ws ls rs)) ∧ Below w.heap.size w w' := by
  go_enter Try.func22, Try.ntmps22
  go_wp2_with fail
  have hbA := lit_below w (.cells #[.slice A1 ws.length c1, .slice A2 ls.length c2, .slice A3 rs.length c3] 26)
  have hbox := BoxC.new w (.slice A1 ws.length c1) (.slice A2 ls.length c2) (.slice A3 rs.length c3) 26
  generalize w.alloc (.cells #[.slice A1 ws.length c1, .slice A2 ls.length c2, .slice A3 rs.length c3] 26) = wA at hbA hbox ⊢
  obtain ⟨x0, x1, x2, sA⟩ := hbox
  refine (rright_any _ _ _ _ _ _ ws ls rs _ (two_ext h1 hbA) (two_ext h2 hbA) (three_ext h3 hbA) hl1).mono ?_
  rintro e w1 ⟨rfl, hx1⟩
  have hb1 := hbA.trans (hx1.mono hbA.size)
  obtain ⟨x0, x1, x2, sA⟩ := BoxC.ext ⟨x0, x1, x2, sA⟩ hx1
  cases hr : rightC ws ls rs
  · have HR := Lib.hid hr
    clear hr
    go_wp2_with fail
    go_ret
    exact ⟨ret_bool (by simp [tinyB, HR.out]), hb1⟩
  have HR := Lib.hid hr
  have HF := Lib.hid (fine_right hr)
  clear hr
  by_cases p1 : (4 : Int) < (ws.length : Int)
  · go_wp2_with fail
    go_ret
    exact ⟨ret_bool (by simp [tinyB]; omega), hb1⟩
  have p1' := decide_eq_false p1
  have hll : ls.length + 1 = ws.length := HF.out.1.2.2.1
  have s1 := hb1.size
  go_wp2_with fail
  go_loopw [3] (fun i wr => ∃ k : Nat, k ≤ ws.length ∧ i = .int .i64 k ∧ (∀ j, (hj : j < ws.length) → j < k → decide (5 < ws[j].b - ws[j].a) = false) ∧ Below w1.heap.size w1 wr) (fun i _ => ws.length - (intOf i).toNat)
  case atStart => exact ⟨0, Nat.zero_le _, rfl, fun j _ h => absurd h (by omega), Below.refl _ _⟩
  case round =>
    obtain ⟨k, hk, rfl, hall, hbB⟩ := hrel
    have HA := Lib.hid hall
    clear hall
    have hbw := hb1.trans (hbB.mono hb1.size)
    obtain ⟨y0, y1, y2, sB⟩ := BoxC.ext ⟨x0, x1, x2, sA⟩ hbB
    by_cases hlt : k < ws.length
    · skip
      have i0' : (0 : Int) ≤ k := by omega
      have i1' : (k : Int) < (ws.length : Int) := by omega
      have hsz := hbw.size
      obtain ⟨b, o, rfl, hb, e0, e1⟩ := (h1.below hbw).at_ hlt
      have i2' : b < wr.heap.size := by omega
      have i3' : w.heap.size < wr.heap.size := by have := hbB.size; omega
      have dk := HF.out.2.1 k
      unfold okP at dk
      rw [getD2 hlt] at dk
      generalize hT : ws[k] = t at e0 e1 dk
      have HT := Lib.hid hT
      clear hT
      have wd : IntKind.i64.wrap (t.b - t.a) = t.b - t.a := IntWalk.i64_in _ (by omega)
      have wk : IntKind.i64.wrap ((k : Int) + 1) = (k : Int) + 1 := IntWalk.i64_in _ (by omega)
      by_cases hbad : 5 < t.b - t.a
      · go_wp2_with fail
        refine wp_region_mix [(0, true), (1, true), (2, true), (3, true), (4, true), (5, true), (6, true), (7, true), (8, true), (9, true), (10, true), (11, true), (12, true), (13, true)] [] (SB w.heap.size w wr.heap.size none _) (by kernel_rfl) (by kernel_rfl) (by kernel_rfl) (by kernel_rfl) (by decide) (SB.start hbw (by omega)) (fun hS => ?_)
        simp only [planned, List.filterMap_cons, List.filterMap_nil, List.getElem?_cons_zero, List.getElem?_cons_succ, Option.map_some]
        repeat (first
          | (refine mix_skip (by rfl) ?_; try simp only [Act.put, List.setIfInBounds_toArray, List.set_cons_zero, List.set_cons_succ])
          | (refine mix_pass hS (by rfl) ?_; try simp only [Act.put, List.setIfInBounds_toArray, List.set_cons_zero, List.set_cons_succ])
          | (refine mix_pure (by rfl) (by rfl) (fun K hK => ?_); go_big_quiet_op; refine hK _ ?_; clear hK K)
          | (refine mix_take (by rfl) ?_
             apply Exists.intro
             refine ⟨?_, ?_⟩
             · intro w' hSw
               have hSc := hSw.cell
               clear hSw
               go_simp
               try with_reducible rfl
             try simp only [Act.put, List.setIfInBounds_toArray, List.set_cons_zero, List.set_cons_succ])
          | (refine mix_move (by rfl) (fun K hK => ?_)
             go_simp
             try dsimp only
             first
               | refine hK.out _ _ (hS.step hx (by omega)) ?_
               | refine hK.out _ _ hS ?_
               | refine hK.out _ _ (hS.alloc _ (by omega)) ?_
               | refine hK.out _ _ (hS.grown hg hx) ?_
             clear hK K hS
             intro hS
             try simp only [Act.put, List.setIfInBounds_toArray, List.set_cons_zero, List.set_cons_succ])
          | fail)
        refine mix_nil ?_
        simp only [tailed, List.filterMap_nil]
        go_wp2_with fail
        refine NoPanic.normal ?_
        have hb9 := hS.below
        go_wp2_with fail
        go_ret
        have : ws.any (fun u => decide (5 < u.b - u.a)) = true := List.any_eq_true.2 ⟨ws[k], List.getElem_mem _, by rw [HT.out]; exact decide_eq_true hbad⟩
        exact ⟨ret_bool (by simp [tinyB, this]), hb9⟩
      · have hbad' := decide_eq_false hbad
        have HBD := Lib.hid hbad
        clear hbad
        go_wp2_with fail
        refine wp_region_mix [(0, true), (1, true), (2, true), (3, true), (4, true), (5, true), (6, true), (7, true), (8, true), (9, true), (10, true), (11, true), (12, true), (13, true)] [] (SB w1.heap.size w1 wr.heap.size none _) (by kernel_rfl) (by kernel_rfl) (by kernel_rfl) (by kernel_rfl) (by decide) (SB.start hbB (by omega)) (fun hS => ?_)
        simp only [planned, List.filterMap_cons, List.filterMap_nil, List.getElem?_cons_zero, List.getElem?_cons_succ, Option.map_some]
        repeat (first
          | (refine mix_skip (by rfl) ?_; try simp only [Act.put, List.setIfInBounds_toArray, List.set_cons_zero, List.set_cons_succ])
          | (refine mix_pass hS (by rfl) ?_; try simp only [Act.put, List.setIfInBounds_toArray, List.set_cons_zero, List.set_cons_succ])
          | (refine mix_pure (by rfl) (by rfl) (fun K hK => ?_); go_big_quiet_op; refine hK _ ?_; clear hK K)
          | (refine mix_take (by rfl) ?_
             apply Exists.intro
             refine ⟨?_, ?_⟩
             · intro w' hSw
               have hSc := hSw.cell
               clear hSw
               go_simp
               try with_reducible rfl
             try simp only [Act.put, List.setIfInBounds_toArray, List.set_cons_zero, List.set_cons_succ])
          | (refine mix_move (by rfl) (fun K hK => ?_)
             go_simp
             try dsimp only
             first
               | refine hK.out _ _ (hS.step hx (by omega)) ?_
               | refine hK.out _ _ hS ?_
               | refine hK.out _ _ (hS.alloc _ (by omega)) ?_
               | refine hK.out _ _ (hS.grown hg hx) ?_
             clear hK K hS
             intro hS
             try simp only [Act.put, List.setIfInBounds_toArray, List.set_cons_zero, List.set_cons_succ])
          | fail)
        refine mix_nil ?_
        simp only [tailed, List.filterMap_nil]
        go_wp2_with fail
        refine NoPanic.normal ?_
        have hb9 := hS.below
        go_wp2_with fail
        go_roundw
        case rel =>
          refine ⟨k + 1, by omega, by go_num, fun j hj hjk => ?_, hb9⟩
          by_cases e : j = k
          · subst e; rw [HT.out]; exact decide_eq_false (by have := HBD.out; omega)
          · exact HA.out j hj (by omega)
        case measure => simp [intOf]; omega
    · have hany : ws.any (fun u => decide (5 < u.b - u.a)) = false := List.any_eq_false.2 (fun x hx => by
        obtain ⟨j, hj, rfl⟩ := List.getElem_of_mem hx
        simpa using HA.out j hj (by omega))
      have HW := Lib.hid hany
      clear hany
      go_wp2_with fail
      clear y0 y1 y2 sB
      go_loopw [4] (fun i wr => ∃ k : Nat, k ≤ ls.length ∧ i = .int .i64 k ∧ (∀ j, (hj : j < ls.length) → j < k → decide (3 < ls[j].b - ls[j].a) = false) ∧ Below w1.heap.size w1 wr) (fun i _ => ls.length - (intOf i).toNat)
      case atStart => exact ⟨0, Nat.zero_le _, rfl, fun j _ h => absurd h (by omega), hbB⟩
      case round =>
        obtain ⟨k, hk, rfl, hall, hbB⟩ := hrel
        have HA := Lib.hid hall
        clear hall
        have hbw := hb1.trans (hbB.mono hb1.size)
        obtain ⟨y0, y1, y2, sB⟩ := BoxC.ext ⟨x0, x1, x2, sA⟩ hbB
        by_cases hlt : k < ls.length
        · skip
          have i0' : (0 : Int) ≤ k := by omega
          have i1' : (k : Int) < (ls.length : Int) := by omega
          have hsz := hbw.size
          obtain ⟨b, o, rfl, hb, e0, e1⟩ := (h2.below hbw).at_ hlt
          have i2' : b < wr.heap.size := by omega
          have i3' : w.heap.size < wr.heap.size := by have := hbB.size; omega
          have dk := HF.out.2.2.1 k
          unfold okP at dk
          rw [getD2 hlt] at dk
          generalize hT : ls[k] = t at e0 e1 dk
          have HT := Lib.hid hT
          clear hT
          have wd : IntKind.i64.wrap (t.b - t.a) = t.b - t.a := IntWalk.i64_in _ (by omega)
          have wk : IntKind.i64.wrap ((k : Int) + 1) = (k : Int) + 1 := IntWalk.i64_in _ (by omega)
          by_cases hbad : 3 < t.b - t.a
          · go_wp2_with fail
            refine wp_region_mix [(0, true), (1, true), (2, true), (3, true), (4, true), (5, true), (6, true), (7, true), (8, true), (9, true), (10, true), (11, true), (12, true), (13, true)] [] (SB w.heap.size w wr.heap.size none _) (by kernel_rfl) (by kernel_rfl) (by kernel_rfl) (by kernel_rfl) (by decide) (SB.start hbw (by omega)) (fun hS => ?_)
            simp only [planned, List.filterMap_cons, List.filterMap_nil, List.getElem?_cons_zero, List.getElem?_cons_succ, Option.map_some]
            repeat (first
              | (refine mix_skip (by rfl) ?_; try simp only [Act.put, List.setIfInBounds_toArray, List.set_cons_zero, List.set_cons_succ])
              | (refine mix_pass hS (by rfl) ?_; try simp only [Act.put, List.setIfInBounds_toArray, List.set_cons_zero, List.set_cons_succ])
              | (refine mix_pure (by rfl) (by rfl) (fun K hK => ?_); go_big_quiet_op; refine hK _ ?_; clear hK K)
              | (refine mix_take (by rfl) ?_
                 apply Exists.intro
                 refine ⟨?_, ?_⟩
                 · intro w' hSw
                   have hSc := hSw.cell
                   clear hSw
                   go_simp
                   try with_reducible rfl
                 try simp only [Act.put, List.setIfInBounds_toArray, List.set_cons_zero, List.set_cons_succ])
              | (refine mix_move (by rfl) (fun K hK => ?_)
                 go_simp
                 try dsimp only
                 first
                   | refine hK.out _ _ (hS.step hx (by omega)) ?_
                   | refine hK.out _ _ hS ?_
                   | refine hK.out _ _ (hS.alloc _ (by omega)) ?_
                   | refine hK.out _ _ (hS.grown hg hx) ?_
                 clear hK K hS
                 intro hS
                 try simp only [Act.put, List.setIfInBounds_toArray, List.set_cons_zero, List.set_cons_succ])
              | fail)
            refine mix_nil ?_
            simp only [tailed, List.filterMap_nil]
            go_wp2_with fail
            refine NoPanic.normal ?_
            have hb9 := hS.below
            go_wp2_with fail
            go_ret
            have : ls.any (fun u => decide (3 < u.b - u.a)) = true := List.any_eq_true.2 ⟨ls[k], List.getElem_mem _, by rw [HT.out]; exact decide_eq_true hbad⟩
            exact ⟨ret_bool (by simp [tinyB, this]), hb9⟩
          · have hbad' := decide_eq_false hbad
            have HBD := Lib.hid hbad
            clear hbad
            go_wp2_with fail
            refine wp_region_mix [(0, true), (1, true), (2, true), (3, true), (4, true), (5, true), (6, true), (7, true), (8, true), (9, true), (10, true), (11, true), (12, true), (13, true)] [] (SB w1.heap.size w1 wr.heap.size none _) (by kernel_rfl) (by kernel_rfl) (by kernel_rfl) (by kernel_rfl) (by decide) (SB.start hbB (by omega)) (fun hS => ?_)
            simp only [planned, List.filterMap_cons, List.filterMap_nil, List.getElem?_cons_zero, List.getElem?_cons_succ, Option.map_some]
            repeat (first
              | (refine mix_skip (by rfl) ?_; try simp only [Act.put, List.setIfInBounds_toArray, List.set_cons_zero, List.set_cons_succ])
              | (refine mix_pass hS (by rfl) ?_; try simp only [Act.put, List.setIfInBounds_toArray, List.set_cons_zero, List.set_cons_succ])
              | (refine mix_pure (by rfl) (by rfl) (fun K hK => ?_); go_big_quiet_op; refine hK _ ?_; clear hK K)
              | (refine mix_take (by rfl) ?_
                 apply Exists.intro
                 refine ⟨?_, ?_⟩
                 · intro w' hSw
                   have hSc := hSw.cell
                   clear hSw
                   go_simp
                   try with_reducible rfl
                 try simp only [Act.put, List.setIfInBounds_toArray, List.set_cons_zero, List.set_cons_succ])
              | (refine mix_move (by rfl) (fun K hK => ?_)
                 go_simp
                 try dsimp only
                 first
                   | refine hK.out _ _ (hS.step hx (by omega)) ?_
                   | refine hK.out _ _ hS ?_
                   | refine hK.out _ _ (hS.alloc _ (by omega)) ?_
                   | refine hK.out _ _ (hS.grown hg hx) ?_
                 clear hK K hS
                 intro hS
                 try simp only [Act.put, List.setIfInBounds_toArray, List.set_cons_zero, List.set_cons_succ])
              | fail)
            refine mix_nil ?_
            simp only [tailed, List.filterMap_nil]
            go_wp2_with fail
            refine NoPanic.normal ?_
            have hb9 := hS.below
            go_wp2_with fail
            go_roundw
            case rel =>
              refine ⟨k + 1, by omega, by go_num, fun j hj hjk => ?_, hb9⟩
              by_cases e : j = k
              · subst e; rw [HT.out]; exact decide_eq_false (by have := HBD.out; omega)
              · exact HA.out j hj (by omega)
            case measure => simp [intOf]; omega
        · have hany : ls.any (fun u => decide (3 < u.b - u.a)) = false := List.any_eq_false.2 (fun x hx => by
            obtain ⟨j, hj, rfl⟩ := List.getElem_of_mem hx
            simpa using HA.out j hj (by omega))
          have HV := Lib.hid hany
          clear hany
          go_wp2_with fail
          go_ret
          have q1 : decide (ws.length ≤ 4) = true := decide_eq_true (by omega)
          exact ⟨ret_bool (by simp only [tinyB, HR.out, HW.out, HV.out, q1, Bool.true_and, Bool.not_false]), hbw⟩
end Go.Proofs.Yteahkgoedibimaa
