/-
  The walks of tiers.Pay and of the reference's Pay: what each computes. Conditions: none.
-/
import Derived.Test.YtcienmbbfcljnaaWalkB
namespace Go.Proofs.Ytcienmbbfcljnaa
open Go.RowKit

def mn (x y : Int) : Int := if y < x then y else x
/-- what a tier pays -/
def pay1 (t : P3) (u x : Int) : Int := mn (part t x) (t.c - u)
def payAt (L : List P3) (U : List Int) (x : Int) (i : Nat) : Int := pay1 (L.getD i ⟨0, 0, 0⟩) (U.getD i 0) x
def pays (L : List P3) (U : List Int) (x : Int) (n : Nat) : List Int := (List.range n).map (payAt L U x)
def restAt (L : List P3) (U : List Int) (x : Int) : Nat → Int
  | 0 => x
  | k + 1 => restAt L U x k - payAt L U x k
def okPay (L : List P3) (U : List Int) (x : Int) : Bool := rightB L && usableB L U && okMoney x
def payR (L : List P3) (U : List Int) (x : Int) : Int := if okPay L U x then restAt L U x L.length else 0
def payL (L : List P3) (U : List Int) (x : Int) : List Int := if okPay L U x then pays L U x L.length else []
def payE (L : List P3) (U : List Int) (x : Int) : Int := if okPay L U x then 0 else 1
theorem pays_length (L : List P3) (U : List Int) (x : Int) (n : Nat) : (pays L U x n).length = n := by simp [pays]
theorem pays_succ (L : List P3) (U : List Int) (x : Int) (n : Nat) : ints (pays L U x n) ++ [.int .i64 (payAt L U x n)] = ints (pays L U x (n + 1)) := by simp [pays, ints, List.range_succ]

/-- right tiers, one by one -/
def FineT (L : List P3) : Prop := L.length ≤ 6 ∧ ∀ i, i < L.length → 0 ≤ leastAt L i ∧ leastAt L i ≤ (L.getD i ⟨0, 0, 0⟩).a ∧ (L.getD i ⟨0, 0, 0⟩).a < (L.getD i ⟨0, 0, 0⟩).b ∧ (L.getD i ⟨0, 0, 0⟩).b ≤ 1000000000000000 ∧ 0 ≤ (L.getD i ⟨0, 0, 0⟩).c ∧ (L.getD i ⟨0, 0, 0⟩).c ≤ 1000000000000000
theorem fine_of_right {L : List P3} (h : rightB L = true) : FineT L := by
  simp only [rightB, Bool.and_eq_true, decide_eq_true_eq, List.all_eq_true, List.mem_range, Bool.not_eq_true'] at h
  obtain ⟨h1, h2⟩ := h
  have nn : ∀ i, i ≤ L.length → 0 ≤ leastAt L i := by
    intro i hi
    cases i with
    | zero => exact Int.le_refl _
    | succ i =>
      have := h1 i (by omega)
      simp [badAt, badT, okMoney] at this
      simp only [leastAt]
      have : 0 ≤ (L.getD i ⟨0, 0, 0⟩).b := by simp only [List.getD_eq_getElem?_getD]; omega
      exact this
  refine ⟨h2, fun i hi => ?_⟩
  have := h1 i hi
  have n0 := nn i (by omega)
  simp only [badAt, badT, okMoney, Bool.or_eq_false_iff, Bool.not_eq_false', Bool.and_eq_true, decide_eq_false_iff_not, decide_eq_true_eq] at this
  omega
theorem fine_used {L : List P3} {U : List Int} (h : usableB L U = true) : U.length = L.length ∧ ∀ i, i < L.length → 0 ≤ U.getD i 0 ∧ U.getD i 0 ≤ (L.getD i ⟨0, 0, 0⟩).c := by
  simp only [usableB, Bool.and_eq_true, decide_eq_true_eq, List.all_eq_true, List.mem_range, Bool.not_eq_true', badU, Bool.or_eq_false_iff, decide_eq_false_iff_not] at h
  refine ⟨h.1, fun i hi => ?_⟩
  have := h.2 i (by omega)
  omega
theorem part_bounds {t : P3} {x : Int} (h1 : 0 ≤ t.a) (h2 : t.a < t.b) (h3 : t.b ≤ 1000000000000000) : 0 ≤ part t x ∧ part t x ≤ 1000000000000000 := by
  unfold part
  split
  · omega
  · split <;> omega
theorem payAt_bounds {L : List P3} {U : List Int} {x : Int} (hL : FineT L) (hU : ∀ i, i < L.length → 0 ≤ U.getD i 0 ∧ U.getD i 0 ≤ (L.getD i ⟨0, 0, 0⟩).c) {i : Nat} (hi : i < L.length) :
    0 ≤ payAt L U x i ∧ payAt L U x i ≤ 1000000000000000 ∧ payAt L U x i ≤ (L.getD i ⟨0, 0, 0⟩).c - U.getD i 0 := by
  have a := hL.2 i hi
  have b := hU i hi
  have c := part_bounds (t := L.getD i ⟨0, 0, 0⟩) (x := x) (by omega) (by omega) (by omega)
  simp only [payAt, pay1, mn]
  split <;> omega
theorem rest_bounds {L : List P3} {U : List Int} {x : Int} (hL : FineT L) (hU : ∀ i, i < L.length → 0 ≤ U.getD i 0 ∧ U.getD i 0 ≤ (L.getD i ⟨0, 0, 0⟩).c) : ∀ k, k ≤ L.length → x - k * 1000000000000000 ≤ restAt L U x k ∧ restAt L U x k ≤ x
  | 0, _ => by simp [restAt]
  | k + 1, hk => by
    have ih := rest_bounds (x := x) hL hU k (by omega)
    have := payAt_bounds (x := x) hL hU (i := k) (by omega)
    simp only [restAt]
    omega

def PaySays (L : List P3) (U : List Int) (x : Int) (w : World) (e : Ending) (w' : World) : Prop :=
  ∃ v, e = .returned (.tuple #[.int .i64 (payR L U x), v, .int .i64 (payE L U x)]) ∧ w'.ownsRow w.heap.size 3 1 v (payL L U x).length (ints (payL L U x)) ∧ Below w.heap.size w w'
theorem pay_bad {L : List P3} {U : List Int} {x : Int} (h : okPay L U x = false) {w w' : World} (hb : Below w.heap.size w w') : PaySays L U x w (.returned (.tuple #[.int .i64 0, .slice none 0 0, .int .i64 1])) w' := by
  unfold PaySays
  rw [show payR L U x = 0 from by simp [payR, h], show payL L U x = [] from by simp [payL, h], show payE L U x = 1 from by simp [payE, h]]
  exact ⟨_, rfl, World.ownsRow_nil _ _ _ _, hb⟩
theorem pay_good {L : List P3} {U : List Int} {x : Int} (h : okPay L U x = true) {w w' : World} (hb : Below w.heap.size w w') {v : Value} (own : w'.ownsRow w.heap.size 3 1 v L.length (ints (pays L U x L.length))) : PaySays L U x w (.returned (.tuple #[.int .i64 (restAt L U x L.length), v, .int .i64 0])) w' := by
  unfold PaySays
  rw [show payR L U x = restAt L U x L.length from by simp [payR, h], show payL L U x = pays L U x L.length from by simp [payL, h], show payE L U x = 0 from by simp [payE, h], pays_length]
  exact ⟨v, rfl, own, hb⟩
theorem results_tmp3 {fn : Func} {t u v : Tmp} (h : fn.results = #[.tmp t, .tmp u, .tmp v]) (tmps : Array Value) (P : Program) (w : World) :
    (results fn tmps).run P w = .ok (.tuple #[tmps.getD t undef, tmps.getD u undef, tmps.getD v undef]) w := by
  simp [results, h]

set_option maxHeartbeats 4000000 in
set_option maxRecDepth 100000 in
theorem pay_any (A A2 : Option Addr) (c c2 : Nat) (L : List P3) (U : List Int) (x : Int) (w : World) (h : Three w w.heap.size A L) (h2 : Nums w w.heap.size A2 U) (hl : L.length ≤ 9223372036854775807) (hl2 : U.length ≤ 9223372036854775807) :
    Calls Try.prog 10 #[.slice A L.length c, .slice A2 U.length c2, .int .i64 x] w (PaySays L U x w) := by
  go_enter Try.func10, Try.ntmps10
  go_wp2_with fail
  refine (right_any _ _ _ _ h hl).mono ?_
  rintro e w1 ⟨rfl, hb1⟩
  cases hr : rightB L
  · go_wp2_with fail
    ((try simp only [Exit.inBlock, Exit.then]); refine bodyPost_ret (results_tmp3 rfl _ _ _) rfl ?_)
    exact pay_bad (by simp [okPay, hr]) hb1
  have HR := Lib.hid hr
  clear hr
  go_wp2_with fail
  refine (usable_any _ _ _ _ _ _ _ (three_ext h hb1) (num_ext h2 hb1) hl2).mono ?_
  rintro e w2 ⟨rfl, hx2⟩
  have hb2 := hb1.trans (hx2.mono hb1.size)
  cases hu : usableB L U
  · go_wp2_with fail
    ((try simp only [Exit.inBlock, Exit.then]); refine bodyPost_ret (results_tmp3 rfl _ _ _) rfl ?_)
    exact pay_bad (by simp [okPay, hu]) hb2
  have HU := Lib.hid hu
  clear hu
  go_wp2_with fail
  refine (money_any _ _).mono ?_
  rintro e w3 ⟨rfl, hx3⟩
  have hbx := hb2.trans (hx3.mono hb2.size)
  cases hm : okMoney x
  · go_wp2_with fail
    ((try simp only [Exit.inBlock, Exit.then]); refine bodyPost_ret (results_tmp3 rfl _ _ _) rfl ?_)
    exact pay_bad (by simp [okPay, hm]) hbx
  have HX := Lib.hid hm
  clear hm hx2 hx3 hb1 hb2
  go_wp2_with fail
  have hok : okPay L U x = true := by simp [okPay, HR.out, HU.out, HX.out]
  have HOK := Lib.hid hok
  clear hok
  obtain ⟨i0, hi, hz0, hz1, hz2⟩ := info_parts info3
  have HL := Lib.hid (fine_of_right HR.out)
  have HUU := Lib.hid (fine_used HU.out)
  have x01 := okMoney_iff.1 HX.out
  have hn6 := HL.out.1
  go_loopw [9, 10, 32] (fun r v i wr => ∃ k : Nat, k ≤ L.length ∧ i = .int .i64 k ∧ r = .int .i64 (restAt L U x k) ∧ wr.ownsRow w.heap.size 3 1 v k (ints (pays L U x k)) ∧ Below w.heap.size w wr) (fun _ _ i _ => L.length - (intOf i).toNat)
  case atStart => exact ⟨0, Nat.zero_le _, rfl, rfl, World.ownsRow_nil _ _ _ _, hbx⟩
  case round =>
    obtain ⟨k, hk, rfl, rfl, own1, hbw⟩ := hrel
    by_cases hlt : k < L.length
    · have hltU : k < U.length := by rw [HUU.out.1]; exact hlt
      obtain ⟨b, o, rfl, hb, e0, e1, e2⟩ := (h.below hbw).at_ hlt
      obtain ⟨b2, o2, rfl, hb2, f0⟩ := (h2.below hbw).at_ hltU
      have d1 := HL.out.2 k hlt
      have d2 := HUU.out.2 k hlt
      have d3 := rest_bounds (x := x) HL.out HUU.out.2 k hk
      have d4 := payAt_bounds (x := x) HL.out HUU.out.2 hlt
      have hnx : restAt L U x (k + 1) = restAt L U x k - payAt L U x k := rfl
      have hpq : payAt L U x k = pay1 L[k] U[k] x := by rw [payAt, getD3 hlt, getD1 hltU]
      rw [getD3 hlt] at d1 d2
      rw [getD1 hltU] at d2
      rw [getD3 hlt, getD1 hltU] at d4
      have i0' : (0 : Int) ≤ k := by omega
      have i1' : (k : Int) < (L.length : Int) := by omega
      have i2' : (k : Int) < (U.length : Int) := by omega
      have hsz := hbw.size
      have i3' : b < wr.heap.size := by omega
      have i4' : b2 < wr.heap.size := by omega
      have HNX := Lib.hid hnx
      have HPS := Lib.hid (pays_succ L U x k)
      generalize L[k] = t at d1 d2 d4 hpq e0 e1 e2
      generalize U[k] = u at d2 d4 hpq f0
      have dp := part_bounds (t := t) (x := x) (by omega) (by omega) (by omega)
      have hpt : (if (if t.b < x then t.b else x) - t.a < 0 then 0 else (if t.b < x then t.b else x) - t.a) = part t x := by
        unfold part
        (repeat' split) <;> omega
      have hzb : 0 ≤ (if t.b < x then t.b else x) ∧ (if t.b < x then t.b else x) ≤ 1000000000000000 := by split <;> omega
      generalize hz : (if t.b < x then t.b else x) = z at hpt hzb
      have wp : IntKind.i64.wrap (z - t.a) = z - t.a := IntWalk.i64_in _ (by omega)
      have hbA := hbw.alloc (o := .cells #[.int .i64 t.a, .int .i64 t.b, .int .i64 t.c] 36) hsz
      have hszA := size_alloc wr (.cells #[.int .i64 t.a, .int .i64 t.b, .int .i64 t.c] 36)
      clear hnx
      go_wp2_with fail
      clear hpt wp hz hzb
      have hpn : (if t.c - u < part t x then t.c - u else part t x) = payAt L U x k := by rw [hpq]; rfl
      have wc : IntKind.i64.wrap (t.c - u) = t.c - u := IntWalk.i64_in _ (by omega)
      have wn : IntKind.i64.wrap (restAt L U x k - payAt L U x k) = restAt L U x k - payAt L U x k := IntWalk.i64_in _ (by omega)
      clear hpq
      refine wp_region_mix [(0, true), (1, true), (2, true), (3, true), (4, true), (5, true), (6, true), (7, true), (8, true)] [9] (SB w.heap.size w (wr.heap.size+1) none _) (by kernel_rfl) (by kernel_rfl) (by kernel_rfl) (by kernel_rfl) (by decide) (SB.start hbA (by omega)) (fun hS => ?_)
      simp only [planned, List.filterMap_cons, List.filterMap_nil, List.getElem?_cons_zero, List.getElem?_cons_succ, Option.map_some]
      repeat (first
        | (refine mix_skip (by rfl) ?_; try simp only [Act.put, List.setIfInBounds_toArray, List.set_cons_zero, List.set_cons_succ])
        | (refine mix_pass hS (by rfl) ?_; try simp only [Act.put, List.setIfInBounds_toArray, List.set_cons_zero, List.set_cons_succ])
        | (refine mix_pure (by rfl) (by rfl) (fun K hK => ?_); go_big_quiet_op; refine hK _ ?_; clear hK K)
        | (refine mix_take (by rfl) ?_
           apply Exists.intro
           refine ⟨?_, ?_⟩
           · intro w' hSw
             have hSc := hSw.cell
             clear hSw
             go_simp
             try with_reducible rfl
           try simp only [Act.put, List.setIfInBounds_toArray, List.set_cons_zero, List.set_cons_succ])
        | (refine mix_move (by rfl) (fun K hK => ?_)
           go_simp
           try dsimp only
           first
             | refine hK.out _ _ (hS.step hx (by omega)) ?_
             | refine hK.out _ _ hS ?_
             | refine hK.out _ _ (hS.alloc _ (by omega)) ?_
             | refine hK.out _ _ (hS.grown hg hx) ?_
           clear hK K hS
           intro hS
           try simp only [Act.put, List.setIfInBounds_toArray, List.set_cons_zero, List.set_cons_succ])
        | fail)
      refine mix_nil ?_
      simp only [tailed, List.filterMap_cons, List.filterMap_nil, List.getElem?_cons_zero, List.getElem?_cons_succ]
      go_wp2_with fail
      refine NoPanic.normal ?_
      clear hpn wc
      have own1 := (own1.alloc (.cells #[.int .i64 t.a, .int .i64 t.b, .int .i64 t.c] 36)).drew
      have hbw' := hbA.drew
      generalize (wr.alloc (.cells #[.int .i64 t.a, .int .i64 t.b, .int .i64 t.c] 36)).drew = wm at own1 hbw' ⊢
      clear hS
      have hsz' := hbw'.size
      go_wp2_with (first | (at_builtin; refine push_own rfl _ _ 23 rfl w.heap.size 3 i0 (.int .i64 0) 1 8 Try.underlying23 hi hz0 hz1 hz2 rfl (by decide) _ _ _ _ rfl own1 1 1 [.int .i64 (payAt L U x k)] rfl rfl (by simp [Value.oneCell']) hsz' (by omega) (by omega) ?_; intro v1' wa own1' hba hga))
      go_roundw
      case rel => exact ⟨k + 1, by omega, by go_num, by rw [HNX.out], by rw [← HPS.out]; exact own1', hbw'.trans hba⟩
      case measure => simp [intOf]; omega
    · go_wp2_with fail
      ((try simp only [Exit.inBlock, Exit.then]); refine bodyPost_ret (results_tmp3 rfl _ _ _) rfl ?_)
      obtain rfl : k = L.length := by omega
      exact pay_good HOK.out hbw own1
theorem claims_one (x : Int) : claimsB [x] = okMoney x := by simp [claimsB]
set_option maxHeartbeats 4000000 in
set_option maxRecDepth 100000 in
theorem rpay_any (A A2 : Option Addr) (c c2 : Nat) (L : List P3) (U : List Int) (x : Int) (w : World) (h : Three w w.heap.size A L) (h2 : Nums w w.heap.size A2 U) (hl : L.length ≤ 9223372036854775807) (hl2 : U.length ≤ 9223372036854775807) :
    Calls Try.prog 11 #[.slice A L.length c, .slice A2 U.length c2, .int .i64 x] w (PaySays L U x w) := by
  go_enter Try.func11, Try.ntmps11
  go_wp2_with fail
  refine (rright_any _ _ _ _ h hl).mono ?_
  rintro e w1 ⟨rfl, hb1⟩
  cases hr : rightB L
  · go_wp2_with fail
    ((try simp only [Exit.inBlock, Exit.then]); refine bodyPost_ret (results_tmp3 rfl _ _ _) rfl ?_)
    exact pay_bad (by simp [okPay, hr]) hb1
  have HR := Lib.hid hr
  clear hr
  go_wp2_with fail
  refine (rused_any _ _ _ _ _ _ _ (three_ext h hb1) (num_ext h2 hb1) hl2).mono ?_
  rintro e w2 ⟨rfl, hx2⟩
  have hb2 := hb1.trans (hx2.mono hb1.size)
  cases hu : usableB L U
  · go_wp2_with fail
    ((try simp only [Exit.inBlock, Exit.then]); refine bodyPost_ret (results_tmp3 rfl _ _ _) rfl ?_)
    exact pay_bad (by simp [okPay, hu]) hb2
  have HU := Lib.hid hu
  clear hu
  go_wp2_with fail
  have hb2' := hb2.alloc (o := .cells #[.int .i64 x] 3) hb2.size
  refine (rclaims_any _ 1 [x] _ (nums_lit w2 [x] 3) (by simp)).mono ?_
  rintro e w3 ⟨rfl, hx3⟩
  have hbx := hb2'.trans (hx3.mono hb2'.size)
  rw [claims_one]
  cases hm : okMoney x
  · go_wp2_with fail
    ((try simp only [Exit.inBlock, Exit.then]); refine bodyPost_ret (results_tmp3 rfl _ _ _) rfl ?_)
    exact pay_bad (by simp [okPay, hm]) hbx
  have HX := Lib.hid hm
  clear hm hx2 hx3 hb1 hb2 hb2'
  go_wp2_with fail
  have hok : okPay L U x = true := by simp [okPay, HR.out, HU.out, HX.out]
  have HOK := Lib.hid hok
  clear hok
  obtain ⟨i0, hi, hz0, hz1, hz2⟩ := info_parts info3
  have HL := Lib.hid (fine_of_right HR.out)
  have HUU := Lib.hid (fine_used HU.out)
  have x01 := okMoney_iff.1 HX.out
  have hn6 := HL.out.1
  go_loopw [9, 10, 11] (fun r v i wr => ∃ k : Nat, k ≤ L.length ∧ i = .int .i64 k ∧ r = .int .i64 (restAt L U x k) ∧ wr.ownsRow w.heap.size 3 1 v k (ints (pays L U x k)) ∧ Below w.heap.size w wr) (fun _ _ i _ => L.length - (intOf i).toNat)
  case atStart => exact ⟨0, Nat.zero_le _, rfl, rfl, World.ownsRow_nil _ _ _ _, hbx⟩
  case round =>
    obtain ⟨k, hk, rfl, rfl, own1, hbw⟩ := hrel
    by_cases hlt : k < L.length
    · have hltU : k < U.length := by rw [HUU.out.1]; exact hlt
      obtain ⟨b, o, rfl, hb, e0, e1, e2⟩ := (h.below hbw).at_ hlt
      obtain ⟨b2, o2, rfl, hb2, f0⟩ := (h2.below hbw).at_ hltU
      have d1 := HL.out.2 k hlt
      have d2 := HUU.out.2 k hlt
      have d3 := rest_bounds (x := x) HL.out HUU.out.2 k hk
      have d4 := payAt_bounds (x := x) HL.out HUU.out.2 hlt
      have hnx : restAt L U x (k + 1) = restAt L U x k - payAt L U x k := rfl
      have hpq : payAt L U x k = pay1 L[k] U[k] x := by rw [payAt, getD3 hlt, getD1 hltU]
      rw [getD3 hlt] at d1 d2
      rw [getD1 hltU] at d2
      rw [getD3 hlt, getD1 hltU] at d4
      have i0' : (0 : Int) ≤ k := by omega
      have i1' : (k : Int) < (L.length : Int) := by omega
      have i2' : (k : Int) < (U.length : Int) := by omega
      have hsz := hbw.size
      have i3' : b < wr.heap.size := by omega
      have i4' : b2 < wr.heap.size := by omega
      have HNX := Lib.hid hnx
      have HPS := Lib.hid (pays_succ L U x k)
      generalize L[k] = t at d1 d2 d4 hpq e0 e1 e2
      generalize U[k] = u at d2 d4 hpq f0
      have dp := part_bounds (t := t) (x := x) (by omega) (by omega) (by omega)
      go_wp2_with fail
      refine (rpart_any t x wr (by omega) (by omega) (by omega) (by omega) (by omega)).mono ?_
      rintro e wq ⟨rfl, hxq⟩
      have hbq := hbw.trans (hxq.mono hbw.size)
      have own1 := own_below own1 hxq
      have e0 := ((bcell hxq).1 _ _ i3').trans e0
      have e1 := ((bcell hxq).1 _ _ i3').trans e1
      have e2 := ((bcell hxq).1 _ _ i3').trans e2
      have f0 := ((bcell hxq).1 _ _ i4').trans f0
      have hszq := hxq.size
      have i3' : b < wq.heap.size := by omega
      have i4' : b2 < wq.heap.size := by omega
      have wc : IntKind.i64.wrap (t.c - u) = t.c - u := IntWalk.i64_in _ (by omega)
      clear hnx hxq
      go_wp2_with fail
      refine wp_region_mix [(0, true), (1, true), (2, true), (3, true), (4, true), (5, true), (6, true), (7, true), (8, true), (9, true), (10, true), (11, true)] [] (SB w.heap.size w wq.heap.size none _) (by kernel_rfl) (by kernel_rfl) (by kernel_rfl) (by kernel_rfl) (by decide) (SB.start hbq (by omega)) (fun hS => ?_)
      simp only [planned, List.filterMap_cons, List.filterMap_nil, List.getElem?_cons_zero, List.getElem?_cons_succ, Option.map_some]
      repeat (first
        | (refine mix_skip (by rfl) ?_; try simp only [Act.put, List.setIfInBounds_toArray, List.set_cons_zero, List.set_cons_succ])
        | (refine mix_pass hS (by rfl) ?_; try simp only [Act.put, List.setIfInBounds_toArray, List.set_cons_zero, List.set_cons_succ])
        | (refine mix_pure (by rfl) (by rfl) (fun K hK => ?_); go_big_quiet_op; refine hK _ ?_; clear hK K)
        | (refine mix_take (by rfl) ?_
           apply Exists.intro
           refine ⟨?_, ?_⟩
           · intro w' hSw
             have hSc := hSw.cell
             clear hSw
             go_simp
             try with_reducible rfl
           try simp only [Act.put, List.setIfInBounds_toArray, List.set_cons_zero, List.set_cons_succ])
        | (refine mix_move (by rfl) (fun K hK => ?_)
           go_simp
           try dsimp only
           first
             | refine hK.out _ _ (hS.step hx (by omega)) ?_
             | refine hK.out _ _ hS ?_
             | refine hK.out _ _ (hS.alloc _ (by omega)) ?_
             | refine hK.out _ _ (hS.grown hg hx) ?_
           clear hK K hS
           intro hS
           try simp only [Act.put, List.setIfInBounds_toArray, List.set_cons_zero, List.set_cons_succ])
        | fail)
      refine mix_nil ?_
      simp only [tailed, List.filterMap_nil]
      go_wp2_with fail
      refine NoPanic.normal ?_
      clear hS
      have hbd := hbq.drew
      have hszd : wq.drew.heap.size = wq.heap.size := rfl
      by_cases hc : t.c - u < part t x
      · have hpn : payAt L U x k = t.c - u := by rw [hpq, pay1, mn, if_pos hc]
        rw [hpn] at HNX HPS d4
        clear hpn hpq
        have wn : IntKind.i64.wrap (restAt L U x k - (t.c - u)) = restAt L U x k - (t.c - u) := IntWalk.i64_in _ (by omega)
        go_wp2_with fail
        refine wp_region_mix [(0, true), (1, true), (2, true), (3, true), (4, true), (5, true), (6, true), (7, true), (8, true), (9, true)] [10] (SB w.heap.size w wq.heap.size none _) (by kernel_rfl) (by kernel_rfl) (by kernel_rfl) (by kernel_rfl) (by decide) (SB.start hbd (by omega)) (fun hS => ?_)
        simp only [planned, List.filterMap_cons, List.filterMap_nil, List.getElem?_cons_zero, List.getElem?_cons_succ, Option.map_some]
        repeat (first
          | (refine mix_skip (by rfl) ?_; try simp only [Act.put, List.setIfInBounds_toArray, List.set_cons_zero, List.set_cons_succ])
          | (refine mix_pass hS (by rfl) ?_; try simp only [Act.put, List.setIfInBounds_toArray, List.set_cons_zero, List.set_cons_succ])
          | (refine mix_pure (by rfl) (by rfl) (fun K hK => ?_); go_big_quiet_op; refine hK _ ?_; clear hK K)
          | (refine mix_take (by rfl) ?_
             apply Exists.intro
             refine ⟨?_, ?_⟩
             · intro w' hSw
               have hSc := hSw.cell
               clear hSw
               go_simp
               try with_reducible rfl
             try simp only [Act.put, List.setIfInBounds_toArray, List.set_cons_zero, List.set_cons_succ])
          | (refine mix_move (by rfl) (fun K hK => ?_)
             go_simp
             try dsimp only
             first
               | refine hK.out _ _ (hS.step hx (by omega)) ?_
               | refine hK.out _ _ hS ?_
               | refine hK.out _ _ (hS.alloc _ (by omega)) ?_
               | refine hK.out _ _ (hS.grown hg hx) ?_
             clear hK K hS
             intro hS
             try simp only [Act.put, List.setIfInBounds_toArray, List.set_cons_zero, List.set_cons_succ])
          | fail)
        refine mix_nil ?_
        simp only [tailed, List.filterMap_cons, List.filterMap_nil, List.getElem?_cons_zero, List.getElem?_cons_succ]
        go_wp2_with fail
        refine NoPanic.normal ?_
        clear hS
        have own1 := own1.drew.drew
        have hbw' := hbd.drew
        generalize wq.drew.drew = wm at own1 hbw' ⊢
        have hsz' := hbw'.size
        go_wp2_with (first | (at_builtin; refine push_own rfl _ _ 23 rfl w.heap.size 3 i0 (.int .i64 0) 1 8 Try.underlying23 hi hz0 hz1 hz2 rfl (by decide) _ _ _ _ rfl own1 1 1 [.int .i64 (t.c - u)] rfl rfl (by simp [Value.oneCell']) hsz' (by omega) (by omega) ?_; intro v1' wa own1' hba hga))
        go_roundw
        case rel => exact ⟨k + 1, by omega, by go_num, by rw [HNX.out], by rw [← HPS.out]; exact own1', hbw'.trans hba⟩
        case measure => simp [intOf]; omega
      · have hpn : payAt L U x k = part t x := by rw [hpq, pay1, mn, if_neg hc]
        have hc' := decide_eq_false hc
        rw [hpn] at HNX HPS d4
        clear hpn hpq hc
        have wn : IntKind.i64.wrap (restAt L U x k - part t x) = restAt L U x k - part t x := IntWalk.i64_in _ (by omega)
        have own1 := own1.drew
        have hbw' := hbd
        generalize wq.drew = wm at own1 hbw' ⊢
        have hsz' := hbw'.size
        go_wp2_with (first | (at_builtin; refine push_own rfl _ _ 23 rfl w.heap.size 3 i0 (.int .i64 0) 1 8 Try.underlying23 hi hz0 hz1 hz2 rfl (by decide) _ _ _ _ rfl own1 1 1 [.int .i64 (part t x)] rfl rfl (by simp [Value.oneCell']) hsz' (by omega) (by omega) ?_; intro v1' wa own1' hba hga))
        go_roundw
        case rel => exact ⟨k + 1, by omega, by go_num, by rw [HNX.out], by rw [← HPS.out]; exact own1', hbw'.trans hba⟩
        case measure => simp [intOf]; omega
    · go_wp2_with fail
      ((try simp only [Exit.inBlock, Exit.then]); refine bodyPost_ret (results_tmp3 rfl _ _ _) rfl ?_)
      obtain rfl : k = L.length := by omega
      exact pay_good HOK.out hbw own1
end Go.Proofs.Ytcienmbbfcljnaa
