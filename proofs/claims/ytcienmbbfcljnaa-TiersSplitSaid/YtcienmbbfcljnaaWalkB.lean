/-
  The walks of package tiers' usable and Pay, and of the reference's Used, Part, Claims, Pay, Ints, Sum: what each computes. Conditions: none, but for sums.
-/
import Derived.Test.YtcienmbbfcljnaaWalkA
namespace Go.Proofs.Ytcienmbbfcljnaa
open Go.RowKit

def badU (L : List P3) (U : List Int) (i : Nat) : Bool := decide (U.getD i 0 < 0) || decide ((L.getD i ⟨0, 0, 0⟩).c < U.getD i 0)
def usableB (L : List P3) (U : List Int) : Bool := decide (U.length = L.length) && (List.range U.length).all (fun i => !badU L U i)
theorem getD1 {l : List Int} {k : Nat} (hk : k < l.length) : l.getD k 0 = l[k] := by simp [List.getD, hk]
theorem usable_bad {L : List P3} {U : List Int} {k : Nat} (hk : k < U.length) (h : badU L U k = true) : usableB L U = false := by
  simp only [usableB, Bool.and_eq_false_iff]
  right
  rw [List.all_eq_false]
  exact ⟨k, by simpa using hk, by simp [h]⟩
theorem usable_good {L : List P3} {U : List Int} (h0 : U.length = L.length) (h : ∀ k, k < U.length → badU L U k = false) : usableB L U = true := by
  have : (List.range U.length).all (fun k => !badU L U k) = true := by
    rw [List.all_eq_true]
    intro k hk
    simp [h k (by simpa using hk)]
  rw [usableB, this, decide_eq_true h0]
  rfl

set_option maxHeartbeats 4000000 in
theorem usable_any (A A2 : Option Addr) (c c2 : Nat) (L : List P3) (U : List Int) (w : World) (h : Three w w.heap.size A L) (h2 : Nums w w.heap.size A2 U) (hl2 : U.length ≤ 9223372036854775807) : Calls Try.prog 20 #[.slice A L.length c, .slice A2 U.length c2] w fun e w' => e = .returned (.bool (usableB L U)) ∧ Below w.heap.size w w' := by
  go_enter Try.func20, Try.ntmps20
  by_cases hn : U.length = L.length
  rotate_left
  · have hnb : ((U.length : Int) != (L.length : Int)) = true := by simp; omega
    go_wp2_with fail
    go_ret
    exact ⟨by simp [usableB, hn], Below.refl _ _⟩
  have hnb : ((U.length : Int) != (L.length : Int)) = false := by simp [hn]
  have HN := Lib.hid hn
  clear hn
  go_wp2_with fail
  clear hnb
  go_loopw [14] (fun i wr => ∃ k : Nat, k ≤ U.length ∧ i = .int .i64 k ∧ (∀ j, j < k → badU L U j = false) ∧ Below w.heap.size w wr) (fun i _ => U.length - (intOf i).toNat)
  case atStart => exact ⟨0, Nat.zero_le _, rfl, fun j h => absurd h (by omega), Below.refl _ _⟩
  case round =>
    obtain ⟨k, hk, rfl, hall, hbw⟩ := hrel
    have HA := Lib.hid hall
    clear hall
    by_cases hlt : k < U.length
    · have hlt' : k < L.length := by have := HN.out; omega
      obtain ⟨b, o, rfl, hb, e0, e1, e2⟩ := (h.below hbw).at_ hlt'
      obtain ⟨b2, o2, rfl, hb2, f0⟩ := (h2.below hbw).at_ hlt
      have hbad : badU L U k = (decide (U[k] < 0) || decide (L[k].c < U[k])) := by rw [badU, getD3 hlt', getD1 hlt]
      have HB := Lib.hid hbad
      clear hbad
      have i0' : (0 : Int) ≤ k := by omega
      have i1' : (k : Int) < (L.length : Int) := by omega
      have i2' : (k : Int) < (U.length : Int) := by omega
      have hsz := hbw.size
      have i3' : b < wr.heap.size := by omega
      have i4' : b2 < wr.heap.size := by omega
      generalize L[k] = t at HB e0 e1 e2
      generalize U[k] = u at HB f0
      by_cases h3 : u < 0
      · skip
        go_wp2_with fail
        go_ret
        exact ⟨ret_bool (usable_bad hlt (by rw [HB.out]; simp [h3])).symm, by first | exact hbw | exact hbw.drew⟩
      have h3' := decide_eq_false h3
      by_cases h4 : t.c < u
      · skip
        go_wp2_with fail
        go_ret
        exact ⟨ret_bool (usable_bad hlt (by rw [HB.out]; simp [h4])).symm, by first | exact hbw | exact hbw.drew⟩
      have h4' := decide_eq_false h4
      go_wp2_with fail
      go_roundw
      case rel =>
        refine ⟨k + 1, by omega, by go_num, fun j hj => ?_, by first | exact hbw | exact hbw.drew⟩
        by_cases e : j = k
        · subst e; rw [HB.out]; simp; omega
        · exact HA.out j (by omega)
      case measure => simp [intOf]; omega
    · go_wp2_with fail
      go_ret
      exact ⟨ret_bool (usable_good HN.out (fun j hj => HA.out j (by omega))).symm, hbw⟩
set_option maxHeartbeats 4000000 in
theorem rused_any (A A2 : Option Addr) (c c2 : Nat) (L : List P3) (U : List Int) (w : World) (h : Three w w.heap.size A L) (h2 : Nums w w.heap.size A2 U) (hl2 : U.length ≤ 9223372036854775807) : Calls Try.prog 22 #[.slice A L.length c, .slice A2 U.length c2] w fun e w' => e = .returned (.bool (usableB L U)) ∧ Below w.heap.size w w' := by
  go_enter Try.func22, Try.ntmps22
  by_cases hn : U.length = L.length
  rotate_left
  · have hnb : ((U.length : Int) != (L.length : Int)) = true := by simp; omega
    go_wp2_with fail
    go_ret
    exact ⟨by simp [usableB, hn], Below.refl _ _⟩
  have hnb : ((U.length : Int) != (L.length : Int)) = false := by simp [hn]
  have HN := Lib.hid hn
  clear hn
  go_wp2_with fail
  clear hnb
  go_loopw [5] (fun i wr => ∃ k : Nat, k ≤ U.length ∧ i = .int .i64 k ∧ (∀ j, j < k → badU L U j = false) ∧ Below w.heap.size w wr) (fun i _ => U.length - (intOf i).toNat)
  case atStart => exact ⟨0, Nat.zero_le _, rfl, fun j h => absurd h (by omega), Below.refl _ _⟩
  case round =>
    obtain ⟨k, hk, rfl, hall, hbw⟩ := hrel
    have HA := Lib.hid hall
    clear hall
    by_cases hlt : k < U.length
    · have hlt' : k < L.length := by have := HN.out; omega
      obtain ⟨b, o, rfl, hb, e0, e1, e2⟩ := (h.below hbw).at_ hlt'
      obtain ⟨b2, o2, rfl, hb2, f0⟩ := (h2.below hbw).at_ hlt
      have hbad : badU L U k = (decide (U[k] < 0) || decide (L[k].c < U[k])) := by rw [badU, getD3 hlt', getD1 hlt]
      have HB := Lib.hid hbad
      clear hbad
      have i0' : (0 : Int) ≤ k := by omega
      have i1' : (k : Int) < (L.length : Int) := by omega
      have i2' : (k : Int) < (U.length : Int) := by omega
      have hsz := hbw.size
      have i3' : b < wr.heap.size := by omega
      have i4' : b2 < wr.heap.size := by omega
      generalize L[k] = t at HB e0 e1 e2
      generalize U[k] = u at HB f0
      by_cases h3 : u < 0
      · skip
        go_wp2_with fail
        refine wp_region_mix [(0, true), (1, true), (2, true), (3, true), (4, true), (5, true), (6, true), (7, true), (8, true), (9, true), (10, true), (11, true), (12, true), (13, true), (14, true), (15, true), (16, true)] [] (SB w.heap.size w wr.heap.size none _) (by kernel_rfl) (by kernel_rfl) (by kernel_rfl) (by kernel_rfl) (by decide) (SB.start hbw (by omega)) (fun hS => ?_)
        simp only [planned, List.filterMap_cons, List.filterMap_nil, List.getElem?_cons_zero, List.getElem?_cons_succ, Option.map_some]
        repeat (first
          | (refine mix_skip (by rfl) ?_; try simp only [Act.put, List.setIfInBounds_toArray, List.set_cons_zero, List.set_cons_succ])
          | (refine mix_pass hS (by rfl) ?_; try simp only [Act.put, List.setIfInBounds_toArray, List.set_cons_zero, List.set_cons_succ])
          | (refine mix_pure (by rfl) (by rfl) (fun K hK => ?_); go_big_quiet_op; refine hK _ ?_; clear hK K)
          | (refine mix_take (by rfl) ?_
             apply Exists.intro
             refine ⟨?_, ?_⟩
             · intro w' hSw
               have hSc := hSw.cell
               clear hSw
               go_simp
               try with_reducible rfl
             try simp only [Act.put, List.setIfInBounds_toArray, List.set_cons_zero, List.set_cons_succ])
          | (refine mix_move (by rfl) (fun K hK => ?_)
             go_simp
             try dsimp only
             first
               | refine hK.out _ _ (hS.step hx (by omega)) ?_
               | refine hK.out _ _ hS ?_
               | refine hK.out _ _ (hS.alloc _ (by omega)) ?_
               | refine hK.out _ _ (hS.grown hg hx) ?_
             clear hK K hS
             intro hS
             try simp only [Act.put, List.setIfInBounds_toArray, List.set_cons_zero, List.set_cons_succ])
          | fail)
        refine mix_nil ?_
        simp only [tailed, List.filterMap_nil]
        go_wp2_with fail
        refine NoPanic.normal ?_
        go_wp2_with fail
        go_ret
        exact ⟨ret_bool (usable_bad hlt (by rw [HB.out]; simp [h3])).symm, by first | exact hbw | exact hbw.drew⟩
      have h3' := decide_eq_false h3
      by_cases h4 : t.c < u
      · skip
        go_wp2_with fail
        refine wp_region_mix [(0, true), (1, true), (2, true), (3, true), (4, true), (5, true), (6, true), (7, true), (8, true), (9, true), (10, true), (11, true), (12, true), (13, true), (14, true), (15, true), (16, true)] [] (SB w.heap.size w wr.heap.size none _) (by kernel_rfl) (by kernel_rfl) (by kernel_rfl) (by kernel_rfl) (by decide) (SB.start hbw (by omega)) (fun hS => ?_)
        simp only [planned, List.filterMap_cons, List.filterMap_nil, List.getElem?_cons_zero, List.getElem?_cons_succ, Option.map_some]
        repeat (first
          | (refine mix_skip (by rfl) ?_; try simp only [Act.put, List.setIfInBounds_toArray, List.set_cons_zero, List.set_cons_succ])
          | (refine mix_pass hS (by rfl) ?_; try simp only [Act.put, List.setIfInBounds_toArray, List.set_cons_zero, List.set_cons_succ])
          | (refine mix_pure (by rfl) (by rfl) (fun K hK => ?_); go_big_quiet_op; refine hK _ ?_; clear hK K)
          | (refine mix_take (by rfl) ?_
             apply Exists.intro
             refine ⟨?_, ?_⟩
             · intro w' hSw
               have hSc := hSw.cell
               clear hSw
               go_simp
               try with_reducible rfl
             try simp only [Act.put, List.setIfInBounds_toArray, List.set_cons_zero, List.set_cons_succ])
          | (refine mix_move (by rfl) (fun K hK => ?_)
             go_simp
             try dsimp only
             first
               | refine hK.out _ _ (hS.step hx (by omega)) ?_
               | refine hK.out _ _ hS ?_
               | refine hK.out _ _ (hS.alloc _ (by omega)) ?_
               | refine hK.out _ _ (hS.grown hg hx) ?_
             clear hK K hS
             intro hS
             try simp only [Act.put, List.setIfInBounds_toArray, List.set_cons_zero, List.set_cons_succ])
          | fail)
        refine mix_nil ?_
        simp only [tailed, List.filterMap_nil]
        go_wp2_with fail
        refine NoPanic.normal ?_
        go_wp2_with fail
        go_ret
        exact ⟨ret_bool (usable_bad hlt (by rw [HB.out]; simp [h4])).symm, by first | exact hbw | exact hbw.drew⟩
      have h4' := decide_eq_false h4
      go_wp2_with fail
      refine wp_region_mix [(0, true), (1, true), (2, true), (3, true), (4, true), (5, true), (6, true), (7, true), (8, true), (9, true), (10, true), (11, true), (12, true), (13, true), (14, true), (15, true), (16, true)] [] (SB w.heap.size w wr.heap.size none _) (by kernel_rfl) (by kernel_rfl) (by kernel_rfl) (by kernel_rfl) (by decide) (SB.start hbw (by omega)) (fun hS => ?_)
      simp only [planned, List.filterMap_cons, List.filterMap_nil, List.getElem?_cons_zero, List.getElem?_cons_succ, Option.map_some]
      repeat (first
        | (refine mix_skip (by rfl) ?_; try simp only [Act.put, List.setIfInBounds_toArray, List.set_cons_zero, List.set_cons_succ])
        | (refine mix_pass hS (by rfl) ?_; try simp only [Act.put, List.setIfInBounds_toArray, List.set_cons_zero, List.set_cons_succ])
        | (refine mix_pure (by rfl) (by rfl) (fun K hK => ?_); go_big_quiet_op; refine hK _ ?_; clear hK K)
        | (refine mix_take (by rfl) ?_
           apply Exists.intro
           refine ⟨?_, ?_⟩
           · intro w' hSw
             have hSc := hSw.cell
             clear hSw
             go_simp
             try with_reducible rfl
           try simp only [Act.put, List.setIfInBounds_toArray, List.set_cons_zero, List.set_cons_succ])
        | (refine mix_move (by rfl) (fun K hK => ?_)
           go_simp
           try dsimp only
           first
             | refine hK.out _ _ (hS.step hx (by omega)) ?_
             | refine hK.out _ _ hS ?_
             | refine hK.out _ _ (hS.alloc _ (by omega)) ?_
             | refine hK.out _ _ (hS.grown hg hx) ?_
           clear hK K hS
           intro hS
           try simp only [Act.put, List.setIfInBounds_toArray, List.set_cons_zero, List.set_cons_succ])
        | fail)
      refine mix_nil ?_
      simp only [tailed, List.filterMap_nil]
      go_wp2_with fail
      refine NoPanic.normal ?_
      go_wp2_with fail
      go_roundw
      case rel =>
        refine ⟨k + 1, by omega, by go_num, fun j hj => ?_, by first | exact hbw | exact hbw.drew⟩
        by_cases e : j = k
        · subst e; rw [HB.out]; simp; omega
        · exact HA.out j (by omega)
      case measure => simp [intOf]; omega
    · go_wp2_with fail
      go_ret
      exact ⟨ret_bool (usable_good HN.out (fun j hj => HA.out j (by omega))).symm, hbw⟩

def part (t : P3) (x : Int) : Int := if x ≤ t.a then 0 else if t.b ≤ x then t.b - t.a else x - t.a
set_option maxHeartbeats 1000000 in
theorem rpart_any (t : P3) (x : Int) (w : World) (h1 : 0 ≤ t.a) (h2 : t.a < t.b) (h3 : t.b ≤ 1000000000000000) (h4 : x ≤ 1000000000000000) (h5 : 0 ≤ x) :
    Calls Try.prog 24 #[.agg #[.int .i64 t.a, .int .i64 t.b, .int .i64 t.c], .int .i64 x] w fun e w' => e = .returned (.int .i64 (part t x)) ∧ Below w.heap.size w w' := by
  have hb := (Below.refl w.heap.size w).alloc (o := .cells #[.int .i64 t.a, .int .i64 t.b, .int .i64 t.c] 36) (Nat.le_refl _)
  go_enter Try.func24, Try.ntmps24
  have w1 : IntKind.i64.wrap (t.b - t.a) = t.b - t.a := IntWalk.i64_in _ (by omega)
  have w2 : IntKind.i64.wrap (x - t.a) = x - t.a := IntWalk.i64_in _ (by omega)
  by_cases h6 : x ≤ t.a
  · go_wp2_with fail
    go_ret
    exact ⟨ret_int (by unfold part; split <;> (try split) <;> omega), hb⟩
  have h6' := decide_eq_false h6
  by_cases h7 : t.b ≤ x
  · go_wp2_with fail
    go_ret
    exact ⟨ret_int (by unfold part; split <;> (try split) <;> omega), hb⟩
  have h7' := decide_eq_false h7
  go_wp2_with fail
  go_ret
  exact ⟨ret_int (by unfold part; split <;> (try split) <;> omega), hb⟩

set_option maxHeartbeats 1000000 in
theorem rclaims_any (A : Option Addr) (c : Nat) (l : List Int) (w : World) (h : Nums w w.heap.size A l) (hl : l.length ≤ 9223372036854775807) :
    Calls Try.prog 23 #[.slice A l.length c] w fun e w' => e = .returned (.bool (claimsB l)) ∧ Below w.heap.size w w' := by
  go_enter Try.func23, Try.ntmps23
  go_wp2_with fail
  go_loopw [3] (fun i wr => ∃ k : Nat, k ≤ l.length ∧ i = .int .i64 k ∧ (∀ j, (hj : j < l.length) → j < k → okMoney l[j] = true) ∧ Below w.heap.size w wr) (fun i _ => l.length - (intOf i).toNat)
  case atStart => exact ⟨0, Nat.zero_le _, rfl, fun j _ h => absurd h (by omega), Below.refl _ _⟩
  case round =>
    obtain ⟨k, hk, rfl, hall, hbw⟩ := hrel
    have HA := Lib.hid hall
    clear hall
    by_cases hlt : k < l.length
    · obtain ⟨b, o, rfl, hb, e0⟩ := (h.below hbw).at_ hlt
      have hbad : okMoney l[k] = (decide (0 ≤ l[k]) && decide (l[k] ≤ 1000000000000000)) := rfl
      have hmem := List.getElem_mem hlt
      have HB := Lib.hid hbad
      have HM := Lib.hid hmem
      clear hbad hmem
      have i0' : (0 : Int) ≤ k := by omega
      have i1' : (k : Int) < (l.length : Int) := by omega
      have hsz := hbw.size
      have i3' : b < wr.heap.size := by omega
      have no : ∀ x, x = l[k] → okMoney x = false → claimsB l = false := fun x e hx => by
        rw [claimsB, List.any_eq_true.2 ⟨x, e ▸ HM.out, by rw [hx]; rfl⟩]; rfl
      have NO := Lib.hid no
      clear no
      generalize hz : l[k] = z at HB e0
      have HZ := Lib.hid hz
      clear hz
      by_cases h3 : z < 0
      · go_wp2_with fail
        go_ret
        exact ⟨ret_bool (NO.out z HZ.out.symm (by rw [HB.out]; simp; omega)).symm, hbw⟩
      have h3' := decide_eq_false h3
      by_cases h4 : 1000000000000000 < z
      · go_wp2_with fail
        go_ret
        exact ⟨ret_bool (NO.out z HZ.out.symm (by rw [HB.out]; simp; omega)).symm, hbw⟩
      have h4' := decide_eq_false h4
      go_wp2_with fail
      go_roundw
      case rel =>
        refine ⟨k + 1, by omega, by go_num, fun j hj hjk => ?_, hbw⟩
        by_cases e : j = k
        · subst e; rw [HZ.out, HB.out]; simp; omega
        · exact HA.out j hj (by omega)
      case measure => simp [intOf]; omega
    · go_wp2_with fail
      go_ret
      exact ⟨ret_bool (by rw [claimsB, not_any (fun j hj => HA.out j hj (by omega))]; rfl), hbw⟩

def sumTo (l : List Int) : Nat → Int
  | 0 => 0
  | k + 1 => sumTo l k + l.getD k 0
set_option maxHeartbeats 1000000 in
theorem sum_any (A : Option Addr) (c : Nat) (l : List Int) (w : World) (h : Nums w w.heap.size A l) (hl : l.length ≤ 9223372036854775807) (hs : ∀ k, k ≤ l.length → -9223372036854775808 ≤ sumTo l k ∧ sumTo l k ≤ 9223372036854775807) :
    Calls Try.prog 17 #[.slice A l.length c] w fun e w' => e = .returned (.int .i64 (sumTo l l.length)) ∧ Below w.heap.size w w' := by
  have HS := Lib.hid hs
  clear hs
  go_enter Try.func17, Try.ntmps17
  go_wp2_with fail
  go_loopw [3, 4] (fun n i wr => ∃ k : Nat, k ≤ l.length ∧ i = .int .i64 k ∧ n = .int .i64 (sumTo l k) ∧ Below w.heap.size w wr) (fun _ i _ => l.length - (intOf i).toNat)
  case atStart => exact ⟨0, Nat.zero_le _, rfl, rfl, Below.refl _ _⟩
  case round =>
    obtain ⟨k, hk, rfl, rfl, hbw⟩ := hrel
    by_cases hlt : k < l.length
    · obtain ⟨b, o, rfl, hb, e0⟩ := (h.below hbw).at_ hlt
      have hs := HS.out (k + 1) (by omega)
      have hnx : sumTo l k + l[k] = sumTo l (k + 1) := by rw [sumTo, getD1 hlt]
      rw [← hnx] at hs
      have ws : IntKind.i64.wrap (sumTo l k + l[k]) = sumTo l k + l[k] := IntWalk.i64_in _ (by omega)
      have HN := Lib.hid hnx
      clear hnx hs
      go_wp2_with fail
      go_roundw
      case rel => exact ⟨k + 1, by omega, by go_num, by rw [HN.out], hbw⟩
      case measure => simp [intOf]; omega
    · go_wp2_with fail
      go_ret
      obtain rfl : k = l.length := by omega
      exact ⟨rfl, hbw⟩
/-- What the reference's Ints says. -/
theorem ints_any (A1 A2 : Option Addr) (c1 c2 : Nat) (xs ys : List Int) (w : World) (h1 : Nums w w.heap.size A1 xs) (h2 : Nums w w.heap.size A2 ys) (hlen : xs.length ≤ 9223372036854775807) (hlen2 : ys.length ≤ 9223372036854775807) :
    Calls Try.prog 14 #[.slice A1 xs.length c1, .slice A2 ys.length c2] w fun e w' => e = .returned (.bool (decide (xs = ys))) ∧ Below w.heap.size w w' := by
  go_enter Try.func14, Try.ntmps14
  by_cases hn : xs.length = ys.length
  · have hnb : ((xs.length : Int) != (ys.length : Int)) = false := by simp [hn]
    go_wp2_with fail
    go_loopw [5] (fun i wr => ∃ k : Nat, k ≤ xs.length ∧ i = .int .i64 k ∧ (∀ j, (hj : j < xs.length) → (hj2 : j < ys.length) → j < k → xs[j] = ys[j]) ∧ Below w.heap.size w wr) (fun i _ => xs.length - (intOf i).toNat)
    case atStart => exact ⟨0, Nat.zero_le _, rfl, fun j _ _ h => absurd h (by omega), Below.refl _ _⟩
    case round =>
      obtain ⟨k, hk, rfl, hall, hbw⟩ := hrel
      have HA := Lib.hid hall
      clear hall
      by_cases hlt : k < xs.length
      · obtain ⟨b, o, rfl, hb, e0⟩ := (h1.below hbw).at_ hlt
        obtain ⟨b2, o2, rfl, hb2, g0⟩ := (h2.below hbw).at_ (k := k) (by omega)
        have i0' : (0 : Int) ≤ k := by omega
        have i1' : (k : Int) < (xs.length : Int) := by omega
        have i2' : (k : Int) < (ys.length : Int) := by omega
        have hsz := hbw.size
        have p1 : b < wr.heap.size := by omega
        have p2 : b2 < wr.heap.size := by omega
        go_wp2_with fail
        refine wp_region_mix [(0, true), (1, true), (2, true), (3, true), (4, true), (5, true), (6, true), (7, true), (8, true)] [] (SB w.heap.size w wr.heap.size none _) (by kernel_rfl) (by kernel_rfl) (by kernel_rfl) (by kernel_rfl) (by decide) (SB.start hbw (by omega)) (fun hS => ?_)
        simp only [planned, List.filterMap_cons, List.filterMap_nil, List.getElem?_cons_zero, List.getElem?_cons_succ, Option.map_some]
        repeat (first
          | (refine mix_skip (by rfl) ?_; try simp only [Act.put, List.setIfInBounds_toArray, List.set_cons_zero, List.set_cons_succ])
          | (refine mix_pass hS (by rfl) ?_; try simp only [Act.put, List.setIfInBounds_toArray, List.set_cons_zero, List.set_cons_succ])
          | (refine mix_pure (by rfl) (by rfl) (fun K hK => ?_); go_big_quiet_op; refine hK _ ?_; clear hK K)
          | (refine mix_take (by rfl) ?_
             apply Exists.intro
             refine ⟨?_, ?_⟩
             · intro w' hSw
               have hSc := hSw.cell
               clear hSw
               go_simp
               try with_reducible rfl
             try simp only [Act.put, List.setIfInBounds_toArray, List.set_cons_zero, List.set_cons_succ])
          | (refine mix_move (by rfl) (fun K hK => ?_)
             go_simp
             try dsimp only
             first
               | refine hK.out _ _ (hS.step hx (by omega)) ?_
               | refine hK.out _ _ hS ?_
               | refine hK.out _ _ (hS.alloc _ (by omega)) ?_
               | refine hK.out _ _ (hS.grown hg hx) ?_
             clear hK K hS
             intro hS
             try simp only [Act.put, List.setIfInBounds_toArray, List.set_cons_zero, List.set_cons_succ])
          | fail)
        refine mix_nil ?_
        simp only [tailed, List.filterMap_nil]
        go_wp2_with fail
        refine NoPanic.normal ?_
        by_cases he : xs[k] = ys[k]
        · have heb : (xs[k] != ys[k]) = false := by simp [he]
          have HE := Lib.hid he
          clear he
          go_wp2_with fail
          go_roundw
          case rel =>
            refine ⟨k + 1, by omega, by go_num, fun j hj hj2 hjk => ?_, hbw.drew⟩
            by_cases e : j = k
            · subst e; exact HE.out
            · exact HA.out j hj hj2 (by omega)
          case measure => simp [intOf]; omega
        · have heb : (xs[k] != ys[k]) = true := by simp [he]
          have hne : ¬ xs = ys := fun e => he (by subst e; rfl)
          have HE := Lib.hid hne
          clear he hne
          go_wp2_with fail
          go_ret
          exact ⟨by simp [HE.out], hbw.drew⟩
      · go_wp2_with fail
        go_ret
        have : xs = ys := List.ext_getElem hn fun j hj hj2 => HA.out j hj hj2 (by omega)
        exact ⟨by simp [this], hbw⟩
  · have hnb : ((xs.length : Int) != (ys.length : Int)) = true := by simp; omega
    go_wp2_with fail
    go_ret
    have : ¬ xs = ys := fun e => hn (by rw [e])
    exact ⟨by simp [this], Below.refl _ _⟩
end Go.Proofs.Ytcienmbbfcljnaa
