/-
  WorkWorst: what Check permits is permitted in every course, and what it names is not in one. Conditions: none.
-/
import Derived.Test.YthjedajkebehbaaWalkT
import Derived.Test.YthjedajkebehbaaLift
namespace Go.Proofs.Ythjedajkebehbaa
open Go.ChangeShapes Go.WideShapes Go.ChangeAt Go.RowKit Go.Deep Go.Joins

/-- the number that is chosen -/
def pick1 (x : P2) (n : Int) : Int := x.a + n % (x.b - x.a + 1)
/-- what Some returns -/
def someL (l : List P2) (ns : List Int) : List Int := (List.range l.length).map fun i => pick1 (l.getD i ⟨0, 0⟩) (ns.getD i 0)
theorem someL_length (l : List P2) (ns : List Int) : (someL l ns).length = l.length := by simp [someL]
theorem someL_get (l : List P2) (ns : List Int) (k : Nat) (hk : k < l.length) : (someL l ns)[k]'(by rw [someL_length]; exact hk) = pick1 l[k] (ns.getD k 0) := by
  simp [someL, List.getD, hk]
theorem someL_take (l : List P2) (ns : List Int) (k : Nat) (hk : k < l.length) : (someL l ns).take (k + 1) = (someL l ns).take k ++ [pick1 l[k] (ns.getD k 0)] := by
  rw [take_snoc _ k (by rw [someL_length]; exact hk), someL_get l ns k hk]
theorem pick1_in {x : P2} {n : Int} (h : x.a ≤ x.b) : x.a ≤ pick1 x n ∧ pick1 x n ≤ x.b := by
  have h1 := Int.emod_nonneg n (show x.b - x.a + 1 ≠ 0 by omega)
  have h2 := Int.emod_lt_of_pos n (show 0 < x.b - x.a + 1 by omega)
  unfold pick1
  omega

set_option maxHeartbeats 2000000 in
set_option maxRecDepth 100000 in
theorem rsome_any (A1 A2 : Option Addr) (c1 c2 : Nat) (l : List P2) (ns : List Int) (w : World) (h1 : Two w w.heap.size A1 l) (h2 : Shows w w.heap.size 1 A2 ns.length (ns.map (Value.int .u16))) (hl : l.length ≤ 1000000) (f : Fine l)
    (hn : ns.length ≤ 9223372036854775807) (hw : ∀ z ∈ ns, 0 ≤ z ∧ z ≤ 65535) :
    Calls Try.prog 14 #[.slice A1 l.length c1, .slice A2 ns.length c2] w fun e w' => ∃ A' c', e = .returned (.slice A' l.length c') ∧ Nums w' w'.heap.size A' (someL l ns) ∧ Below w.heap.size w w' := by
  obtain ⟨i0, hi, hz0, hz1, hz2⟩ := info_parts info3
  go_enter Try.func14, Try.ntmps14
  go_wp2
  go_loopw [5, 6] (fun v i wr => ∃ k : Nat, k ≤ l.length ∧ i = .int .i64 k ∧ wr.ownsRow w.heap.size 3 1 v k (ints ((someL l ns).take k)) ∧ Below w.heap.size w wr) (fun _ i _ => l.length - (intOf i).toNat)
  case atStart => exact ⟨0, Nat.zero_le _, rfl, World.ownsRow_nil _ _ _ _, Below.refl _ _⟩
  case round =>
    obtain ⟨k, hk, rfl, hown, hbw⟩ := hrel
    by_cases hlt : k < l.length
    · obtain ⟨b, o, rfl, hb, e0, e1⟩ := (h1.below hbw).at_ hlt
      have hsz := hbw.size
      have x1 := f l[k] (List.getElem_mem _)
      have i0' : (0 : Int) ≤ (k : Int) := by omega
      have i1 : (k : Int) < (l.length : Int) := by omega
      have hb' : b < wr.heap.size := by omega
      have hrow : some b ≠ u5.ownBlock := fun e => by have := hown.lt b e.symm; omega
      have hv1 : IntKind.i64.wrap (l[k].b - l[k].a) = l[k].b - l[k].a := IntWalk.i64_in _ (by omega)
      have hv2 : IntKind.i64.wrap (l[k].b - l[k].a + 1) = l[k].b - l[k].a + 1 := IntWalk.i64_in _ (by omega)
      by_cases hj : k < ns.length
      · obtain ⟨b2, o2, rfl, hb2, hc2⟩ := h2.2 (by omega)
        have hc3 := hc2 k (.int .u16 ns[k]) (by simp [hj])
        have g0 : wr.cell? ⟨b2, o2 + k, none⟩ = some (.int .u16 ns[k]) := ((bcell hbw).1 _ _ hb2).trans hc3
        clear hc2 hc3
        have x2 := hw ns[k] (List.getElem_mem _)
        have hp := pick1_in (n := ns[k]) x1.2.1
        have hm0 := Int.emod_nonneg ns[k] (show l[k].b - l[k].a + 1 ≠ 0 by omega)
        have hm1 := Int.emod_lt_of_pos ns[k] (show 0 < l[k].b - l[k].a + 1 by omega)
        have hv3 : IntKind.i64.wrap (l[k].a + ns[k] % (l[k].b - l[k].a + 1)) = l[k].a + ns[k] % (l[k].b - l[k].a + 1) := IntWalk.i64_in _ (by omega)
        go_wp2
        have HV := Lib.hid (show pick1 l[k] (ns.getD k 0) = l[k].a + ns[k] % (l[k].b - l[k].a + 1) from by simp [pick1, List.getD, hj])
        refine wp_region_mix [(0, true), (1, true), (2, true), (3, true), (4, true), (5, true), (6, true), (7, true), (8, true), (9, true), (10, true), (11, true), (12, true), (13, true), (14, true), (15, true), (16, true), (17, true), (18, true), (19, true), (20, true), (21, false), (22, false), (23, true)] (SB w.heap.size w wr.heap.size u5.ownBlock _) (by kernel_rfl) (by kernel_rfl) (by kernel_rfl) (by decide) (SB.start hbw (by omega)) (fun hS => ?_)
        simp only [planned, List.filterMap_cons, List.filterMap_nil, List.getElem?_cons_zero, List.getElem?_cons_succ, Option.map_some]
        repeat (first
          | (refine mix_skip (by rfl) ?_; try simp only [Act.put, List.setIfInBounds_toArray, List.set_cons_zero, List.set_cons_succ])
          | (refine mix_pass hS (by rfl) ?_; try simp only [Act.put, List.setIfInBounds_toArray, List.set_cons_zero, List.set_cons_succ])
          | (refine mix_pure (by rfl) (by rfl) (fun K hK => ?_); go_big_quiet_op; refine hK _ ?_; clear hK K)
          | (refine mix_take (by rfl) ?_
             apply Exists.intro
             refine ⟨?_, ?_⟩
             · intro w' hSw
               have hSc := hSw.cell
               clear hSw
               go_simp
               try with_reducible rfl
             try simp only [Act.put, List.setIfInBounds_toArray, List.set_cons_zero, List.set_cons_succ])
          | (refine mix_move (by rfl) (fun K hK => ?_)
             first
               | (refine wp_push _ _ 33 rfl w.heap.size 3 i0 (.int .i64 0) 1 8 Try.underlying33 hi hz0 hz1 hz2 rfl (by decide) _ u5 k _ rfl hown.drew 1 1 [.int .i64 (l[k].a + ns[k] % (l[k].b - l[k].a + 1))] rfl rfl (by simp [Value.oneCell']) hsz (by omega) (by omega) ?_; intro v' w2 hown2 hg hx)
               | go_simp
             try dsimp only
             first
               | refine hK.out _ _ (hS.step hx (by omega)) ?_
               | refine hK.out _ _ hS ?_
               | refine hK.out _ _ (hS.alloc _ (by omega)) ?_
               | refine hK.out _ _ (hS.grown hg hx) ?_
             clear hK K hS
             intro hS
             try simp only [Act.put, List.setIfInBounds_toArray, List.set_cons_zero, List.set_cons_succ])
          | fail)
        refine mix_nil (NoPanic.normal ?_)
        rw [show ints (List.take k (someL l ns)) ++ [.int .i64 (l[k].a + ns[k] % (l[k].b - l[k].a + 1))] = ints ((someL l ns).take (k + 1)) from by rw [someL_take l ns k hlt, HV.out]; simp [ints]] at hown2
        have hbN := hS.below
        go_wp2
        go_roundw
        case rel => exact ⟨k + 1, by omega, by go_num, hown2, hbN⟩
        case measure => simp [intOf]; omega
      · have hp := pick1_in (n := 0) x1.2.1
        have hm0 := Int.emod_nonneg 0 (show l[k].b - l[k].a + 1 ≠ 0 by omega)
        have hm1 := Int.emod_lt_of_pos 0 (show 0 < l[k].b - l[k].a + 1 by omega)
        have hv3 : IntKind.i64.wrap (l[k].a + 0 % (l[k].b - l[k].a + 1)) = l[k].a + 0 % (l[k].b - l[k].a + 1) := IntWalk.i64_in _ (by omega)
        go_wp2
        have HV := Lib.hid (show pick1 l[k] (ns.getD k 0) = l[k].a from by simp [pick1, List.getD, List.getElem?_eq_none (Nat.le_of_not_lt hj)])
        refine wp_region_mix [(0, true), (1, true), (2, true), (3, true), (4, true), (5, true), (6, true), (7, true), (8, true), (9, true), (10, true), (11, true), (12, true), (13, true), (14, true), (15, true), (16, true), (17, true), (18, true), (19, true), (20, true), (21, false), (22, false), (23, true)] (SB w.heap.size w wr.heap.size u5.ownBlock _) (by kernel_rfl) (by kernel_rfl) (by kernel_rfl) (by decide) (SB.start hbw (by omega)) (fun hS => ?_)
        simp only [planned, List.filterMap_cons, List.filterMap_nil, List.getElem?_cons_zero, List.getElem?_cons_succ, Option.map_some]
        repeat (first
          | (refine mix_skip (by rfl) ?_; try simp only [Act.put, List.setIfInBounds_toArray, List.set_cons_zero, List.set_cons_succ])
          | (refine mix_pass hS (by rfl) ?_; try simp only [Act.put, List.setIfInBounds_toArray, List.set_cons_zero, List.set_cons_succ])
          | (refine mix_pure (by rfl) (by rfl) (fun K hK => ?_); go_big_quiet_op; refine hK _ ?_; clear hK K)
          | (refine mix_take (by rfl) ?_
             apply Exists.intro
             refine ⟨?_, ?_⟩
             · intro w' hSw
               have hSc := hSw.cell
               clear hSw
               go_simp
               try with_reducible rfl
             try simp only [Act.put, List.setIfInBounds_toArray, List.set_cons_zero, List.set_cons_succ])
          | (refine mix_move (by rfl) (fun K hK => ?_)
             first
               | (refine wp_push _ _ 33 rfl w.heap.size 3 i0 (.int .i64 0) 1 8 Try.underlying33 hi hz0 hz1 hz2 rfl (by decide) _ u5 k _ rfl hown.drew 1 1 [.int .i64 (l[k].a)] rfl rfl (by simp [Value.oneCell']) hsz (by omega) (by omega) ?_; intro v' w2 hown2 hg hx)
               | go_simp
             try dsimp only
             first
               | refine hK.out _ _ (hS.step hx (by omega)) ?_
               | refine hK.out _ _ hS ?_
               | refine hK.out _ _ (hS.alloc _ (by omega)) ?_
               | refine hK.out _ _ (hS.grown hg hx) ?_
             clear hK K hS
             intro hS
             try simp only [Act.put, List.setIfInBounds_toArray, List.set_cons_zero, List.set_cons_succ])
          | fail)
        refine mix_nil (NoPanic.normal ?_)
        rw [show ints (List.take k (someL l ns)) ++ [.int .i64 (l[k].a)] = ints ((someL l ns).take (k + 1)) from by rw [someL_take l ns k hlt, HV.out]; simp [ints]] at hown2
        have hbN := hS.below
        go_wp2
        go_roundw
        case rel => exact ⟨k + 1, by omega, by go_num, hown2, hbN⟩
        case measure => simp [intOf]; omega
    · go_wp2
      go_ret
      obtain rfl : k = l.length := by omega
      obtain ⟨A', c', rfl, hs⟩ := shows_of_own hown
      refine ⟨A', c', rfl, ?_, hbw⟩
      rw [List.take_of_length_le (by rw [someL_length]; exact Nat.le_refl _)] at hs
      unfold Nums
      rw [someL_length]
      exact hs

theorem getD_some {l : List P2} (ns : List Int) {k : Nat} (hk : k < l.length) : (someL l ns).getD k 0 = pick1 l[k] (ns.getD k 0) := by
  rw [getDi (by rw [someL_length]; exact hk), someL_get l ns k hk]
theorem small_some {l : List P2} (ns : List Int) (f : Fine l) : Small (someL l ns) := fun x hx => by
  obtain ⟨k, hk, rfl⟩ := List.getElem_of_mem hx
  rw [someL_length] at hk
  rw [someL_get l ns k hk]
  have h1 := f l[k] (List.getElem_mem _)
  have h2 := pick1_in (n := ns.getD k 0) h1.2.1
  constructor <;> omega
/-- whatever they take: no more than the worst -/
theorem drive_le {R : Int} {ls ws : List P2} (ta tb : List Int) (hm : ws.length = ls.length) (f1 : Fine ls) (f2 : Fine ws) : ∀ k, k ≤ ls.length → driveTo R (someL ls ta) (someL ws tb) k ≤ dAt R ls ws k
  | 0, _ => Int.le_refl _
  | k + 1, h => by
    have ih := drive_le (R := R) ta tb hm f1 f2 k (by omega)
    rw [driveTo, dAt_succ (by omega) (by omega), getD_some ta (by omega), getD_some tb (by omega)]
    have h1 := f1 ls[k] (List.getElem_mem _)
    have h2 := f2 ws[k] (List.getElem_mem _)
    have h3 := pick1_in (n := ta.getD k 0) h1.2.1
    have h4 := pick1_in (n := tb.getD k 0) h2.2.1
    have h5 := dAt_bd (R := R) (ws := ws) f1 k
    split <;> split <;> omega
theorem work_le {ls ws : List P2} (ta tb : List Int) (hm : ws.length = ls.length) (f1 : Fine ls) (f2 : Fine ws) : ∀ k, k ≤ ls.length → workTo (someL ls ta) (someL ws tb) k ≤ wAt ls ws k
  | 0, _ => Int.le_refl _
  | k + 1, h => by
    have ih := work_le ta tb hm f1 f2 k (by omega)
    rw [workTo, wAt_succ (by omega) (by omega), getD_some ta (by omega), getD_some tb (by omega)]
    have h1 := f1 ls[k] (List.getElem_mem _)
    have h2 := f2 ws[k] (List.getElem_mem _)
    have h3 := pick1_in (n := ta.getD k 0) h1.2.1
    have h4 := pick1_in (n := tb.getD k 0) h2.2.1
    split <;> omega
theorem in_bounds {D R W : Int} {ls ws : List P2} (ta tb : List Int) (hm : ws.length = ls.length) (f1 : Fine ls) (f2 : Fine ws) {k : Nat} (hk : k < ls.length) (h : tooLong D R W ls ws k = false) :
    driveTo R (someL ls ta) (someL ws tb) (k + 1) ≤ D ∧ workTo (someL ls ta) (someL ws tb) (k + 1) ≤ W := by
  have h1 := drive_le (R := R) ta tb hm f1 f2 (k + 1) (by omega)
  have h2 := work_le ta tb hm f1 f2 (k + 1) (by omega)
  simp [tooLong] at h
  omega

theorem find_range_spec {p : Nat → Bool} {n i : Nat} (h : (List.range n).find? p = some i) : p i = true ∧ i < n ∧ ∀ j, j < i → p j = false := by
  rw [List.find?_eq_some_iff_getElem] at h
  obtain ⟨h1, k, hk, hke, hb⟩ := h
  simp at hke
  subst hke
  refine ⟨h1, by simpa using hk, fun j hj => ?_⟩
  have := hb j hj
  simpa using this

set_option maxHeartbeats 16000000 in
set_option maxRecDepth 100000 in
theorem worst_any (D R W : Int) (A1 A2 A3 A4 : Option Addr) (c1 c2 c3 c4 : Nat) (ls ws : List P2) (ta tb : List Int) (w : World) (h1 : Two w w.heap.size A1 ls) (h2 : Two w w.heap.size A2 ws)
    (h3 : Shows w w.heap.size 1 A3 ta.length (ta.map (Value.int .u16))) (h4 : Shows w w.heap.size 1 A4 tb.length (tb.map (Value.int .u16)))
    (hl1 : ls.length ≤ 9223372036854775807) (hl2 : ws.length ≤ 9223372036854775807) (hl3 : ta.length ≤ 9223372036854775807) (hl4 : tb.length ≤ 9223372036854775807) (z3 : ∀ z ∈ ta, 0 ≤ z ∧ z ≤ 65535) (z4 : ∀ z ∈ tb, 0 ≤ z ∧ z ≤ 65535) :
    Calls Try.prog 4 #[.agg #[.int .i64 D, .int .i64 R, .int .i64 W], .slice A1 ls.length c1, .slice A2 ws.length c2, .slice A3 ta.length c3, .slice A4 tb.length c4] w fun e w' => e = .returned (.bool true) ∧ Below w.heap.size w w' := by
  have Z3 := Lib.hid z3
  have Z4 := Lib.hid z4
  clear z3 z4
  go_enter Try.func4, Try.ntmps4
  go_wp2_with fail
  refine (small_any _).mono ?_
  rintro e w1 ⟨rfl, hx⟩
  rw [size_alloc] at hx
  obtain ⟨q0, q1, q2, hb1, hs1⟩ := box_cells hx
  go_wp2_with fail
  refine (right_any _ _ _ _ _ _ _ _ _ _ (two_ext h1 hb1) (two_ext h2 hb1) hl1 hl2).mono ?_
  rintro e w2 ⟨rfl, hx2⟩
  have t0 := ((bcell hx2).1 _ 0 (by omega)).trans q0
  have t1 := ((bcell hx2).1 _ 1 (by omega)).trans q1
  have t2 := ((bcell hx2).1 _ 2 (by omega)).trans q2
  have hb2 := hb1.trans (hx2.mono hb1.size)
  have hs2 := hx2.size
  cases hR : rightB D R W ls ws
  · have HR := Lib.hid hR
    clear hR
    go_wp2_with fail
    go_ret
    exact ⟨rfl, hb2⟩
  have HR := Lib.hid hR
  clear hR
  by_cases hn : ls.length ≤ 40
  · go_wp2_with fail
    refine (rright_any _ _ _ _ _ _ _ _ _ _ (two_ext h1 hb2) (two_ext h2 hb2)).mono ?_
    rw [HR.out]
    rintro e w3 ⟨rfl, hx3⟩
    have u0 := ((bcell hx3).1 _ 0 (by omega)).trans t0
    have u1 := ((bcell hx3).1 _ 1 (by omega)).trans t1
    have u2 := ((bcell hx3).1 _ 2 (by omega)).trans t2
    have hb3 := hb2.trans (hx3.mono hb2.size)
    have hs3 := hx3.size
    go_wp2_with fail
    refine (check_any _ _ _ _ _ _ _ _ _ _ (two_ext h1 hb3) (two_ext h2 hb3) hl1 hl2).mono ?_
    rintro e w4 ⟨rfl, hx4⟩
    have u0 := ((bcell hx4).1 _ 0 (by omega)).trans u0
    have u1 := ((bcell hx4).1 _ 1 (by omega)).trans u1
    have u2 := ((bcell hx4).1 _ 2 (by omega)).trans u2
    have hb4 := hb3.trans (hx4.mono hb3.size)
    have hs4 : w.heap.size < w4.heap.size := by have := hx4.size; omega
    obtain ⟨_, hm, f1, f2, _⟩ := right_parts HR.out
    have HM := Lib.hid hm
    have hm1 : ws.length ≤ ls.length := by omega
    have hm2 : ls.length ≤ ws.length := by omega
    have z3 := Z3.out
    have z4 := Z4.out
    clear hm t0 t1 t2 q0 q1 q2 hx hx2 hx3 hx4
    cases hf : firstLong D R W ls ws with
    | none =>
      have e1 : checkE D R W ls ws = 0 := by simp [checkE, HR.out, hf]
      have e2 : checkI D R W ls ws = 0 := by simp [checkI, HR.out, hf]
      have HA := Lib.hid (show ∀ j, j < ls.length → tooLong D R W ls ws j = false from fun j hj => by
        have := List.find?_eq_none.1 hf j (by simpa using hj)
        simpa using this)
      rw [e1, e2]
      clear e1 e2 hf
      rcases Nat.lt_or_ge ls.length 1 with hz | hz
      · skip
        -- from the test on the error on: the numbers are chosen, and each leg before the end is looked at
        go_wp2_with fail
        refine (rsome_any _ _ _ _ _ _ _ (two_ext h1 hb4) (Shows.more (h3.below hb4) hb4.size) (by omega) f1 hl3 z3).mono ?_
        rintro e w5 ⟨AS, cS, rfl, hA, hx5⟩
        have hb5 := hb4.trans (hx5.mono hb4.size)
        go_wp2_with fail
        refine (rsome_any _ _ _ _ _ _ _ (two_ext h2 hb5) (Shows.more (h4.below hb5) hb5.size) (by omega) f2 hl4 z4).mono ?_
        rintro e w6 ⟨BS, dS, rfl, hB, hx6⟩
        have hb6 := hb5.trans (hx6.mono hb5.size)
        have hs6 : w.heap.size < w6.heap.size := by have := hx5.size; have := hx6.size; omega
        have y0 := ((bcell hx6).1 _ 0 (by have := hx5.size; omega)).trans (((bcell hx5).1 _ 0 (by omega)).trans u0)
        have y1 := ((bcell hx6).1 _ 1 (by have := hx5.size; omega)).trans (((bcell hx5).1 _ 1 (by omega)).trans u1)
        have y2 := ((bcell hx6).1 _ 2 (by have := hx5.size; omega)).trans (((bcell hx5).1 _ 2 (by omega)).trans u2)
        have hA := nums_ext hA hx6
        clear u0 u1 u2 hx5 hx6
        go_wp2_with fail
        go_loopw [17] (fun s17 wr => ∃ k : Nat, k ≤ ls.length ∧ s17 = .int .i64 k ∧ Below w6.heap.size w6 wr) (fun s17 _ => ls.length - (intOf s17).toNat)
        case atStart => exact ⟨0, Nat.zero_le _, rfl, Below.refl _ _⟩
        case round =>
          obtain ⟨k, hk, rfl, hbr⟩ := hrel
          have hbw := hb6.trans (hbr.mono hb6.size)
          have hsr : w.heap.size < wr.heap.size := by have := hbr.size; omega
          have v0 := ((bcell hbr).1 _ 0 hs6).trans y0
          have v1 := ((bcell hbr).1 _ 1 hs6).trans y1
          have v2 := ((bcell hbr).1 _ 2 hs6).trans y2
          by_cases hlt : k < ls.length
          · have hkl : k < ls.length := by omega
            obtain ⟨hd, hw⟩ := in_bounds ta tb HM.out f1 f2 hkl (HA.out k hlt)
            have hd' : decide (D < driveTo R (someL ls ta) (someL ws tb) (k + 1)) = false := decide_eq_false (by omega)
            have hw' : decide (W < workTo (someL ls ta) (someL ws tb) (k + 1)) = false := decide_eq_false (by omega)
            go_wp2_with fail
            refine wp_region_mix [(0, true), (1, true), (2, true), (3, true), (4, true), (6, true), (7, true), (5, false), (8, true), (9, true), (10, true), (11, true), (12, true), (14, true), (15, true), (13, false), (16, true), (17, true)] (SB w.heap.size w wr.heap.size none _) (by kernel_rfl) (by kernel_rfl) (by kernel_rfl) (by decide) (SB.start hbw (by omega)) (fun hS => ?_)
            simp only [planned, List.filterMap_cons, List.filterMap_nil, List.getElem?_cons_zero, List.getElem?_cons_succ, Option.map_some]
            repeat (first
              | (refine mix_skip (by rfl) ?_; try simp only [Act.put, List.setIfInBounds_toArray, List.set_cons_zero, List.set_cons_succ])
              | (refine mix_pass hS (by rfl) ?_; try simp only [Act.put, List.setIfInBounds_toArray, List.set_cons_zero, List.set_cons_succ])
              | (refine mix_pure (by rfl) (by rfl) (fun K hK => ?_); go_big_quiet_op; refine hK _ ?_; clear hK K)
              | (refine mix_take (by rfl) ?_
                 apply Exists.intro
                 refine ⟨?_, ?_⟩
                 · intro w' hSw
                   have hSc := hSw.cell
                   clear hSw
                   go_simp
                   try with_reducible rfl
                 try simp only [Act.put, List.setIfInBounds_toArray, List.set_cons_zero, List.set_cons_succ])
              | (refine mix_move (by rfl) (fun K hK => ?_)
                 first
                   | (go_simp; go_at_call 15; refine (driving_n _ _ _ _ _ _ _ _ _ k _ (nums_ext (nums_ext hA hbr) (Below.refl _ _).drew) (nums_ext (nums_ext hB hbr) (Below.refl _ _).drew) (someL_length _ _) (someL_length _ _) hkl hm2 (by omega) (small_some _ f1)).mono ?_; rintro e w' ⟨rfl, rfl⟩)
                   | (go_simp; go_at_call 16; refine (working_n _ _ _ _ _ _ _ _ k _ (nums_ext (nums_ext hA hbr) (Below.refl _ _).drew) (nums_ext (nums_ext hB hbr) (Below.refl _ _).drew) (someL_length _ _) (someL_length _ _) hkl hm2 (by omega) (small_some _ f1) (small_some _ f2)).mono ?_; rintro e w' ⟨rfl, rfl⟩)
                   | go_simp
                 try dsimp only
                 first
                   | refine hK.out _ _ (hS.step hx (by omega)) ?_
                   | refine hK.out _ _ hS ?_
                   | refine hK.out _ _ (hS.alloc _ (by omega)) ?_
                   | refine hK.out _ _ (hS.grown hg hx) ?_
                 clear hK K hS
                 intro hS
                 try simp only [Act.put, List.setIfInBounds_toArray, List.set_cons_zero, List.set_cons_succ])
              | fail)
            refine mix_nil (NoPanic.normal ?_)
            go_wp2_with fail
            go_roundw
            case rel => exact ⟨k + 1, by omega, by go_num, hbr.drew⟩
            case measure => simp [intOf]; omega
          · go_wp2_with fail
            go_ret
            exact ⟨rfl, hbw⟩
      · have hmx : (if (ls.length : Int) < 1 then 1 else (ls.length : Int)) = ls.length := if_neg (by omega)
        have hnil : ls ≠ [] := fun e => by rw [e] at hz; simp at hz
        -- from the test on the error on: the numbers are chosen, and each leg before the end is looked at
        go_wp2_with fail
        refine (rsome_any _ _ _ _ _ _ _ (two_ext h1 hb4) (Shows.more (h3.below hb4) hb4.size) (by omega) f1 hl3 z3).mono ?_
        rintro e w5 ⟨AS, cS, rfl, hA, hx5⟩
        have hb5 := hb4.trans (hx5.mono hb4.size)
        go_wp2_with fail
        refine (rsome_any _ _ _ _ _ _ _ (two_ext h2 hb5) (Shows.more (h4.below hb5) hb5.size) (by omega) f2 hl4 z4).mono ?_
        rintro e w6 ⟨BS, dS, rfl, hB, hx6⟩
        have hb6 := hb5.trans (hx6.mono hb5.size)
        have hs6 : w.heap.size < w6.heap.size := by have := hx5.size; have := hx6.size; omega
        have y0 := ((bcell hx6).1 _ 0 (by have := hx5.size; omega)).trans (((bcell hx5).1 _ 0 (by omega)).trans u0)
        have y1 := ((bcell hx6).1 _ 1 (by have := hx5.size; omega)).trans (((bcell hx5).1 _ 1 (by omega)).trans u1)
        have y2 := ((bcell hx6).1 _ 2 (by have := hx5.size; omega)).trans (((bcell hx5).1 _ 2 (by omega)).trans u2)
        have hA := nums_ext hA hx6
        clear u0 u1 u2 hx5 hx6
        go_wp2_with fail
        go_loopw [17] (fun s17 wr => ∃ k : Nat, k ≤ ls.length ∧ s17 = .int .i64 k ∧ Below w6.heap.size w6 wr) (fun s17 _ => ls.length - (intOf s17).toNat)
        case atStart => exact ⟨0, Nat.zero_le _, rfl, Below.refl _ _⟩
        case round =>
          obtain ⟨k, hk, rfl, hbr⟩ := hrel
          have hbw := hb6.trans (hbr.mono hb6.size)
          have hsr : w.heap.size < wr.heap.size := by have := hbr.size; omega
          have v0 := ((bcell hbr).1 _ 0 hs6).trans y0
          have v1 := ((bcell hbr).1 _ 1 hs6).trans y1
          have v2 := ((bcell hbr).1 _ 2 hs6).trans y2
          by_cases hlt : k < ls.length
          · have hkl : k < ls.length := by omega
            obtain ⟨hd, hw⟩ := in_bounds ta tb HM.out f1 f2 hkl (HA.out k hlt)
            have hd' : decide (D < driveTo R (someL ls ta) (someL ws tb) (k + 1)) = false := decide_eq_false (by omega)
            have hw' : decide (W < workTo (someL ls ta) (someL ws tb) (k + 1)) = false := decide_eq_false (by omega)
            go_wp2_with fail
            refine wp_region_mix [(0, true), (1, true), (2, true), (3, true), (4, true), (6, true), (7, true), (5, false), (8, true), (9, true), (10, true), (11, true), (12, true), (14, true), (15, true), (13, false), (16, true), (17, true)] (SB w.heap.size w wr.heap.size none _) (by kernel_rfl) (by kernel_rfl) (by kernel_rfl) (by decide) (SB.start hbw (by omega)) (fun hS => ?_)
            simp only [planned, List.filterMap_cons, List.filterMap_nil, List.getElem?_cons_zero, List.getElem?_cons_succ, Option.map_some]
            repeat (first
              | (refine mix_skip (by rfl) ?_; try simp only [Act.put, List.setIfInBounds_toArray, List.set_cons_zero, List.set_cons_succ])
              | (refine mix_pass hS (by rfl) ?_; try simp only [Act.put, List.setIfInBounds_toArray, List.set_cons_zero, List.set_cons_succ])
              | (refine mix_pure (by rfl) (by rfl) (fun K hK => ?_); go_big_quiet_op; refine hK _ ?_; clear hK K)
              | (refine mix_take (by rfl) ?_
                 apply Exists.intro
                 refine ⟨?_, ?_⟩
                 · intro w' hSw
                   have hSc := hSw.cell
                   clear hSw
                   go_simp
                   try with_reducible rfl
                 try simp only [Act.put, List.setIfInBounds_toArray, List.set_cons_zero, List.set_cons_succ])
              | (refine mix_move (by rfl) (fun K hK => ?_)
                 first
                   | (go_simp; go_at_call 15; refine (driving_n _ _ _ _ _ _ _ _ _ k _ (nums_ext (nums_ext hA hbr) (Below.refl _ _).drew) (nums_ext (nums_ext hB hbr) (Below.refl _ _).drew) (someL_length _ _) (someL_length _ _) hkl hm2 (by omega) (small_some _ f1)).mono ?_; rintro e w' ⟨rfl, rfl⟩)
                   | (go_simp; go_at_call 16; refine (working_n _ _ _ _ _ _ _ _ k _ (nums_ext (nums_ext hA hbr) (Below.refl _ _).drew) (nums_ext (nums_ext hB hbr) (Below.refl _ _).drew) (someL_length _ _) (someL_length _ _) hkl hm2 (by omega) (small_some _ f1) (small_some _ f2)).mono ?_; rintro e w' ⟨rfl, rfl⟩)
                   | go_simp
                 try dsimp only
                 first
                   | refine hK.out _ _ (hS.step hx (by omega)) ?_
                   | refine hK.out _ _ hS ?_
                   | refine hK.out _ _ (hS.alloc _ (by omega)) ?_
                   | refine hK.out _ _ (hS.grown hg hx) ?_
                 clear hK K hS
                 intro hS
                 try simp only [Act.put, List.setIfInBounds_toArray, List.set_cons_zero, List.set_cons_succ])
              | fail)
            refine mix_nil (NoPanic.normal ?_)
            go_wp2_with fail
            go_roundw
            case rel => exact ⟨k + 1, by omega, by go_num, hbr.drew⟩
            case measure => simp [intOf]; omega
          · go_wp2_with fail
            go_ret
            exact ⟨rfl, hbw⟩
    | some im =>
      have e1 : checkE D R W ls ws = 29 := by simp [checkE, HR.out, hf]
      have e2 : checkI D R W ls ws = im := by simp [checkI, HR.out, hf]
      obtain ⟨ht, hin, hbef⟩ := find_range_spec hf
      have HT := Lib.hid ht
      have HA := Lib.hid hbef
      rw [e1, e2]
      clear e1 e2 hf ht hbef
      -- from the test on the error on: the numbers are chosen, and each leg before the end is looked at
      go_wp2_with fail
      refine (rsome_any _ _ _ _ _ _ _ (two_ext h1 hb4) (Shows.more (h3.below hb4) hb4.size) (by omega) f1 hl3 z3).mono ?_
      rintro e w5 ⟨AS, cS, rfl, hA, hx5⟩
      have hb5 := hb4.trans (hx5.mono hb4.size)
      go_wp2_with fail
      refine (rsome_any _ _ _ _ _ _ _ (two_ext h2 hb5) (Shows.more (h4.below hb5) hb5.size) (by omega) f2 hl4 z4).mono ?_
      rintro e w6 ⟨BS, dS, rfl, hB, hx6⟩
      have hb6 := hb5.trans (hx6.mono hb5.size)
      have hs6 : w.heap.size < w6.heap.size := by have := hx5.size; have := hx6.size; omega
      have y0 := ((bcell hx6).1 _ 0 (by have := hx5.size; omega)).trans (((bcell hx5).1 _ 0 (by omega)).trans u0)
      have y1 := ((bcell hx6).1 _ 1 (by have := hx5.size; omega)).trans (((bcell hx5).1 _ 1 (by omega)).trans u1)
      have y2 := ((bcell hx6).1 _ 2 (by have := hx5.size; omega)).trans (((bcell hx5).1 _ 2 (by omega)).trans u2)
      have hA := nums_ext hA hx6
      clear u0 u1 u2 hx5 hx6
      go_wp2_with fail
      go_loopw [17] (fun s17 wr => ∃ k : Nat, k ≤ im ∧ s17 = .int .i64 k ∧ Below w6.heap.size w6 wr) (fun s17 _ => im - (intOf s17).toNat)
      case atStart => exact ⟨0, Nat.zero_le _, rfl, Below.refl _ _⟩
      case round =>
        obtain ⟨k, hk, rfl, hbr⟩ := hrel
        have hbw := hb6.trans (hbr.mono hb6.size)
        have hsr : w.heap.size < wr.heap.size := by have := hbr.size; omega
        have v0 := ((bcell hbr).1 _ 0 hs6).trans y0
        have v1 := ((bcell hbr).1 _ 1 hs6).trans y1
        have v2 := ((bcell hbr).1 _ 2 hs6).trans y2
        by_cases hlt : k < im
        · have hkl : k < ls.length := by omega
          obtain ⟨hd, hw⟩ := in_bounds ta tb HM.out f1 f2 hkl (HA.out k hlt)
          have hd' : decide (D < driveTo R (someL ls ta) (someL ws tb) (k + 1)) = false := decide_eq_false (by omega)
          have hw' : decide (W < workTo (someL ls ta) (someL ws tb) (k + 1)) = false := decide_eq_false (by omega)
          go_wp2_with fail
          refine wp_region_mix [(0, true), (1, true), (2, true), (3, true), (4, true), (6, true), (7, true), (5, false), (8, true), (9, true), (10, true), (11, true), (12, true), (14, true), (15, true), (13, false), (16, true), (17, true)] (SB w.heap.size w wr.heap.size none _) (by kernel_rfl) (by kernel_rfl) (by kernel_rfl) (by decide) (SB.start hbw (by omega)) (fun hS => ?_)
          simp only [planned, List.filterMap_cons, List.filterMap_nil, List.getElem?_cons_zero, List.getElem?_cons_succ, Option.map_some]
          repeat (first
            | (refine mix_skip (by rfl) ?_; try simp only [Act.put, List.setIfInBounds_toArray, List.set_cons_zero, List.set_cons_succ])
            | (refine mix_pass hS (by rfl) ?_; try simp only [Act.put, List.setIfInBounds_toArray, List.set_cons_zero, List.set_cons_succ])
            | (refine mix_pure (by rfl) (by rfl) (fun K hK => ?_); go_big_quiet_op; refine hK _ ?_; clear hK K)
            | (refine mix_take (by rfl) ?_
               apply Exists.intro
               refine ⟨?_, ?_⟩
               · intro w' hSw
                 have hSc := hSw.cell
                 clear hSw
                 go_simp
                 try with_reducible rfl
               try simp only [Act.put, List.setIfInBounds_toArray, List.set_cons_zero, List.set_cons_succ])
            | (refine mix_move (by rfl) (fun K hK => ?_)
               first
                 | (go_simp; go_at_call 15; refine (driving_n _ _ _ _ _ _ _ _ _ k _ (nums_ext (nums_ext hA hbr) (Below.refl _ _).drew) (nums_ext (nums_ext hB hbr) (Below.refl _ _).drew) (someL_length _ _) (someL_length _ _) hkl hm2 (by omega) (small_some _ f1)).mono ?_; rintro e w' ⟨rfl, rfl⟩)
                 | (go_simp; go_at_call 16; refine (working_n _ _ _ _ _ _ _ _ k _ (nums_ext (nums_ext hA hbr) (Below.refl _ _).drew) (nums_ext (nums_ext hB hbr) (Below.refl _ _).drew) (someL_length _ _) (someL_length _ _) hkl hm2 (by omega) (small_some _ f1) (small_some _ f2)).mono ?_; rintro e w' ⟨rfl, rfl⟩)
                 | go_simp
               try dsimp only
               first
                 | refine hK.out _ _ (hS.step hx (by omega)) ?_
                 | refine hK.out _ _ hS ?_
                 | refine hK.out _ _ (hS.alloc _ (by omega)) ?_
                 | refine hK.out _ _ (hS.grown hg hx) ?_
               clear hK K hS
               intro hS
               try simp only [Act.put, List.setIfInBounds_toArray, List.set_cons_zero, List.set_cons_succ])
            | fail)
          refine mix_nil (NoPanic.normal ?_)
          go_wp2_with fail
          go_roundw
          case rel => exact ⟨k + 1, by omega, by go_num, hbr.drew⟩
          case measure => simp [intOf]; omega
        · go_wp2_with fail
          refine (highs_any _ _ ls _ (two_ext h1 hbw) (by omega)).mono ?_
          rintro e w7 ⟨AH, cH, rfl, hH, hx7⟩
          have hb7 := hbw.trans (hx7.mono hbw.size)
          have hs7 : w.heap.size < w7.heap.size := by have := hx7.size; omega
          have v0 := ((bcell hx7).1 _ 0 hsr).trans v0
          have v1 := ((bcell hx7).1 _ 1 hsr).trans v1
          have v2 := ((bcell hx7).1 _ 2 hsr).trans v2
          have HD := Lib.hid (dAt_eq R ls ws (im + 1))
          have HW := Lib.hid (wAt_eq ls ws (im + 1))
          by_cases hd : D < dAt R ls ws (im + 1)
          · go_wp2_with fail
            refine wp_region_mix [(0, true), (1, true), (2, true), (3, true), (5, true), (7, true), (8, true), (4, false), (6, false), (9, true), (10, true)] (SB w.heap.size w w7.heap.size none _) (by kernel_rfl) (by kernel_rfl) (by kernel_rfl) (by decide) (SB.start hb7 (by omega)) (fun hS => ?_)
            simp only [planned, List.filterMap_cons, List.filterMap_nil, List.getElem?_cons_zero, List.getElem?_cons_succ, Option.map_some]
            repeat (first
              | (refine mix_skip (by rfl) ?_; try simp only [Act.put, List.setIfInBounds_toArray, List.set_cons_zero, List.set_cons_succ])
              | (refine mix_pass hS (by rfl) ?_; try simp only [Act.put, List.setIfInBounds_toArray, List.set_cons_zero, List.set_cons_succ])
              | (refine mix_pure (by rfl) (by rfl) (fun K hK => ?_); go_big_quiet_op; refine hK _ ?_; clear hK K)
              | (refine mix_take (by rfl) ?_
                 apply Exists.intro
                 refine ⟨?_, ?_⟩
                 · intro w' hSw
                   have hSc := hSw.cell
                   clear hSw
                   go_simp
                   try with_reducible rfl
                 try simp only [Act.put, List.setIfInBounds_toArray, List.set_cons_zero, List.set_cons_succ])
              | (refine mix_move (by rfl) (fun K hK => ?_)
                 first
                   | (go_simp; go_at_call 18; refine (lows_any _ _ ws _ (two_ext h2 hS.below) (by omega)).mono ?_; rintro e w8 ⟨AL, cL, rfl, hL, hx⟩)
                   | (go_simp; go_at_call 15; refine (driving_n _ _ _ _ _ _ _ _ _ im _ (nums_ext (nums_ext hH (Below.refl _ _).drew) hx) hL (by simp) (by simp) hin hm2 (by omega) (small_b f1)).mono ?_; rw [HD.out]; rintro e w' ⟨rfl, rfl⟩)
                   | go_simp
                 try dsimp only
                 first
                   | refine hK.out _ _ (hS.step hx (by omega)) ?_
                   | refine hK.out _ _ hS ?_
                   | refine hK.out _ _ (hS.alloc _ (by omega)) ?_
                   | refine hK.out _ _ (hS.grown hg hx) ?_
                 clear hK K hS
                 intro hS
                 try simp only [Act.put, List.setIfInBounds_toArray, List.set_cons_zero, List.set_cons_succ])
              | fail)
            refine mix_nil (NoPanic.normal ?_)
            have hb8 := hS.below
            go_wp2_with fail
            refine wp_region_mix [(0, true), (1, true), (2, true), (3, true), (4, true), (5, true), (7, true), (9, true), (10, true), (6, false), (8, false), (11, true), (12, true), (13, true), (14, true)] (SB w.heap.size w w8.heap.size none _) (by kernel_rfl) (by kernel_rfl) (by kernel_rfl) (by decide) (SB.start hb8 (by omega)) (fun hS => ?_)
            simp only [planned, List.filterMap_cons, List.filterMap_nil, List.getElem?_cons_zero, List.getElem?_cons_succ, Option.map_some]
            repeat (first
              | (refine mix_skip (by rfl) ?_; try simp only [Act.put, List.setIfInBounds_toArray, List.set_cons_zero, List.set_cons_succ])
              | (refine mix_pass hS (by rfl) ?_; try simp only [Act.put, List.setIfInBounds_toArray, List.set_cons_zero, List.set_cons_succ])
              | (refine mix_pure (by rfl) (by rfl) (fun K hK => ?_); go_big_quiet_op; refine hK _ ?_; clear hK K)
              | (refine mix_take (by rfl) ?_
                 apply Exists.intro
                 refine ⟨?_, ?_⟩
                 · intro w' hSw
                   have hSc := hSw.cell
                   clear hSw
                   go_simp
                   try with_reducible rfl
                 try simp only [Act.put, List.setIfInBounds_toArray, List.set_cons_zero, List.set_cons_succ])
              | (refine mix_move (by rfl) (fun K hK => ?_)
                 go_simp
                 try dsimp only
                 first
                   | refine hK.out _ _ (hS.step hx (by omega)) ?_
                   | refine hK.out _ _ hS ?_
                   | refine hK.out _ _ (hS.alloc _ (by omega)) ?_
                   | refine hK.out _ _ (hS.grown hg hx) ?_
                 clear hK K hS
                 intro hS
                 try simp only [Act.put, List.setIfInBounds_toArray, List.set_cons_zero, List.set_cons_succ])
              | fail)
            refine mix_nil (NoPanic.normal ?_)
            go_wp2_with fail
            go_ret
            exact ⟨rfl, hS.below⟩
          · have hw : W < wAt ls ws (im + 1) := by
              have := HT.out
              simp [tooLong] at this
              omega
            have hd' : decide (D < dAt R ls ws (im + 1)) = false := decide_eq_false hd
            go_wp2_with fail
            refine wp_region_mix [(0, true), (1, true), (2, true), (3, true), (5, true), (7, true), (8, true), (4, false), (6, false), (9, true), (10, true)] (SB w.heap.size w w7.heap.size none _) (by kernel_rfl) (by kernel_rfl) (by kernel_rfl) (by decide) (SB.start hb7 (by omega)) (fun hS => ?_)
            simp only [planned, List.filterMap_cons, List.filterMap_nil, List.getElem?_cons_zero, List.getElem?_cons_succ, Option.map_some]
            repeat (first
              | (refine mix_skip (by rfl) ?_; try simp only [Act.put, List.setIfInBounds_toArray, List.set_cons_zero, List.set_cons_succ])
              | (refine mix_pass hS (by rfl) ?_; try simp only [Act.put, List.setIfInBounds_toArray, List.set_cons_zero, List.set_cons_succ])
              | (refine mix_pure (by rfl) (by rfl) (fun K hK => ?_); go_big_quiet_op; refine hK _ ?_; clear hK K)
              | (refine mix_take (by rfl) ?_
                 apply Exists.intro
                 refine ⟨?_, ?_⟩
                 · intro w' hSw
                   have hSc := hSw.cell
                   clear hSw
                   go_simp
                   try with_reducible rfl
                 try simp only [Act.put, List.setIfInBounds_toArray, List.set_cons_zero, List.set_cons_succ])
              | (refine mix_move (by rfl) (fun K hK => ?_)
                 first
                   | (go_simp; go_at_call 18; refine (lows_any _ _ ws _ (two_ext h2 hS.below) (by omega)).mono ?_; rintro e w8 ⟨AL, cL, rfl, hL, hx⟩)
                   | (go_simp; go_at_call 15; refine (driving_n _ _ _ _ _ _ _ _ _ im _ (nums_ext (nums_ext hH (Below.refl _ _).drew) hx) hL (by simp) (by simp) hin hm2 (by omega) (small_b f1)).mono ?_; rw [HD.out]; rintro e w' ⟨rfl, rfl⟩)
                   | go_simp
                 try dsimp only
                 first
                   | refine hK.out _ _ (hS.step hx (by omega)) ?_
                   | refine hK.out _ _ hS ?_
                   | refine hK.out _ _ (hS.alloc _ (by omega)) ?_
                   | refine hK.out _ _ (hS.grown hg hx) ?_
                 clear hK K hS
                 intro hS
                 try simp only [Act.put, List.setIfInBounds_toArray, List.set_cons_zero, List.set_cons_succ])
              | fail)
            refine mix_nil (NoPanic.normal ?_)
            have hb8 := hS.below
            have r2 := (hS.cell _ 2 hs7 (by simp)).trans v2
            have hs8 : w.heap.size < w8.heap.size := by have := hS.size; omega
            have hH := nums_ext (nums_ext hH (Below.refl _ _).drew) hx
            go_wp2_with fail
            refine wp_region_mix [(0, true), (1, true), (2, true), (3, true), (4, true), (5, true), (7, true), (9, true), (10, true), (6, false), (8, false), (11, true), (12, true), (13, true), (14, true)] (SB w.heap.size w w8.heap.size none _) (by kernel_rfl) (by kernel_rfl) (by kernel_rfl) (by decide) (SB.start hb8 (by omega)) (fun hS => ?_)
            simp only [planned, List.filterMap_cons, List.filterMap_nil, List.getElem?_cons_zero, List.getElem?_cons_succ, Option.map_some]
            repeat (first
              | (refine mix_skip (by rfl) ?_; try simp only [Act.put, List.setIfInBounds_toArray, List.set_cons_zero, List.set_cons_succ])
              | (refine mix_pass hS (by rfl) ?_; try simp only [Act.put, List.setIfInBounds_toArray, List.set_cons_zero, List.set_cons_succ])
              | (refine mix_pure (by rfl) (by rfl) (fun K hK => ?_); go_big_quiet_op; refine hK _ ?_; clear hK K)
              | (refine mix_take (by rfl) ?_
                 apply Exists.intro
                 refine ⟨?_, ?_⟩
                 · intro w' hSw
                   have hSc := hSw.cell
                   clear hSw
                   go_simp
                   try with_reducible rfl
                 try simp only [Act.put, List.setIfInBounds_toArray, List.set_cons_zero, List.set_cons_succ])
              | (refine mix_move (by rfl) (fun K hK => ?_)
                 first
                   | (go_simp; go_at_call 17; refine (highs_any _ _ ws _ (two_ext h2 hS.below) (by omega)).mono ?_; rintro e w9 ⟨AW, cW, rfl, hW9, hx⟩)
                   | (go_simp; go_at_call 16; refine (working_n _ _ _ _ _ _ _ _ im _ (nums_ext (nums_ext hH (Below.refl _ _).drew) hx) hW9 (by simp) (by simp) hin hm2 (by omega) (small_b f1) (small_b f2)).mono ?_; rw [HW.out]; rintro e w' ⟨rfl, rfl⟩)
                   | go_simp
                 try dsimp only
                 first
                   | refine hK.out _ _ (hS.step hx (by omega)) ?_
                   | refine hK.out _ _ hS ?_
                   | refine hK.out _ _ (hS.alloc _ (by omega)) ?_
                   | refine hK.out _ _ (hS.grown hg hx) ?_
                 clear hK K hS
                 intro hS
                 try simp only [Act.put, List.setIfInBounds_toArray, List.set_cons_zero, List.set_cons_succ])
              | fail)
            refine mix_nil (NoPanic.normal ?_)
            go_wp2_with fail
            go_ret
            exact ⟨rfl, hS.below⟩
  · go_wp2_with fail
    go_ret
    exact ⟨rfl, hb2⟩

theorem workWorst_contract (H : Type) (enc : TypeId × Value → H) (W : World) (base : Nat) (args : Array Value) (ds gs : List (DataW H)) (before : List MemPlace)
    (hval : ∀ (j : Nat) t v, Try.f4.params[j]? = some t → args[j]? = some v → Value.okWide Try.prog W .any base t v)
    (hW : DataW.Whole enc Try.prog Try.f4.params.toList Rows.workWorstSpec.vars false W args.toList ds gs before) :
    Calls Try.prog 4 args W fun e W' => ∃ v, e = .returned v ∧ Rows.workWorstSpec.post enc Try.prog Try.f4 false true false false W args v W' := by
  have hW' := hW
  obtain ⟨p, q, hA0, hV, rfl, hfz, hnd⟩ := hW
  have hA : DataW.TrodAll enc Try.prog W 0 (fun _ => true) true Try.f4.params.toList args.toList ds p := hA0
  have hlt := hA.lt
  rw [Try.params4] at hA hval
  obtain ⟨v0, vs0, d0, ds0, p0, q0, hargs0, rfl, rfl, h0, rr0⟩ := trodAll_cons hA
  obtain ⟨v1, vs1, d1, ds1, p1, q1, rfl, rfl, rfl, h1, rr1⟩ := trodAll_cons rr0
  obtain ⟨v2, vs2, d2, ds2, p2, q2, rfl, rfl, rfl, h2, rr2⟩ := trodAll_cons rr1
  obtain ⟨v3, vs3, d3, ds3, p3, q3, rfl, rfl, rfl, h3, rr3⟩ := trodAll_cons rr2
  obtain ⟨v4, vs4, d4, ds4, p4, q4, rfl, rfl, rfl, h4, rr4⟩ := trodAll_cons rr3
  obtain ⟨rfl, rfl, rfl⟩ := trodAll_nil rr4
  obtain rfl : args = #[v0, v1, v2, v3, v4] := by cases args; simp_all
  obtain ⟨rfl, rfl⟩ := trodVars_none hV
  obtain ⟨x0a, x0b, x0c, y0a, y0b, y0c, n0, rfl, rfl, rfl, g0a, g0b, g0c⟩ := open_agg3 Try.underlying23 (by kernel_rfl) (by kernel_rfl) (hval 0 23 v0 rfl rfl) h0
  obtain ⟨D, e0a, hwf0a⟩ := DataW.trod_int Try.underlying3 g0a
  obtain ⟨R, e0b, hwf0b⟩ := DataW.trod_int Try.underlying3 g0b
  obtain ⟨S, e0c, hwf0c⟩ := DataW.trod_int Try.underlying3 g0c
  simp only [List.cons.injEq, and_true] at e0a e0b e0c
  subst e0a e0b e0c
  obtain ⟨A1, nn1, c1, rfl⟩ := okWide_slice Try.underlying24 (hval 1 24 v1 rfl rfl)
  obtain ⟨fu1, ff1⟩ := h1
  obtain ⟨ls, rfl, t1, b1, m1⟩ := open_two (B := W.heap.size) Try.underlying24 Try.underlying41 rfl rfl Try.underlying3 (by kernel_rfl) rfl rfl (by kernel_rfl) (fun y (hy : y ∈ p1) => hlt y (by simp [hy])) ff1
  unfold maxLen at m1
  obtain ⟨A2, nn2, c2, rfl⟩ := okWide_slice Try.underlying24 (hval 2 24 v2 rfl rfl)
  obtain ⟨fu2, ff2⟩ := h2
  obtain ⟨ws, rfl, t2, b2, m2⟩ := open_two (B := W.heap.size) Try.underlying24 Try.underlying41 rfl rfl Try.underlying3 (by kernel_rfl) rfl rfl (by kernel_rfl) (fun y (hy : y ∈ p2) => hlt y (by simp [hy])) ff2
  unfold maxLen at m2
  obtain ⟨A3, nn3, c3, rfl⟩ := okWide_slice Try.underlying32 (hval 3 32 v3 rfl rfl)
  obtain ⟨fu3, ff3⟩ := h3
  obtain ⟨ta, rfl, t3, b3, m3, z3⟩ := open_nums (B := W.heap.size) Try.underlying32 Try.underlying39 (by kernel_rfl) (fun y (hy : y ∈ p3) => hlt y (by simp [hy])) ff3
  unfold maxLen at m3
  obtain ⟨A4, nn4, c4, rfl⟩ := okWide_slice Try.underlying32 (hval 4 32 v4 rfl rfl)
  obtain ⟨fu4, ff4⟩ := h4
  obtain ⟨tb, rfl, t4, b4, m4, z4⟩ := open_nums (B := W.heap.size) Try.underlying32 Try.underlying39 (by kernel_rfl) (fun y (hy : y ∈ p4) => hlt y (by simp [hy])) ff4
  unfold maxLen at m4
  have k3 : ∀ z ∈ ta, 0 ≤ z ∧ z ≤ 65535 := fun z hz => by simpa [Lit.wf, IntKind.min, IntKind.max, IntKind.signed, IntKind.bits] using z3 z hz
  have k4 : ∀ z ∈ tb, 0 ≤ z ∧ z ≤ 65535 := fun z hz => by simpa [Lit.wf, IntKind.min, IntKind.max, IntKind.signed, IntKind.bits] using z4 z hz
  refine (worst_any D R S A1 A2 A3 A4 c1 c2 c3 c4 ls ws ta tb W t1 t2 t3 t4 (by omega) (by omega) (by omega) (by omega) k3 k4).mono fun e W' ⟨he, hb⟩ => ?_
  subst he
  exact ⟨_, rfl, law_post laidOut Try.underlying4 rfl (by kernel_rfl) rfl hW' rfl hb⟩
set_option maxRecDepth 100000 in
theorem workWorst_lifted (os : Os) (started : os.Started) (H : Type) (enc : TypeId × Value → H) :
    ReturnsInHanded {} Try.checked os 4 .any (Rows.workWorstSpec.pre6 enc Try.prog Try.f4 Rows.workWorstRow.domain false) (Rows.workWorstSpec.post enc Try.prog Try.f4 false true false false) := by
  refine returnsInHanded_of_change (C := Try.checked) own started (by kernel_rfl) Try.func4
    (ChangeSpec.witness6 (enc := enc) (C := Try.checked) false ⟨#[], #[.agg #[.int .i64 0, .int .i64 0, .int .i64 0], .slice none 0 0, .slice none 0 0, .slice none 0 0, .slice none 0 0], []⟩ 8 (by kernel_rfl) (by kernel_rfl) (by kernel_rfl) (by kernel_rfl)) ?_
  intro W base args ds gs before hval hW _ _
  exact workWorst_contract H enc W base args ds gs before hval hW
theorem workWorst_holds : Rows.WorkWorstSaid :=
  OpenClaim.holds_of_wide 4 Try.f4 rfl rfl rfl rfl rfl rfl rfl ⟨rfl, rfl, rfl, rfl, rfl⟩ rfl rfl rfl rfl rfl (by kernel_rfl) Try.func4 (by kernel_rfl)
    (of_decide_eq_true (by kernel_rfl)) (by unfold Func.isWrapper; first | (rw [if_pos (by decide +kernel)]; kernel_rfl) | (rw [if_neg (by decide +kernel)]; exact ⟨rfl, rfl⟩))
    (fun os started H enc _ => workWorst_lifted os started H enc)
end Go.Proofs.Ythjedajkebehbaa
