/-
  The walk of takes: what the legs take, by numbers. Conditions: none.
-/
import Derived.Test.YteahkgoedibimaaWalkT
import Derived.Test.YteahkgoedibimaaLawA
namespace Go.Proofs.Yteahkgoedibimaa
open Go.RowKit

/-- the number that is chosen -/
def pick1 (x : P2) (n : Int) : Int := x.a + n % (x.b - x.a + 1)
def takesL (ls : List P2) (ns : List Int) : List Int := (List.range ls.length).map fun i => pick1 (ls.getD i ⟨0, 0⟩) (ns.getD i 0)
theorem takesL_length (ls : List P2) (ns : List Int) : (takesL ls ns).length = ls.length := by simp [takesL]
theorem takesL_get (ls : List P2) (ns : List Int) {k : Nat} (hk : k < ls.length) : (takesL ls ns).getD k 0 = pick1 (ls.getD k ⟨0, 0⟩) (ns.getD k 0) := by
  rw [getD1 (by rw [takesL_length]; exact hk)]
  simp [takesL]
theorem takesL_take (ls : List P2) (ns : List Int) {k : Nat} (hk : k < ls.length) : ints ((takesL ls ns).take k) ++ [.int .i64 (pick1 (ls.getD k ⟨0, 0⟩) (ns.getD k 0))] = ints ((takesL ls ns).take (k + 1)) := by
  rw [take_snoc _ k (by rw [takesL_length]; exact hk), ← getD1 (by rw [takesL_length]; exact hk), takesL_get ls ns hk]
  simp [ints]
theorem pick1_in {x : P2} {n : Int} (h : x.a ≤ x.b) : x.a ≤ pick1 x n ∧ pick1 x n ≤ x.b := by
  have h1 := Int.emod_nonneg n (show x.b - x.a + 1 ≠ 0 by omega)
  have h2 := Int.emod_lt_of_pos n (show 0 < x.b - x.a + 1 by omega)
  unfold pick1
  omega
theorem takesL_in {ws ls : List P2} {rs : List P3} (hF : FineC ws ls rs) (ns : List Int) (k : Nat) (hk : k < ls.length) : (ls.getD k ⟨0, 0⟩).a ≤ (takesL ls ns).getD k 0 ∧ (takesL ls ns).getD k 0 ≤ (ls.getD k ⟨0, 0⟩).b := by
  rw [takesL_get ls ns hk]
  have := hF.2.2.1 k
  unfold okP at this
  exact pick1_in this.2.1
set_option maxHeartbeats 2000000 in
set_option maxRecDepth 100000 in
theorem takes_any (A1 A2 A3 A4 : Option Addr) (c1 c2 c3 c4 : Nat) (ws ls : List P2) (rs : List P3) (ns : List Int) (w : World) (h2 : Two w w.heap.size A2 ls) (h4 : Shows w w.heap.size 1 A4 ns.length (ns.map (Value.int .u16))) (hF : FineC ws ls rs)
    (hn : ns.length ≤ 9223372036854775807) (hw : ∀ z ∈ ns, 0 ≤ z ∧ z ≤ 65535) :
    Calls Try.prog 21 #[.agg #[.slice A1 ws.length c1, .slice A2 ls.length c2, .slice A3 rs.length c3], .slice A4 ns.length c4] w (RowSays (takesL ls ns) w) := by
  obtain ⟨i0, hi, hz0, hz1, hz2⟩ := info_parts info3
  have hl82 : ls.length ≤ 81 := by have := hF.1; omega
  have HF := Lib.hid hF
  clear hF
  go_enter Try.func21, Try.ntmps21
  go_wp2_with fail
  have hbA := lit_below w (.cells #[.slice A1 ws.length c1, .slice A2 ls.length c2, .slice A3 rs.length c3] 26)
  have hbox := BoxC.new w (.slice A1 ws.length c1) (.slice A2 ls.length c2) (.slice A3 rs.length c3) 26
  generalize w.alloc (.cells #[.slice A1 ws.length c1, .slice A2 ls.length c2, .slice A3 rs.length c3] 26) = wA at hbA hbox ⊢
  obtain ⟨x0, x1, x2, sA⟩ := hbox
  go_loopw [5, 6] (fun v i wr => ∃ k : Nat, k ≤ ls.length ∧ i = .int .i64 k ∧ wr.ownsRow wA.heap.size 3 1 v k (ints ((takesL ls ns).take k)) ∧ Below wA.heap.size wA wr) (fun _ i _ => ls.length - (intOf i).toNat)
  case atStart => exact ⟨0, Nat.zero_le _, rfl, World.ownsRow_nil _ _ _ _, Below.refl _ _⟩
  case round =>
    obtain ⟨k, hk, rfl, own1, hbB⟩ := hrel
    generalize u5 = v at own1 ⊢
    have hbw := hbA.trans (hbB.mono hbA.size)
    have x1 := ((bcell hbB).1 _ _ sA).trans x1
    have sB : w.heap.size < wr.heap.size := Nat.lt_of_lt_of_le sA hbB.size
    by_cases hlt : k < ls.length
    · obtain ⟨b, o, rfl, hb, e0, e1⟩ := (h2.below hbw).at_ hlt
      rw [← getD2 hlt] at e0 e1
      have hsz := hbw.size
      have q1 := HF.out.2.2.1 k
      unfold okP at q1
      have HN := Lib.hid (takesL_take ls ns hlt)
      generalize ls.getD k ⟨0, 0⟩ = t at e0 e1 q1 HN
      have i0' : (0 : Int) ≤ (k : Int) := by omega
      have i1' : (k : Int) < (ls.length : Int) := by omega
      have hb' : b < wr.heap.size := by omega
      have hv1 : IntKind.i64.wrap (t.b - t.a) = t.b - t.a := IntWalk.i64_in _ (by omega)
      have hv2 : IntKind.i64.wrap (t.b - t.a + 1) = t.b - t.a + 1 := IntWalk.i64_in _ (by omega)
      by_cases hj : k < ns.length
      · obtain ⟨b2, o2, rfl, hb2, hc2⟩ := h4.2 (by omega)
        have hc3 := hc2 k (.int .u16 ns[k]) (by simp [hj])
        have g0 : wr.cell? ⟨b2, o2 + k, none⟩ = some (.int .u16 ns[k]) := ((bcell hbw).1 _ _ hb2).trans hc3
        clear hc2 hc3
        have q2 := hw ns[k] (List.getElem_mem _)
        have hnk : ns.getD k 0 = ns[k] := getD1 hj
        rw [← hnk] at g0 q2
        clear hnk
        generalize ns.getD k 0 = n at g0 q2 HN
        have hm0 := Int.emod_nonneg n (show t.b - t.a + 1 ≠ 0 by omega)
        have hm1 := Int.emod_lt_of_pos n (show 0 < t.b - t.a + 1 by omega)
        have hv3 : IntKind.i64.wrap (t.a + n % (t.b - t.a + 1)) = t.a + n % (t.b - t.a + 1) := IntWalk.i64_in _ (by omega)
        have hb2' : b2 < wr.heap.size := by omega
        have HV := Lib.hid (show ints ((takesL ls ns).take k) ++ [.int .i64 (t.a + n % (t.b - t.a + 1))] = ints ((takesL ls ns).take k) ++ [.int .i64 (pick1 t n)] from rfl)
        go_wp2_with fail
        refine wp_region_mix [(0, true), (1, true), (2, true), (3, true), (4, true), (5, true), (6, true), (7, true), (8, true), (9, true), (10, true), (11, true), (12, true), (13, true), (14, true), (15, true), (16, true), (17, true), (18, true), (19, true)] [20] (SB wA.heap.size wA wr.heap.size none _) (by kernel_rfl) (by kernel_rfl) (by kernel_rfl) (by kernel_rfl) (by decide) (SB.start hbB (by omega)) (fun hS => ?_)
        simp only [planned, List.filterMap_cons, List.filterMap_nil, List.getElem?_cons_zero, List.getElem?_cons_succ, Option.map_some]
        repeat (first
          | (refine mix_skip (by rfl) ?_; try simp only [Act.put, List.setIfInBounds_toArray, List.set_cons_zero, List.set_cons_succ])
          | (refine mix_pass hS (by rfl) ?_; try simp only [Act.put, List.setIfInBounds_toArray, List.set_cons_zero, List.set_cons_succ])
          | (refine mix_pure (by rfl) (by rfl) (fun K hK => ?_); go_big_quiet_op; refine hK _ ?_; clear hK K)
          | (refine mix_take (by rfl) ?_
             apply Exists.intro
             refine ⟨?_, ?_⟩
             · intro w' hSw
               have hSc := hSw.cell
               clear hSw
               go_simp
               try with_reducible rfl
             try simp only [Act.put, List.setIfInBounds_toArray, List.set_cons_zero, List.set_cons_succ])
          | (refine mix_move (by rfl) (fun K hK => ?_)
             go_simp
             try dsimp only
             first
               | refine hK.out _ _ (hS.step hx (by omega)) ?_
               | refine hK.out _ _ hS ?_
               | refine hK.out _ _ (hS.alloc _ (by omega)) ?_
               | refine hK.out _ _ (hS.grown hg hx) ?_
             clear hK K hS
             intro hS
             try simp only [Act.put, List.setIfInBounds_toArray, List.set_cons_zero, List.set_cons_succ])
          | fail)
        refine mix_nil ?_
        simp only [tailed, List.filterMap_cons, List.filterMap_nil, List.getElem?_cons_zero, List.getElem?_cons_succ]
        go_wp2_with fail
        refine NoPanic.normal ?_
        have own1 := own1.drew
        have hbB := hbB.drew
        have e0 : wr.drew.cell? ⟨b, o + k * 2, none⟩ = some (.int .i64 t.a) := e0
        have x1 : wr.drew.cell? ⟨w.heap.size, 1, none⟩ = some (.slice (some ⟨b, o, none⟩) ls.length c2) := x1
        clear hS
        generalize wr.drew = wm at own1 hbB e0 x1 ⊢
        have hsz' := hbB.size
        go_wp2_with (first | (at_builtin; refine push_own rfl _ _ 27 rfl wA.heap.size 3 i0 (.int .i64 0) 1 8 Try.underlying27 hi hz0 hz1 hz2 rfl (by decide) _ _ _ _ rfl own1 1 1 [.int .i64 (t.a + n % (t.b - t.a + 1))] rfl rfl (by simp [Value.oneCell']) hsz' (by omega) (by omega) ?_; intro v1' wa own1' hba hga))
        rw [HV.out, HN.out] at own1'
        go_roundw
        case rel => exact ⟨k + 1, by omega, by go_num, own1', hbB.trans hba⟩
        case measure => simp [intOf]; omega
      · have hnk : ns.getD k 0 = 0 := getD_out 0 (by omega)
        rw [hnk] at HN
        clear hnk
        have hj' : decide ((k : Int) < (ns.length : Int)) = false := decide_eq_false (by omega)
        have hm1 : (0 : Int) % (t.b - t.a + 1) = 0 := Int.zero_emod _
        have HV := Lib.hid (show ints ((takesL ls ns).take k) ++ [.int .i64 t.a] = ints ((takesL ls ns).take k) ++ [.int .i64 (pick1 t 0)] by rw [pick1, hm1, Int.add_zero])
        clear hm1
        have hsz' := hbB.size
        go_wp2_with (first | (at_builtin; refine push_own rfl _ _ 27 rfl wA.heap.size 3 i0 (.int .i64 0) 1 8 Try.underlying27 hi hz0 hz1 hz2 rfl (by decide) _ _ _ _ rfl own1 1 1 [.int .i64 (t.a)] rfl rfl (by simp [Value.oneCell']) hsz' (by omega) (by omega) ?_; intro v1' wa own1' hba hga))
        rw [HV.out, HN.out] at own1'
        go_roundw
        case rel => exact ⟨k + 1, by omega, by go_num, own1', hbB.trans hba⟩
        case measure => simp [intOf]; omega
    · go_wp2_with fail
      go_ret
      obtain rfl : k = ls.length := by omega
      rw [← takesL_length ls ns, List.take_length] at own1
      refine ⟨_, rfl, ?_, hbw⟩
      exact own_mono own1 (by omega)
end Go.Proofs.Yteahkgoedibimaa
