/-
  The walk of react.Guard. Conditions: none.
-/
import Derived.Test.YteahkgoedibimaaWalkK
namespace Go.Proofs.Yteahkgoedibimaa
open Go.RowKit

/-- A box with one cell, as an object. -/
def BoxH (w : World) (g : Nat) (v : Value) (e : TypeId) : Prop := w.heap[g]? = some (.cells #[v] e (0, 0))
theorem BoxH.new (w : World) (v : Value) (e : TypeId) : BoxH (w.alloc (.cells #[v] e)) w.heap.size v e := heap_alloc_new w _
theorem BoxH.lt {w : World} {g : Nat} {v : Value} {e : TypeId} (h : BoxH w g v e) : g < w.heap.size := (Array.getElem?_eq_some_iff.1 h).1
theorem BoxH.cell {w : World} {g : Nat} {v : Value} {e : TypeId} (h : BoxH w g v e) : w.cell? ⟨g, 0, none⟩ = some v := by
  rw [cell_of_row w g 0 #[v] e (0, 0) h]; rfl
theorem BoxH.frozen {w : World} {g : Nat} {v : Value} {e : TypeId} (h : BoxH w g v e) : w.frozen? ⟨g, 0, none⟩ = false := frozen_of_row w g 0 #[v] e h
theorem BoxH.set {w : World} {g : Nat} {v : Value} {e : TypeId} (h : BoxH w g v e) (u : Value) : BoxH (w.setCell ⟨g, 0, none⟩ u) g u e := heap_setCell_same w g 0 #[v] e u h
theorem BoxH.ext {w w' : World} {g : Nat} {v : Value} {e : TypeId} (h : BoxH w g v e) (hx : Below w.heap.size w w') : BoxH w' g v e := (hx.block g h.lt).trans h

theorem own_ne_box {w : World} {base size n g cap gb : Nat} {e e' : TypeId} {xs : List Value} {u : Value} (own : w.ownsRow base e size (.slice (some ⟨g, 0, none⟩) n cap) n xs) (hb : BoxH w gb u e') (hne : e ≠ e') : gb ≠ g := by
  rintro rfl
  rcases own.2 with ⟨h', _⟩ | ⟨g', cap', cur, h', _, hg, _⟩
  · simp at h'
  · simp only [Value.slice.injEq, Option.some.injEq, Addr.mk.injEq, and_true, true_and] at h'
    obtain ⟨rfl, rfl⟩ := h'
    unfold BoxH at hb
    rw [hg] at hb
    simp only [Option.some.injEq, Obj.cells.injEq] at hb
    exact hne hb.2.1
theorem grown_set (w : World) (g : Nat) (u : Value) : w.grownBy (w.setCell ⟨g, 0, none⟩ u) (some g) :=
  ⟨rfl, rfl, rfl, by simp, fun k _ hk => heap_setCell_other w ⟨g, 0, none⟩ k u (fun e => hk (by simp [e]))⟩

def sumsL (ls : List P2) (k : Nat) : List Int := (List.range (k + 1)).map (Sm ls)
theorem sumsL_length (ls : List P2) (k : Nat) : (sumsL ls k).length = k + 1 := by simp [sumsL]
theorem sumsL_succ (ls : List P2) (k : Nat) : ints (sumsL ls k) ++ [.int .i64 (Sm ls k + (ls.getD k ⟨0, 0⟩).b)] = ints (sumsL ls (k + 1)) := by
  simp [sumsL, ints, List.range_succ, Sm]
theorem sumsL_get (ls : List P2) {k n : Nat} (hk : k ≤ n) : (sumsL ls n).getD k 0 = Sm ls k := by
  rw [getD1 (by rw [sumsL_length]; omega)]
  simp [sumsL]
set_option maxHeartbeats 1000000 in
theorem sums_high (gb : Nat) (A : Option Addr) (n c : Nat) (ws ls : List P2) (rs : List P3) (a b : Nat) (w : World) (hF : FineC ws ls rs) (hg : w.cell? ⟨gb, 0, none⟩ = some (.slice A n c)) (hgs : gb < w.heap.size) (hn : n = ls.length + 1)
    (h : Shows w w.heap.size 1 A n (ints (sumsL ls ls.length))) (ha : a ≤ ls.length) (hb : b ≤ ls.length) :
    Calls Try.prog 25 #[.int .i64 a, .int .i64 b, .pointer (some ⟨gb, 0, none⟩)] w fun e w' => e = .returned (.int .i64 (Sm ls b - Sm ls a)) ∧ Below w.heap.size w w' := by
  have hsm := h
  obtain ⟨bb, o, rfl, hbb, hc⟩ := h.2 (by omega)
  have e0 := hc a _ (ints_getD (l := sumsL ls ls.length) (by rw [sumsL_length]; omega))
  have e1 := hc b _ (ints_getD (l := sumsL ls ls.length) (by rw [sumsL_length]; omega))
  rw [sumsL_get ls ha] at e0
  rw [sumsL_get ls hb] at e1
  have q0 := Sm_nonneg hF a
  have q1 := Sm_le hF a
  have q2 := Sm_nonneg hF b
  have q3 := Sm_le hF b
  have q4 := hF.1
  have wk : IntKind.i64.wrap (Sm ls b - Sm ls a) = Sm ls b - Sm ls a := IntWalk.i64_in _ (by omega)
  have i0' : (0 : Int) ≤ a := by omega
  have i1' : (a : Int) < (n : Int) := by omega
  have i2' : (0 : Int) ≤ b := by omega
  have i3' : (b : Int) < (n : Int) := by omega
  clear q0 q1 q2 q3 q4 hc hsm hn
  generalize Sm ls a = sa at e0 wk ⊢
  generalize Sm ls b = sb at e1 wk ⊢
  go_enter Try.func25, Try.ntmps25
  go_wp2_with fail
  refine wp_region_mix [(0, true), (1, true), (2, true), (3, true), (4, true), (5, true), (6, true), (7, true), (8, true)] [9] (SB w.heap.size w w.heap.size none _) (by kernel_rfl) (by kernel_rfl) (by kernel_rfl) (by kernel_rfl) (by decide) (SB.start (Below.refl _ _) (by omega)) (fun hS => ?_)
  simp only [planned, List.filterMap_cons, List.filterMap_nil, List.getElem?_cons_zero, List.getElem?_cons_succ, Option.map_some]
  repeat (first
    | (refine mix_skip (by rfl) ?_; try simp only [Act.put, List.setIfInBounds_toArray, List.set_cons_zero, List.set_cons_succ])
    | (refine mix_pass hS (by rfl) ?_; try simp only [Act.put, List.setIfInBounds_toArray, List.set_cons_zero, List.set_cons_succ])
    | (refine mix_pure (by rfl) (by rfl) (fun K hK => ?_); go_big_quiet_op; refine hK _ ?_; clear hK K)
    | (refine mix_take (by rfl) ?_
       apply Exists.intro
       refine ⟨?_, ?_⟩
       · intro w' hSw
         have hSc := hSw.cell
         clear hSw
         go_simp
         try with_reducible rfl
       try simp only [Act.put, List.setIfInBounds_toArray, List.set_cons_zero, List.set_cons_succ])
    | (refine mix_move (by rfl) (fun K hK => ?_)
       go_simp
       try dsimp only
       first
         | refine hK.out _ _ (hS.step hx (by omega)) ?_
         | refine hK.out _ _ hS ?_
         | refine hK.out _ _ (hS.alloc _ (by omega)) ?_
         | refine hK.out _ _ (hS.grown hg hx) ?_
       clear hK K hS
       intro hS
       try simp only [Act.put, List.setIfInBounds_toArray, List.set_cons_zero, List.set_cons_succ])
    | fail)
  refine mix_nil ?_
  simp only [tailed, List.filterMap_cons, List.filterMap_nil, List.getElem?_cons_zero, List.getElem?_cons_succ]
  go_wp2_with fail
  refine NoPanic.normal ?_
  have hb9 := hS.below
  go_wp2_with fail
  go_ret
  exact ⟨rfl, hb9⟩
theorem sums_at (gb : Nat) (A : Option Addr) (n c : Nat) (ws ls : List P2) (rs : List P3) (a : Nat) (b : Int) (w : World) (hF : FineC ws ls rs) (hg : w.cell? ⟨gb, 0, none⟩ = some (.slice A n c)) (hgs : gb < w.heap.size) (hn : n = ls.length + 1)
    (h : Shows w w.heap.size 1 A n (ints (sumsL ls ls.length))) (ha : a ≤ ls.length) (h0 : 0 ≤ b) (hb : b ≤ ls.length) :
    Calls Try.prog 25 #[.int .i64 a, .int .i64 b, .pointer (some ⟨gb, 0, none⟩)] w fun e w' => e = .returned (.int .i64 (Sm ls b.toNat - Sm ls a)) ∧ Below w.heap.size w w' := by
  obtain ⟨m, rfl⟩ := Int.eq_ofNat_of_zero_le h0
  exact sums_high gb A n c ws ls rs a m w hF hg hgs hn h ha (by omega)
theorem worst_n (A1 A2 A3 A4 : Option Addr) (c1 c2 c3 c4 n : Nat) (ws ls : List P2) (rs : List P3) (G : List Int) (w : World) (hn : G.length = n) (h1 : Two w w.heap.size A1 ws) (h2 : Two w w.heap.size A2 ls) (h3 : Three w w.heap.size A3 rs) (h4 : Shows w w.heap.size 1 A4 n (ints G))
    (hl1 : ws.length ≤ 9223372036854775807) (hl4 : n ≤ 9223372036854775807) :
    Calls Try.prog 14 #[.agg #[.slice A1 ws.length c1, .slice A2 ls.length c2, .slice A3 rs.length c3], .slice A4 n c4] w (PairSays (worstL ws ls rs G) (worstE ws ls rs G) w) := by
  subst hn
  exact worst_any A1 A2 A3 A4 c1 c2 c3 c4 ws ls rs G w h1 h2 h3 h4 hl1 hl4
set_option maxHeartbeats 8000000 in
set_option maxRecDepth 100000 in
theorem guard_any (A1 A2 A3 : Option Addr) (c1 c2 c3 : Nat) (ws ls : List P2) (rs : List P3) (w : World) (h1 : Two w w.heap.size A1 ws) (h2 : Two w w.heap.size A2 ls) (h3 : Three w w.heap.size A3 rs) (hl1 : ws.length ≤ 9223372036854775807) :
    Calls Try.prog 10 #[.agg #[.slice A1 ws.length c1, .slice A2 ls.length c2, .slice A3 rs.length c3]] w (PairSays (guardR ws ls rs) (guardE ws ls rs) w) := by
  go_enter Try.func10, Try.ntmps10
  go_wp2_with fail
  have hbA := lit_below w (.cells #[.slice A1 ws.length c1, .slice A2 ls.length c2, .slice A3 rs.length c3] 26)
  have hbox := BoxC.new w (.slice A1 ws.length c1) (.slice A2 ls.length c2) (.slice A3 rs.length c3) 26
  generalize w.alloc (.cells #[.slice A1 ws.length c1, .slice A2 ls.length c2, .slice A3 rs.length c3] 26) = wA at hbA hbox ⊢
  obtain ⟨x0, x1, x2, sA⟩ := hbox
  refine (right_any _ _ _ _ _ _ ws ls rs _ (two_ext h1 hbA) (two_ext h2 hbA) (three_ext h3 hbA) hl1).mono ?_
  rintro e w1 ⟨rfl, hx1⟩
  have hb1 := hbA.trans (hx1.mono hbA.size)
  obtain ⟨x0, x1, x2, sA⟩ := BoxC.ext ⟨x0, x1, x2, sA⟩ hx1
  cases hr : rightC ws ls rs
  · have HR := Lib.hid hr
    clear hr
    go_wp2_with fail
    go_ret2
    exact guard_bad HR.out hb1
  have HR := Lib.hid hr
  have HF := Lib.hid (fine_right hr)
  clear hr hx1 hbA
  have hn82 : ws.length ≤ 82 := HF.out.1.2.1
  have hn1 : 1 ≤ ws.length := HF.out.1.1
  have hr200 : rs.length ≤ 200 := HF.out.1.2.2.2
  have hls : ls.length + 1 = ws.length := HF.out.1.2.2.1
  have s1 := hb1.size
  obtain ⟨i0, hi, hz0, hz1, hz2⟩ := info_parts info3
  go_wp2_with fail
  have own0 := (World.ownsRow_lit (base := w1.heap.size) (e := 3) (size := 1) w1 #[.int .i64 0] 1 (Nat.le_refl _) (by unfold maxLen; omega) rfl).alloc (.cells #[.slice (some ⟨w1.heap.size, 0, none⟩) 1 1] 27)
  have bx0 := BoxH.new (w1.alloc (.cells #[.int .i64 0] 3)) (.slice (some ⟨w1.heap.size, 0, none⟩) 1 1) 27
  have hbC := (lit_below w1 (.cells #[.int .i64 0] 3)).alloc (by simp) (.cells #[.slice (some ⟨w1.heap.size, 0, none⟩) 1 1] 27)
  rw [size_alloc] at bx0
  generalize (w1.alloc (.cells #[.int .i64 0] 3)).alloc (.cells #[.slice (some ⟨w1.heap.size, 0, none⟩) 1 1] 27) = wC at own0 bx0 hbC ⊢
  go_loopw [24] (fun i wr => ∃ k g cap : Nat, k ≤ ls.length ∧ i = .int .i64 k ∧ BoxH wr (w1.heap.size + 1) (.slice (some ⟨g, 0, none⟩) (k + 1) cap) 27 ∧ wr.ownsRow w1.heap.size 3 1 (.slice (some ⟨g, 0, none⟩) (k + 1) cap) (k + 1) (ints (sumsL ls k)) ∧ w1.heap.size + 1 ≠ g ∧ Below w1.heap.size w1 wr) (fun i _ => ls.length - (intOf i).toNat)
  case atStart => exact ⟨0, w1.heap.size, 1, Nat.zero_le _, rfl, bx0, own0, by omega, hbC⟩
  case round =>
    obtain ⟨k, g, cap, hk, rfl, hbx, own1, hne, hbB⟩ := hrel
    have hbw := hb1.trans (hbB.mono hb1.size)
    obtain ⟨y0, y1, y2, sB⟩ := BoxC.ext ⟨x0, x1, x2, sA⟩ hbB
    by_cases hlt : k < ls.length
    · obtain ⟨b2, o2, rfl, hb2', e0, e1⟩ := (h2.below hbw).at_ hlt
      rw [← getD2 hlt] at e0 e1
      have hq := HF.out.2.2.1 k
      unfold okP at hq
      have q1 := Sm_nonneg HF.out k
      have q2 := Sm_le HF.out k
      have HN := Lib.hid (sumsL_succ ls k)
      have t0 := own1.cellAt k (by omega)
      rw [ints_getD (by rw [sumsL_length]; omega), sumsL_get ls (Nat.le_refl k)] at t0
      have i0' : (0 : Int) ≤ k := by omega
      have i1' : (k : Int) < (ls.length : Int) := by omega
      have i2' : (k : Int) < (k : Int) + 1 := by omega
      have wl : IntKind.i64.wrap ((k : Int) + 1 - 1) = (k : Int) := by rw [show (k : Int) + 1 - 1 = k from by omega]; exact IntWalk.i64_in _ (by omega)
      have wk : IntKind.i64.wrap ((k : Int) + 1) = (k : Int) + 1 := IntWalk.i64_in _ (by omega)
      generalize ls.getD k ⟨0, 0⟩ = t at e0 e1 hq HN
      generalize Sm ls k = sk at t0 q1 q2 HN
      have wsum : IntKind.i64.wrap (sk + t.b) = sk + t.b := IntWalk.i64_in _ (by omega)
      have hszB := hbB.size
      have p0 := cell_alloc_add wr [.int .i64 t.a, .int .i64 t.b] 44 1 _ rfl
      have hg1 : g < wr.heap.size := (own1.lt _ rfl).2
      go_wp2_with fail
      have own2 := own1.alloc (.cells #[.int .i64 t.a, .int .i64 t.b] 44)
      have hbD := hbB.alloc hszB (.cells #[.int .i64 t.a, .int .i64 t.b] 44)
      have hbx2 := hbx.ext (lit_below wr (.cells #[.int .i64 t.a, .int .i64 t.b] 44))
      have hszD := size_alloc wr (.cells #[.int .i64 t.a, .int .i64 t.b] 44)
      have t0 := ((bcell (lit_below wr (.cells #[.int .i64 t.a, .int .i64 t.b] 44))).1 g k hg1).trans t0
      have p0 : (wr.alloc (.cells #[.int .i64 t.a, .int .i64 t.b] 44)).cell? ⟨wr.heap.size, 1, none⟩ = some (.int .i64 t.b) := p0
      generalize wr.alloc (.cells #[.int .i64 t.a, .int .i64 t.b] 44) = wD at own2 hbD hbx2 hszD t0 p0 ⊢
      have v0 := hbx2.cell
      have r1 : w1.heap.size + 1 < wD.heap.size := hbx2.lt
      have r2 : wr.heap.size ≠ g := by omega
      have r3 : wr.heap.size < wD.heap.size := by omega
      have r4 : k < k + 1 := by omega
      have r5 : w1.heap.size ≤ wD.heap.size := by omega
      clear own1 hbx e0 e1 hszD
      refine wp_region_mix [(0, true), (1, true), (2, true), (3, true), (4, true), (5, true), (6, true), (7, true), (8, true), (9, true), (10, false), (11, false)] [12] (SG w1.heap.size w1 wD.heap.size g ((k + 1) * 1) _) (by kernel_rfl) (by kernel_rfl) (by kernel_rfl) (by kernel_rfl) (by decide) (SG.start hbD (by omega) (by omega)) (fun hS => ?_)
      simp only [planned, List.filterMap_cons, List.filterMap_nil, List.getElem?_cons_zero, List.getElem?_cons_succ, Option.map_some]
      repeat (first
        | (refine mix_skip (by rfl) ?_; try simp only [Act.put, List.setIfInBounds_toArray, List.set_cons_zero, List.set_cons_succ])
        | (refine mix_pass hS (by rfl) ?_; try simp only [Act.put, List.setIfInBounds_toArray, List.set_cons_zero, List.set_cons_succ])
        | (refine mix_pure (by rfl) (by rfl) (fun K hK => ?_); go_big_quiet_op; refine hK _ ?_; clear hK K)
        | (refine mix_take (by rfl) ?_
           apply Exists.intro
           refine ⟨?_, ?_⟩
           · intro w' hSw
             have hSc := hSw.cell
             have hSk := hSw.kept
             clear hSw
             go_simp
             try with_reducible rfl
           try simp only [Act.put, List.setIfInBounds_toArray, List.set_cons_zero, List.set_cons_succ])
        | (refine mix_move (by rfl) (fun K hK => ?_)
           first
             | (refine wp_push3 _ _ 27 rfl w1.heap.size 3 i0 (.int .i64 0) 1 8 Try.underlying27 hi hz0 hz1 hz2 rfl (by decide) _ g (k + 1) cap _ rfl own2.drew 1 1 [.int .i64 (sk + t.b)] rfl rfl (by simp [Value.oneCell']) r5 (by omega) (by omega) ?_; intro v' w2 hown2 hx hg)
             | go_simp
           try dsimp only
           first
             | refine hK.out _ _ (hS.step hx (by omega)) ?_
             | refine hK.out _ _ hS ?_
             | refine hK.out _ _ (hS.alloc _ (by omega)) ?_
             | refine hK.out _ _ (hS.grown hg hx) ?_
           clear hK K hS
           intro hS
           try simp only [Act.put, List.setIfInBounds_toArray, List.set_cons_zero, List.set_cons_succ])
        | fail)
      refine mix_nil ?_
      simp only [tailed, List.filterMap_cons, List.filterMap_nil, List.getElem?_cons_zero, List.getElem?_cons_succ]
      have hb9 := hS.below
      obtain ⟨g', cap', rfl, u1, u2, u3⟩ := own_form hown2 (by omega)
      have hbx3 : BoxH w2 (w1.heap.size + 1) (.slice (some ⟨g, 0, none⟩) (k + 1) cap) 27 := by
        have h8 := hg.1.block (w1.heap.size + 1) (by simp; omega) (by simpa using hne)
        exact h8.trans ((Below.heap_alloc wD.drew _ _ r1).trans hbx2)
      have hne' := own_ne_box hown2 hbx3 (by decide)
      have c0 := hbx3.cell
      have c1' := hbx3.frozen
      have hbx4 := hbx3.set (.slice (some ⟨g', 0, none⟩) (k + 1 + 1) cap')
      have own4 := hown2.kept (grown_set w2 (w1.heap.size + 1) (.slice (some ⟨g', 0, none⟩) (k + 1 + 1) cap')) (.inr (by simp [Value.ownBlock]; omega))
      have hb10 := hb9.setCell (p := ⟨w1.heap.size + 1, 0, none⟩) (by simp) (.slice (some ⟨g', 0, none⟩) (k + 1 + 1) cap')
      rw [HN.out] at own4
      clear hbx3 hown2 hx hg hS hb9 own2 t0 p0 v0 hbx2 hbD hbB hbw wl wsum
      go_wp2_with fail
      refine NoPanic.normal ?_
      go_wp2_with fail
      go_roundw
      case rel => exact ⟨k + 1, g', cap', by omega, by go_num, hbx4, own4, hne', hb10⟩
      case measure => simp [intOf]; omega
    · obtain rfl : k = ls.length := by omega
      have sh1 := (caps_of_own own1)
      obtain ⟨Ax, cx, qx, sh1, _, _⟩ := sh1
      cases qx
      have v0 := hbx.cell
      have v1 := hbx.lt
      generalize wr = wS at *
      clear hbx own1 hbB hbC own0 bx0 hne
      have hlS := hbw.size
      have wn : IntKind.i64.wrap ((ws.length : Int) - 1) = (ws.length : Int) - 1 := IntWalk.i64_in _ (by omega)
      go_wp2_with (at_make; refine wpList_make_full wS rfl _ _ 27 rfl wS.heap.size 3 i0 _ 1 Try.underlying27 hi hz0 hz1 .i64 .i64 _ _ ws.length rfl rfl rfl rfl (by rw [hz2]; omega) (by unfold maxLen; omega) (Nat.le_refl _) ?_; intro w3 own2 hg3)
      rw [zeros] at own2
      have hb3 := (Below.refl wS.heap.size wS).grown hg3 (Nat.le_refl _) (fun k e => by cases e)
      have hg2 : wS.heap.size < w3.heap.size := (own2.lt _ rfl).2
      clear hg3
      go_loopw [9] (fun i wr => ∃ k1 : Nat, k1 ≤ ws.length ∧ i = .int .i64 ((k1 : Int) - 1) ∧ wr.ownsRow wS.heap.size 3 1 (.slice (some ⟨wS.heap.size, 0, none⟩) ws.length ws.length) ws.length (ints (gRow ws ls rs (ws.length - k1))) ∧ (∀ q, q < rs.length → (k1 : Int) ≤ (rs.getD q ⟨0, 0, 0⟩).a → Sm ls (rs.getD q ⟨0, 0, 0⟩).b.toNat - Sm ls (rs.getD q ⟨0, 0, 0⟩).a.toNat ≤ (rs.getD q ⟨0, 0, 0⟩).c) ∧ Below wS.heap.size wS wr) (fun i _ => (intOf i + 1).toNat)
      case atStart => exact ⟨ws.length, Nat.le_refl _, rfl, by rw [Nat.sub_self]; exact own2, fun q hq h => by have := HF.out.2.2.2 q hq; omega, hb3⟩
      case round =>
        obtain ⟨k1, hk1, rfl, own2, hkept, hbB⟩ := hrel
        have HKP := Lib.hid hkept
        clear hkept
        have hbz := hbw.trans (hbB.mono hbw.size)
        rcases Nat.eq_zero_or_pos k1 with h0 | h0
        · subst h0
          rw [show ((0 : Nat) : Int) - 1 = -1 from rfl]
          have HK := Lib.hid (kept_of (ls := ls) (rs := rs) (fun i hi => HKP.out i hi (by have := HF.out.2.2.2 i hi; omega)))
          have HGB := Lib.hid (GL_bounds HF.out HK.out)
          have HGL := Lib.hid (GL_length ws ls rs)
          have hwb : worstB ws ls rs (GL ws ls rs) = true := by
            simp only [worstB, HR.out, Bool.true_and]
            exact fits_of HGL.out (fun k _ => by have := HGB.out k; omega)
          have HWL := Lib.hid (show worstL ws ls rs (GL ws ls rs) = runL (GL ws ls rs) (highL ls) ws.length by simp [worstL, hwb])
          have HWE := Lib.hid (show worstE ws ls rs (GL ws ls rs) = 0 by simp [worstE, hwb])
          have HLW := Lib.hid (fun k => show lateW ws ls rs k = decide ((ws.getD k ⟨0, 0⟩).b < tAt (GL ws ls rs) (highL ls) k) from rfl)
          have own2 : wr.ownsRow wS.heap.size 3 1 (.slice (some ⟨wS.heap.size, 0, none⟩) ws.length ws.length) ws.length (ints (GL ws ls rs)) := own2
          clear hwb
          generalize hG : GL ws ls rs = G at own2 HGB HGL HWL HWE HLW
          have HGE := Lib.hid hG
          clear hG
          obtain ⟨z0, z1, z2, sC⟩ := BoxC.ext ⟨y0, y1, y2, sB⟩ hbB
          obtain ⟨A5, c5, q5, sh5, _, _⟩ := caps_of_own own2
          cases q5
          go_wp2_with fail
          refine (worst_n _ _ _ _ _ _ _ _ ws.length ws ls rs G _ HGL.out (two_ext h1 hbz) (two_ext h2 hbz) (three_ext h3 hbz) sh5 hl1 hl1).mono ?_
          unfold PairSays
          rw [HWL.out, HWE.out]
          rintro e w7 ⟨A7, c7, _, rfl, sh7, hx7⟩
          have hb7 := hbz.trans (hx7.mono hbz.size)
          obtain ⟨z0, z1, z2, sC⟩ := BoxC.ext ⟨z0, z1, z2, sC⟩ hx7
          have own7 := own_below own2 hx7
          have HR7 := Lib.hid (fun k (hk : k < ws.length) => runL_get G (highL ls) hk)
          have HL7 := Lib.hid (runL_length G (highL ls) ws.length)
          generalize runL G (highL ls) ws.length = R at sh7 HR7 HL7 ⊢
          have hR82 : R.length ≤ 82 := by have := HL7.out; omega
          have s7 := hb7.size
          clear own2 sh5
          go_wp2_with fail
          go_loopw [119] (fun i wr => ∃ k : Nat, k ≤ R.length ∧ i = .int .i64 k ∧ (∀ j, j < k → lateW ws ls rs j = false) ∧ Below w7.heap.size w7 wr) (fun i _ => R.length - (intOf i).toNat)
          case atStart => exact ⟨0, Nat.zero_le _, rfl, fun j h => absurd h (by omega), Below.refl _ _⟩
          case round =>
            obtain ⟨m, hm, rfl, hall, hbC⟩ := hrel
            have HA2 := Lib.hid hall
            clear hall
            have hbq := hb7.trans (hbC.mono hb7.size)
            obtain ⟨x0, x1, x2, sE⟩ := BoxC.ext ⟨z0, z1, z2, sC⟩ hbC
            have hszc := hbC.size
            by_cases hlm : m < R.length
            · have hmn : m < ws.length := by have := HL7.out; omega
              obtain ⟨b, o, rfl, hb, e0, e1⟩ := (h1.below hbq).at_ hmn
              obtain ⟨b7, o7, rfl, hb7', f0⟩ := Nums.at_ (l := R) (sh7.below hbC) hlm
              rw [← getD1 hlm, HR7.out m hmn] at f0
              rw [← getD2 hmn] at e0 e1
              have HLm := Lib.hid (HLW.out m)
              have i0' : (0 : Int) ≤ m := by omega
              have i1' : (m : Int) < (R.length : Int) := by omega
              have i2' : (m : Int) < (ws.length : Int) := by omega
              have wk : IntKind.i64.wrap ((m : Int) + 1) = (m : Int) + 1 := IntWalk.i64_in _ (by omega)
              generalize ws.getD m ⟨0, 0⟩ = u at e0 e1 HLm
              generalize tAt G (highL ls) m = tm at f0 HLm
              by_cases hbad : u.b < tm
              · go_wp2_with fail
                go_ret2
                exact guard_late HR.out (guard_not hmn (by rw [HLm.out]; simp [hbad])) hbq
              · have hbad' := decide_eq_false hbad
                have HBD := Lib.hid hbad
                clear hbad
                go_wp2_with fail
                go_roundw
                case rel =>
                  refine ⟨m + 1, by omega, by go_num, fun j hj => ?_, hbC⟩
                  by_cases e : j = m
                  · subst e; rw [HLm.out]; exact decide_eq_false (by have := HBD.out; omega)
                  · exact HA2.out j (by omega)
                case measure => simp [intOf]; omega
            · have hok : guardB ws ls rs = true := guard_all HR.out HK.out (fun j hj => HA2.out j (by have := HL7.out; omega))
              have HOK := Lib.hid hok
              clear hok
              go_wp2_with fail
              go_ret2
              exact guard_good HOK.out (by rw [HGE.out]; exact own_below own7 hbC) hbq
        · obtain ⟨k, rfl⟩ : ∃ k, k1 = k + 1 := ⟨k1 - 1, by omega⟩
          have hkn : k < ws.length := hk1
          rw [show ((k + 1 : Nat) : Int) - 1 = (k : Int) from by omega]
          have z0 := ((bcell hbB).1 _ _ sB).trans y0
          have z2 := ((bcell hbB).1 _ _ sB).trans y2
          obtain ⟨b, o, rfl, hb, e0, e1⟩ := (h1.below hbz).at_ hkn
          rw [← getD2 hkn] at e0 e1
          obtain ⟨d, hd⟩ : ∃ d, k + d + 1 = ws.length := ⟨ws.length - (k + 1), by omega⟩
          rw [show ws.length - (k + 1) = d from by omega] at own2
          have HV := Lib.hid (gRow_bounds HF.out d (by omega) fun q hq h => HKP.out q hq (by omega))
          have HVL := Lib.hid (gRow_length ws ls rs d)
          have HS := Lib.hid (gRow_succ ws ls rs hd)
          have hw := HF.out.2.1 k
          unfold okP at hw
          generalize gRow ws ls rs d = V at own2 HV HVL HS
          generalize ws.getD k ⟨0, 0⟩ = u at e0 e1 HS hw
          have i0' : (0 : Int) ≤ k := by omega
          have i1' : (k : Int) < (ws.length : Int) := by omega
          have wk : IntKind.i64.wrap ((k : Int) - 1) = (k : Int) - 1 := IntWalk.i64_in _ (by omega)
          have wk1 : IntKind.i64.wrap ((k : Int) + 1) = (k : Int) + 1 := IntWalk.i64_in _ (by omega)
          have f0 := own2.cellAt k (by omega)
          rw [ints_getD (by rw [HVL.out]; exact hkn)] at f0
          have f1 := own2.frozenAt k
          obtain ⟨own3, hgr⟩ := own2.stored k (.int .i64 u.a)
          rw [ints_set] at own3
          have hbC := hbB.setCell (p := ⟨wS.heap.size, k, none⟩) (Nat.le_refl _) (.int .i64 u.a)
          clear hgr
          have z2' : (wr.setCell ⟨wS.heap.size, k, none⟩ (.int .i64 u.a)).cell? ⟨w.heap.size, 2, none⟩ = some (.slice A3 rs.length c3) := ((bcell hbC).1 _ _ sB).trans y2
          go_wp2_with fail
          clear z0 z2 z2' f0 f1 e0 e1
          generalize wr.setCell ⟨wS.heap.size, k, none⟩ (.int .i64 u.a) = wD at own3 hbC ⊢
          clear own2 hbz hbB
          go_loopw [65] (fun i wr => ∃ q : Nat, q ≤ rs.length ∧ i = .int .i64 q ∧ wr.ownsRow wS.heap.size 3 1 (.slice (some ⟨wS.heap.size, 0, none⟩) ws.length ws.length) ws.length (ints (V.set k (ovR ls rs V k u.a q))) ∧ (∀ p, p < q → (rs.getD p ⟨0, 0, 0⟩).a = k → Sm ls (rs.getD p ⟨0, 0, 0⟩).b.toNat - Sm ls k ≤ (rs.getD p ⟨0, 0, 0⟩).c) ∧ Below wS.heap.size wS wr) (fun i _ => rs.length - (intOf i).toNat)
          case atStart => exact ⟨0, Nat.zero_le _, rfl, own3, fun p h => absurd h (by omega), hbC⟩
          case round =>
            obtain ⟨q, hq, rfl, ownq, hkq, hbq⟩ := hrel
            have HKQ := Lib.hid hkq
            clear hkq
            have hbz := hbw.trans (hbq.mono hbw.size)
            by_cases hlq : q < rs.length
            · obtain ⟨b3, o3, rfl, hb3', d0, d1, d2⟩ := (h3.below hbz).at_ hlq
              rw [← getD3 hlq] at d0 d1 d2
              have hr := HF.out.2.2.2 q hlq
              have HX := Lib.hid (ovR_bounds (k := k) (x := u.a) HF.out HV.out (by omega) (by omega) q hq HKQ.out)
              have HO := Lib.hid (ovR_succ ls rs V k u.a q)
              have HNK := Lib.hid (not_kept (ls := ls) hlq)
              generalize hTT : rs.getD q ⟨0, 0, 0⟩ = t at d0 d1 d2 hr HO HNK
              have HT := Lib.hid hTT
              clear hTT
              have HO2 := Lib.hid (show ovR ls rs V k u.a q = ovR ls rs V k u.a q from rfl)
              clear HO2
              generalize ovR ls rs V k u.a q = x at ownq HX HO
              have j0' : (0 : Int) ≤ q := by omega
              have j1' : (q : Int) < (rs.length : Int) := by omega
              have w3' : IntKind.i64.wrap ((q : Int) + 1) = (q : Int) + 1 := IntWalk.i64_in _ (by omega)
              have hbox := Box3.new wr t 49
              have hszq := hbq.size
              have hbD := hbq.alloc (o := .cells #[.int .i64 t.a, .int .i64 t.b, .int .i64 t.c] 49) hszq
              have ownD := ownq.alloc (.cells #[.int .i64 t.a, .int .i64 t.b, .int .i64 t.c] 49)
              by_cases hta : t.a = k
              rotate_left
              · have t1 : (t.a != (k : Int)) = true := by simp [hta]
                have hst : stepsR k t = 0 := if_neg hta
                have HST := Lib.hid hst
                have HTA := Lib.hid hta
                clear hst hta
                go_wp2_with fail
                go_roundw
                case rel =>
                  refine ⟨q + 1, by omega, by go_num, by rw [HO.out, HST.out]; exact ownD, fun p hp hpa => ?_, hbD⟩
                  by_cases e : p = q
                  · subst e; rw [HT.out] at hpa; exact absurd hpa HTA.out
                  · exact HKQ.out p (by omega) hpa
                case measure => simp [intOf]; omega
              have t1 : (t.a != (k : Int)) = false := by simp [hta]
              have HTA := Lib.hid hta
              clear hta
              have hnb0 : 0 ≤ t.b := by omega
              have hnbl : t.b ≤ ls.length := by omega
              have hknb : (k : Int) < t.b := by have := HTA.out; omega
              have hkl : k ≤ ls.length := by omega
              go_wp2_with fail
              clear d0 d1 d2
              have h9 : wS.heap.size < wr.heap.size := (ownq.lt _ rfl).2
              have hne : wr.heap.size ≠ wS.heap.size := by omega
              generalize hgr : wr.heap.size = gr at *
              generalize wr.alloc (.cells #[.int .i64 t.a, .int .i64 t.b, .int .i64 t.c] 49) = wD at hbox hbD ownD ⊢
              clear ownq hszq
              have HBX := Lib.hid hbox
              obtain ⟨d0, d1, d2, d3⟩ := hbox
              have hbDw := hbw.trans (hbD.mono hbw.size)
              have szD := hbD.size
              have w8 : w1.heap.size + 1 < wD.heap.size := by omega
              by_cases hbad : t.c < Sm ls t.b.toNat - Sm ls k
              · go_wp2_with fail
                refine wp_region_mix [(0, true), (1, true), (2, true), (3, true), (5, true), (6, true), (4, false), (7, true)] [] (SB w.heap.size w wD.heap.size none _) (by kernel_rfl) (by kernel_rfl) (by kernel_rfl) (by kernel_rfl) (by decide) (SB.start hbDw (by omega)) (fun hS => ?_)
                simp only [planned, List.filterMap_cons, List.filterMap_nil, List.getElem?_cons_zero, List.getElem?_cons_succ, Option.map_some]
                repeat (first
                  | (refine mix_skip (by rfl) ?_; try simp only [Act.put, List.setIfInBounds_toArray, List.set_cons_zero, List.set_cons_succ])
                  | (refine mix_pass hS (by rfl) ?_; try simp only [Act.put, List.setIfInBounds_toArray, List.set_cons_zero, List.set_cons_succ])
                  | (refine mix_pure (by rfl) (by rfl) (fun K hK => ?_); go_big_quiet_op; refine hK _ ?_; clear hK K)
                  | (refine mix_take (by rfl) ?_
                     apply Exists.intro
                     refine ⟨?_, ?_⟩
                     · intro w' hSw
                       have hSc := hSw.cell
                       clear hSw
                       go_simp
                       try with_reducible rfl
                     try simp only [Act.put, List.setIfInBounds_toArray, List.set_cons_zero, List.set_cons_succ])
                  | (refine mix_move (by rfl) (fun K hK => ?_)
                     first
                       | (go_simp; go_at_call 25; refine (sums_at (w1.heap.size + 1) _ _ cap ws ls rs k t.b _ HF.out (((bcell (hbD.drew)).1 _ _ v1).trans v0) w8 rfl (Shows.more (sh1.below hbD.drew) szD) hkl hnb0 hnbl).mono ?_; rintro e w6 ⟨rfl, hx⟩)
                       | go_simp
                     try dsimp only
                     first
                       | refine hK.out _ _ (hS.step hx (by omega)) ?_
                       | refine hK.out _ _ hS ?_
                       | refine hK.out _ _ (hS.alloc _ (by omega)) ?_
                       | refine hK.out _ _ (hS.grown hg hx) ?_
                     clear hK K hS
                     intro hS
                     try simp only [Act.put, List.setIfInBounds_toArray, List.set_cons_zero, List.set_cons_succ])
                  | fail)
                refine mix_nil ?_
                simp only [tailed, List.filterMap_nil]
                go_wp2_with fail
                refine NoPanic.normal ?_
                have hb9 := hS.below
                have HBAD := Lib.hid hbad
                clear hbad
                go_wp2_with fail
                go_ret2
                exact guard_late HR.out (by simp [guardB, HNK.out (by rw [HTA.out]; exact HBAD.out)]) hb9
              · have hbad' := decide_eq_false hbad
                have HBD := Lib.hid hbad
                clear hbad
                go_wp2_with fail
                refine wp_region_mix [(0, true), (1, true), (2, true), (3, true), (5, true), (6, true), (4, false), (7, true)] [] (SB wS.heap.size wS wD.heap.size none _) (by kernel_rfl) (by kernel_rfl) (by kernel_rfl) (by kernel_rfl) (by decide) (SB.start hbD (by omega)) (fun hS => ?_)
                simp only [planned, List.filterMap_cons, List.filterMap_nil, List.getElem?_cons_zero, List.getElem?_cons_succ, Option.map_some]
                repeat (first
                  | (refine mix_skip (by rfl) ?_; try simp only [Act.put, List.setIfInBounds_toArray, List.set_cons_zero, List.set_cons_succ])
                  | (refine mix_pass hS (by rfl) ?_; try simp only [Act.put, List.setIfInBounds_toArray, List.set_cons_zero, List.set_cons_succ])
                  | (refine mix_pure (by rfl) (by rfl) (fun K hK => ?_); go_big_quiet_op; refine hK _ ?_; clear hK K)
                  | (refine mix_take (by rfl) ?_
                     apply Exists.intro
                     refine ⟨?_, ?_⟩
                     · intro w' hSw
                       have hSc := hSw.cell
                       clear hSw
                       go_simp
                       try with_reducible rfl
                     try simp only [Act.put, List.setIfInBounds_toArray, List.set_cons_zero, List.set_cons_succ])
                  | (refine mix_move (by rfl) (fun K hK => ?_)
                     first
                       | (go_simp; go_at_call 25; refine (sums_at (w1.heap.size + 1) _ _ cap ws ls rs k t.b _ HF.out (((bcell (hbD.drew)).1 _ _ v1).trans v0) w8 rfl (Shows.more (sh1.below hbD.drew) szD) hkl hnb0 hnbl).mono ?_; rintro e w6 ⟨rfl, hx⟩)
                       | go_simp
                     try dsimp only
                     first
                       | refine hK.out _ _ (hS.step hx (by omega)) ?_
                       | refine hK.out _ _ hS ?_
                       | refine hK.out _ _ (hS.alloc _ (by omega)) ?_
                       | refine hK.out _ _ (hS.grown hg hx) ?_
                     clear hK K hS
                     intro hS
                     try simp only [Act.put, List.setIfInBounds_toArray, List.set_cons_zero, List.set_cons_succ])
                  | fail)
                refine mix_nil ?_
                simp only [tailed, List.filterMap_nil]
                go_wp2_with fail
                refine NoPanic.normal ?_
                have hb9 := hS.below
                have own6 := own_below ownD.drew hx
                have hbox6 := Box3.ext (w := wD.drew) HBX.out hx
                have HST := Lib.hid (show stepsR k t = t.b.toNat - k from if_pos HTA.out)
                clear d0 d1 d2 d3 hx hS
                have hkqq : Sm ls t.b.toNat - Sm ls k ≤ t.c := by have := HBD.out; omega
                go_wp2_with fail
                clear hbad'
                generalize w6 = wE at *
                clear ownD hbD hbDw w8 szD HBX
                go_loopw [12] (fun i wj => ∃ j : Nat, j ≤ stepsR k t ∧ i = .int .i64 ((k + 1 + j : Nat) : Int) ∧ wj.ownsRow wS.heap.size 3 1 (.slice (some ⟨wS.heap.size, 0, none⟩) ws.length ws.length) ws.length (ints (V.set k (ovM ls V k t x j))) ∧ Box3 wj gr t ∧ Below wS.heap.size wS wj) (fun i _ => k + 1 + stepsR k t - (intOf i).toNat)
                case atStart => exact ⟨0, Nat.zero_le _, by go_num, own6, hbox6, hb9⟩
                case round =>
                  obtain ⟨j, hj, rfl, ownj, hboxj, hbj⟩ := hrel
                  obtain ⟨m, hm⟩ : ∃ m, m = k + 1 + j := ⟨_, rfl⟩
                  rw [← hm]
                  have HBX := Lib.hid hboxj
                  obtain ⟨d0, d1, d2, d3⟩ := hboxj
                  have hst := HST.out
                  have HM := Lib.hid hm
                  by_cases hlt : j < stepsR k t
                  · have hmb : (m : Int) ≤ t.b := by omega
                    have t2 : decide ((m : Int) ≤ t.b) = true := decide_eq_true hmb
                    have hmn : m < ws.length := by omega
                    have f0 := row_at ownj HVL.out hkn
                    have f1 := row_ne ownj HVL.out hkn hmn (by omega)
                    have f2 := ownj.frozenAt k
                    have b1 := HV.out m
                    have b2 := ovM_bounds (r := t) (k := k) HF.out HV.out hkqq HX.out.1 HX.out.2 j (by omega)
                    have b3 := Sm_mono (a := m) (b := t.b.toNat) HF.out (by omega)
                    have b4 := Sm_le HF.out t.b.toNat
                    have b5 := Sm_nonneg HF.out m
                    have hmx : (if ovM ls V k t x j < V.getD m 0 + (Sm ls t.b.toNat - Sm ls m) - t.c then V.getD m 0 + (Sm ls t.b.toNat - Sm ls m) - t.c else ovM ls V k t x j) = ovM ls V k t x (j + 1) := by rw [hm]; rfl
                    have w1' : IntKind.i64.wrap (V.getD m 0 + (Sm ls t.b.toNat - Sm ls m)) = V.getD m 0 + (Sm ls t.b.toNat - Sm ls m) := IntWalk.i64_in _ (by omega)
                    have w2' : IntKind.i64.wrap (V.getD m 0 + (Sm ls t.b.toNat - Sm ls m) - t.c) = V.getD m 0 + (Sm ls t.b.toNat - Sm ls m) - t.c := IntWalk.i64_in _ (by omega)
                    have w4' : IntKind.i64.wrap ((m : Int) + 1) = (m : Int) + 1 := IntWalk.i64_in _ (by omega)
                    have m0 : (0 : Int) ≤ m := by omega
                    have m1 : (m : Int) < (ws.length : Int) := by omega
                    have hml : m ≤ ls.length := by omega
                    have hszj := hbj.size
                    have hblk : wS.heap.size < wr.heap.size := (ownj.lt _ rfl).2
                    have w8 : w1.heap.size + 1 < wr.heap.size := by omega
                    clear b1 b2 b3 b4 b5 hm hst
                    generalize V.getD m 0 = vm at f1 hmx w1' w2'
                    generalize ovM ls V k t x j = xj at f0 hmx
                    go_wp2_with fail
                    refine wp_region_mix [(0, true), (1, true), (2, true), (3, true), (4, true), (5, true), (6, true), (7, true), (8, true), (9, true), (10, true), (11, true), (12, true), (13, true), (16, true), (17, true), (14, false), (15, true), (18, true), (19, true)] [20, 21] (SB wS.heap.size wS wr.heap.size none _) (by kernel_rfl) (by kernel_rfl) (by kernel_rfl) (by kernel_rfl) (by decide) (SB.start hbj (by omega)) (fun hS => ?_)
                    simp only [planned, List.filterMap_cons, List.filterMap_nil, List.getElem?_cons_zero, List.getElem?_cons_succ, Option.map_some]
                    repeat (first
                      | (refine mix_skip (by rfl) ?_; try simp only [Act.put, List.setIfInBounds_toArray, List.set_cons_zero, List.set_cons_succ])
                      | (refine mix_pass hS (by rfl) ?_; try simp only [Act.put, List.setIfInBounds_toArray, List.set_cons_zero, List.set_cons_succ])
                      | (refine mix_pure (by rfl) (by rfl) (fun K hK => ?_); go_big_quiet_op; refine hK _ ?_; clear hK K)
                      | (refine mix_take (by rfl) ?_
                         apply Exists.intro
                         refine ⟨?_, ?_⟩
                         · intro w' hSw
                           have hSc := hSw.cell
                           clear hSw
                           go_simp
                           try with_reducible rfl
                         try simp only [Act.put, List.setIfInBounds_toArray, List.set_cons_zero, List.set_cons_succ])
                      | (refine mix_move (by rfl) (fun K hK => ?_)
                         first
                           | (go_simp; go_at_call 25; refine (sums_at (w1.heap.size + 1) _ _ cap ws ls rs m t.b _ HF.out (((bcell (hbj.drew)).1 _ _ v1).trans v0) w8 rfl (Shows.more (sh1.below hbj.drew) hszj) hml hnb0 hnbl).mono ?_; rintro e w6 ⟨rfl, hx⟩)
                           | go_simp
                         try dsimp only
                         first
                           | refine hK.out _ _ (hS.step hx (by omega)) ?_
                           | refine hK.out _ _ hS ?_
                           | refine hK.out _ _ (hS.alloc _ (by omega)) ?_
                           | refine hK.out _ _ (hS.grown hg hx) ?_
                         clear hK K hS
                         intro hS
                         try simp only [Act.put, List.setIfInBounds_toArray, List.set_cons_zero, List.set_cons_succ])
                      | fail)
                    refine mix_nil ?_
                    simp only [tailed, List.filterMap_cons, List.filterMap_nil, List.getElem?_cons_zero, List.getElem?_cons_succ]
                    have g0 := (hS.cell wS.heap.size k hblk (by simp)).trans f0
                    have g2 := (hS.frozen wS.heap.size k hblk (by simp)).trans f2
                    obtain ⟨own5, hgr5⟩ := (own_below ownj.drew hx).stored k (.int .i64 (ovM ls V k t x (j + 1)))
                    rw [ints_set, List.set_set] at own5
                    have hbox5 := (Box3.ext (w := wr.drew) HBX.out hx).set (g := wS.heap.size) (j := k) (v := .int .i64 (ovM ls V k t x (j + 1))) hne
                    have hb5 := hS.below.setCell (p := ⟨wS.heap.size, k, none⟩) (Nat.le_refl _) (.int .i64 (ovM ls V k t x (j + 1)))
                    clear hgr5 hmx w1' w2'
                    go_wp2_with fail
                    refine NoPanic.normal ?_
                    go_wp2_with fail
                    go_roundw
                    case rel => exact ⟨j + 1, by omega, by have := HM.out; go_num, own5, hbox5, hb5⟩
                    case measure => have := HM.out; simp [intOf]; omega
                  · have hje : j = stepsR k t := by omega
                    have t2 : decide ((m : Int) ≤ t.b) = false := decide_eq_false (by omega)
                    have HJE := Lib.hid hje
                    clear hje hm hst
                    go_wp2_with fail
                    go_roundw
                    case rel =>
                      refine ⟨q + 1, by omega, by go_num, by rw [HO.out, ← HJE.out]; exact ownj, fun p hp hpa => ?_, hbj⟩
                      by_cases e : p = q
                      · subst e; rw [HT.out]; exact hkqq
                      · exact HKQ.out p (by omega) hpa
                    case measure => simp [intOf]; omega
            · have hqe : q = rs.length := by omega
              rw [hqe, HS.out] at ownq
              have HQE := Lib.hid hqe
              clear hqe
              go_wp2_with fail
              go_roundw
              case rel =>
                refine ⟨k, by omega, by go_num, by rw [show ws.length - k = d + 1 from by omega]; exact ownq, fun p hp hpa => ?_, hbq⟩
                by_cases e : (rs.getD p ⟨0, 0, 0⟩).a = k
                · have := HKQ.out p (by rw [HQE.out]; exact hp) e
                  rw [e]
                  exact this
                · exact HKP.out p hp (by omega)
              case measure => simp [intOf]
end Go.Proofs.Yteahkgoedibimaa
