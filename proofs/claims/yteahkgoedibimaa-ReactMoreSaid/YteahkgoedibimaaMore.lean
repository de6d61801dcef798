/-
  ReactMore: with a wider window, a longer ride, or a shorter leg the chain can be kept as well, and no guard is later; without rides each is Early. Conditions: none.
-/
import Derived.Test.YteahkgoedibimaaPast
import Derived.Test.YteahkgoedibimaaLawM
namespace Go.Proofs.Yteahkgoedibimaa
open Go.ChangeShapes Go.WideShapes Go.ChangeAt Go.RowKit Go.Deep Go.Joins

theorem info_win : (Try.prog.info? 47).map (fun i => (i.zero, i.size, i.bytes)) = some (some (.agg #[.int .i64 0, .int .i64 0]), 2, 16) := by kernel_rfl
theorem info_leg : (Try.prog.info? 44).map (fun i => (i.zero, i.size, i.bytes)) = some (some (.agg #[.int .i64 0, .int .i64 0]), 2, 16) := by kernel_rfl
theorem info_ride : (Try.prog.info? 49).map (fun i => (i.zero, i.size, i.bytes)) = some (some (.agg #[.int .i64 0, .int .i64 0, .int .i64 0]), 3, 24) := by kernel_rfl
/-- The box of a chain of the call's own, as an object. -/
def BoxO (w : World) (g : Nat) (v1 v2 v3 : Value) (e : TypeId) : Prop := w.heap[g]? = some (.cells #[v1, v2, v3] e (0, 0))
section
variable {w w' : World} {g : Nat} {v1 v2 v3 : Value} {e : TypeId}
theorem BoxO.new (w : World) (v1 v2 v3 : Value) (e : TypeId) : BoxO (w.alloc (.cells #[v1, v2, v3] e)) w.heap.size v1 v2 v3 e := heap_alloc_new w _
theorem BoxO.lt (h : BoxO w g v1 v2 v3 e) : g < w.heap.size := (Array.getElem?_eq_some_iff.1 h).1
theorem BoxO.cells (h : BoxO w g v1 v2 v3 e) : BoxC w g v1 v2 v3 := by
  refine ⟨?_, ?_, ?_, h.lt⟩ <;> rw [cell_of_row w g _ _ e (0, 0) h] <;> rfl
theorem BoxO.frozen (h : BoxO w g v1 v2 v3 e) (j : Nat) : w.frozen? ⟨g, j, none⟩ = false := frozen_of_row w g j _ e h
theorem BoxO.set0 (h : BoxO w g v1 v2 v3 e) (u : Value) : BoxO (w.setCell ⟨g, 0, none⟩ u) g u v2 v3 e := heap_setCell_same w g 0 _ e u h
theorem BoxO.set1 (h : BoxO w g v1 v2 v3 e) (u : Value) : BoxO (w.setCell ⟨g, 1, none⟩ u) g v1 u v3 e := heap_setCell_same w g 1 _ e u h
theorem BoxO.set2 (h : BoxO w g v1 v2 v3 e) (u : Value) : BoxO (w.setCell ⟨g, 2, none⟩ u) g v1 v2 u e := heap_setCell_same w g 2 _ e u h
theorem BoxO.ext (h : BoxO w g v1 v2 v3 e) (hx : Below w.heap.size w w') : BoxO w' g v1 v2 v3 e := (hx.block g h.lt).trans h
theorem BoxO.kept (h : BoxO w g v1 v2 v3 e) {r : Option Nat} (hg : w.grownBy w' r) (hne : some g ≠ r) : BoxO w' g v1 v2 v3 e := (hg.block g h.lt hne).trans h
theorem grown_at (w : World) (g j : Nat) (u : Value) : w.grownBy (w.setCell ⟨g, j, none⟩ u) (some g) :=
  ⟨rfl, rfl, rfl, by simp, fun k _ hk => heap_setCell_other w ⟨g, j, none⟩ k u (fun e => hk (by simp [e]))⟩
theorem own_set {base size n cap g1 j : Nat} {xs : List Value} {u : Value} (h : w.ownsRow base e size (.slice (some ⟨g1, 0, none⟩) n cap) n xs) (hne : g1 ≠ g) : (w.setCell ⟨g, j, none⟩ u).ownsRow base e size (.slice (some ⟨g1, 0, none⟩) n cap) n xs :=
  h.kept (grown_at w g j u) (.inr (by simp [Value.ownBlock]; omega))
theorem own_setv {base size n j : Nat} {v : Value} {e' : TypeId} {xs : List Value} {u : Value} (h : w.ownsRow base e' size v n xs) (hne : g < base) : (w.setCell ⟨g, j, none⟩ u).ownsRow base e' size v n xs := by
  refine h.kept (grown_at w g j u) ?_
  cases hv : v.ownBlock with
  | none => exact .inl rfl
  | some k => exact .inr (by have := (h.lt k hv).1; simp; omega)
end
theorem own_setk {w : World} {base size n g j : Nat} {v : Value} {e' : TypeId} {xs : List Value} {u : Value} (h : w.ownsRow base e' size v n xs) (hne : ∀ k, v.ownBlock = some k → k ≠ g) : (w.setCell ⟨g, j, none⟩ u).ownsRow base e' size v n xs := by
  refine h.kept (grown_at w g j u) ?_
  cases hv : v.ownBlock with
  | none => exact .inl rfl
  | some k => exact .inr (by have := hne k hv; simpa using this)
theorem guard_n (A1 A2 A3 : Option Addr) (c1 c2 c3 n1 n2 n3 : Nat) (ws ls : List P2) (rs : List P3) (w : World) (k1 : ws.length = n1) (k2 : ls.length = n2) (k3 : rs.length = n3) (h1 : Shows w w.heap.size 2 A1 n1 (P2.cells ws)) (h2 : Shows w w.heap.size 2 A2 n2 (P2.cells ls)) (h3 : Shows w w.heap.size 3 A3 n3 (P3.cells rs)) (hl1 : n1 ≤ 9223372036854775807) (hg : guardB ws ls rs = true) :
    Calls Try.prog 10 #[.agg #[.slice A1 n1 c1, .slice A2 n2 c2, .slice A3 n3 c3]] w fun e w' => ∃ A c, e = .returned (.tuple #[.slice A n1 c, .int .i64 0]) ∧ Shows w' w'.heap.size 1 A n1 (ints (GL ws ls rs)) ∧ Below w.heap.size w w' := by
  subst k1 k2 k3
  refine (guard_any A1 A2 A3 c1 c2 c3 ws ls rs w h1 h2 h3 hl1).mono ?_
  unfold PairSays
  rw [(guardE_good hg).1, (guardE_good hg).2]
  rintro e w' ⟨A, c, _, rfl, hN, hx⟩
  unfold Nums at hN
  rw [GL_length] at hN ⊢
  exact ⟨A, c, rfl, hN, hx⟩
theorem same_r {rs : List P3} (h : rs.length = 0) (q : Nat) (hq : q < rs.length) : ((rs.getD q ⟨0, 0, 0⟩).a = (rs.getD q ⟨0, 0, 0⟩).a ∧ (rs.getD q ⟨0, 0, 0⟩).b = (rs.getD q ⟨0, 0, 0⟩).b ∧ (rs.getD q ⟨0, 0, 0⟩).c ≤ (rs.getD q ⟨0, 0, 0⟩).c) ∧ (rs.getD q ⟨0, 0, 0⟩).c ≤ 1048576 := by omega
theorem leg_set {ls : List P2} {k : Nat} {u : P2} (hk : k < ls.length) (h : u.b ≤ (ls.getD k ⟨0, 0⟩).b) (j : Nat) : ((ls.set k u).getD j ⟨0, 0⟩).b ≤ (ls.getD j ⟨0, 0⟩).b := by
  rw [getD_set' _ _ _ _ _ hk]
  split
  · rename_i e; subst e; exact h
  · exact Int.le_refl _
theorem ride_set {rs : List P3} {n m : Nat} {z : Int} (hm : m < rs.length) (h1 : rs[m].c ≤ z) (h2 : z ≤ 1048576) (h : ∀ k, k < rs.length → 0 ≤ (rs.getD k ⟨0, 0, 0⟩).a ∧ (rs.getD k ⟨0, 0, 0⟩).a < (rs.getD k ⟨0, 0, 0⟩).b ∧ (rs.getD k ⟨0, 0, 0⟩).b < n ∧ 0 ≤ (rs.getD k ⟨0, 0, 0⟩).c ∧ (rs.getD k ⟨0, 0, 0⟩).c ≤ 1048576) (q : Nat) (hq : q < rs.length) :
    (((rs.set m ⟨rs[m].a, rs[m].b, z⟩).getD q ⟨0, 0, 0⟩).a = (rs.getD q ⟨0, 0, 0⟩).a ∧ ((rs.set m ⟨rs[m].a, rs[m].b, z⟩).getD q ⟨0, 0, 0⟩).b = (rs.getD q ⟨0, 0, 0⟩).b ∧ (rs.getD q ⟨0, 0, 0⟩).c ≤ ((rs.set m ⟨rs[m].a, rs[m].b, z⟩).getD q ⟨0, 0, 0⟩).c) ∧ ((rs.set m ⟨rs[m].a, rs[m].b, z⟩).getD q ⟨0, 0, 0⟩).c ≤ 1048576 := by
  have := h q hq
  rw [getD_set' _ _ _ _ _ hm]
  split
  · rename_i e
    subst e
    rw [getD3 hm]
    exact ⟨⟨rfl, rfl, h1⟩, h2⟩
  · exact ⟨⟨rfl, rfl, Int.le_refl _⟩, this.2.2.2.2⟩
set_option maxHeartbeats 8000000 in
set_option maxRecDepth 100000 in
theorem more_any (A1 A2 A3 : Option Addr) (c1 c2 c3 : Nat) (ws ls : List P2) (rs : List P3) (p y : Int) (w : World) (h1 : Two w w.heap.size A1 ws) (h2 : Two w w.heap.size A2 ls) (h3 : Three w w.heap.size A3 rs)
    (hl1 : ws.length ≤ 9223372036854775807) (hp : 0 ≤ p ∧ p ≤ 255) (hy : 0 ≤ y ∧ y ≤ 255) :
    Calls Try.prog 7 #[.agg #[.slice A1 ws.length c1, .slice A2 ls.length c2, .slice A3 rs.length c3], .int .u8 p, .int .u8 y] w fun e w' => e = .returned (.bool true) ∧ Below w.heap.size w w' := by
  go_enter Try.func7, Try.ntmps7
  go_wp2_with fail
  have hbA := lit_below w (.cells #[.slice A1 ws.length c1, .slice A2 ls.length c2, .slice A3 rs.length c3] 26)
  have hbox := BoxC.new w (.slice A1 ws.length c1) (.slice A2 ls.length c2) (.slice A3 rs.length c3) 26
  generalize w.alloc (.cells #[.slice A1 ws.length c1, .slice A2 ls.length c2, .slice A3 rs.length c3] 26) = wA at hbA hbox ⊢
  refine (small_any _).mono ?_
  rintro e w1 ⟨rfl, hx1⟩
  obtain ⟨x0, x1, x2, sA⟩ := id hbox
  have hb1 := hbA.trans (hx1.mono hbA.size)
  have hbox := hbox.ext hx1
  clear x0 x1 x2 sA
  obtain ⟨x0, x1, x2, sA⟩ := id hbox
  go_wp2_with fail
  refine (few_any _ _ _ _ _ _ ws ls rs _).mono ?_
  rintro e w2 ⟨rfl, hx2⟩
  have hb2 := hb1.trans (hx2.mono hb1.size)
  have hbox := hbox.ext hx2
  clear x0 x1 x2 sA
  obtain ⟨x0, x1, x2, sA⟩ := id hbox
  cases hfew : fewC ws ls rs
  · clear hfew
    go_wp2_with fail
    go_ret
    exact ⟨rfl, hb2⟩
  clear hfew
  go_wp2_with fail
  refine (right_any _ _ _ _ _ _ ws ls rs _ (two_ext h1 hb2) (two_ext h2 hb2) (three_ext h3 hb2) hl1).mono ?_
  rintro e w3 ⟨rfl, hx3⟩
  have hb3 := hb2.trans (hx3.mono hb2.size)
  have hbox := hbox.ext hx3
  clear x0 x1 x2 sA
  obtain ⟨x0, x1, x2, sA⟩ := id hbox
  cases hr : rightC ws ls rs
  · clear hr
    go_wp2_with fail
    go_ret
    exact ⟨rfl, hb3⟩
  have HR := Lib.hid hr
  have HF := Lib.hid (fine_right hr)
  clear hr
  go_wp2_with fail
  refine (guard_any _ _ _ _ _ _ ws ls rs _ (two_ext h1 hb3) (two_ext h2 hb3) (three_ext h3 hb3) hl1).mono ?_
  cases hg : guardB ws ls rs
  · unfold PairSays
    rw [(guardE_late HR.out hg).1, (guardE_late HR.out hg).2]
    rintro e w4 ⟨B1, d1, _, rfl, _, hx4⟩
    have hb4 := hb3.trans (hx4.mono hb3.size)
    have hbox := hbox.ext hx4
    clear x0 x1 x2 sA
    obtain ⟨x0, x1, x2, sA⟩ := id hbox
    clear hg
    go_wp2_with fail
    go_ret
    exact ⟨rfl, hb4⟩
  have HG := Lib.hid hg
  unfold PairSays
  rw [(guardE_good hg).1, (guardE_good hg).2]
  clear hg
  rintro e w4 ⟨B1, d1, _, rfl, n1, hx4⟩
  have hb4 := hb3.trans (hx4.mono hb3.size)
  have hbox := hbox.ext hx4
  clear x0 x1 x2 sA
  obtain ⟨x0, x1, x2, sA⟩ := id hbox
  clear hx1 hx2 hx3 hx4 hb1 hb2 hb3 hbA
  have n1 : Shows w4 w4.heap.size 1 B1 ws.length (ints (GL ws ls rs)) := by
    unfold Nums at n1
    rwa [GL_length] at n1
  rw [GL_length]
  have hll : ls.length + 1 = ws.length := HF.out.1.2.2.1
  have hn82 : ws.length ≤ 82 := HF.out.1.2.1
  have hn1 : 1 ≤ ws.length := HF.out.1.1
  have hr200 : rs.length ≤ 200 := HF.out.1.2.2.2
  have wp : IntKind.i64.wrap p = p := IntWalk.i64_in _ (by omega)
  have wy : IntKind.i64.wrap y = y := IntWalk.i64_in _ (by omega)
  have hn0 : (ws.length : Int) ≠ 0 := by omega
  obtain ⟨k, hk⟩ : ∃ k : Nat, p % (ws.length : Int) = (k : Int) := ⟨(p % (ws.length : Int)).toNat, by
    have := Int.emod_nonneg p hn0
    omega⟩
  have hkw : k < ws.length := by
    have := Int.emod_lt_of_pos p (show 0 < (ws.length : Int) by omega)
    omega
  obtain ⟨iw, wi, wz0, wz1, wz2⟩ := info_parts info_win
  obtain ⟨il, li, lz0, lz1, lz2⟩ := info_parts info_leg
  obtain ⟨ir, ri, rz0, rz1, rz2⟩ := info_parts info_ride
  have s4 := hb4.size
  have hbW := lit_below w4 (.cells #[.slice A1 ws.length c1, .slice A2 ls.length c2, .slice A3 rs.length c3] 26)
  have bxW := BoxO.new w4 (.slice A1 ws.length c1) (.slice A2 ls.length c2) (.slice A3 rs.length c3) 26
  have hbx5 := hbox.ext hbW
  have hsW := size_alloc w4 (.cells #[.slice A1 ws.length c1, .slice A2 ls.length c2, .slice A3 rs.length c3] 26)
  go_wp2_with (at_builtin; refine wpList_app rfl _ _ 22 rfl (w4.alloc (.cells #[.slice A1 ws.length c1, .slice A2 ls.length c2, .slice A3 rs.length c3] 26)).heap.size 47 iw _ 2 16 Try.underlying22 wi wz0 wz1 wz2 rfl (by decide) _ _ 0 [] (by rw [size_alloc]; rfl) (World.ownsRow_lit (w4.alloc (.cells #[.slice A1 ws.length c1, .slice A2 ls.length c2, .slice A3 rs.length c3] 26)) #[] 0 (Nat.le_refl _) (by decide) rfl) (w4.alloc (.cells #[.slice A1 ws.length c1, .slice A2 ls.length c2, .slice A3 rs.length c3] 26)).heap.size A1 ws.length c1 (P2.cells ws) rfl (Shows.alloc (two_ext (two_ext h1 hb4) hbW) (Nat.le_refl _) _) (P2.oneCells ws) (by simp) (by omega) (by omega) ?_)
  intro v5 w5 own5 hx5 _
  have own5 : w5.ownsRow (w4.heap.size + 1) 47 2 v5 ws.length (P2.cells ws) := own5
  have hx5 : Below (w4.heap.size + 1) _ w5 := hx5
  have hbV := (hbW.alloc (by omega) (.cells #[] 47)).trans (hx5.mono (by omega))
  have bx5 : BoxO w5 w4.heap.size (.slice A1 ws.length c1) (.slice A2 ls.length c2) (.slice A3 rs.length c3) 26 := (hx5.block w4.heap.size (by omega)).trans ((Below.heap_alloc _ _ _ (by omega)).trans bxW)
  clear hx5 bxW hbW hsW hbx5
  obtain ⟨g1, cap1, rfl, hg1, hg1', _⟩ := own_form own5 (by omega)
  obtain ⟨y0, y1, y2, ysz⟩ := bx5.cells
  have yf := bx5.frozen 0
  have bx6 := bx5.set0 (.slice (some ⟨g1, 0, none⟩) ws.length cap1)
  have own6 := own_set (g := w4.heap.size) (j := 0) (u := .slice (some ⟨g1, 0, none⟩) ws.length cap1) own5 (by omega)
  have hb6 := hbV.setCell (p := ⟨w4.heap.size, 0, none⟩) (Nat.le_refl _) (.slice (some ⟨g1, 0, none⟩) ws.length cap1)
  have x0' := ((bcell hb6).1 _ _ sA).trans x0
  go_wp2_with fail
  clear y0 y1 y2 ysz yf bx5 own5 hbV
  generalize w5.setCell ⟨w4.heap.size, 0, none⟩ (.slice (some ⟨g1, 0, none⟩) ws.length cap1) = w6 at bx6 own6 hb6 x0' ⊢
  have hne1 : w4.heap.size ≠ g1 := by omega
  obtain ⟨bw, ow, rfl, hbw', e0, e1⟩ := (h1.below (hb4.trans (hb6.mono hb4.size))).at_ hkw
  rw [← getD2 hkw] at e0 e1
  have dk := HF.out.2.1 k
  unfold okP at dk
  have HUK := Lib.hid (show ws[k] = ws.getD k ⟨0, 0⟩ from (getD2 hkw).symm)
  generalize hLK : ws.getD k ⟨0, 0⟩ = u at e0 e1 dk HUK
  have HLK := Lib.hid hLK
  clear hLK
  have ec1 := (own6.cellAt (k * 2 + 1) (by omega)).trans (P2.get ws k hkw).2
  have ef1 := own6.frozenAt (k * 2 + 1)
  obtain ⟨y0, y1, y2, ysz⟩ := bx6.cells
  have wuy : IntKind.i64.wrap (u.b + y) = u.b + y := IntWalk.i64_in _ (by omega)
  obtain ⟨z1, hz⟩ : ∃ z, z = if 1048576 < u.b + y then 1048576 else u.b + y := ⟨_, rfl⟩
  have hz1 : u.b ≤ z1 ∧ z1 ≤ 1048576 := by rw [hz]; split <;> omega
  have hmm : (if 1048576 < u.b + y then 1048576 else u.b + y) = id z1 := hz.symm
  clear hz
  have k0 : (0 : Int) ≤ (k : Int) := by omega
  have k1 : (k : Int) < (ws.length : Int) := by omega
  have s6 := hb6.size
  have i6 : bw < w6.heap.size := by omega
  have i7 : w.heap.size < w6.heap.size := by omega
  have hb4w := hb4.trans (hb6.mono hb4.size)
  have hg6 : g1 < w6.heap.size := (own6.lt _ rfl).2
  go_wp2_with fail
  refine wp_region_mix [(0, true), (1, true), (2, true), (3, true), (4, true), (5, true), (6, true), (7, true), (8, true), (9, true), (10, true), (11, true), (12, true)] [13, 14, 15] (SB w.heap.size w w6.heap.size none _) (by kernel_rfl) (by kernel_rfl) (by kernel_rfl) (by kernel_rfl) (by decide) (SB.start hb4w (by omega)) (fun hS => ?_)
  simp only [planned, List.filterMap_cons, List.filterMap_nil, List.getElem?_cons_zero, List.getElem?_cons_succ, Option.map_some]
  repeat (first
    | (refine mix_skip (by rfl) ?_; try simp only [Act.put, List.setIfInBounds_toArray, List.set_cons_zero, List.set_cons_succ])
    | (refine mix_pass hS (by rfl) ?_; try simp only [Act.put, List.setIfInBounds_toArray, List.set_cons_zero, List.set_cons_succ])
    | (refine mix_pure (by rfl) (by rfl) (fun K hK => ?_); go_big_quiet_op; refine hK _ ?_; clear hK K)
    | (refine mix_take (by rfl) ?_
       apply Exists.intro
       refine ⟨?_, ?_⟩
       · intro w' hSw
         have hSc := hSw.cell
         clear hSw
         go_simp
         try with_reducible rfl
       try simp only [Act.put, List.setIfInBounds_toArray, List.set_cons_zero, List.set_cons_succ])
    | (refine mix_move (by rfl) (fun K hK => ?_)
       go_simp
       try dsimp only
       first
         | refine hK.out _ _ (hS.step hx (by omega)) ?_
         | refine hK.out _ _ hS ?_
         | refine hK.out _ _ (hS.alloc _ (by omega)) ?_
         | refine hK.out _ _ (hS.grown hg hx) ?_
       clear hK K hS
       intro hS
       try simp only [Act.put, List.setIfInBounds_toArray, List.set_cons_zero, List.set_cons_succ])
    | fail)
  refine mix_nil ?_
  simp only [tailed, List.filterMap_cons, List.filterMap_nil, List.getElem?_cons_zero, List.getElem?_cons_succ]
  go_wp2_with fail
  refine NoPanic.normal ?_
  clear hS hmm wuy ec1 ef1 y0 y1 y2 x0'
  obtain ⟨own7, _⟩ := own6.stored (k * 2 + 1) (.int .i64 z1)
  rw [P2.set_b ws k hkw, HUK.out] at own7
  have own7 := own7.drew
  have bx7 := bx6.kept (grown_at w6 g1 (k * 2 + 1) (.int .i64 z1)) (by simpa using hne1)
  have bx7 : BoxO (w6.setCell ⟨g1, k * 2 + 1, none⟩ (.int .i64 z1)).drew w4.heap.size (.slice (some ⟨g1, 0, none⟩) ws.length cap1) (.slice A2 ls.length c2) (.slice A3 rs.length c3) 26 := bx7
  have hb7 := (hb6.setCell (p := ⟨g1, k * 2 + 1, none⟩) (by simp; omega) (.int .i64 z1)).drew
  generalize (w6.setCell ⟨g1, k * 2 + 1, none⟩ (.int .i64 z1)).drew = w7 at own7 bx7 hb7 ⊢
  clear own6 bx6 hb6 hb4w s6 i6 i7 e0 e1 hg6 hg1'
  have hb4w := hb4.trans (hb7.mono hb4.size)
  have s7 := hb7.size
  have hg7 : g1 < w7.heap.size := (own7.lt _ rfl).2
  obtain ⟨_, _, q9, _, e0, _⟩ := (h1.below hb4w).at_ hkw
  cases q9
  rw [HUK.out] at e0
  have hlen7 : k < (ws.set k ⟨u.a, z1⟩).length := by rw [List.length_set]; exact hkw
  have ec0 := (own7.cellAt (k * 2) (by omega)).trans (P2.get (ws.set k ⟨u.a, z1⟩) k hlen7).1
  have ef0 := own7.frozenAt (k * 2)
  obtain ⟨y0, y1, y2, ysz⟩ := bx7.cells
  have x0' := ((bcell hb7).1 _ _ sA).trans x0
  have wuy : IntKind.i64.wrap (u.a - y) = u.a - y := IntWalk.i64_in _ (by omega)
  obtain ⟨z2, hz⟩ : ∃ z, z = if u.a - y < 0 then 0 else u.a - y := ⟨_, rfl⟩
  have hz2 : 0 ≤ z2 ∧ z2 ≤ u.a := by rw [hz]; split <;> omega
  have hmm : (if u.a - y < 0 then 0 else u.a - y) = id z2 := hz.symm
  clear hz
  have i6 : bw < w7.heap.size := by omega
  have i7 : w.heap.size < w7.heap.size := by omega
  go_wp2_with fail
  refine wp_region_mix [(0, true), (1, true), (2, true), (3, true), (4, true), (5, true), (6, true), (7, true), (8, true), (9, true), (10, true), (11, true), (12, true)] [13, 14, 15] (SB w.heap.size w w7.heap.size none _) (by kernel_rfl) (by kernel_rfl) (by kernel_rfl) (by kernel_rfl) (by decide) (SB.start hb4w (by omega)) (fun hS => ?_)
  simp only [planned, List.filterMap_cons, List.filterMap_nil, List.getElem?_cons_zero, List.getElem?_cons_succ, Option.map_some]
  repeat (first
    | (refine mix_skip (by rfl) ?_; try simp only [Act.put, List.setIfInBounds_toArray, List.set_cons_zero, List.set_cons_succ])
    | (refine mix_pass hS (by rfl) ?_; try simp only [Act.put, List.setIfInBounds_toArray, List.set_cons_zero, List.set_cons_succ])
    | (refine mix_pure (by rfl) (by rfl) (fun K hK => ?_); go_big_quiet_op; refine hK _ ?_; clear hK K)
    | (refine mix_take (by rfl) ?_
       apply Exists.intro
       refine ⟨?_, ?_⟩
       · intro w' hSw
         have hSc := hSw.cell
         clear hSw
         go_simp
         try with_reducible rfl
       try simp only [Act.put, List.setIfInBounds_toArray, List.set_cons_zero, List.set_cons_succ])
    | (refine mix_move (by rfl) (fun K hK => ?_)
       go_simp
       try dsimp only
       first
         | refine hK.out _ _ (hS.step hx (by omega)) ?_
         | refine hK.out _ _ hS ?_
         | refine hK.out _ _ (hS.alloc _ (by omega)) ?_
         | refine hK.out _ _ (hS.grown hg hx) ?_
       clear hK K hS
       intro hS
       try simp only [Act.put, List.setIfInBounds_toArray, List.set_cons_zero, List.set_cons_succ])
    | fail)
  refine mix_nil ?_
  simp only [tailed, List.filterMap_cons, List.filterMap_nil, List.getElem?_cons_zero, List.getElem?_cons_succ]
  go_wp2_with fail
  refine NoPanic.normal ?_
  clear hS hmm wuy ec0 ef0 y0 y1 y2 x0'
  obtain ⟨own8, _⟩ := own7.stored (k * 2) (.int .i64 z2)
  rw [P2.set_a _ k hlen7, List.set_set, List.getElem_set_self] at own8
  have own8 := own8.drew
  have bx8 := bx7.kept (grown_at w7 g1 (k * 2) (.int .i64 z2)) (by simpa using hne1)
  have bx8 : BoxO (w7.setCell ⟨g1, k * 2, none⟩ (.int .i64 z2)).drew w4.heap.size (.slice (some ⟨g1, 0, none⟩) ws.length cap1) (.slice A2 ls.length c2) (.slice A3 rs.length c3) 26 := bx8
  have hb8 := (hb7.setCell (p := ⟨g1, k * 2, none⟩) (by simp; omega) (.int .i64 z2)).drew
  generalize (w7.setCell ⟨g1, k * 2, none⟩ (.int .i64 z2)).drew = w8 at own8 bx8 hb8 ⊢
  clear own7 bx7 hb7 hb4w s7 i6 i7 e0 hg7 hlen7
  have hokW : okP ⟨z2, z1⟩ := by unfold okP; simp only; omega
  have HWS := Lib.hid (wide_ws (u := ⟨z2, z1⟩) hkw (by rw [HLK.out]; exact hz2.2) (by rw [HLK.out]; exact hz1.1))
  have HWF := Lib.hid (fine_set hkw hokW HF.out.2.1)
  have HWL := Lib.hid (show (ws.set k ⟨z2, z1⟩).length = ws.length from List.length_set)
  clear hokW hz1 hz2
  generalize hWS : ws.set k ⟨z2, z1⟩ = WS at own8 HWS HWF HWL
  clear hWS HLK HUK dk
  have hb4w := hb4.trans (hb8.mono hb4.size)
  obtain ⟨r0, r1, r2, rsz⟩ := hbox.ext hb8
  have s8 := bx8.lt
  have hg18 : g1 < w8.heap.size := (own8.lt _ rfl).2
  go_wp2_with (at_builtin; refine wpList_app rfl _ _ 24 rfl w8.heap.size 49 ir _ 3 24 Try.underlying24 ri rz0 rz1 rz2 rfl (by decide) _ _ 0 [] rfl (World.ownsRow_lit w8 #[] 0 (Nat.le_refl _) (by decide) rfl) w8.heap.size A3 rs.length c3 (P3.cells rs) rfl (Shows.alloc (three_ext h3 hb4w) (Nat.le_refl _) _) (P3.oneCells rs) (by simp) (by omega) (by omega) ?_)
  intro v9 w9 own9 hx9 _
  have hx9 := ((Below.refl w8.heap.size w8).alloc (Nat.le_refl _) (.cells #[] 49)).trans hx9
  have own9 : w9.ownsRow w8.heap.size 49 3 v9 rs.length (P3.cells rs) := own9
  obtain ⟨A9, c9, rfl, _, _, _⟩ := caps_of_own own9
  have ownW := own_below own8 hx9
  have bx9 := bx8.ext hx9
  have hb9 := hb8.trans (hx9.mono hb8.size)
  clear r0 r1 r2 rsz own8 bx8 hb8 hx9 hb4w
  obtain ⟨y0, y1, y2, ysz⟩ := bx9.cells
  have yf := bx9.frozen 2
  have bx10 := bx9.set2 (.slice A9 rs.length c9)
  have ownR := own_setv (g := w4.heap.size) (j := 2) (u := .slice A9 rs.length c9) own9 s8
  have ownW := own_set (g := w4.heap.size) (j := 2) (u := .slice A9 rs.length c9) ownW (Ne.symm hne1)
  have hb10 := hb9.setCell (p := ⟨w4.heap.size, 2, none⟩) (Nat.le_refl _) (.slice A9 rs.length c9)
  obtain ⟨r0, r1, r2, rsz⟩ := hbox.ext hb10
  have sR := s8
  by_cases rs0 : rs.length = 0
  · have t0 : decide (0 < rs.length) = false := decide_eq_false (by omega)
    have t0' : decide ((0 : Int) < (rs.length : Int)) = false := decide_eq_false (by omega)
    have HRS0 := Lib.hid rs0
    clear rs0
    have rz9 : w.heap.size < w9.heap.size := (hbox.ext hb9).2.2.2
    obtain ⟨wL, hwL⟩ : ∃ x, x = w9.setCell ⟨w4.heap.size, 2, none⟩ (.slice A9 rs.length c9) := ⟨_, rfl⟩
    rw [← hwL] at bx10 ownR ownW hb10
    have HSZ := Lib.hid (show w9.heap.size = wL.heap.size by rw [hwL]; simp)
    have HW9 := Lib.hid hwL
    clear hwL
    have bxL := bx10
    have hbL := hb10
    by_cases l0 : 0 < ls.length
    · skip
      have hL4 := hb4.trans (hbL.mono hb4.size)
      obtain ⟨r0, r1, r2, rsz⟩ := hbox.ext hbL
      go_wp2_with (at_builtin; rw [← HW9.out, HSZ.out]; refine wpList_app rfl _ _ 23 rfl wL.heap.size 44 il _ 2 16 Try.underlying23 li lz0 lz1 lz2 rfl (by decide) _ _ 0 [] rfl (World.ownsRow_lit wL #[] 0 (Nat.le_refl _) (by decide) rfl) wL.heap.size A2 ls.length c2 (P2.cells ls) rfl (Shows.alloc (two_ext h2 hL4) (Nat.le_refl _) _) (P2.oneCells ls) (by simp) (by omega) (by omega) ?_)
      have hWk : g1 < wL.heap.size := (ownW.lt _ rfl).2
      have hRk := fun k e => (ownR.lt k e).2
      intro v11 w11 own11 hx11 _
      have hx11 := ((Below.refl wL.heap.size wL).alloc (Nat.le_refl _) (.cells #[] 44)).trans hx11
      obtain ⟨A11, c11, rfl, _, _, _⟩ := caps_of_own own11
      have ownW := own_below ownW hx11
      have ownR := own_below ownR hx11
      have bx11 := bxL.ext hx11
      have hb11 := hbL.trans (hx11.mono hbL.size)
      clear r0 r1 r2 rsz
      obtain ⟨y0, y1, y2, ysz⟩ := bx11.cells
      have yf := bx11.frozen 1
      have bx12 := bx11.set1 (.slice A11 ls.length c11)
      have sL := bxL.lt
      have ownL := own_setv (g := w4.heap.size) (j := 1) (u := .slice A11 ls.length c11) own11 sL
      have ownW := own_set (g := w4.heap.size) (j := 1) (u := .slice A11 ls.length c11) ownW (Ne.symm hne1)
      have ownR := own_setv (g := w4.heap.size) (j := 1) (u := .slice A11 ls.length c11) ownR sR
      have hb12 := hb11.setCell (p := ⟨w4.heap.size, 1, none⟩) (Nat.le_refl _) (.slice A11 ls.length c11)
      obtain ⟨r0, r1, r2, rsz⟩ := hbox.ext hb12
      have t0 : decide (0 < ls.length) = true := decide_eq_true l0
      have t0' : decide ((0 : Int) < (ls.length : Int)) = true := decide_eq_true (by omega)
      have hn0l : (ls.length : Int) ≠ 0 := by omega
      obtain ⟨j, hj⟩ : ∃ j : Nat, p % (ls.length : Int) = (j : Int) := ⟨(p % (ls.length : Int)).toNat, by
        have := Int.emod_nonneg p hn0l
        omega⟩
      have hjl : j < ls.length := by
        have := Int.emod_lt_of_pos p (show 0 < (ls.length : Int) by omega)
        omega
      obtain ⟨g3, cap3, q3, hg3, hg3', _⟩ := own_form ownL l0
      cases q3
      go_wp2_with fail
      clear y0 y1 y2 ysz yf bx11 own11 hb11 r0 r1 r2 rsz
      generalize w11.setCell ⟨w4.heap.size, 1, none⟩ (.slice (some ⟨g3, 0, none⟩) ls.length c11) = w12 at bx12 ownR ownW ownL hb12 hg3' ⊢
      have hb4w := hb4.trans (hb12.mono hb4.size)
      obtain ⟨r0, r1, r2, rsz⟩ := hbox.ext hb12
      obtain ⟨y0, y1, y2, ysz⟩ := bx12.cells
      obtain ⟨bl, ol, rfl, hbl, e0, e1⟩ := (h2.below hb4w).at_ hjl
      have dl := HF.out.2.2.1 j
      unfold okP at dl
      rw [getD2 hjl] at dl
      have HLO := Lib.hid (getD2 hjl)
      generalize hLK : ls[j] = t at e0 e1 dl HLO
      have HLK := Lib.hid hLK
      clear hLK
      have ec := (ownL.cellAt (j * 2 + 1) (by omega)).trans (P2.get ls j hjl).2
      have ef := ownL.frozenAt (j * 2 + 1)
      have wcy : IntKind.i64.wrap (t.b - y) = t.b - y := IntWalk.i64_in _ (by omega)
      obtain ⟨z4, hz⟩ : ∃ z, z = if t.a < t.b - y then t.b - y else t.a := ⟨_, rfl⟩
      have hz4 : t.a ≤ z4 ∧ z4 ≤ t.b := by rw [hz]; split <;> omega
      have hmm : (if t.a < t.b - y then t.b - y else t.a) = id z4 := hz.symm
      clear hz
      have m0' : (0 : Int) ≤ (j : Int) := by omega
      have m1' : (j : Int) < (ls.length : Int) := by omega
      have s12 := hb12.size
      have i6 : bl < w12.heap.size := by omega
      have i7 : w.heap.size < w12.heap.size := by omega
      have hne4 : w4.heap.size ≠ g3 := by omega
      have hne5 : g1 ≠ g3 := by omega
      go_wp2_with fail
      refine wp_region_mix [(0, true), (1, true), (2, true), (3, true), (4, true), (5, true), (6, true), (7, true), (8, true), (9, true), (10, true), (11, true), (12, true), (13, true), (14, true), (15, true), (16, true), (17, true), (18, true)] [19, 20, 21] (SB w.heap.size w w12.heap.size none _) (by kernel_rfl) (by kernel_rfl) (by kernel_rfl) (by kernel_rfl) (by decide) (SB.start hb4w (by omega)) (fun hS => ?_)
      simp only [planned, List.filterMap_cons, List.filterMap_nil, List.getElem?_cons_zero, List.getElem?_cons_succ, Option.map_some]
      repeat (first
        | (refine mix_skip (by rfl) ?_; try simp only [Act.put, List.setIfInBounds_toArray, List.set_cons_zero, List.set_cons_succ])
        | (refine mix_pass hS (by rfl) ?_; try simp only [Act.put, List.setIfInBounds_toArray, List.set_cons_zero, List.set_cons_succ])
        | (refine mix_pure (by rfl) (by rfl) (fun K hK => ?_); go_big_quiet_op; refine hK _ ?_; clear hK K)
        | (refine mix_take (by rfl) ?_
           apply Exists.intro
           refine ⟨?_, ?_⟩
           · intro w' hSw
             have hSc := hSw.cell
             clear hSw
             go_simp
             try with_reducible rfl
           try simp only [Act.put, List.setIfInBounds_toArray, List.set_cons_zero, List.set_cons_succ])
        | (refine mix_move (by rfl) (fun K hK => ?_)
           go_simp
           try dsimp only
           first
             | refine hK.out _ _ (hS.step hx (by omega)) ?_
             | refine hK.out _ _ hS ?_
             | refine hK.out _ _ (hS.alloc _ (by omega)) ?_
             | refine hK.out _ _ (hS.grown hg hx) ?_
           clear hK K hS
           intro hS
           try simp only [Act.put, List.setIfInBounds_toArray, List.set_cons_zero, List.set_cons_succ])
        | fail)
      refine mix_nil ?_
      simp only [tailed, List.filterMap_cons, List.filterMap_nil, List.getElem?_cons_zero, List.getElem?_cons_succ]
      go_wp2_with fail
      refine NoPanic.normal ?_
      clear hS hmm wcy ec ef y0 y1 y2 ysz r0 r1 r2 rsz
      obtain ⟨own13, _⟩ := ownL.stored (j * 2 + 1) (.int .i64 z4)
      rw [P2.set_b ls j hjl, HLK.out] at own13
      have ownL := own13.drew
      have ownW := (own_set (g := g3) (j := j * 2 + 1) (u := .int .i64 z4) ownW hne5).drew
      have ownR := (own_setk (g := g3) (j := j * 2 + 1) (u := .int .i64 z4) ownR (fun k e => by have := hRk k e; omega)).drew
      have bxF := bx12.kept (grown_at w12 g3 (j * 2 + 1) (.int .i64 z4)) (by simpa using hne4)
      have bxF : BoxO (w12.setCell ⟨g3, j * 2 + 1, none⟩ (.int .i64 z4)).drew w4.heap.size _ _ _ 26 := bxF
      have hbF := (hb12.setCell (p := ⟨g3, j * 2 + 1, none⟩) (by simp; omega) (.int .i64 z4)).drew
      generalize (w12.setCell ⟨g3, j * 2 + 1, none⟩ (.int .i64 z4)).drew = wF at ownL ownR ownW bxF hbF ⊢
      clear own13 bx12 hb12 hb4w s12 i6 i7 e0 e1 hg3'
      have hokL : okP ⟨t.a, z4⟩ := by unfold okP; simp only; omega
      have HLF := Lib.hid (fine_set hjl hokL HF.out.2.2.1)
      have HLW := Lib.hid (fun i => leg_set (ls := ls) (u := ⟨t.a, z4⟩) hjl (by rw [HLO.out]; exact hz4.2) i)
      have HLL := Lib.hid (show (ls.set j ⟨t.a, z4⟩).length = ls.length from List.length_set)
      clear hz4 dl hokL
      generalize hLS : ls.set j ⟨t.a, z4⟩ = LS at ownL HLF HLW HLL
      clear hLS HLK HLO t0 t0'
      have hFW : FineC WS LS rs := ⟨⟨by rw [HWL.out]; omega, by rw [HWL.out]; omega, by have := HWL.out; have := HLL.out; omega, by have := (Eq.refl rs.length); omega⟩, HWF.out, HLF.out, fun q hq => by
        have hq' : q < rs.length := by have := (Eq.refl rs.length); omega
        have a1 := (same_r HRS0.out) q hq'
        have a2 := HF.out.2.2.2 q hq'
        have a3 := HWL.out
        omega⟩
      have hWid : Wider ws ls rs WS LS rs := ⟨HWL.out, HWS.out, HLW.out, fun q hq => ⟨q, by have := (Eq.refl rs.length); omega, ((same_r HRS0.out) q (by have := (Eq.refl rs.length); omega)).1⟩⟩
      have HGW := Lib.hid (guard_wider hWid (right_of hFW) HG.out)
      have HGD := Lib.hid (GL_wider' hWid)
      have HGF := Lib.hid (guard_wider (wider_free ws ls rs) (right_free HR.out) HG.out)
      have HFR := Lib.hid (fun q (hq : q < ws.length) => GL_free ws ls hq)
      clear hFW hWid
      obtain ⟨_, _, qW, shW, _, _⟩ := caps_of_own ownW
      cases qW
      obtain ⟨_, _, qL, shL, _, _⟩ := caps_of_own ownL
      cases qL
      obtain ⟨_, _, qR, shR, _, _⟩ := caps_of_own ownR
      cases qR
      obtain ⟨y0, y1, y2, ysz⟩ := bxF.cells
      go_wp2_with fail
      refine (guard_n _ _ _ _ _ _ ws.length ls.length rs.length WS LS rs _ HWL.out HLL.out (Eq.refl rs.length) shW shL shR hl1 HGW.out).mono ?_
      clear ownW ownL ownR shW shL shR bxF
      rintro e w13 ⟨B2, d2, rfl, n2, hx13⟩
      have hb13 := hbF.trans (hx13.mono hbF.size)
      obtain ⟨r0, r1, r2, rsz⟩ := hbox.ext hb13
      have hx14 := lit_below w13 (.cells #[.slice (some ⟨bw, ow, none⟩) ws.length c1, .slice (some ⟨bl, ol, none⟩) ls.length c2, .slice none 0 0] 26)
      go_wp2_with fail
      clear r0 r1 r2 rsz
      generalize w13.alloc (.cells #[.slice (some ⟨bw, ow, none⟩) ws.length c1, .slice (some ⟨bl, ol, none⟩) ls.length c2, .slice none 0 0] 26) = w14 at hx14 ⊢
      have hb14 := hb13.trans (hx14.mono hb13.size)
      have hb14w := hb4.trans (hb14.mono hb4.size)
      refine (guard_n _ _ _ _ _ _ ws.length ls.length 0 ws ls [] _ rfl rfl rfl (two_ext h1 hb14w) (two_ext h2 hb14w) (Shows.empty _ _ _ _) hl1 HGF.out).mono ?_
      rintro e w15 ⟨B3, d3, rfl, n3, hx15⟩
      have hb15 := hb14.trans (hx15.mono hb14.size)
      have hb15w := hb4.trans (hb15.mono hb4.size)
      obtain ⟨r0, r1, r2, rsz⟩ := hbox.ext hb15
      have n1 := Shows.more (n1.below hb15) hb15.size
      have n2 := Shows.more (Shows.below (Shows.more (Shows.below n2 hx14) hx14.size) hx15) hx15.size
      go_wp2_with fail
      clear r0 r1 r2 rsz
      go_loopw [19] (fun i wr => ∃ q : Nat, q ≤ ws.length ∧ i = .int .i64 q ∧ Below w15.heap.size w15 wr) (fun i _ => ws.length - (intOf i).toNat)
      case atStart => exact ⟨0, Nat.zero_le _, rfl, Below.refl _ _⟩
      case round =>
        obtain ⟨q, hq, rfl, hbB⟩ := hrel
        have hbz := hb15w.trans (hbB.mono hb15w.size)
        obtain ⟨r0, r1, r2, rsz⟩ := (hbox.ext hb15).ext hbB
        have szB := hbB.size
        by_cases hlt : q < ws.length
        · obtain ⟨c1', o1, rfl, hc1', k1'⟩ := show_at (k := q) (n1.below hbB) (GL_length _ _ _) hlt
          obtain ⟨c2', o2, rfl, hc2', k2'⟩ := show_at (k := q) (n2.below hbB) ((GL_length _ _ _).trans HWL.out) hlt
          obtain ⟨c3', o3, rfl, hc3', k3'⟩ := show_at (k := q) (n3.below hbB) (GL_length _ _ _) hlt
          obtain ⟨bw', ow', qw', hbw9, e0, _⟩ := (h1.below hbz).at_ hlt
          cases qw'
          rw [← getD2 hlt] at e0
          rw [HFR.out q hlt] at k3'
          have pa := HGD.out q
          generalize (GL ws ls rs).getD q 0 = gv at k1' pa
          generalize (GL WS LS rs).getD q 0 = hv at k2' pa
          generalize (ws.getD q ⟨0, 0⟩).a = ev at k3' e0
          have i0' : (0 : Int) ≤ q := by omega
          have i1' : (q : Int) < (ws.length : Int) := by omega
          have r1' : c1' < wr.heap.size := by omega
          have r2' : c2' < wr.heap.size := by omega
          have r3' : c3' < wr.heap.size := by omega
          have r4' : bw < wr.heap.size := by omega
          have t3 : decide (gv < hv) = false := decide_eq_false (by omega)
          have hq82 : q ≤ 82 := by omega
          have wq : IntKind.i64.wrap ((q : Int) + 1) = (q : Int) + 1 := IntWalk.i64_in _ (by omega)
          clear pa
          go_wp2_with fail
          refine wp_region_mix [(0, true), (1, true), (2, true), (3, true), (4, true), (5, true), (6, true), (7, true), (8, true), (9, true), (10, true), (11, true), (12, true), (13, true), (14, true), (15, true), (16, true), (17, true), (18, true), (19, true), (20, true), (21, true)] [] (SB w15.heap.size w15 wr.heap.size none _) (by kernel_rfl) (by kernel_rfl) (by kernel_rfl) (by kernel_rfl) (by decide) (SB.start hbB (by omega)) (fun hS => ?_)
          simp only [planned, List.filterMap_cons, List.filterMap_nil, List.getElem?_cons_zero, List.getElem?_cons_succ, Option.map_some]
          repeat (first
            | (refine mix_skip (by rfl) ?_; try simp only [Act.put, List.setIfInBounds_toArray, List.set_cons_zero, List.set_cons_succ])
            | (refine mix_pass hS (by rfl) ?_; try simp only [Act.put, List.setIfInBounds_toArray, List.set_cons_zero, List.set_cons_succ])
            | (refine mix_pure (by rfl) (by rfl) (fun K hK => ?_); go_big_quiet_op; refine hK _ ?_; clear hK K)
            | (refine mix_take (by rfl) ?_
               apply Exists.intro
               refine ⟨?_, ?_⟩
               · intro w' hSw
                 have hSc := hSw.cell
                 clear hSw
                 go_simp
                 try with_reducible rfl
               try simp only [Act.put, List.setIfInBounds_toArray, List.set_cons_zero, List.set_cons_succ])
            | (refine mix_move (by rfl) (fun K hK => ?_)
               go_simp
               try dsimp only
               first
                 | refine hK.out _ _ (hS.step hx (by omega)) ?_
                 | refine hK.out _ _ hS ?_
                 | refine hK.out _ _ (hS.alloc _ (by omega)) ?_
                 | refine hK.out _ _ (hS.grown hg hx) ?_
               clear hK K hS
               intro hS
               try simp only [Act.put, List.setIfInBounds_toArray, List.set_cons_zero, List.set_cons_succ])
            | fail)
          refine mix_nil ?_
          simp only [tailed, List.filterMap_nil]
          go_wp2_with fail
          refine NoPanic.normal ?_
          have hb20 := hS.below
          go_wp2_with fail
          go_roundw
          case rel => exact ⟨q + 1, by omega, by go_num, hb20⟩
          case measure => simp [intOf]; omega
        · go_wp2_with fail
          go_ret
          exact ⟨rfl, hbz⟩
    · have t1 : decide (0 < ls.length) = false := decide_eq_false (by omega)
      have t1' : decide ((0 : Int) < (ls.length : Int)) = false := decide_eq_false (by omega)
      clear l0
      have hL4 := hb4.trans (hbL.mono hb4.size)
      obtain ⟨r0, r1, r2, rsz⟩ := hbox.ext hbL
      go_wp2_with (at_builtin; rw [← HW9.out, HSZ.out]; refine wpList_app rfl _ _ 23 rfl wL.heap.size 44 il _ 2 16 Try.underlying23 li lz0 lz1 lz2 rfl (by decide) _ _ 0 [] rfl (World.ownsRow_lit wL #[] 0 (Nat.le_refl _) (by decide) rfl) wL.heap.size A2 ls.length c2 (P2.cells ls) rfl (Shows.alloc (two_ext h2 hL4) (Nat.le_refl _) _) (P2.oneCells ls) (by simp) (by omega) (by omega) ?_)
      have hWk : g1 < wL.heap.size := (ownW.lt _ rfl).2
      have hRk := fun k e => (ownR.lt k e).2
      intro v11 w11 own11 hx11 _
      have hx11 := ((Below.refl wL.heap.size wL).alloc (Nat.le_refl _) (.cells #[] 44)).trans hx11
      obtain ⟨A11, c11, rfl, _, _, _⟩ := caps_of_own own11
      have ownW := own_below ownW hx11
      have ownR := own_below ownR hx11
      have bx11 := bxL.ext hx11
      have hb11 := hbL.trans (hx11.mono hbL.size)
      clear r0 r1 r2 rsz
      obtain ⟨y0, y1, y2, ysz⟩ := bx11.cells
      have yf := bx11.frozen 1
      have bx12 := bx11.set1 (.slice A11 ls.length c11)
      have sL := bxL.lt
      have ownL := own_setv (g := w4.heap.size) (j := 1) (u := .slice A11 ls.length c11) own11 sL
      have ownW := own_set (g := w4.heap.size) (j := 1) (u := .slice A11 ls.length c11) ownW (Ne.symm hne1)
      have ownR := own_setv (g := w4.heap.size) (j := 1) (u := .slice A11 ls.length c11) ownR sR
      have hb12 := hb11.setCell (p := ⟨w4.heap.size, 1, none⟩) (Nat.le_refl _) (.slice A11 ls.length c11)
      obtain ⟨r0, r1, r2, rsz⟩ := hbox.ext hb12
      have bxF := bx12
      have hbF := hb12
      have hFW : FineC WS ls rs := ⟨⟨by rw [HWL.out]; omega, by rw [HWL.out]; omega, by have := HWL.out; have := (Eq.refl ls.length); omega, by have := (Eq.refl rs.length); omega⟩, HWF.out, HF.out.2.2.1, fun q hq => by
        have hq' : q < rs.length := by have := (Eq.refl rs.length); omega
        have a1 := (same_r HRS0.out) q hq'
        have a2 := HF.out.2.2.2 q hq'
        have a3 := HWL.out
        omega⟩
      have hWid : Wider ws ls rs WS ls rs := ⟨HWL.out, HWS.out, (fun _ => Int.le_refl _), fun q hq => ⟨q, by have := (Eq.refl rs.length); omega, ((same_r HRS0.out) q (by have := (Eq.refl rs.length); omega)).1⟩⟩
      have HGW := Lib.hid (guard_wider hWid (right_of hFW) HG.out)
      have HGD := Lib.hid (GL_wider' hWid)
      have HGF := Lib.hid (guard_wider (wider_free ws ls rs) (right_free HR.out) HG.out)
      have HFR := Lib.hid (fun q (hq : q < ws.length) => GL_free ws ls hq)
      clear hFW hWid
      obtain ⟨_, _, qW, shW, _, _⟩ := caps_of_own ownW
      cases qW
      obtain ⟨_, _, qL, shL, _, _⟩ := caps_of_own ownL
      cases qL
      obtain ⟨_, _, qR, shR, _, _⟩ := caps_of_own ownR
      cases qR
      obtain ⟨y0, y1, y2, ysz⟩ := bxF.cells
      go_wp2_with fail
      refine (guard_n _ _ _ _ _ _ ws.length ls.length rs.length WS ls rs _ HWL.out (Eq.refl ls.length) (Eq.refl rs.length) shW shL shR hl1 HGW.out).mono ?_
      clear ownW ownL ownR shW shL shR bxF
      rintro e w13 ⟨B2, d2, rfl, n2, hx13⟩
      have hb13 := hbF.trans (hx13.mono hbF.size)
      obtain ⟨r0, r1, r2, rsz⟩ := hbox.ext hb13
      have hx14 := lit_below w13 (.cells #[.slice (some ⟨bw, ow, none⟩) ws.length c1, .slice A2 ls.length c2, .slice none 0 0] 26)
      go_wp2_with fail
      clear r0 r1 r2 rsz
      generalize w13.alloc (.cells #[.slice (some ⟨bw, ow, none⟩) ws.length c1, .slice A2 ls.length c2, .slice none 0 0] 26) = w14 at hx14 ⊢
      have hb14 := hb13.trans (hx14.mono hb13.size)
      have hb14w := hb4.trans (hb14.mono hb4.size)
      refine (guard_n _ _ _ _ _ _ ws.length ls.length 0 ws ls [] _ rfl rfl rfl (two_ext h1 hb14w) (two_ext h2 hb14w) (Shows.empty _ _ _ _) hl1 HGF.out).mono ?_
      rintro e w15 ⟨B3, d3, rfl, n3, hx15⟩
      have hb15 := hb14.trans (hx15.mono hb14.size)
      have hb15w := hb4.trans (hb15.mono hb4.size)
      obtain ⟨r0, r1, r2, rsz⟩ := hbox.ext hb15
      have n1 := Shows.more (n1.below hb15) hb15.size
      have n2 := Shows.more (Shows.below (Shows.more (Shows.below n2 hx14) hx14.size) hx15) hx15.size
      go_wp2_with fail
      clear r0 r1 r2 rsz
      go_loopw [19] (fun i wr => ∃ q : Nat, q ≤ ws.length ∧ i = .int .i64 q ∧ Below w15.heap.size w15 wr) (fun i _ => ws.length - (intOf i).toNat)
      case atStart => exact ⟨0, Nat.zero_le _, rfl, Below.refl _ _⟩
      case round =>
        obtain ⟨q, hq, rfl, hbB⟩ := hrel
        have hbz := hb15w.trans (hbB.mono hb15w.size)
        obtain ⟨r0, r1, r2, rsz⟩ := (hbox.ext hb15).ext hbB
        have szB := hbB.size
        by_cases hlt : q < ws.length
        · obtain ⟨c1', o1, rfl, hc1', k1'⟩ := show_at (k := q) (n1.below hbB) (GL_length _ _ _) hlt
          obtain ⟨c2', o2, rfl, hc2', k2'⟩ := show_at (k := q) (n2.below hbB) ((GL_length _ _ _).trans HWL.out) hlt
          obtain ⟨c3', o3, rfl, hc3', k3'⟩ := show_at (k := q) (n3.below hbB) (GL_length _ _ _) hlt
          obtain ⟨bw', ow', qw', hbw9, e0, _⟩ := (h1.below hbz).at_ hlt
          cases qw'
          rw [← getD2 hlt] at e0
          rw [HFR.out q hlt] at k3'
          have pa := HGD.out q
          generalize (GL ws ls rs).getD q 0 = gv at k1' pa
          generalize (GL WS ls rs).getD q 0 = hv at k2' pa
          generalize (ws.getD q ⟨0, 0⟩).a = ev at k3' e0
          have i0' : (0 : Int) ≤ q := by omega
          have i1' : (q : Int) < (ws.length : Int) := by omega
          have r1' : c1' < wr.heap.size := by omega
          have r2' : c2' < wr.heap.size := by omega
          have r3' : c3' < wr.heap.size := by omega
          have r4' : bw < wr.heap.size := by omega
          have t3 : decide (gv < hv) = false := decide_eq_false (by omega)
          have hq82 : q ≤ 82 := by omega
          have wq : IntKind.i64.wrap ((q : Int) + 1) = (q : Int) + 1 := IntWalk.i64_in _ (by omega)
          clear pa
          go_wp2_with fail
          refine wp_region_mix [(0, true), (1, true), (2, true), (3, true), (4, true), (5, true), (6, true), (7, true), (8, true), (9, true), (10, true), (11, true), (12, true), (13, true), (14, true), (15, true), (16, true), (17, true), (18, true), (19, true), (20, true), (21, true)] [] (SB w15.heap.size w15 wr.heap.size none _) (by kernel_rfl) (by kernel_rfl) (by kernel_rfl) (by kernel_rfl) (by decide) (SB.start hbB (by omega)) (fun hS => ?_)
          simp only [planned, List.filterMap_cons, List.filterMap_nil, List.getElem?_cons_zero, List.getElem?_cons_succ, Option.map_some]
          repeat (first
            | (refine mix_skip (by rfl) ?_; try simp only [Act.put, List.setIfInBounds_toArray, List.set_cons_zero, List.set_cons_succ])
            | (refine mix_pass hS (by rfl) ?_; try simp only [Act.put, List.setIfInBounds_toArray, List.set_cons_zero, List.set_cons_succ])
            | (refine mix_pure (by rfl) (by rfl) (fun K hK => ?_); go_big_quiet_op; refine hK _ ?_; clear hK K)
            | (refine mix_take (by rfl) ?_
               apply Exists.intro
               refine ⟨?_, ?_⟩
               · intro w' hSw
                 have hSc := hSw.cell
                 clear hSw
                 go_simp
                 try with_reducible rfl
               try simp only [Act.put, List.setIfInBounds_toArray, List.set_cons_zero, List.set_cons_succ])
            | (refine mix_move (by rfl) (fun K hK => ?_)
               go_simp
               try dsimp only
               first
                 | refine hK.out _ _ (hS.step hx (by omega)) ?_
                 | refine hK.out _ _ hS ?_
                 | refine hK.out _ _ (hS.alloc _ (by omega)) ?_
                 | refine hK.out _ _ (hS.grown hg hx) ?_
               clear hK K hS
               intro hS
               try simp only [Act.put, List.setIfInBounds_toArray, List.set_cons_zero, List.set_cons_succ])
            | fail)
          refine mix_nil ?_
          simp only [tailed, List.filterMap_nil]
          go_wp2_with fail
          refine NoPanic.normal ?_
          have hb20 := hS.below
          go_wp2_with fail
          go_roundw
          case rel => exact ⟨q + 1, by omega, by go_num, hb20⟩
          case measure => simp [intOf]; omega
        · go_wp2_with fail
          go_ret
          exact ⟨rfl, hbz⟩
  · have hrp : 0 < rs.length := by omega
    have t0 : decide (0 < rs.length) = true := decide_eq_true hrp
    have t0' : decide ((0 : Int) < (rs.length : Int)) = true := decide_eq_true (by omega)
    have hn0r : (rs.length : Int) ≠ 0 := by omega
    obtain ⟨m, hm⟩ : ∃ m : Nat, p % (rs.length : Int) = (m : Int) := ⟨(p % (rs.length : Int)).toNat, by
      have := Int.emod_nonneg p hn0r
      omega⟩
    have hmr : m < rs.length := by
      have := Int.emod_lt_of_pos p (show 0 < (rs.length : Int) by omega)
      omega
    obtain ⟨g2, cap2, q2, hg2, hg2', _⟩ := own_form ownR hrp
    cases q2
    go_wp2_with fail
    clear y0 y1 y2 ysz yf bx9 own9 hb9 r0 r1 r2 rsz
    generalize w9.setCell ⟨w4.heap.size, 2, none⟩ (.slice (some ⟨g2, 0, none⟩) rs.length c9) = w10 at bx10 ownR ownW hb10 hg2' ⊢
    have hb4w := hb4.trans (hb10.mono hb4.size)
    obtain ⟨r0, r1, r2, rsz⟩ := hbox.ext hb10
    obtain ⟨y0, y1, y2, ysz⟩ := bx10.cells
    obtain ⟨br, or_, rfl, hbr, e0, e1, e2⟩ := (h3.below hb4w).at_ hmr
    have dr := HF.out.2.2.2 m hmr
    rw [getD3 hmr] at dr
    generalize hRK : rs[m] = t at e0 e1 e2 dr
    have HRK := Lib.hid hRK
    clear hRK
    have ec := (ownR.cellAt (m * 3 + 2) (by omega)).trans (P3.get rs m hmr).2.2
    have ef := ownR.frozenAt (m * 3 + 2)
    have wcy : IntKind.i64.wrap (t.c + y) = t.c + y := IntWalk.i64_in _ (by omega)
    obtain ⟨z3, hz⟩ : ∃ z, z = if 1048576 < t.c + y then 1048576 else t.c + y := ⟨_, rfl⟩
    have hz3 : t.c ≤ z3 ∧ z3 ≤ 1048576 := by rw [hz]; split <;> omega
    have hmm : (if 1048576 < t.c + y then 1048576 else t.c + y) = id z3 := hz.symm
    clear hz
    have m0 : (0 : Int) ≤ (m : Int) := by omega
    have m1 : (m : Int) < (rs.length : Int) := by omega
    have s10 := hb10.size
    have i6 : br < w10.heap.size := by omega
    have i7 : w.heap.size < w10.heap.size := by omega
    have hne2 : w4.heap.size ≠ g2 := by omega
    have hne3 : g1 ≠ g2 := by omega
    go_wp2_with fail
    refine wp_region_mix [(0, true), (1, true), (2, true), (3, true), (4, true), (5, true), (6, true), (7, true), (8, true), (9, true), (10, true), (11, true), (12, true)] [13, 14, 15] (SB w.heap.size w w10.heap.size none _) (by kernel_rfl) (by kernel_rfl) (by kernel_rfl) (by kernel_rfl) (by decide) (SB.start hb4w (by omega)) (fun hS => ?_)
    simp only [planned, List.filterMap_cons, List.filterMap_nil, List.getElem?_cons_zero, List.getElem?_cons_succ, Option.map_some]
    repeat (first
      | (refine mix_skip (by rfl) ?_; try simp only [Act.put, List.setIfInBounds_toArray, List.set_cons_zero, List.set_cons_succ])
      | (refine mix_pass hS (by rfl) ?_; try simp only [Act.put, List.setIfInBounds_toArray, List.set_cons_zero, List.set_cons_succ])
      | (refine mix_pure (by rfl) (by rfl) (fun K hK => ?_); go_big_quiet_op; refine hK _ ?_; clear hK K)
      | (refine mix_take (by rfl) ?_
         apply Exists.intro
         refine ⟨?_, ?_⟩
         · intro w' hSw
           have hSc := hSw.cell
           clear hSw
           go_simp
           try with_reducible rfl
         try simp only [Act.put, List.setIfInBounds_toArray, List.set_cons_zero, List.set_cons_succ])
      | (refine mix_move (by rfl) (fun K hK => ?_)
         go_simp
         try dsimp only
         first
           | refine hK.out _ _ (hS.step hx (by omega)) ?_
           | refine hK.out _ _ hS ?_
           | refine hK.out _ _ (hS.alloc _ (by omega)) ?_
           | refine hK.out _ _ (hS.grown hg hx) ?_
         clear hK K hS
         intro hS
         try simp only [Act.put, List.setIfInBounds_toArray, List.set_cons_zero, List.set_cons_succ])
      | fail)
    refine mix_nil ?_
    simp only [tailed, List.filterMap_cons, List.filterMap_nil, List.getElem?_cons_zero, List.getElem?_cons_succ]
    go_wp2_with fail
    refine NoPanic.normal ?_
    clear hS hmm wcy ec ef y0 y1 y2 ysz r0 r1 r2 rsz
    obtain ⟨own11, _⟩ := ownR.stored (m * 3 + 2) (.int .i64 z3)
    rw [P3.set_c rs m hmr, HRK.out] at own11
    have ownR := own11.drew
    have ownW := (own_set (g := g2) (j := m * 3 + 2) (u := .int .i64 z3) ownW hne3).drew
    have bxL := bx10.kept (grown_at w10 g2 (m * 3 + 2) (.int .i64 z3)) (by simpa using hne2)
    have bxL : BoxO (w10.setCell ⟨g2, m * 3 + 2, none⟩ (.int .i64 z3)).drew w4.heap.size (.slice (some ⟨g1, 0, none⟩) ws.length cap1) (.slice A2 ls.length c2) (.slice (some ⟨g2, 0, none⟩) rs.length c9) 26 := bxL
    have hbL := (hb10.setCell (p := ⟨g2, m * 3 + 2, none⟩) (by simp; omega) (.int .i64 z3)).drew
    generalize (w10.setCell ⟨g2, m * 3 + 2, none⟩ (.int .i64 z3)).drew = wL at ownR ownW bxL hbL ⊢
    clear own11 bx10 hb10 hb4w s10 i6 i7 e0 e1 e2 hg2'
    have HRF := Lib.hid (ride_set (rs := rs) (n := ws.length) (z := z3) hmr (by rw [HRK.out]; exact hz3.1) hz3.2 HF.out.2.2.2)
    have HRL := Lib.hid (show (rs.set m ⟨t.a, t.b, z3⟩).length = rs.length from List.length_set)
    rw [HRK.out] at HRF
    clear hz3 dr
    generalize hRS : rs.set m ⟨t.a, t.b, z3⟩ = RS at ownR HRF HRL
    clear hRS HRK t0 t0'
    have l0 : 0 < ls.length := by
      have h5 := HF.out.2.2.2 m hmr
      omega
    have hL4 := hb4.trans (hbL.mono hb4.size)
    obtain ⟨r0, r1, r2, rsz⟩ := hbox.ext hbL
    go_wp2_with (at_builtin;  refine wpList_app rfl _ _ 23 rfl wL.heap.size 44 il _ 2 16 Try.underlying23 li lz0 lz1 lz2 rfl (by decide) _ _ 0 [] rfl (World.ownsRow_lit wL #[] 0 (Nat.le_refl _) (by decide) rfl) wL.heap.size A2 ls.length c2 (P2.cells ls) rfl (Shows.alloc (two_ext h2 hL4) (Nat.le_refl _) _) (P2.oneCells ls) (by simp) (by omega) (by omega) ?_)
    have hWk : g1 < wL.heap.size := (ownW.lt _ rfl).2
    have hRk := fun k e => (ownR.lt k e).2
    intro v11 w11 own11 hx11 _
    have hx11 := ((Below.refl wL.heap.size wL).alloc (Nat.le_refl _) (.cells #[] 44)).trans hx11
    obtain ⟨A11, c11, rfl, _, _, _⟩ := caps_of_own own11
    have ownW := own_below ownW hx11
    have ownR := own_below ownR hx11
    have bx11 := bxL.ext hx11
    have hb11 := hbL.trans (hx11.mono hbL.size)
    clear r0 r1 r2 rsz
    obtain ⟨y0, y1, y2, ysz⟩ := bx11.cells
    have yf := bx11.frozen 1
    have bx12 := bx11.set1 (.slice A11 ls.length c11)
    have sL := bxL.lt
    have ownL := own_setv (g := w4.heap.size) (j := 1) (u := .slice A11 ls.length c11) own11 sL
    have ownW := own_set (g := w4.heap.size) (j := 1) (u := .slice A11 ls.length c11) ownW (Ne.symm hne1)
    have ownR := own_setv (g := w4.heap.size) (j := 1) (u := .slice A11 ls.length c11) ownR sR
    have hb12 := hb11.setCell (p := ⟨w4.heap.size, 1, none⟩) (Nat.le_refl _) (.slice A11 ls.length c11)
    obtain ⟨r0, r1, r2, rsz⟩ := hbox.ext hb12
    have t0 : decide (0 < ls.length) = true := decide_eq_true l0
    have t0' : decide ((0 : Int) < (ls.length : Int)) = true := decide_eq_true (by omega)
    have hn0l : (ls.length : Int) ≠ 0 := by omega
    obtain ⟨j, hj⟩ : ∃ j : Nat, p % (ls.length : Int) = (j : Int) := ⟨(p % (ls.length : Int)).toNat, by
      have := Int.emod_nonneg p hn0l
      omega⟩
    have hjl : j < ls.length := by
      have := Int.emod_lt_of_pos p (show 0 < (ls.length : Int) by omega)
      omega
    obtain ⟨g3, cap3, q3, hg3, hg3', _⟩ := own_form ownL l0
    cases q3
    go_wp2_with fail
    clear y0 y1 y2 ysz yf bx11 own11 hb11 r0 r1 r2 rsz
    generalize w11.setCell ⟨w4.heap.size, 1, none⟩ (.slice (some ⟨g3, 0, none⟩) ls.length c11) = w12 at bx12 ownR ownW ownL hb12 hg3' ⊢
    have hb4w := hb4.trans (hb12.mono hb4.size)
    obtain ⟨r0, r1, r2, rsz⟩ := hbox.ext hb12
    obtain ⟨y0, y1, y2, ysz⟩ := bx12.cells
    obtain ⟨bl, ol, rfl, hbl, e0, e1⟩ := (h2.below hb4w).at_ hjl
    have dl := HF.out.2.2.1 j
    unfold okP at dl
    rw [getD2 hjl] at dl
    have HLO := Lib.hid (getD2 hjl)
    generalize hLK : ls[j] = t at e0 e1 dl HLO
    have HLK := Lib.hid hLK
    clear hLK
    have ec := (ownL.cellAt (j * 2 + 1) (by omega)).trans (P2.get ls j hjl).2
    have ef := ownL.frozenAt (j * 2 + 1)
    have wcy : IntKind.i64.wrap (t.b - y) = t.b - y := IntWalk.i64_in _ (by omega)
    obtain ⟨z4, hz⟩ : ∃ z, z = if t.a < t.b - y then t.b - y else t.a := ⟨_, rfl⟩
    have hz4 : t.a ≤ z4 ∧ z4 ≤ t.b := by rw [hz]; split <;> omega
    have hmm : (if t.a < t.b - y then t.b - y else t.a) = id z4 := hz.symm
    clear hz
    have m0' : (0 : Int) ≤ (j : Int) := by omega
    have m1' : (j : Int) < (ls.length : Int) := by omega
    have s12 := hb12.size
    have i6 : bl < w12.heap.size := by omega
    have i7 : w.heap.size < w12.heap.size := by omega
    have hne4 : w4.heap.size ≠ g3 := by omega
    have hne5 : g1 ≠ g3 := by omega
    go_wp2_with fail
    refine wp_region_mix [(0, true), (1, true), (2, true), (3, true), (4, true), (5, true), (6, true), (7, true), (8, true), (9, true), (10, true), (11, true), (12, true), (13, true), (14, true), (15, true), (16, true), (17, true), (18, true)] [19, 20, 21] (SB w.heap.size w w12.heap.size none _) (by kernel_rfl) (by kernel_rfl) (by kernel_rfl) (by kernel_rfl) (by decide) (SB.start hb4w (by omega)) (fun hS => ?_)
    simp only [planned, List.filterMap_cons, List.filterMap_nil, List.getElem?_cons_zero, List.getElem?_cons_succ, Option.map_some]
    repeat (first
      | (refine mix_skip (by rfl) ?_; try simp only [Act.put, List.setIfInBounds_toArray, List.set_cons_zero, List.set_cons_succ])
      | (refine mix_pass hS (by rfl) ?_; try simp only [Act.put, List.setIfInBounds_toArray, List.set_cons_zero, List.set_cons_succ])
      | (refine mix_pure (by rfl) (by rfl) (fun K hK => ?_); go_big_quiet_op; refine hK _ ?_; clear hK K)
      | (refine mix_take (by rfl) ?_
         apply Exists.intro
         refine ⟨?_, ?_⟩
         · intro w' hSw
           have hSc := hSw.cell
           clear hSw
           go_simp
           try with_reducible rfl
         try simp only [Act.put, List.setIfInBounds_toArray, List.set_cons_zero, List.set_cons_succ])
      | (refine mix_move (by rfl) (fun K hK => ?_)
         go_simp
         try dsimp only
         first
           | refine hK.out _ _ (hS.step hx (by omega)) ?_
           | refine hK.out _ _ hS ?_
           | refine hK.out _ _ (hS.alloc _ (by omega)) ?_
           | refine hK.out _ _ (hS.grown hg hx) ?_
         clear hK K hS
         intro hS
         try simp only [Act.put, List.setIfInBounds_toArray, List.set_cons_zero, List.set_cons_succ])
      | fail)
    refine mix_nil ?_
    simp only [tailed, List.filterMap_cons, List.filterMap_nil, List.getElem?_cons_zero, List.getElem?_cons_succ]
    go_wp2_with fail
    refine NoPanic.normal ?_
    clear hS hmm wcy ec ef y0 y1 y2 ysz r0 r1 r2 rsz
    obtain ⟨own13, _⟩ := ownL.stored (j * 2 + 1) (.int .i64 z4)
    rw [P2.set_b ls j hjl, HLK.out] at own13
    have ownL := own13.drew
    have ownW := (own_set (g := g3) (j := j * 2 + 1) (u := .int .i64 z4) ownW hne5).drew
    have ownR := (own_setk (g := g3) (j := j * 2 + 1) (u := .int .i64 z4) ownR (fun k e => by have := hRk k e; omega)).drew
    have bxF := bx12.kept (grown_at w12 g3 (j * 2 + 1) (.int .i64 z4)) (by simpa using hne4)
    have bxF : BoxO (w12.setCell ⟨g3, j * 2 + 1, none⟩ (.int .i64 z4)).drew w4.heap.size _ _ _ 26 := bxF
    have hbF := (hb12.setCell (p := ⟨g3, j * 2 + 1, none⟩) (by simp; omega) (.int .i64 z4)).drew
    generalize (w12.setCell ⟨g3, j * 2 + 1, none⟩ (.int .i64 z4)).drew = wF at ownL ownR ownW bxF hbF ⊢
    clear own13 bx12 hb12 hb4w s12 i6 i7 e0 e1 hg3'
    have hokL : okP ⟨t.a, z4⟩ := by unfold okP; simp only; omega
    have HLF := Lib.hid (fine_set hjl hokL HF.out.2.2.1)
    have HLW := Lib.hid (fun i => leg_set (ls := ls) (u := ⟨t.a, z4⟩) hjl (by rw [HLO.out]; exact hz4.2) i)
    have HLL := Lib.hid (show (ls.set j ⟨t.a, z4⟩).length = ls.length from List.length_set)
    clear hz4 dl hokL
    generalize hLS : ls.set j ⟨t.a, z4⟩ = LS at ownL HLF HLW HLL
    clear hLS HLK HLO t0 t0'
    have hFW : FineC WS LS RS := ⟨⟨by rw [HWL.out]; omega, by rw [HWL.out]; omega, by have := HWL.out; have := HLL.out; omega, by have := HRL.out; omega⟩, HWF.out, HLF.out, fun q hq => by
      have hq' : q < rs.length := by have := HRL.out; omega
      have a1 := HRF.out q hq'
      have a2 := HF.out.2.2.2 q hq'
      have a3 := HWL.out
      omega⟩
    have hWid : Wider ws ls rs WS LS RS := ⟨HWL.out, HWS.out, HLW.out, fun q hq => ⟨q, by have := HRL.out; omega, (HRF.out q (by have := HRL.out; omega)).1⟩⟩
    have HGW := Lib.hid (guard_wider hWid (right_of hFW) HG.out)
    have HGD := Lib.hid (GL_wider' hWid)
    have HGF := Lib.hid (guard_wider (wider_free ws ls rs) (right_free HR.out) HG.out)
    have HFR := Lib.hid (fun q (hq : q < ws.length) => GL_free ws ls hq)
    clear hFW hWid
    obtain ⟨_, _, qW, shW, _, _⟩ := caps_of_own ownW
    cases qW
    obtain ⟨_, _, qL, shL, _, _⟩ := caps_of_own ownL
    cases qL
    obtain ⟨_, _, qR, shR, _, _⟩ := caps_of_own ownR
    cases qR
    obtain ⟨y0, y1, y2, ysz⟩ := bxF.cells
    go_wp2_with fail
    refine (guard_n _ _ _ _ _ _ ws.length ls.length rs.length WS LS RS _ HWL.out HLL.out HRL.out shW shL shR hl1 HGW.out).mono ?_
    clear ownW ownL ownR shW shL shR bxF
    rintro e w13 ⟨B2, d2, rfl, n2, hx13⟩
    have hb13 := hbF.trans (hx13.mono hbF.size)
    obtain ⟨r0, r1, r2, rsz⟩ := hbox.ext hb13
    have hx14 := lit_below w13 (.cells #[.slice (some ⟨bw, ow, none⟩) ws.length c1, .slice (some ⟨bl, ol, none⟩) ls.length c2, .slice none 0 0] 26)
    go_wp2_with fail
    clear r0 r1 r2 rsz
    generalize w13.alloc (.cells #[.slice (some ⟨bw, ow, none⟩) ws.length c1, .slice (some ⟨bl, ol, none⟩) ls.length c2, .slice none 0 0] 26) = w14 at hx14 ⊢
    have hb14 := hb13.trans (hx14.mono hb13.size)
    have hb14w := hb4.trans (hb14.mono hb4.size)
    refine (guard_n _ _ _ _ _ _ ws.length ls.length 0 ws ls [] _ rfl rfl rfl (two_ext h1 hb14w) (two_ext h2 hb14w) (Shows.empty _ _ _ _) hl1 HGF.out).mono ?_
    rintro e w15 ⟨B3, d3, rfl, n3, hx15⟩
    have hb15 := hb14.trans (hx15.mono hb14.size)
    have hb15w := hb4.trans (hb15.mono hb4.size)
    obtain ⟨r0, r1, r2, rsz⟩ := hbox.ext hb15
    have n1 := Shows.more (n1.below hb15) hb15.size
    have n2 := Shows.more (Shows.below (Shows.more (Shows.below n2 hx14) hx14.size) hx15) hx15.size
    go_wp2_with fail
    clear r0 r1 r2 rsz
    go_loopw [19] (fun i wr => ∃ q : Nat, q ≤ ws.length ∧ i = .int .i64 q ∧ Below w15.heap.size w15 wr) (fun i _ => ws.length - (intOf i).toNat)
    case atStart => exact ⟨0, Nat.zero_le _, rfl, Below.refl _ _⟩
    case round =>
      obtain ⟨q, hq, rfl, hbB⟩ := hrel
      have hbz := hb15w.trans (hbB.mono hb15w.size)
      obtain ⟨r0, r1, r2, rsz⟩ := (hbox.ext hb15).ext hbB
      have szB := hbB.size
      by_cases hlt : q < ws.length
      · obtain ⟨c1', o1, rfl, hc1', k1'⟩ := show_at (k := q) (n1.below hbB) (GL_length _ _ _) hlt
        obtain ⟨c2', o2, rfl, hc2', k2'⟩ := show_at (k := q) (n2.below hbB) ((GL_length _ _ _).trans HWL.out) hlt
        obtain ⟨c3', o3, rfl, hc3', k3'⟩ := show_at (k := q) (n3.below hbB) (GL_length _ _ _) hlt
        obtain ⟨bw', ow', qw', hbw9, e0, _⟩ := (h1.below hbz).at_ hlt
        cases qw'
        rw [← getD2 hlt] at e0
        rw [HFR.out q hlt] at k3'
        have pa := HGD.out q
        generalize (GL ws ls rs).getD q 0 = gv at k1' pa
        generalize (GL WS LS RS).getD q 0 = hv at k2' pa
        generalize (ws.getD q ⟨0, 0⟩).a = ev at k3' e0
        have i0' : (0 : Int) ≤ q := by omega
        have i1' : (q : Int) < (ws.length : Int) := by omega
        have r1' : c1' < wr.heap.size := by omega
        have r2' : c2' < wr.heap.size := by omega
        have r3' : c3' < wr.heap.size := by omega
        have r4' : bw < wr.heap.size := by omega
        have t3 : decide (gv < hv) = false := decide_eq_false (by omega)
        have hq82 : q ≤ 82 := by omega
        have wq : IntKind.i64.wrap ((q : Int) + 1) = (q : Int) + 1 := IntWalk.i64_in _ (by omega)
        clear pa
        go_wp2_with fail
        refine wp_region_mix [(0, true), (1, true), (2, true), (3, true), (4, true), (5, true), (6, true), (7, true), (8, true), (9, true), (10, true), (11, true), (12, true), (13, true), (14, true), (15, true), (16, true), (17, true), (18, true), (19, true), (20, true), (21, true)] [] (SB w15.heap.size w15 wr.heap.size none _) (by kernel_rfl) (by kernel_rfl) (by kernel_rfl) (by kernel_rfl) (by decide) (SB.start hbB (by omega)) (fun hS => ?_)
        simp only [planned, List.filterMap_cons, List.filterMap_nil, List.getElem?_cons_zero, List.getElem?_cons_succ, Option.map_some]
        repeat (first
          | (refine mix_skip (by rfl) ?_; try simp only [Act.put, List.setIfInBounds_toArray, List.set_cons_zero, List.set_cons_succ])
          | (refine mix_pass hS (by rfl) ?_; try simp only [Act.put, List.setIfInBounds_toArray, List.set_cons_zero, List.set_cons_succ])
          | (refine mix_pure (by rfl) (by rfl) (fun K hK => ?_); go_big_quiet_op; refine hK _ ?_; clear hK K)
          | (refine mix_take (by rfl) ?_
             apply Exists.intro
             refine ⟨?_, ?_⟩
             · intro w' hSw
               have hSc := hSw.cell
               clear hSw
               go_simp
               try with_reducible rfl
             try simp only [Act.put, List.setIfInBounds_toArray, List.set_cons_zero, List.set_cons_succ])
          | (refine mix_move (by rfl) (fun K hK => ?_)
             go_simp
             try dsimp only
             first
               | refine hK.out _ _ (hS.step hx (by omega)) ?_
               | refine hK.out _ _ hS ?_
               | refine hK.out _ _ (hS.alloc _ (by omega)) ?_
               | refine hK.out _ _ (hS.grown hg hx) ?_
             clear hK K hS
             intro hS
             try simp only [Act.put, List.setIfInBounds_toArray, List.set_cons_zero, List.set_cons_succ])
          | fail)
        refine mix_nil ?_
        simp only [tailed, List.filterMap_nil]
        go_wp2_with fail
        refine NoPanic.normal ?_
        have hb20 := hS.below
        go_wp2_with fail
        go_roundw
        case rel => exact ⟨q + 1, by omega, by go_num, hb20⟩
        case measure => simp [intOf]; omega
      · go_wp2_with fail
        go_ret
        exact ⟨rfl, hbz⟩

theorem reactMore_contract (H : Type) (enc : TypeId × Value → H) (W : World) (base : Nat) (args : Array Value) (ds gs : List (DataW H)) (before : List MemPlace)
    (hval : ∀ (j : Nat) t v, Try.f7.params[j]? = some t → args[j]? = some v → Value.okWide Try.prog W .any base t v)
    (hW : DataW.Whole enc Try.prog Try.f7.params.toList Rows.reactMoreSpec.vars false W args.toList ds gs before) :
    Calls Try.prog 7 args W fun e W' => ∃ v, e = .returned v ∧ Rows.reactMoreSpec.post enc Try.prog Try.f7 false true false false W args v W' := by
  have hW' := hW
  obtain ⟨p, q, hA0, hV, rfl, hfz, hnd⟩ := hW
  have hA : DataW.TrodAll enc Try.prog W 0 (fun _ => true) true Try.f7.params.toList args.toList ds p := hA0
  have hlt := hA.lt
  rw [Try.params7] at hA hval
  obtain ⟨v0, vs0, d0, ds0, p0, q0, hargs0, rfl, rfl, h0, rr0⟩ := trodAll_cons hA
  obtain ⟨v1, vs1, d1, ds1, p1, q1, rfl, rfl, rfl, h1, rr1⟩ := trodAll_cons rr0
  obtain ⟨v2, vs2, d2, ds2, p2, q2, rfl, rfl, rfl, h2, rr2⟩ := trodAll_cons rr1
  obtain ⟨rfl, rfl, rfl⟩ := trodAll_nil rr2
  obtain rfl : args = #[v0, v1, v2] := by cases args; simp_all
  obtain ⟨rfl, rfl⟩ := trodVars_none hV
  obtain ⟨x0a, x0b, x0c, y0a, y0b, y0c, n0, rfl, rfl, rfl, g0a, g0b, g0c⟩ := open_agg3 Try.underlying26 (by kernel_rfl) (by kernel_rfl) (hval 0 26 v0 rfl rfl) h0
  obtain ⟨A1, nn0a, c1, rfl⟩ := slice_form Try.underlying22 g0a
  obtain ⟨ws, rfl, t0a, b0a, m0a⟩ := open_two (B := W.heap.size) Try.underlying22 Try.underlying47 rfl rfl Try.underlying3 (by kernel_rfl) rfl rfl (by kernel_rfl) (fun y (hy : y ∈ y0a.2) => hlt y (by simp [hy])) g0a
  unfold maxLen at m0a
  obtain ⟨A2, nn0b, c2, rfl⟩ := slice_form Try.underlying23 g0b
  obtain ⟨ls, rfl, t0b, b0b, m0b⟩ := open_two (B := W.heap.size) Try.underlying23 Try.underlying44 rfl rfl Try.underlying3 (by kernel_rfl) rfl rfl (by kernel_rfl) (fun y (hy : y ∈ y0b.2) => hlt y (by simp [hy])) g0b
  unfold maxLen at m0b
  obtain ⟨A3, nn0c, c3, rfl⟩ := slice_form Try.underlying24 g0c
  obtain ⟨rs, rfl, t0c, b0c, m0c⟩ := open_three (B := W.heap.size) Try.underlying24 Try.underlying49 rfl rfl rfl Try.underlying3 (by kernel_rfl) rfl rfl rfl (by kernel_rfl) (fun y (hy : y ∈ y0c.2) => hlt y (by simp [hy])) g0c
  unfold maxLen at m0c
  obtain ⟨p, rfl, rfl, rfl, hwf1⟩ := open_int Try.underlying5 (hval 1 5 v1 rfl rfl) h1
  have r1 : 0 ≤ p ∧ p ≤ 255 := by simpa [Lit.wf, IntKind.min, IntKind.max, IntKind.signed, IntKind.bits] using hwf1
  obtain ⟨y, rfl, rfl, rfl, hwf2⟩ := open_int Try.underlying5 (hval 2 5 v2 rfl rfl) h2
  have r2 : 0 ≤ y ∧ y ≤ 255 := by simpa [Lit.wf, IntKind.min, IntKind.max, IntKind.signed, IntKind.bits] using hwf2
  refine (more_any A1 A2 A3 c1 c2 c3 ws ls rs p y W t0a t0b t0c (by omega) r1 r2).mono fun e W' ⟨he, hb⟩ => ?_
  subst he
  exact ⟨_, rfl, law_post laidOut Try.underlying4 rfl (by kernel_rfl) rfl hW' rfl hb⟩
set_option maxRecDepth 100000 in
theorem reactMore_lifted (os : Os) (started : os.Started) (H : Type) (enc : TypeId × Value → H) :
    ReturnsInHanded {} Try.checked os 7 .any (Rows.reactMoreSpec.pre6 enc Try.prog Try.f7 Rows.reactMoreRow.domain false) (Rows.reactMoreSpec.post enc Try.prog Try.f7 false true false false) := by
  refine returnsInHanded_of_change (C := Try.checked) own started (by kernel_rfl) Try.func7
    (ChangeSpec.witness6 (enc := enc) (C := Try.checked) false ⟨#[], #[.agg #[.slice none 0 0, .slice none 0 0, .slice none 0 0], .int .u8 0, .int .u8 0], []⟩ 8 (by kernel_rfl) (by kernel_rfl) (by kernel_rfl) (by kernel_rfl)) ?_
  intro W base args ds gs before hval hW _ _
  exact reactMore_contract H enc W base args ds gs before hval hW
theorem reactMore_holds : Rows.ReactMoreSaid :=
  OpenClaim.holds_of_wide 7 Try.f7 rfl rfl rfl rfl rfl rfl rfl ⟨rfl, rfl, rfl, rfl, rfl⟩ rfl rfl rfl rfl rfl (by kernel_rfl) Try.func7 (by kernel_rfl)
    (of_decide_eq_true (by kernel_rfl)) (by unfold Func.isWrapper; first | (rw [if_pos (by decide +kernel)]; kernel_rfl) | (rw [if_neg (by decide +kernel)]; exact ⟨rfl, rfl⟩))
    (fun os started H enc _ => reactMore_lifted os started H enc)
end Go.Proofs.Yteahkgoedibimaa
