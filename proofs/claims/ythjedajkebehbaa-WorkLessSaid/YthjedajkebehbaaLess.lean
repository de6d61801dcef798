/-
  WorkLess: with less to drive, longer waits, or greater bounds, what is permitted stays so. Conditions: none.
-/
import Derived.Test.YthjedajkebehbaaWalkT
import Derived.Test.YthjedajkebehbaaLift
namespace Go.Proofs.Ythjedajkebehbaa
open Go.ChangeShapes Go.WideShapes Go.ChangeAt Go.RowKit Go.Deep Go.Joins

theorem firsts_none {D R W : Int} {ls ws : List P2} (h : firstLong D R W ls ws = none) (i : Nat) (hi : i < ls.length) : tooLong D R W ls ws i = false := by
  have := List.find?_eq_none.1 h i (by simpa using hi)
  simpa using this
theorem dAt_mono {R R' : Int} {ls ls' ws ws' : List P2} (h1 : ∀ k, (ls'.getD k ⟨0, 0⟩).b ≤ (ls.getD k ⟨0, 0⟩).b) (h2 : ∀ k, R ≤ (ws.getD k ⟨0, 0⟩).a → R' ≤ (ws'.getD k ⟨0, 0⟩).a) (f : Fine ls) :
    ∀ k, dAt R' ls' ws' k ≤ dAt R ls ws k
  | 0 => Int.le_refl _
  | k + 1 => by
    have ih := dAt_mono (R := R) (R' := R') h1 h2 f k
    have a := h1 k
    have b := h2 k
    have c := dAt_bd (R := R) (ws := ws) f k
    simp only [dAt]
    split <;> split <;> omega
theorem wAt_mono {ls ls' ws ws' : List P2} (h1 : ∀ k, (ls'.getD k ⟨0, 0⟩).b ≤ (ls.getD k ⟨0, 0⟩).b) (h2 : ∀ k, (ws'.getD k ⟨0, 0⟩).b ≤ (ws.getD k ⟨0, 0⟩).b) : ∀ k, wAt ls' ws' k ≤ wAt ls ws k
  | 0 => Int.le_refl _
  | k + 1 => by
    have ih := wAt_mono h1 h2 k
    have a := h1 k
    have b := h2 k
    simp only [wAt]
    split <;> omega
theorem stays {D D' R R' W W' : Int} {ls ls' ws ws' : List P2} (he : checkE D R W ls ws = 0) (hr : rightB D' R' W' ls' ws' = true) (hl : ls'.length = ls.length) (hD : D ≤ D') (hW : W ≤ W')
    (h1 : ∀ k, (ls'.getD k ⟨0, 0⟩).b ≤ (ls.getD k ⟨0, 0⟩).b) (h2 : ∀ k, R ≤ (ws.getD k ⟨0, 0⟩).a → R' ≤ (ws'.getD k ⟨0, 0⟩).a) (h3 : ∀ k, (ws'.getD k ⟨0, 0⟩).b ≤ (ws.getD k ⟨0, 0⟩).b) :
    checkE D' R' W' ls' ws' = 0 := by
  obtain ⟨hr0, hf⟩ := check_ok he
  obtain ⟨_, _, f1, f2, _⟩ := right_parts hr0
  have hn : firstLong D' R' W' ls' ws' = none := find_range_none (fun j hj => by
    have := firsts_none hf j (by omega)
    have a := dAt_mono (R := R) (R' := R') (ls' := ls') (ws' := ws') h1 h2 f1 (j + 1)
    have b := wAt_mono (ls' := ls') (ws' := ws') h1 h3 (j + 1)
    simp [tooLong] at this ⊢
    omega)
  simp [checkE, hr, hn]
theorem getD_set (l : List P2) (k : Nat) (x : P2) (j : Nat) (hk : k < l.length) : (l.set k x).getD j ⟨0, 0⟩ = if j = k then x else l.getD j ⟨0, 0⟩ := by
  simp only [List.getD, List.getElem?_set]
  by_cases h : k = j
  · subst h
    simp [hk]
  · simp [h, Ne.symm h]
theorem fine_set {l : List P2} (h : Fine l) (k : Nat) {x : P2} (hx : 0 ≤ x.a ∧ x.a ≤ x.b ∧ x.b ≤ 1048576) : Fine (l.set k x) := fun y hy => by
  rcases List.mem_or_eq_of_mem_set hy with h1 | rfl
  · exact h y h1
  · exact hx
theorem any_of_fine {l : List P2} (h : Fine l) : l.any badLeg = false := List.any_eq_false.2 (fun x hx => by
  have := h x hx
  simp [badLeg, within]
  omega)
theorem right_of {D R W : Int} {ls ws : List P2} (hl : ls.length ≤ 80) (hm : ws.length = ls.length) (f1 : Fine ls) (f2 : Fine ws) (d : 1 ≤ D ∧ D ≤ 1048576) (r : 1 ≤ R ∧ R ≤ 1048576) (w : 1 ≤ W ∧ W ≤ 1048576) : rightB D R W ls ws = true := by
  simp [rightB, within, hl, hm, any_of_fine f1, any_of_fine f2, d, r, w]

section
variable {D R W : Int} {ls ws : List P2}
/-- with a leg that is shorter -/
theorem less_leg (he : checkE D R W ls ws = 0) (k : Nat) (hk : k < ls.length) (x : Int) (h1 : ls[k].a ≤ x) (h2 : x ≤ ls[k].b) : checkE D R W (ls.set k ⟨ls[k].a, x⟩) ws = 0 := by
  obtain ⟨hr0, _⟩ := check_ok he
  obtain ⟨hl, hm, f1, f2, d1, d2, d3, d4, d5, d6⟩ := right_parts hr0
  have g := f1 ls[k] (List.getElem_mem _)
  refine stays he (right_of (by simpa using hl) (by simpa using hm) (fine_set f1 k ⟨g.1, h1, by simp; omega⟩) f2 ⟨d1, d2⟩ ⟨d3, d4⟩ ⟨d5, d6⟩) (by simp) (Int.le_refl _) (Int.le_refl _) (fun j => ?_) (fun j h => h) (fun j => Int.le_refl _)
  rw [getD_set ls k _ j hk]
  split
  · rename_i e
    subst e
    rw [getD_eq hk]
    exact h2
  · exact Int.le_refl _
/-- with a wait that is longer at least -/
theorem less_wait (he : checkE D R W ls ws = 0) (k : Nat) (hk : k < ws.length) (x : Int) (h1 : ws[k].a ≤ x) (h2 : x ≤ ws[k].b) : checkE D R W ls (ws.set k ⟨x, ws[k].b⟩) = 0 := by
  obtain ⟨hr0, _⟩ := check_ok he
  obtain ⟨hl, hm, f1, f2, d1, d2, d3, d4, d5, d6⟩ := right_parts hr0
  have g := f2 ws[k] (List.getElem_mem _)
  refine stays he (right_of hl (by simpa using hm) f1 (fine_set f2 k ⟨by simp; omega, h2, g.2.2⟩) ⟨d1, d2⟩ ⟨d3, d4⟩ ⟨d5, d6⟩) rfl (Int.le_refl _) (Int.le_refl _) (fun j => Int.le_refl _) (fun j h => ?_) (fun j => ?_)
  · rw [getD_set ws k _ j hk]
    split
    · rename_i e
      subst e
      rw [getD_eq hk] at h
      show R ≤ x
      omega
    · exact h
  · rw [getD_set ws k _ j hk]
    split
    · rename_i e
      subst e
      rw [getD_eq hk]
      exact Int.le_refl _
    · exact Int.le_refl _
/-- with greater bounds -/
theorem less_long (he : checkE D R W ls ws = 0) {D' W' : Int} (h1 : D ≤ D') (h2 : D' ≤ 1048576) (h3 : W ≤ W') (h4 : W' ≤ 1048576) : checkE D' R W' ls ws = 0 := by
  obtain ⟨hr0, _⟩ := check_ok he
  obtain ⟨hl, hm, f1, f2, d1, d2, d3, d4, d5, d6⟩ := right_parts hr0
  exact stays he (right_of hl hm f1 f2 ⟨by omega, h2⟩ ⟨d3, d4⟩ ⟨by omega, h4⟩) rfl h1 h3 (fun j => Int.le_refl _) (fun j h => h) (fun j => Int.le_refl _)
/-- with a greater rest: permitted, and as much work is left; or not -/
theorem less_strict (he : checkE D R W ls ws = 0) {R' : Int} (h1 : R ≤ R') (h2 : R' ≤ 1048576) : (checkE D R' W ls ws = 0 ∧ spareW D R' W ls ws = spareW D R W ls ws) ∨ checkE D R' W ls ws = 29 := by
  obtain ⟨hr0, _⟩ := check_ok he
  obtain ⟨hl, hm, f1, f2, d1, d2, d3, d4, d5, d6⟩ := right_parts hr0
  have hr := right_of (D := D) (R := R') (W := W) hl hm f1 f2 ⟨d1, d2⟩ ⟨by omega, h2⟩ ⟨d5, d6⟩
  cases hf : firstLong D R' W ls ws with
  | none =>
    have : checkE D R' W ls ws = 0 := by simp [checkE, hr, hf]
    exact .inl ⟨this, by simp [spareW, this, he]⟩
  | some i => exact .inr (by simp [checkE, hr, hf])
end

theorem info_leg : (Try.prog.info? 41).map (fun i => (i.zero, i.size, i.bytes)) = some (some (.agg #[.int .i64 0, .int .i64 0]), 2, 16) := by kernel_rfl

theorem check_n (D R W : Int) (A1 A2 : Option Addr) (m1 m2 c1 c2 : Nat) (ls ws : List P2) (w : World) (h1 : Two w w.heap.size A1 ls) (h2 : Two w w.heap.size A2 ws) (e1 : ls.length = m1) (e2 : ws.length = m2) (hl1 : m1 ≤ 9223372036854775807) (hl2 : m2 ≤ 9223372036854775807) :
    Calls Try.prog 8 #[.agg #[.int .i64 D, .int .i64 R, .int .i64 W], .slice A1 m1 c1, .slice A2 m2 c2] w
      fun e w' => e = .returned (.tuple #[.int .i64 (checkI D R W ls ws), .int .i64 (checkE D R W ls ws)]) ∧ Below w.heap.size w w' := by
  subst e1 e2
  exact check_any D R W A1 A2 c1 c2 ls ws w h1 h2 hl1 hl2
theorem spare_n (D R W : Int) (A1 A2 : Option Addr) (m1 m2 c1 c2 : Nat) (ls ws : List P2) (w : World) (h1 : Two w w.heap.size A1 ls) (h2 : Two w w.heap.size A2 ws) (e1 : ls.length = m1) (e2 : ws.length = m2) (hl1 : m1 ≤ 9223372036854775807) (hl2 : m2 ≤ 9223372036854775807) :
    Calls Try.prog 10 #[.agg #[.int .i64 D, .int .i64 R, .int .i64 W], .slice A1 m1 c1, .slice A2 m2 c2] w
      fun e w' => e = .returned (.tuple #[.int .i64 (spareD D R W ls ws), .int .i64 (spareW D R W ls ws), .int .i64 (checkE D R W ls ws)]) ∧ Below w.heap.size w w' := by
  subst e1 e2
  exact spare_any D R W A1 A2 c1 c2 ls ws w h1 h2 hl1 hl2

set_option maxHeartbeats 16000000 in
set_option maxRecDepth 100000 in
theorem wless_any (D R W : Int) (A1 A2 : Option Addr) (c1 c2 : Nat) (ls ws : List P2) (x y : Int) (w : World) (h1 : Two w w.heap.size A1 ls) (h2 : Two w w.heap.size A2 ws) (hl1 : ls.length ≤ 9223372036854775807) (hl2 : ws.length ≤ 9223372036854775807)
    (x0 : 0 ≤ x) (x1 : x ≤ 255) (y0 : 0 ≤ y) (y1 : y ≤ 65535) :
    Calls Try.prog 6 #[.agg #[.int .i64 D, .int .i64 R, .int .i64 W], .slice A1 ls.length c1, .slice A2 ws.length c2, .int .u8 x, .int .u16 y] w fun e w' => e = .returned (.bool true) ∧ Below w.heap.size w w' := by
  obtain ⟨i0, hi, hz0, hz1, hz2⟩ := info_parts info_leg
  go_enter Try.func6, Try.ntmps6
  go_wp2_with fail
  refine (small_any _).mono ?_
  rintro e w1 ⟨rfl, hx⟩
  rw [size_alloc] at hx
  obtain ⟨q0, q1, q2, hb1, hs1⟩ := box_cells hx
  go_wp2_with fail
  refine (right_any _ _ _ _ _ _ _ _ _ _ (two_ext h1 hb1) (two_ext h2 hb1) hl1 hl2).mono ?_
  rintro e w2 ⟨rfl, hx2⟩
  have t0 := ((bcell hx2).1 _ 0 (by omega)).trans q0
  have t1 := ((bcell hx2).1 _ 1 (by omega)).trans q1
  have t2 := ((bcell hx2).1 _ 2 (by omega)).trans q2
  have hb2 := hb1.trans (hx2.mono hb1.size)
  have hs2 := hx2.size
  cases hR : rightB D R W ls ws
  · have HR := Lib.hid hR
    clear hR
    go_wp2_with fail
    go_ret
    exact ⟨rfl, hb2⟩
  have HR := Lib.hid hR
  clear hR
  by_cases hn : ls.length ≤ 40
  rotate_left
  · go_wp2_with fail
    go_ret
    exact ⟨rfl, hb2⟩
  by_cases hz : 1 ≤ ls.length
  rotate_left
  · obtain rfl : ls = [] := List.eq_nil_of_length_eq_zero (by omega)
    go_wp2_with fail
    go_ret
    exact ⟨rfl, hb2⟩
  have hnil : ls ≠ [] := fun e => by rw [e] at hz; simp at hz
  have hzb : ((ls.length : Int) == 0) = false := beq_eq_false_iff_ne.2 (by omega)
  go_wp2_with fail
  refine (check_any _ _ _ _ _ _ _ _ _ _ (two_ext h1 hb2) (two_ext h2 hb2) hl1 hl2).mono ?_
  rintro e w3 ⟨rfl, hx3⟩
  have u0 := ((bcell hx3).1 _ 0 (by omega)).trans t0
  have u1 := ((bcell hx3).1 _ 1 (by omega)).trans t1
  have u2 := ((bcell hx3).1 _ 2 (by omega)).trans t2
  have hb3 := hb2.trans (hx3.mono hb2.size)
  have hs3 := hx3.size
  go_wp2_with fail
  refine (spare_any _ _ _ _ _ _ _ _ _ _ (two_ext h1 hb3) (two_ext h2 hb3) hl1 hl2).mono ?_
  rintro e w4 ⟨rfl, hx4⟩
  have u0 := ((bcell hx4).1 _ 0 (by omega)).trans u0
  have u1 := ((bcell hx4).1 _ 1 (by omega)).trans u1
  have u2 := ((bcell hx4).1 _ 2 (by omega)).trans u2
  have hb4 := hb3.trans (hx4.mono hb3.size)
  have hs4 := hx4.size
  by_cases hE : checkE D R W ls ws = 0
  rotate_left
  · have hEb : (checkE D R W ls ws != 0) = true := by simpa using hE
    go_wp2_with fail
    go_ret
    exact ⟨rfl, hb4⟩
  rw [hE]
  have HE := Lib.hid hE
  clear hE
  obtain ⟨kk, hkk⟩ : ∃ kk : Nat, x % (ls.length : Int) = (kk : Int) := ⟨(x % (ls.length : Int)).toNat, by
    have := Int.emod_nonneg x (show (ls.length : Int) ≠ 0 by omega)
    omega⟩
  have hkl : kk < ls.length := by
    have := Int.emod_lt_of_pos x (show (0 : Int) < (ls.length : Int) by omega)
    omega
  have HM := Lib.hid (right_parts HR.out).2.1
  have hkw : kk < ws.length := by have := HM.out; omega
  have hw40 : ws.length ≤ 40 := by have := HM.out; omega
  have f1 := (right_parts HR.out).2.2.1 ls[kk] (List.getElem_mem _)
  have f2 := (right_parts HR.out).2.2.2.1 ws[kk] (List.getElem_mem _)
  obtain ⟨d1, d2, d3, d4, d5, d6⟩ := (right_parts HR.out).2.2.2.2
  clear t0 t1 t2 q0 q1 q2 hx hx2 hx3 hx4
  go_wp2_with (at_builtin; refine wpList_app rfl _ _ 24 rfl w4.heap.size 41 i0 _ 2 16 Try.underlying24 hi hz0 hz1 hz2 rfl (by decide) _ _ 0 [] rfl (World.ownsRow_lit w4 #[] 0 (Nat.le_refl _) (by decide) rfl) w4.heap.size A1 ls.length c1 (P2.cells ls) rfl (Shows.alloc (two_ext h1 hb4) (Nat.le_refl _) _) (P2.oneCells ls) (by simp) (by omega) (by omega) ?_)
  intro v1 w5 own1 hb5' _
  have hb5 : Below w4.heap.size w4 w5 := ((Below.refl _ _).alloc (Nat.le_refl _) _).trans hb5'
  clear hb5'
  have u0 := ((bcell hb5).1 _ 0 (by omega)).trans u0
  have u1 := ((bcell hb5).1 _ 1 (by omega)).trans u1
  have u2 := ((bcell hb5).1 _ 2 (by omega)).trans u2
  have hbA := hb4.trans (hb5.mono hb4.size)
  have hsA := hb5.size
  go_wp2_with fail
  obtain ⟨g1, cap1, rfl, hg1, hg1', hcap1⟩ := own_form own1 hz
  have a0 := (own1.cellAt (kk * 2) (by omega)).trans (P2.get ls kk hkl).1
  have a1 := (own1.cellAt (kk * 2 + 1) (by omega)).trans (P2.get ls kk hkl).2
  have af := own1.frozenAt (kk * 2 + 1)
  have i1 : (0 : Int) ≤ (kk : Int) := by omega
  have i2 : (kk : Int) < (ls.length : Int) := by omega
  obtain ⟨NH, hNH⟩ : ∃ v : Int, (if ls[kk].a < ls[kk].b - y then ls[kk].b - y else ls[kk].a) = v := ⟨_, rfl⟩
  have n1 : ls[kk].a ≤ NH ∧ NH ≤ ls[kk].b := by rw [← hNH]; split <;> omega
  refine wp_region_mix [(0, true), (1, true), (2, true), (3, true), (4, true), (5, true), (6, true), (7, true), (8, true), (9, true), (10, true), (11, true), (12, true), (13, true), (14, true), (15, true)] [16, 17, 18] (SB w.heap.size w w5.heap.size none _) (by kernel_rfl) (by kernel_rfl) (by kernel_rfl) (by kernel_rfl) (by decide) (SB.start hbA (by omega)) (fun hS => ?_)
  simp only [planned, List.filterMap_cons, List.filterMap_nil, List.getElem?_cons_zero, List.getElem?_cons_succ, Option.map_some]
  repeat (first
    | (refine mix_skip (by rfl) ?_; try simp only [Act.put, List.setIfInBounds_toArray, List.set_cons_zero, List.set_cons_succ])
    | (refine mix_pass hS (by rfl) ?_; try simp only [Act.put, List.setIfInBounds_toArray, List.set_cons_zero, List.set_cons_succ])
    | (refine mix_pure (by rfl) (by rfl) (fun K hK => ?_); go_big_quiet_op; refine hK _ ?_; clear hK K)
    | (refine mix_take (by rfl) ?_
       apply Exists.intro
       refine ⟨?_, ?_⟩
       · intro w' hSw
         have hSc := hSw.cell
         clear hSw
         go_simp
         try with_reducible rfl
       try simp only [Act.put, List.setIfInBounds_toArray, List.set_cons_zero, List.set_cons_succ])
    | (refine mix_move (by rfl) (fun K hK => ?_)
       go_simp
       try dsimp only
       first
         | refine hK.out _ _ (hS.step hx (by omega)) ?_
         | refine hK.out _ _ hS ?_
         | refine hK.out _ _ (hS.alloc _ (by omega)) ?_
         | refine hK.out _ _ (hS.grown hg hx) ?_
       clear hK K hS
       intro hS
       try simp only [Act.put, List.setIfInBounds_toArray, List.set_cons_zero, List.set_cons_succ])
    | fail)
  refine mix_nil ?_
  simp only [tailed, List.filterMap_cons, List.filterMap_nil, List.getElem?_cons_zero, List.getElem?_cons_succ]
  go_wp2_with fail
  refine NoPanic.normal ?_
  obtain ⟨own1', hgr1⟩ := own1.stored (kk * 2 + 1) (.int .i64 NH)
  rw [P2.set_b ls kk hkl] at own1'
  clear own1 hNH hS a0 a1 af
  obtain ⟨w6, hw6⟩ : ∃ w6 : World, (w5.setCell ⟨g1, kk * 2 + 1, none⟩ (.int .i64 NH)).drew = w6 := ⟨_, rfl⟩
  have own1 : w6.ownsRow w4.heap.size 41 2 (.slice (some ⟨g1, 0, none⟩) ls.length cap1) ls.length (P2.cells (ls.set kk ⟨ls[kk].a, NH⟩)) := by rw [← hw6]; exact own1'.drew
  have hb6 : Below w4.heap.size w5 w6 := by rw [← hw6]; exact ((Below.refl _ _).setCell hg1 _).drew
  rw [hw6]
  clear own1' hgr1 hw6
  have hg1x : w.heap.size < g1 := by omega
  have u0 := ((bcell hb6).1 _ 0 (by omega)).trans u0
  have u1 := ((bcell hb6).1 _ 1 (by omega)).trans u1
  have u2 := ((bcell hb6).1 _ 2 (by omega)).trans u2
  have hbB := hbA.trans (hb6.mono (by omega))
  have hsB := hb6.size
  go_wp2_with (at_builtin; refine wpList_app rfl _ _ 24 rfl w6.heap.size 41 i0 _ 2 16 Try.underlying24 hi hz0 hz1 hz2 rfl (by decide) _ _ 0 [] rfl (World.ownsRow_lit w6 #[] 0 (Nat.le_refl _) (by decide) rfl) w6.heap.size A2 ws.length c2 (P2.cells ws) rfl (Shows.alloc (two_ext h2 hbB) (Nat.le_refl _) _) (P2.oneCells ws) (by simp) (by omega) (by omega) ?_)
  intro v2 w7 own2 hb7' _
  have hb7 : Below w6.heap.size w6 w7 := ((Below.refl _ _).alloc (Nat.le_refl _) _).trans hb7'
  clear hb7'
  have own1 := own_below own1 hb7
  have u0 := ((bcell hb7).1 _ 0 (by omega)).trans u0
  have u1 := ((bcell hb7).1 _ 1 (by omega)).trans u1
  have u2 := ((bcell hb7).1 _ 2 (by omega)).trans u2
  have hbC := hbB.trans (hb7.mono (by omega))
  have hsC := hb7.size
  have hzw : 1 ≤ ws.length := by omega
  obtain ⟨g2, cap2, rfl, hg2, hg2', hcap2⟩ := own_form own2 hzw
  have b0 := (own2.cellAt (kk * 2) (by omega)).trans (P2.get ws kk hkw).1
  have b1 := (own2.cellAt (kk * 2 + 1) (by omega)).trans (P2.get ws kk hkw).2
  have bf := own2.frozenAt (kk * 2)
  have i3 : (kk : Int) < (ws.length : Int) := by omega
  obtain ⟨NL, hNL⟩ : ∃ v : Int, (if ws[kk].a + y < ws[kk].b then ws[kk].a + y else ws[kk].b) = v := ⟨_, rfl⟩
  have n2 : ws[kk].a ≤ NL ∧ NL ≤ ws[kk].b := by rw [← hNL]; split <;> omega
  go_wp2_with fail
  refine wp_region_mix [(0, true), (1, true), (2, true), (3, true), (4, true), (5, true), (6, true), (7, true), (8, true), (9, true), (10, true), (11, true), (12, true), (13, true), (14, true), (15, true)] [16, 17, 18] (SB w.heap.size w w7.heap.size none _) (by kernel_rfl) (by kernel_rfl) (by kernel_rfl) (by kernel_rfl) (by decide) (SB.start hbC (by omega)) (fun hS => ?_)
  simp only [planned, List.filterMap_cons, List.filterMap_nil, List.getElem?_cons_zero, List.getElem?_cons_succ, Option.map_some]
  repeat (first
    | (refine mix_skip (by rfl) ?_; try simp only [Act.put, List.setIfInBounds_toArray, List.set_cons_zero, List.set_cons_succ])
    | (refine mix_pass hS (by rfl) ?_; try simp only [Act.put, List.setIfInBounds_toArray, List.set_cons_zero, List.set_cons_succ])
    | (refine mix_pure (by rfl) (by rfl) (fun K hK => ?_); go_big_quiet_op; refine hK _ ?_; clear hK K)
    | (refine mix_take (by rfl) ?_
       apply Exists.intro
       refine ⟨?_, ?_⟩
       · intro w' hSw
         have hSc := hSw.cell
         clear hSw
         go_simp
         try with_reducible rfl
       try simp only [Act.put, List.setIfInBounds_toArray, List.set_cons_zero, List.set_cons_succ])
    | (refine mix_move (by rfl) (fun K hK => ?_)
       go_simp
       try dsimp only
       first
         | refine hK.out _ _ (hS.step hx (by omega)) ?_
         | refine hK.out _ _ hS ?_
         | refine hK.out _ _ (hS.alloc _ (by omega)) ?_
         | refine hK.out _ _ (hS.grown hg hx) ?_
       clear hK K hS
       intro hS
       try simp only [Act.put, List.setIfInBounds_toArray, List.set_cons_zero, List.set_cons_succ])
    | fail)
  refine mix_nil ?_
  simp only [tailed, List.filterMap_cons, List.filterMap_nil, List.getElem?_cons_zero, List.getElem?_cons_succ]
  go_wp2_with fail
  refine NoPanic.normal ?_
  obtain ⟨own2', hgr2⟩ := own2.stored (kk * 2) (.int .i64 NL)
  rw [P2.set_a ws kk hkw] at own2'
  obtain ⟨w8, hw8⟩ : ∃ w8 : World, (w7.setCell ⟨g2, kk * 2, none⟩ (.int .i64 NL)).drew = w8 := ⟨_, rfl⟩
  have own2 : w8.ownsRow w6.heap.size 41 2 (.slice (some ⟨g2, 0, none⟩) ws.length cap2) ws.length (P2.cells (ws.set kk ⟨NL, ws[kk].b⟩)) := by rw [← hw8]; exact own2'.drew
  have hb8 : Below w6.heap.size w7 w8 := by rw [← hw8]; exact ((Below.refl _ _).setCell hg2 _).drew
  have own1 : w8.ownsRow w4.heap.size 41 2 (.slice (some ⟨g1, 0, none⟩) ls.length cap1) ls.length (P2.cells (ls.set kk ⟨ls[kk].a, NH⟩)) :=
    own1.kept (row := some g2) (by rw [← hw8]; exact ⟨hgr2.os, hgr2.tape, hgr2.output, hgr2.size, hgr2.block⟩) (.inr (by simp [Value.ownBlock]; omega))
  rw [hw8]
  clear own2' hgr2 hw8 hNL hS b0 b1 bf
  have u0 := ((bcell hb8).1 _ 0 (by omega)).trans u0
  have u1 := ((bcell hb8).1 _ 1 (by omega)).trans u1
  have u2 := ((bcell hb8).1 _ 2 (by omega)).trans u2
  have hbD := hbC.trans (hb8.mono (by omega))
  have hsD := hb8.size
  have hs8 : w.heap.size < w8.heap.size := by omega
  obtain ⟨ND, hND⟩ : ∃ v : Int, (if 1048576 < D + y then 1048576 else D + y) = v := ⟨_, rfl⟩
  obtain ⟨NR, hNR⟩ : ∃ v : Int, (if 1048576 < R + y then 1048576 else R + y) = v := ⟨_, rfl⟩
  obtain ⟨NW, hNW⟩ : ∃ v : Int, (if 1048576 < W + y then 1048576 else W + y) = v := ⟨_, rfl⟩
  have n3 : D ≤ ND ∧ ND ≤ 1048576 := by rw [← hND]; split <;> omega
  have n4 : R ≤ NR ∧ NR ≤ 1048576 := by rw [← hNR]; split <;> omega
  have n5 : W ≤ NW ∧ NW ≤ 1048576 := by rw [← hNW]; split <;> omega
  go_wp2_with fail
  clear hND hNR hNW
  obtain ⟨w9, hw9⟩ : ∃ w9 : World, (w8.alloc (shiftBox ND R NW)).alloc (shiftBox D NR W) = w9 := ⟨_, rfl⟩
  have hb9 : Below w8.heap.size w8 w9 := by rw [← hw9]; exact ((Below.refl _ _).alloc (Nat.le_refl _) _).alloc (by simp) _
  have hs9 : w9.heap.size = w8.heap.size + 2 := by rw [← hw9]; simp
  have l0 : w9.cell? ⟨w8.heap.size, 0, none⟩ = some (.int .i64 ND) := by rw [← hw9, World.cell?_alloc_past _ _ _ (by simp)]; exact World.cell?_alloc_at _ _ _ _ rfl
  have l1 : w9.cell? ⟨w8.heap.size, 1, none⟩ = some (.int .i64 R) := by rw [← hw9, World.cell?_alloc_past _ _ _ (by simp)]; exact World.cell?_alloc_at _ _ _ _ rfl
  have l2 : w9.cell? ⟨w8.heap.size, 2, none⟩ = some (.int .i64 NW) := by rw [← hw9, World.cell?_alloc_past _ _ _ (by simp)]; exact World.cell?_alloc_at _ _ _ _ rfl
  have r0 : w9.cell? ⟨w8.heap.size + 1, 0, none⟩ = some (.int .i64 D) := by rw [← hw9]; exact World.cell?_alloc_at _ _ _ _ (by simp)
  have r1 : w9.cell? ⟨w8.heap.size + 1, 1, none⟩ = some (.int .i64 NR) := by rw [← hw9]; exact World.cell?_alloc_at _ _ _ _ (by simp)
  have r2 : w9.cell? ⟨w8.heap.size + 1, 2, none⟩ = some (.int .i64 W) := by rw [← hw9]; exact World.cell?_alloc_at _ _ _ _ (by simp)
  have u0 := ((bcell hb9).1 _ 0 hs8).trans u0
  have u1 := ((bcell hb9).1 _ 1 hs8).trans u1
  have u2 := ((bcell hb9).1 _ 2 hs8).trans u2
  have hbE := hbD.trans (hb9.mono (by omega))
  have own1 := own_below own1 hb9
  have own2 := own_below own2 hb9
  obtain ⟨A3, c3, e3, sh3⟩ := shows_of_own own1
  obtain ⟨A4, c4, e4, sh4⟩ := shows_of_own own2
  simp only [Value.slice.injEq, true_and] at e3 e4
  obtain ⟨rfl, rfl⟩ := e3
  obtain ⟨rfl, rfl⟩ := e4
  have hT3 : Two w9 w9.heap.size (some ⟨g1, 0, none⟩) (ls.set kk ⟨ls[kk].a, NH⟩) := by unfold Two; rw [List.length_set]; exact sh3
  have hT4 : Two w9 w9.heap.size (some ⟨g2, 0, none⟩) (ws.set kk ⟨NL, ws[kk].b⟩) := by unfold Two; rw [List.length_set]; exact sh4
  have K1 := Lib.hid (less_leg HE.out kk hkl NH n1.1 n1.2)
  have K2 := Lib.hid (less_wait HE.out kk hkw NL n2.1 n2.2)
  have K3 := Lib.hid (less_long HE.out n3.1 n3.2 n5.1 n5.2)
  have K4 := less_strict HE.out n4.1 n4.2
  have hs0 : w.heap.size < w9.heap.size := by omega
  have hsl : w8.heap.size < w9.heap.size := by omega
  have hsr : w8.heap.size + 1 < w9.heap.size := by omega
  rw [hw9]
  clear own1 own2 sh3 sh4 hw9 hb9 hb8 hb7 hb6 hb5 hs9
  refine (check_n _ _ _ _ _ _ _ _ _ _ _ _ hT3 (two_ext h2 hbE) (by simp) rfl hl1 hl2).mono ?_
  rw [K1.out]
  rintro e wa ⟨rfl, hxa⟩
  have u0 := ((bcell hxa).1 _ 0 hs0).trans u0
  have u1 := ((bcell hxa).1 _ 1 hs0).trans u1
  have u2 := ((bcell hxa).1 _ 2 hs0).trans u2
  have l0 := ((bcell hxa).1 _ 0 hsl).trans l0
  have l1 := ((bcell hxa).1 _ 1 hsl).trans l1
  have l2 := ((bcell hxa).1 _ 2 hsl).trans l2
  have r0 := ((bcell hxa).1 _ 0 hsr).trans r0
  have r1 := ((bcell hxa).1 _ 1 hsr).trans r1
  have r2 := ((bcell hxa).1 _ 2 hsr).trans r2
  have hbF := hbE.trans (hxa.mono hbE.size)
  have hsF := hxa.size
  go_wp2_with fail
  refine (check_n _ _ _ _ _ _ _ _ _ _ _ _ (two_ext h1 hbF) (two_ext hT4 hxa) rfl (by simp) hl1 hl2).mono ?_
  rw [K2.out]
  rintro e wb ⟨rfl, hxb⟩
  have l0 := ((bcell hxb).1 _ 0 (by omega)).trans l0
  have l1 := ((bcell hxb).1 _ 1 (by omega)).trans l1
  have l2 := ((bcell hxb).1 _ 2 (by omega)).trans l2
  have r0 := ((bcell hxb).1 _ 0 (by omega)).trans r0
  have r1 := ((bcell hxb).1 _ 1 (by omega)).trans r1
  have r2 := ((bcell hxb).1 _ 2 (by omega)).trans r2
  have hbG := hbF.trans (hxb.mono hbF.size)
  have hsG := hxb.size
  go_wp2_with fail
  refine (check_any _ _ _ _ _ _ _ _ _ _ (two_ext h1 hbG) (two_ext h2 hbG) hl1 hl2).mono ?_
  rw [K3.out]
  rintro e wc ⟨rfl, hxc⟩
  have r0 := ((bcell hxc).1 _ 0 (by omega)).trans r0
  have r1 := ((bcell hxc).1 _ 1 (by omega)).trans r1
  have r2 := ((bcell hxc).1 _ 2 (by omega)).trans r2
  have hbH := hbG.trans (hxc.mono hbG.size)
  have hsH := hxc.size
  go_wp2_with fail
  refine (check_any _ _ _ _ _ _ _ _ _ _ (two_ext h1 hbH) (two_ext h2 hbH) hl1 hl2).mono ?_
  rintro e wd ⟨rfl, hxd⟩
  have r0 := ((bcell hxd).1 _ 0 (by omega)).trans r0
  have r1 := ((bcell hxd).1 _ 1 (by omega)).trans r1
  have r2 := ((bcell hxd).1 _ 2 (by omega)).trans r2
  have hbI := hbH.trans (hxd.mono hbH.size)
  go_wp2_with fail
  refine (spare_any _ _ _ _ _ _ _ _ _ _ (two_ext h1 hbI) (two_ext h2 hbI) hl1 hl2).mono ?_
  rintro e we ⟨rfl, hxe⟩
  have hbJ := hbI.trans (hxe.mono hbI.size)
  rcases K4 with ⟨k1, k2⟩ | k1
  · rw [k1, k2]
    clear k1 k2
    go_wp2_with fail
    go_ret
    exact ⟨by simp, hbJ⟩
  · rw [k1]
    clear k1
    go_wp2_with fail
    go_ret
    exact ⟨by simp, hbJ⟩

theorem workLess_contract (H : Type) (enc : TypeId × Value → H) (W : World) (base : Nat) (args : Array Value) (ds gs : List (DataW H)) (before : List MemPlace)
    (hval : ∀ (j : Nat) t v, Try.f6.params[j]? = some t → args[j]? = some v → Value.okWide Try.prog W .any base t v)
    (hW : DataW.Whole enc Try.prog Try.f6.params.toList Rows.workLessSpec.vars false W args.toList ds gs before) :
    Calls Try.prog 6 args W fun e W' => ∃ v, e = .returned v ∧ Rows.workLessSpec.post enc Try.prog Try.f6 false true false false W args v W' := by
  have hW' := hW
  obtain ⟨p, q, hA0, hV, rfl, hfz, hnd⟩ := hW
  have hA : DataW.TrodAll enc Try.prog W 0 (fun _ => true) true Try.f6.params.toList args.toList ds p := hA0
  have hlt := hA.lt
  rw [Try.params6] at hA hval
  obtain ⟨v0, vs0, d0, ds0, p0, q0, hargs0, rfl, rfl, h0, rr0⟩ := trodAll_cons hA
  obtain ⟨v1, vs1, d1, ds1, p1, q1, rfl, rfl, rfl, h1, rr1⟩ := trodAll_cons rr0
  obtain ⟨v2, vs2, d2, ds2, p2, q2, rfl, rfl, rfl, h2, rr2⟩ := trodAll_cons rr1
  obtain ⟨v3, vs3, d3, ds3, p3, q3, rfl, rfl, rfl, h3, rr3⟩ := trodAll_cons rr2
  obtain ⟨v4, vs4, d4, ds4, p4, q4, rfl, rfl, rfl, h4, rr4⟩ := trodAll_cons rr3
  obtain ⟨rfl, rfl, rfl⟩ := trodAll_nil rr4
  obtain rfl : args = #[v0, v1, v2, v3, v4] := by cases args; simp_all
  obtain ⟨rfl, rfl⟩ := trodVars_none hV
  obtain ⟨x0a, x0b, x0c, y0a, y0b, y0c, n0, rfl, rfl, rfl, g0a, g0b, g0c⟩ := open_agg3 Try.underlying23 (by kernel_rfl) (by kernel_rfl) (hval 0 23 v0 rfl rfl) h0
  obtain ⟨D, e0a, hwf0a⟩ := DataW.trod_int Try.underlying3 g0a
  obtain ⟨R, e0b, hwf0b⟩ := DataW.trod_int Try.underlying3 g0b
  obtain ⟨S, e0c, hwf0c⟩ := DataW.trod_int Try.underlying3 g0c
  simp only [List.cons.injEq, and_true] at e0a e0b e0c
  subst e0a e0b e0c
  obtain ⟨A1, nn1, c1, rfl⟩ := okWide_slice Try.underlying24 (hval 1 24 v1 rfl rfl)
  obtain ⟨fu1, ff1⟩ := h1
  obtain ⟨ls, rfl, t1, b1, m1⟩ := open_two (B := W.heap.size) Try.underlying24 Try.underlying41 rfl rfl Try.underlying3 (by kernel_rfl) rfl rfl (by kernel_rfl) (fun y (hy : y ∈ p1) => hlt y (by simp [hy])) ff1
  unfold maxLen at m1
  obtain ⟨A2, nn2, c2, rfl⟩ := okWide_slice Try.underlying24 (hval 2 24 v2 rfl rfl)
  obtain ⟨fu2, ff2⟩ := h2
  obtain ⟨ws, rfl, t2, b2, m2⟩ := open_two (B := W.heap.size) Try.underlying24 Try.underlying41 rfl rfl Try.underlying3 (by kernel_rfl) rfl rfl (by kernel_rfl) (fun y (hy : y ∈ p2) => hlt y (by simp [hy])) ff2
  unfold maxLen at m2
  obtain ⟨x, rfl, rfl, rfl, hwf3⟩ := open_int Try.underlying5 (hval 3 5 v3 rfl rfl) h3
  have r3 : 0 ≤ x ∧ x ≤ 255 := by simpa [Lit.wf, IntKind.min, IntKind.max, IntKind.signed, IntKind.bits] using hwf3
  obtain ⟨y, rfl, rfl, rfl, hwf4⟩ := open_int Try.underlying39 (hval 4 39 v4 rfl rfl) h4
  have r4 : 0 ≤ y ∧ y ≤ 65535 := by simpa [Lit.wf, IntKind.min, IntKind.max, IntKind.signed, IntKind.bits] using hwf4
  refine (wless_any D R S A1 A2 c1 c2 ls ws x y W t1 t2 (by omega) (by omega) r3.1 r3.2 r4.1 r4.2).mono fun e W' ⟨he, hb⟩ => ?_
  subst he
  exact ⟨_, rfl, law_post laidOut Try.underlying4 rfl (by kernel_rfl) rfl hW' rfl hb⟩
set_option maxRecDepth 100000 in
theorem workLess_lifted (os : Os) (started : os.Started) (H : Type) (enc : TypeId × Value → H) :
    ReturnsInHanded {} Try.checked os 6 .any (Rows.workLessSpec.pre6 enc Try.prog Try.f6 Rows.workLessRow.domain false) (Rows.workLessSpec.post enc Try.prog Try.f6 false true false false) := by
  refine returnsInHanded_of_change (C := Try.checked) own started (by kernel_rfl) Try.func6
    (ChangeSpec.witness6 (enc := enc) (C := Try.checked) false ⟨#[], #[.agg #[.int .i64 0, .int .i64 0, .int .i64 0], .slice none 0 0, .slice none 0 0, .int .u8 0, .int .u16 0], []⟩ 8 (by kernel_rfl) (by kernel_rfl) (by kernel_rfl) (by kernel_rfl)) ?_
  intro W base args ds gs before hval hW _ _
  exact workLess_contract H enc W base args ds gs before hval hW
theorem workLess_holds : Rows.WorkLessSaid :=
  OpenClaim.holds_of_wide 6 Try.f6 rfl rfl rfl rfl rfl rfl rfl ⟨rfl, rfl, rfl, rfl, rfl⟩ rfl rfl rfl rfl rfl (by kernel_rfl) Try.func6 (by kernel_rfl)
    (of_decide_eq_true (by kernel_rfl)) (by unfold Func.isWrapper; first | (rw [if_pos (by decide +kernel)]; kernel_rfl) | (rw [if_neg (by decide +kernel)]; exact ⟨rfl, rfl⟩))
    (fun os started H enc _ => workLess_lifted os started H enc)
end Go.Proofs.Ythjedajkebehbaa
