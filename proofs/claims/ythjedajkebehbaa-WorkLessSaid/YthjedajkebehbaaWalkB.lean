/-
  The walks of work.Check and work.Spare: what each computes. Conditions: none but the slices' sizes.
-/
import Derived.Test.YthjedajkebehbaaWalkA
namespace Go.Proofs.Ythjedajkebehbaa
open Go.RowKit

/-- which leg, and which error -/
def checkI (D R W : Int) (ls ws : List P2) : Int := if rightB D R W ls ws then (match firstLong D R W ls ws with | none => 0 | some i => i) else 0
def checkE (D R W : Int) (ls ws : List P2) : Int := if rightB D R W ls ws then (match firstLong D R W ls ws with | none => 0 | some _ => 29) else 1

theorem right_parts {D R W : Int} {ls ws : List P2} (h : rightB D R W ls ws = true) :
    ls.length ≤ 80 ∧ ws.length = ls.length ∧ Fine ls ∧ Fine ws ∧ 1 ≤ D ∧ D ≤ 1048576 ∧ 1 ≤ R ∧ R ≤ 1048576 ∧ 1 ≤ W ∧ W ≤ 1048576 := by
  simp only [rightB, Bool.and_eq_true, decide_eq_true_eq, Bool.not_eq_true', within] at h
  obtain ⟨⟨⟨⟨⟨⟨⟨a1, a2⟩, a3, a4⟩, a5, a6⟩, a7⟩, a8⟩, a9⟩, a10⟩ := h
  exact ⟨a7, a8, fine_of_any a9, fine_of_any a10, a1, a2, a3, a4, a5, a6⟩

abbrev shiftBox (D R W : Int) : Obj := .cells #[.int .i64 D, .int .i64 R, .int .i64 W] 23
theorem box_cells {w w' : World} {D R W : Int} (hb : Below (w.heap.size + 1) (w.alloc (shiftBox D R W)) w') :
    w'.cell? ⟨w.heap.size, 0, none⟩ = some (.int .i64 D) ∧ w'.cell? ⟨w.heap.size, 1, none⟩ = some (.int .i64 R) ∧ w'.cell? ⟨w.heap.size, 2, none⟩ = some (.int .i64 W) ∧ Below w.heap.size w w' ∧ w.heap.size < w'.heap.size := by
  refine ⟨?_, ?_, ?_, ((Below.refl _ _).alloc (Nat.le_refl _) _).trans (hb.mono (by omega)), by have := hb.size; simp at this; omega⟩
  all_goals
    rw [(bcell hb).1 _ _ (by omega)]
    exact World.cell?_alloc_at _ _ _ _ rfl

set_option maxHeartbeats 1000000 in
theorem check_any (D R W : Int) (A1 A2 : Option Addr) (c1 c2 : Nat) (ls ws : List P2) (w : World) (h1 : Two w w.heap.size A1 ls) (h2 : Two w w.heap.size A2 ws) (hl1 : ls.length ≤ 9223372036854775807) (hl2 : ws.length ≤ 9223372036854775807) :
    Calls Try.prog 8 #[.agg #[.int .i64 D, .int .i64 R, .int .i64 W], .slice A1 ls.length c1, .slice A2 ws.length c2] w
      fun e w' => e = .returned (.tuple #[.int .i64 (checkI D R W ls ws), .int .i64 (checkE D R W ls ws)]) ∧ Below w.heap.size w w' := by
  have hbx : Below w.heap.size w (w.alloc (shiftBox D R W)) := (Below.refl _ _).alloc (Nat.le_refl _) _
  go_enter Try.func8, Try.ntmps8
  go_wp2_with fail
  refine (right_any _ _ _ _ _ _ _ _ _ _ (two_ext h1 hbx) (two_ext h2 hbx) hl1 hl2).mono ?_
  rintro e w1 ⟨rfl, hx⟩
  rw [size_alloc] at hx
  obtain ⟨q0, q1, q2, hb1, hs1⟩ := box_cells hx
  cases hR : rightB D R W ls ws
  · have H := Lib.hid hR
    clear hR
    go_wp2_with fail
    go_ret2
    exact ⟨by simp [checkI, checkE, H.out], hb1⟩
  · obtain ⟨hn, hm, f1, f2, _⟩ := right_parts hR
    have H := Lib.hid hR
    have HM := Lib.hid hm
    clear hR hm
    go_wp2_with fail
    refine (walk_any _ _ _ _ _ _ _ _ _ _ (two_ext h1 hb1) (two_ext h2 hb1) hn HM.out f1 f2).mono ?_
    rintro e w2 ⟨rfl, hx2⟩
    have hb2 : Below w.heap.size w w2 := hb1.trans (hx2.mono hb1.size)
    cases hf : firstLong D R W ls ws
    · have hi : walkI D R W ls ws = -1 := by simp [walkI, hf]
      rw [hi]
      have HF := Lib.hid hf
      clear hf hi
      go_wp2_with fail
      go_ret2
      exact ⟨by simp [checkI, checkE, H.out, HF.out], hb2⟩
    · rename_i i
      have hi : walkI D R W ls ws = i := by simp [walkI, hf]
      rw [hi]
      have HF := Lib.hid hf
      clear hf hi
      go_wp2_with fail
      go_ret2
      exact ⟨by simp [checkI, checkE, H.out, HF.out], hb2⟩

/-- what may still be driven, and worked -/
def spareD (D R W : Int) (ls ws : List P2) : Int := if checkE D R W ls ws = 0 then D - dAt R ls ws ls.length else 0
def spareW (D R W : Int) (ls ws : List P2) : Int := if checkE D R W ls ws = 0 then W - wAt ls ws ls.length else 0

theorem check_ok {D R W : Int} {ls ws : List P2} (h : checkE D R W ls ws = 0) : rightB D R W ls ws = true ∧ firstLong D R W ls ws = none := by
  unfold checkE at h
  cases hr : rightB D R W ls ws <;> rw [hr] at h
  · simp at h
  · cases hf : firstLong D R W ls ws <;> rw [hf] at h
    · exact ⟨rfl, rfl⟩
    · simp at h

set_option maxHeartbeats 1000000 in
theorem spare_any (D R W : Int) (A1 A2 : Option Addr) (c1 c2 : Nat) (ls ws : List P2) (w : World) (h1 : Two w w.heap.size A1 ls) (h2 : Two w w.heap.size A2 ws) (hl1 : ls.length ≤ 9223372036854775807) (hl2 : ws.length ≤ 9223372036854775807) :
    Calls Try.prog 10 #[.agg #[.int .i64 D, .int .i64 R, .int .i64 W], .slice A1 ls.length c1, .slice A2 ws.length c2] w
      fun e w' => e = .returned (.tuple #[.int .i64 (spareD D R W ls ws), .int .i64 (spareW D R W ls ws), .int .i64 (checkE D R W ls ws)]) ∧ Below w.heap.size w w' := by
  have hbx : Below w.heap.size w (w.alloc (shiftBox D R W)) := (Below.refl _ _).alloc (Nat.le_refl _) _
  go_enter Try.func10, Try.ntmps10
  go_wp2_with fail
  refine (check_any _ _ _ _ _ _ _ _ _ _ (two_ext h1 hbx) (two_ext h2 hbx) hl1 hl2).mono ?_
  rintro e w1 ⟨rfl, hx⟩
  rw [size_alloc] at hx
  obtain ⟨q0, q1, q2, hb1, hs1⟩ := box_cells hx
  by_cases hE : checkE D R W ls ws = 0
  · obtain ⟨hR, hF⟩ := check_ok hE
    obtain ⟨hn, hm, f1, f2, d1, d2, _, _, d3, d4⟩ := right_parts hR
    have hd := dAt_bd (R := R) (ws := ws) f1 ls.length
    have hw := wAt_bd f1 f2 ls.length
    have hd' : walkD D R W ls ws = dAt R ls ws ls.length := by simp [walkD, hF]
    have hw' : walkW D R W ls ws = wAt ls ws ls.length := by simp [walkW, hF]
    have HE := Lib.hid hE
    rw [hE]
    have HM := Lib.hid hm
    have HD := Lib.hid hd'
    have HW := Lib.hid hw'
    clear hR hF hm hd' hw' hE
    go_wp2_with fail
    refine (walk_any _ _ _ _ _ _ _ _ _ _ (two_ext h1 hb1) (two_ext h2 hb1) hn HM.out f1 f2).mono ?_
    rw [HD.out, HW.out]
    rintro e w2 ⟨rfl, hx2⟩
    have hb2 : Below w.heap.size w w2 := hb1.trans (hx2.mono hb1.size)
    have g0 : w2.cell? ⟨w.heap.size, 0, none⟩ = some (.int .i64 D) := by rw [(bcell hx2).1 _ _ hs1]; exact q0
    have g2 : w2.cell? ⟨w.heap.size, 2, none⟩ = some (.int .i64 W) := by rw [(bcell hx2).1 _ _ hs1]; exact q2
    go_wp2_with fail
    go_quiet (fail)
    go_wp2_with fail
    go_ret3
    exact ⟨by simp [spareD, spareW, HE.out], below_drewN hb2 _⟩
  · have hEb : (checkE D R W ls ws == 0) = false := by simpa using hE
    have hEn : (checkE D R W ls ws != 0) = true := by simpa using hE
    go_wp2_with fail
    go_ret3
    exact ⟨by simp [spareD, spareW, hE], hb1⟩
end Go.Proofs.Ythjedajkebehbaa
