/-
  The walks of package work, and of its reference: what each function computes. Conditions: right numbers, where a sum is taken.
-/
import Derived.Test.YthjedajkebehbaaBase
import Derived.Test.YthjedajkebehbaaProg
namespace Go.Proofs.Ythjedajkebehbaa
open Go.RowKit
theorem info3 : (Try.prog.info? 3).map (fun i => (i.zero, i.size, i.bytes)) = some (some (.int .i64 0), 1, 8) := by kernel_rfl

def within (n a b : Int) : Bool := decide (a ≤ n) && decide (n ≤ b)
def badLeg (l : P2) : Bool := !within l.a 0 l.b || decide (1048576 < l.b)
def rightB (D R W : Int) (ls ws : List P2) : Bool :=
  within D 1 1048576 && within R 1 1048576 && within W 1 1048576 && decide (ls.length ≤ 80) && decide (ws.length = ls.length) && !ls.any badLeg && !ws.any badLeg

set_option maxHeartbeats 400000 in
theorem within_any (n a b : Int) (w : World) :
    Calls Try.prog 22 #[.int .i64 n, .int .i64 a, .int .i64 b] w fun e w' => e = .returned (.bool (within n a b)) ∧ w = w' := by
  by_cases h1 : a ≤ n
  all_goals
    go_enter Try.func22, Try.ntmps22
    go_wp2
    go_ret
    exact ⟨by simp [within]; omega, rfl⟩

set_option maxHeartbeats 400000 in
theorem bad_any (l : P2) (w : World) :
    Calls Try.prog 21 #[.agg #[.int .i64 l.a, .int .i64 l.b]] w fun e w' => e = .returned (.bool (badLeg l)) ∧ Below w.heap.size w w' := by
  cases hb : within l.a 0 l.b
  all_goals
    have HB := Lib.hid hb
    clear hb
    go_enter Try.func21, Try.ntmps21
    go_wp2_with fail
    refine (within_any _ _ _ _).mono ?_
    rw [HB.out]
    rintro e w' ⟨rfl, rfl⟩
    go_wp2_with fail
    go_ret
    exact ⟨by simp [badLeg, HB.out], (Below.refl _ _).alloc (Nat.le_refl _) _⟩

/-- What slices.IndexFunc says: whether there is one. -/
def Says (l : List P2) (r : Int) : Prop := (decide (0 ≤ r)) = l.any badLeg

set_option maxHeartbeats 400000 in
theorem index_any (A : Option Addr) (c : Nat) (l : List P2) (w : World) (h : Two w w.heap.size A l) (hl : l.length ≤ 1000000000) :
    Calls Try.prog 26 #[.slice A l.length c, .func (.func 21) #[] #[]] w fun e w' => ∃ r, Says l r ∧ e = .returned (.int .i64 r) ∧ Below w.heap.size w w' := by
  go_enter Try.func26, Try.ntmps26
  go_wp2
  go_loopw [8] (fun i wr => ∃ k : Nat, k ≤ l.length ∧ i = .int .i64 k ∧ (∀ j, (hj : j < l.length) → j < k → badLeg l[j] = false) ∧ Below w.heap.size w wr) (fun i _ => l.length - (intOf i).toNat)
  case atStart => exact ⟨0, Nat.zero_le _, rfl, fun j _ h => absurd h (by omega), Below.refl _ _⟩
  case round =>
    obtain ⟨k, hk, rfl, hall, hbw⟩ := hrel
    have HA := Lib.hid hall
    clear hall
    by_cases hlt : k < l.length
    · obtain ⟨b, o, rfl, hb, e0, e1⟩ := (h.below hbw).at_ hlt
      go_wp2_with fail
      refine (bad_any _ _).mono ?_
      rintro e w1 ⟨rfl, hx⟩
      cases hbad : badLeg l[k]
      · have HB := Lib.hid hbad
        clear hbad
        go_wp2_with fail
        go_roundw
        case rel =>
          refine ⟨k + 1, by omega, by go_num, fun j hj hjk => ?_, hbw.trans (hx.mono hbw.size)⟩
          by_cases e : j = k
          · subst e; exact HB.out
          · exact HA.out j hj (by omega)
        case measure => simp [intOf]; omega
      · have HB := Lib.hid hbad
        clear hbad
        go_wp2_with fail
        go_ret
        refine ⟨_, ?_, rfl, hbw.trans (hx.mono hbw.size)⟩
        show decide (0 ≤ (k : Int)) = _
        have : l.any badLeg = true := List.any_eq_true.2 ⟨l[k], List.getElem_mem _, HB.out⟩
        rw [this]; simp
    · go_wp2_with fail
      go_ret
      refine ⟨_, ?_, rfl, hbw⟩
      have : l.any badLeg = false := List.any_eq_false.2 (fun x hx => by
        obtain ⟨j, hj, rfl⟩ := List.getElem_of_mem hx
        simpa using HA.out j hj (by omega))
      show decide (0 ≤ (-1 : Int)) = _
      rw [this]; rfl

set_option maxHeartbeats 400000 in
theorem contains_any (A : Option Addr) (c : Nat) (l : List P2) (w : World) (h : Two w w.heap.size A l) (hl : l.length ≤ 1000000000) :
    Calls Try.prog 23 #[.slice A l.length c, .func (.func 21) #[] #[]] w fun e w' => e = .returned (.bool (l.any badLeg)) ∧ Below w.heap.size w w' := by
  go_enter Try.func23, Try.ntmps23
  go_wp2_with fail
  refine (index_any _ _ _ _ h hl).mono ?_
  rintro e w1 ⟨r, hr, rfl, hx⟩
  have HR : decide (0 ≤ r) = l.any badLeg := hr
  have H := Lib.hid HR
  clear HR hr
  go_wp2_with fail
  go_ret
  exact ⟨ret_bool H.out, hx⟩

theorem two_ext {w w' : World} {A : Option Addr} {l : List P2} (h : Two w w.heap.size A l) (hb : Below w.heap.size w w') : Two w' w'.heap.size A l := Shows.more (h.below hb) hb.size

set_option maxHeartbeats 1000000 in
theorem right_any (D R W : Int) (A1 A2 : Option Addr) (c1 c2 : Nat) (ls ws : List P2) (w : World) (h1 : Two w w.heap.size A1 ls) (h2 : Two w w.heap.size A2 ws) (hl1 : ls.length ≤ 9223372036854775807) (_ : ws.length ≤ 9223372036854775807) :
    Calls Try.prog 12 #[.agg #[.int .i64 D, .int .i64 R, .int .i64 W], .slice A1 ls.length c1, .slice A2 ws.length c2] w fun e w' => e = .returned (.bool (rightB D R W ls ws)) ∧ Below w.heap.size w w' := by
  go_enter Try.func12, Try.ntmps12
  go_wp2_with fail
  refine (within_any _ _ _ _).mono ?_
  rintro e w' ⟨rfl, rfl⟩
  have hbx : Below w.heap.size w (w.alloc (.cells #[.int .i64 D, .int .i64 R, .int .i64 W] 23)) := (Below.refl _ _).alloc (Nat.le_refl _) _
  cases hD : within D 1 1048576
  · have H1 := Lib.hid hD
    clear hD
    go_wp2_with fail
    go_ret
    exact ⟨by simp [rightB, H1.out], hbx⟩
  have H1 := Lib.hid hD
  clear hD
  go_wp2_with fail
  refine (within_any _ _ _ _).mono ?_
  rintro e w' ⟨rfl, rfl⟩
  cases hR : within R 1 1048576
  · have H2 := Lib.hid hR
    clear hR
    go_wp2_with fail
    go_ret
    exact ⟨by simp [rightB, H2.out], hbx⟩
  have H2 := Lib.hid hR
  clear hR
  go_wp2_with fail
  refine (within_any _ _ _ _).mono ?_
  rintro e w' ⟨rfl, rfl⟩
  cases hW : within W 1 1048576
  · have H3 := Lib.hid hW
    clear hW
    go_wp2_with fail
    go_ret
    exact ⟨by simp [rightB, H3.out], hbx⟩
  have H3 := Lib.hid hW
  clear hW
  by_cases hn : ls.length ≤ 80
  · by_cases hm : ws.length = ls.length
    · have hmb : ((ws.length : Int) == ls.length) = true := by simp [hm]
      go_wp2_with fail
      refine (contains_any _ _ _ _ (two_ext h1 hbx) (by omega)).mono ?_
      rintro e w1 ⟨rfl, hx1⟩
      have hb1 : Below w.heap.size w w1 := hbx.trans (hx1.mono hbx.size)
      cases hL : ls.any badLeg
      · have H4 := Lib.hid hL
        clear hL
        go_wp2_with fail
        rw [← hm]
        refine (contains_any _ _ _ _ (two_ext h2 hb1) (by omega)).mono ?_
        rintro e w2 ⟨rfl, hx2⟩
        have hb2 : Below w.heap.size w w2 := hb1.trans (hx2.mono hb1.size)
        go_wp2_with fail
        go_ret
        exact ⟨by simp [rightB, H1.out, H2.out, H3.out, H4.out, hn, hm], hb2⟩
      · have H4 := Lib.hid hL
        clear hL
        go_wp2_with fail
        go_ret
        exact ⟨by simp [rightB, H1.out, H2.out, H3.out, H4.out], hb1⟩
    · have hmb : ((ws.length : Int) == ls.length) = false := by simp; omega
      go_wp2_with fail
      go_ret
      exact ⟨by simp [rightB, H1.out, H2.out, H3.out, hm], hbx⟩
  · go_wp2_with fail
    go_ret
    exact ⟨by simp [rightB, H1.out, H2.out, H3.out]; omega, hbx⟩

/-- the worst driving after k legs -/
def dAt (R : Int) (ls ws : List P2) : Nat → Int
  | 0 => 0
  | k + 1 => (if R ≤ (ws.getD k ⟨0, 0⟩).a then 0 else dAt R ls ws k) + (ls.getD k ⟨0, 0⟩).b
/-- the worst work after k legs -/
def wAt (ls ws : List P2) : Nat → Int
  | 0 => 0
  | k + 1 => (if k = 0 then wAt ls ws k else wAt ls ws k + (ws.getD k ⟨0, 0⟩).b) + (ls.getD k ⟨0, 0⟩).b
/-- is leg i too long? -/
def tooLong (D R W : Int) (ls ws : List P2) (i : Nat) : Bool := decide (D < dAt R ls ws (i + 1)) || decide (W < wAt ls ws (i + 1))
def firstLong (D R W : Int) (ls ws : List P2) : Option Nat := (List.range ls.length).find? (tooLong D R W ls ws)
/-- the minutes are right -/
def Fine (l : List P2) : Prop := ∀ x ∈ l, 0 ≤ x.a ∧ x.a ≤ x.b ∧ x.b ≤ 1048576
theorem Fine.at_ {l : List P2} (h : Fine l) (k : Nat) : 0 ≤ (l.getD k ⟨0, 0⟩).a ∧ (l.getD k ⟨0, 0⟩).a ≤ (l.getD k ⟨0, 0⟩).b ∧ (l.getD k ⟨0, 0⟩).b ≤ 1048576 := by
  by_cases hk : k < l.length
  · have := h l[k] (List.getElem_mem _)
    simpa [List.getD, List.getElem?_eq_getElem hk] using this
  · simp [List.getD, List.getElem?_eq_none (Nat.le_of_not_lt hk)]
theorem fine_of_any {l : List P2} (h : l.any badLeg = false) : Fine l := fun x hx => by
  have := List.any_eq_false.1 h x hx
  simp [badLeg, within] at this
  omega
theorem dAt_bd {R : Int} {ls ws : List P2} (h1 : Fine ls) (k : Nat) : 0 ≤ dAt R ls ws k ∧ dAt R ls ws k ≤ 1048576 * k := by
  induction k with
  | zero => simp [dAt]
  | succ k ih =>
    have := h1.at_ k
    simp only [dAt]
    split <;> omega
theorem wAt_bd {ls ws : List P2} (h1 : Fine ls) (h2 : Fine ws) (k : Nat) : 0 ≤ wAt ls ws k ∧ wAt ls ws k ≤ 2097152 * k := by
  induction k with
  | zero => simp [wAt]
  | succ k ih =>
    have := h1.at_ k
    have := h2.at_ k
    simp only [wAt]
    split <;> omega

def walkD (D R W : Int) (ls ws : List P2) : Int := match firstLong D R W ls ws with | none => dAt R ls ws ls.length | some _ => 0
def walkW (D R W : Int) (ls ws : List P2) : Int := match firstLong D R W ls ws with | none => wAt ls ws ls.length | some _ => 0
def walkI (D R W : Int) (ls ws : List P2) : Int := match firstLong D R W ls ws with | none => -1 | some i => i

theorem getD_eq {l : List P2} {k : Nat} (hk : k < l.length) : l.getD k ⟨0, 0⟩ = l[k] := by simp [List.getD, hk]

theorem dAt_succ {R : Int} {ls ws : List P2} {k : Nat} (h1 : k < ls.length) (h2 : k < ws.length) : dAt R ls ws (k + 1) = (if R ≤ ws[k].a then 0 else dAt R ls ws k) + ls[k].b := by
  rw [dAt, getD_eq h1, getD_eq h2]
theorem wAt_succ {ls ws : List P2} {k : Nat} (h1 : k < ls.length) (h2 : k < ws.length) : wAt ls ws (k + 1) = (if k = 0 then wAt ls ws k else wAt ls ws k + ws[k].b) + ls[k].b := by
  rw [wAt, getD_eq h1, getD_eq h2]

set_option maxHeartbeats 2000000 in
set_option maxRecDepth 100000 in
theorem walk_any (D R W : Int) (A1 A2 : Option Addr) (c1 c2 : Nat) (ls ws : List P2) (w : World) (h1 : Two w w.heap.size A1 ls) (h2 : Two w w.heap.size A2 ws) (hl : ls.length ≤ 80) (hm : ws.length = ls.length) (f1 : Fine ls) (f2 : Fine ws) :
    Calls Try.prog 20 #[.agg #[.int .i64 D, .int .i64 R, .int .i64 W], .slice A1 ls.length c1, .slice A2 ws.length c2] w
      fun e w' => e = .returned (.tuple #[.int .i64 (walkD D R W ls ws), .int .i64 (walkW D R W ls ws), .int .i64 (walkI D R W ls ws)]) ∧ Below w.heap.size w w' := by
  have HM := Lib.hid hm
  have hm1 : ws.length ≤ ls.length := by omega
  have hm2 : ls.length ≤ ws.length := by omega
  clear hm
  go_enter Try.func20, Try.ntmps20
  go_wp2
  go_loopw [6, 7, 8, 13] (fun d k r i wr => ∃ j : Nat, j ≤ ls.length ∧ i = .int .i64 j ∧ r = .int .i64 0 ∧ d = .int .i64 (dAt R ls ws j) ∧ k = .int .i64 (wAt ls ws j) ∧ (∀ i, i < j → tooLong D R W ls ws i = false) ∧ Below (w.heap.size + 1) (w.alloc (.cells #[.int .i64 D, .int .i64 R, .int .i64 W] 23)) wr) (fun _ _ _ i _ => ls.length - (intOf i).toNat)
  case atStart => exact ⟨0, Nat.zero_le _, rfl, rfl, rfl, rfl, fun j h => absurd h (by omega), Below.refl _ _⟩
  case round =>
    obtain ⟨k, hk, rfl, rfl, rfl, rfl, hall, hbw⟩ := hrel
    have HA := Lib.hid hall
    clear hall
    have hbx : Below w.heap.size w wr := ((Below.refl _ _).alloc (Nat.le_refl _) _).trans (hbw.mono (by omega))
    have hsz := hbw.size
    simp at hsz
    by_cases hlt : k < ls.length
    · obtain ⟨b, o, rfl, hb, e0, e1⟩ := (h1.below hbx).at_ hlt
      obtain ⟨b2, o2, rfl, hb2, g0, g1⟩ := (h2.below hbx).at_ (k := k) (by omega)
      have q0 : wr.cell? ⟨w.heap.size, 0, none⟩ = some (.int .i64 D) := by rw [(bcell hbw).1 _ _ (by omega)]; exact World.cell?_alloc_at _ _ _ _ rfl
      have q1 : wr.cell? ⟨w.heap.size, 1, none⟩ = some (.int .i64 R) := by rw [(bcell hbw).1 _ _ (by omega)]; exact World.cell?_alloc_at _ _ _ _ rfl
      have q2 : wr.cell? ⟨w.heap.size, 2, none⟩ = some (.int .i64 W) := by rw [(bcell hbw).1 _ _ (by omega)]; exact World.cell?_alloc_at _ _ _ _ rfl
      have d0 := dAt_bd (R := R) (ws := ws) f1 k
      have w0 := wAt_bd f1 f2 k
      have x1 := f1 ls[k] (List.getElem_mem _)
      have x2 := f2 ws[k] (List.getElem_mem _)
      have HS1 := Lib.hid (dAt_succ (R := R) (ls := ls) (ws := ws) hlt (by omega))
      have HS2 := Lib.hid (wAt_succ (ls := ls) (ws := ws) hlt (by omega))
      have i0 : (0 : Int) ≤ (k : Int) := by omega
      have i1 : (k : Int) < (ls.length : Int) := by omega
      have i2 : (k : Int) < (ws.length : Int) := by omega
      have p0 : w.heap.size < wr.heap.size := by omega
      have p1 : b < wr.heap.size := by omega
      have p2 : b2 < wr.heap.size := by omega
      by_cases hr : R ≤ ws[k].a
      all_goals by_cases hk0 : 0 < k
      all_goals
        go_wp2_with fail
        go_quiet (fail)
        go_wp2
      all_goals
        have hS := HS1.out
        have hT := HS2.out
        first
          | (rw [if_pos hr] at hS)
          | (rw [if_neg (by omega)] at hS)
        first
          | (rw [if_neg (by omega)] at hT)
          | (rw [if_pos (by omega)] at hT)
        first
          | (go_ret3
             have ht : tooLong D R W ls ws k = true := by
               unfold tooLong
               rw [hS, hT]
               simp
               omega
             have hf : firstLong D R W ls ws = some k := find_range_some hlt ht HA.out
             exact ⟨by simp [walkD, walkW, walkI, hf], below_drewN (hbx.alloc (by omega) _) _⟩)
          | (go_roundw
             case rel =>
               refine ⟨k + 1, by omega, by go_num, rfl, by rw [hS] <;> simp, by rw [hT] <;> simp, fun i hi => ?_, below_drewN (hbw.alloc (by omega) _) _⟩
               by_cases e : i = k
               · subst e
                 unfold tooLong
                 rw [hS, hT]
                 simp
                 omega
               · exact HA.out i (by omega)
             case measure => simp [intOf]; omega)
    · go_wp2_with fail
      go_ret3
      have hf : firstLong D R W ls ws = none := find_range_none (fun j hj => HA.out j (by omega))
      obtain rfl : k = ls.length := by omega
      exact ⟨by simp [walkD, walkW, walkI, hf], hbx⟩
end Go.Proofs.Ythjedajkebehbaa
