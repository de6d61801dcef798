/-
  The walks of the reference of package work: what each function computes. Conditions: right numbers, where a sum is taken.
-/
import Derived.Test.YthjedajkebehbaaWalkB
namespace Go.Proofs.Ythjedajkebehbaa
open Go.RowKit

set_option maxHeartbeats 400000 in
theorem rlong_any (n : Int) (w : World) :
    Calls Try.prog 24 #[.int .i64 n] w fun e w' => e = .returned (.bool (within n 1 1048576)) ∧ w = w' := by
  by_cases h1 : 1 ≤ n
  all_goals
    go_enter Try.func24, Try.ntmps24
    go_wp2
    go_ret
    exact ⟨by simp [within]; omega, rfl⟩

set_option maxHeartbeats 400000 in
theorem rleg_any (l : P2) (w : World) :
    Calls Try.prog 25 #[.agg #[.int .i64 l.a, .int .i64 l.b]] w fun e w' => e = .returned (.bool (!badLeg l)) ∧ Below w.heap.size w w' := by
  by_cases h1 : 0 ≤ l.a
  all_goals by_cases h2 : l.a ≤ l.b
  all_goals
    go_enter Try.func25, Try.ntmps25
    go_wp2
    go_ret
    refine ⟨ret_bool ?_, (Below.refl _ _).alloc (Nat.le_refl _) _⟩
    rw [Bool.eq_iff_iff]
    simp [badLeg, within]
    omega

theorem not_any {l : List P2} : (∀ j, (hj : j < l.length) → badLeg l[j] = false) → l.any badLeg = false := fun h => List.any_eq_false.2 (fun x hx => by
  obtain ⟨j, hj, rfl⟩ := List.getElem_of_mem hx
  simpa using h j hj)

set_option maxHeartbeats 1000000 in
theorem rright_any (D R W : Int) (A1 A2 : Option Addr) (c1 c2 : Nat) (ls ws : List P2) (w : World) (h1 : Two w w.heap.size A1 ls) (h2 : Two w w.heap.size A2 ws) :
    Calls Try.prog 13 #[.agg #[.int .i64 D, .int .i64 R, .int .i64 W], .slice A1 ls.length c1, .slice A2 ws.length c2] w fun e w' => e = .returned (.bool (rightB D R W ls ws)) ∧ Below w.heap.size w w' := by
  have hbx : Below w.heap.size w (w.alloc (shiftBox D R W)) := (Below.refl _ _).alloc (Nat.le_refl _) _
  go_enter Try.func13, Try.ntmps13
  go_wp2_with fail
  refine (rlong_any _ _).mono ?_
  rintro e w' ⟨rfl, rfl⟩
  cases hD : within D 1 1048576
  · have H1 := Lib.hid hD
    clear hD
    go_wp2_with fail
    go_ret
    exact ⟨by simp [rightB, H1.out], hbx⟩
  have H1 := Lib.hid hD
  clear hD
  go_wp2_with fail
  refine (rlong_any _ _).mono ?_
  rintro e w' ⟨rfl, rfl⟩
  cases hR : within R 1 1048576
  · have H2 := Lib.hid hR
    clear hR
    go_wp2_with fail
    go_ret
    exact ⟨by simp [rightB, H2.out], hbx⟩
  have H2 := Lib.hid hR
  clear hR
  go_wp2_with fail
  refine (rlong_any _ _).mono ?_
  rintro e w' ⟨rfl, rfl⟩
  cases hW : within W 1 1048576
  · have H3 := Lib.hid hW
    clear hW
    go_wp2_with fail
    go_ret
    exact ⟨by simp [rightB, H3.out], hbx⟩
  have H3 := Lib.hid hW
  clear hW
  by_cases hn : ls.length ≤ 80
  · by_cases hm : ws.length = ls.length
    · have hmb : ((ws.length : Int) == ls.length) = true := by simp [hm]
      have hmn : ((ws.length : Int) != ls.length) = false := by simp [hm]
      have HM := Lib.hid hm
      have hm1 : ws.length ≤ ls.length := by omega
      have hm2 : ls.length ≤ ws.length := by omega
      clear hm
      go_wp2_with fail
      go_loopw [7] (fun i wr => ∃ k : Nat, k ≤ ls.length ∧ i = .int .i64 k ∧ (∀ j, (hj : j < ls.length) → j < k → badLeg ls[j] = false) ∧ (∀ j, (hj : j < ws.length) → j < k → badLeg ws[j] = false) ∧ Below w.heap.size w wr) (fun i _ => ls.length - (intOf i).toNat)
      case atStart => exact ⟨0, Nat.zero_le _, rfl, fun j _ h => absurd h (by omega), fun j _ h => absurd h (by omega), hbx⟩
      case round =>
        obtain ⟨k, hk, rfl, hall1, hall2, hbw⟩ := hrel
        have HA1 := Lib.hid hall1
        have HA2 := Lib.hid hall2
        clear hall1 hall2
        by_cases hlt : k < ls.length
        · obtain ⟨b, o, rfl, hb, e0, e1⟩ := (h1.below hbw).at_ hlt
          obtain ⟨b2, o2, rfl, hb2, g0, g1⟩ := (h2.below hbw).at_ (k := k) (by omega)
          go_wp2_with fail
          refine (rleg_any _ _).mono ?_
          rintro e w1 ⟨rfl, hx1⟩
          have hb1 : Below w.heap.size w w1 := hbw.trans (hx1.mono hbw.size)
          cases hbad : badLeg ls[k]
          · have HB := Lib.hid hbad
            clear hbad
            have r0 : w1.cell? ⟨b2, o2 + k * 2, none⟩ = some (.int .i64 ws[k].a) := by rw [(bcell hx1).1 _ _ (by have := hbw.size; omega)]; exact g0
            have r1 : w1.cell? ⟨b2, o2 + k * 2 + 1, none⟩ = some (.int .i64 ws[k].b) := by rw [(bcell hx1).1 _ _ (by have := hbw.size; omega)]; exact g1
            go_wp2_with fail
            refine (rleg_any _ _).mono ?_
            rintro e w2 ⟨rfl, hx2⟩
            have hb2 : Below w.heap.size w w2 := hb1.trans (hx2.mono hb1.size)
            cases hbad : badLeg ws[k]
            · have HB2 := Lib.hid hbad
              clear hbad
              go_wp2_with fail
              go_roundw
              case rel =>
                refine ⟨k + 1, by omega, by go_num, fun j hj hjk => ?_, fun j hj hjk => ?_, hb2⟩
                · by_cases e : j = k
                  · subst e; exact HB.out
                  · exact HA1.out j hj (by omega)
                · by_cases e : j = k
                  · subst e; exact HB2.out
                  · exact HA2.out j hj (by omega)
              case measure => simp [intOf]; omega
            · have HB2 := Lib.hid hbad
              clear hbad
              go_wp2_with fail
              go_ret
              have : ws.any badLeg = true := List.any_eq_true.2 ⟨ws[k], List.getElem_mem _, HB2.out⟩
              exact ⟨by simp [rightB, this], hb2⟩
          · have HB := Lib.hid hbad
            clear hbad
            go_wp2_with fail
            go_ret
            have : ls.any badLeg = true := List.any_eq_true.2 ⟨ls[k], List.getElem_mem _, HB.out⟩
            exact ⟨by simp [rightB, this], hb1⟩
        · go_wp2_with fail
          go_ret
          have e1 := not_any (fun j hj => HA1.out j hj (by omega))
          have e2 := not_any (fun j hj => HA2.out j hj (by omega))
          exact ⟨by simp [rightB, H1.out, H2.out, H3.out, e1, e2, hn, HM.out], hbw⟩
    · have hmb : ((ws.length : Int) == ls.length) = false := by simp; omega
      have hmn : ((ws.length : Int) != ls.length) = true := by simp; omega
      go_wp2_with fail
      go_ret
      exact ⟨by simp [rightB, H1.out, H2.out, H3.out, hm], hbx⟩
  · go_wp2_with fail
    go_ret
    exact ⟨by simp [rightB, H1.out, H2.out, H3.out]; omega, hbx⟩

set_option maxHeartbeats 400000 in
set_option maxRecDepth 100000 in
theorem highs_any (A : Option Addr) (c : Nat) (l : List P2) (w : World) (h : Two w w.heap.size A l) (hl : l.length ≤ 1000000) :
    Calls Try.prog 17 #[.slice A l.length c] w fun e w' => ∃ A' c', e = .returned (.slice A' l.length c') ∧ Nums w' w'.heap.size A' (l.map (·.b)) ∧ Below w.heap.size w w' := by
  obtain ⟨i0, hi, hz0, hz1, hz2⟩ := info_parts info3
  go_enter Try.func17, Try.ntmps17
  go_wp2
  go_loopw [3, 4] (fun v i wr => ∃ k : Nat, k ≤ l.length ∧ i = .int .i64 k ∧ wr.ownsRow w.heap.size 3 1 v k (ints ((l.map (·.b)).take k)) ∧ Below w.heap.size w wr) (fun _ i _ => l.length - (intOf i).toNat)
  case atStart => exact ⟨0, Nat.zero_le _, rfl, World.ownsRow_nil _ _ _ _, Below.refl _ _⟩
  case round =>
    obtain ⟨k, hk, rfl, hown, hbw⟩ := hrel
    by_cases hlt : k < l.length
    · obtain ⟨b, o, rfl, hb, e0, e1⟩ := (h.below hbw).at_ hlt
      have hsz := hbw.size
      go_wp2_with (at_builtin; refine push_own rfl _ _ 33 rfl w.heap.size 3 i0 (.int .i64 0) 1 8 Try.underlying33 hi hz0 hz1 hz2 rfl (by decide) _ _ _ _ rfl hown 1 1 [.int .i64 l[k].b] rfl rfl (by simp [Value.oneCell']) hsz (by omega) (by omega) ?_)
      intro v' w1 hown' hb' _
      rw [show ints (List.take k (l.map (·.b))) ++ [.int .i64 l[k].b] = ints ((l.map (·.b)).take (k + 1)) from by rw [take_snoc _ _ (by simpa using hlt)]; simp [ints]] at hown'
      go_wp2
      go_roundw
      case rel => exact ⟨k + 1, by omega, by go_num, hown', hbw.trans hb'⟩
      case measure => simp [intOf]; omega
    · go_wp2
      go_ret
      obtain rfl : k = l.length := by omega
      obtain ⟨A', c', rfl, hs⟩ := shows_of_own hown
      refine ⟨A', c', rfl, ?_, hbw⟩
      rw [List.take_of_length_le (by simp)] at hs
      unfold Nums
      rw [List.length_map]
      exact hs

set_option maxHeartbeats 400000 in
set_option maxRecDepth 100000 in
theorem lows_any (A : Option Addr) (c : Nat) (l : List P2) (w : World) (h : Two w w.heap.size A l) (hl : l.length ≤ 1000000) :
    Calls Try.prog 18 #[.slice A l.length c] w fun e w' => ∃ A' c', e = .returned (.slice A' l.length c') ∧ Nums w' w'.heap.size A' (l.map (·.a)) ∧ Below w.heap.size w w' := by
  obtain ⟨i0, hi, hz0, hz1, hz2⟩ := info_parts info3
  go_enter Try.func18, Try.ntmps18
  go_wp2
  go_loopw [3, 4] (fun v i wr => ∃ k : Nat, k ≤ l.length ∧ i = .int .i64 k ∧ wr.ownsRow w.heap.size 3 1 v k (ints ((l.map (·.a)).take k)) ∧ Below w.heap.size w wr) (fun _ i _ => l.length - (intOf i).toNat)
  case atStart => exact ⟨0, Nat.zero_le _, rfl, World.ownsRow_nil _ _ _ _, Below.refl _ _⟩
  case round =>
    obtain ⟨k, hk, rfl, hown, hbw⟩ := hrel
    by_cases hlt : k < l.length
    · obtain ⟨b, o, rfl, hb, e0, e1⟩ := (h.below hbw).at_ hlt
      have hsz := hbw.size
      go_wp2_with (at_builtin; refine push_own rfl _ _ 33 rfl w.heap.size 3 i0 (.int .i64 0) 1 8 Try.underlying33 hi hz0 hz1 hz2 rfl (by decide) _ _ _ _ rfl hown 1 1 [.int .i64 l[k].a] rfl rfl (by simp [Value.oneCell']) hsz (by omega) (by omega) ?_)
      intro v' w1 hown' hb' _
      rw [show ints (List.take k (l.map (·.a))) ++ [.int .i64 l[k].a] = ints ((l.map (·.a)).take (k + 1)) from by rw [take_snoc _ _ (by simpa using hlt)]; simp [ints]] at hown'
      go_wp2
      go_roundw
      case rel => exact ⟨k + 1, by omega, by go_num, hown', hbw.trans hb'⟩
      case measure => simp [intOf]; omega
    · go_wp2
      go_ret
      obtain rfl : k = l.length := by omega
      obtain ⟨A', c', rfl, hs⟩ := shows_of_own hown
      refine ⟨A', c', rfl, ?_, hbw⟩
      rw [List.take_of_length_le (by simp)] at hs
      unfold Nums
      rw [List.length_map]
      exact hs

/-- The driving after k legs, from the last break on. -/
def driveTo (R : Int) (hs lo : List Int) : Nat → Int
  | 0 => 0
  | k + 1 => (if R ≤ lo.getD k 0 then 0 else driveTo R hs lo k) + hs.getD k 0
/-- The work after k legs. -/
def workTo (hs hw : List Int) : Nat → Int
  | 0 => 0
  | k + 1 => if k = 0 then workTo hs hw k + hs.getD k 0 else workTo hs hw k + hs.getD k 0 + hw.getD k 0
/-- numbers of at most twenty bits -/
def Small (l : List Int) : Prop := ∀ x ∈ l, 0 ≤ x ∧ x ≤ 1048576
theorem Small.at_ {l : List Int} (h : Small l) (k : Nat) : 0 ≤ l.getD k 0 ∧ l.getD k 0 ≤ 1048576 := by
  by_cases hk : k < l.length
  · have := h l[k] (List.getElem_mem _)
    simpa [List.getD, List.getElem?_eq_getElem hk] using this
  · simp [List.getD, List.getElem?_eq_none (Nat.le_of_not_lt hk)]
theorem getDi {l : List Int} {k : Nat} (hk : k < l.length) : l.getD k 0 = l[k] := by simp [List.getD, hk]
theorem driveTo_bd {R : Int} {hs lo : List Int} (h : Small hs) (k : Nat) : 0 ≤ driveTo R hs lo k ∧ driveTo R hs lo k ≤ 1048576 * k := by
  induction k with
  | zero => simp [driveTo]
  | succ k ih =>
    have := h.at_ k
    simp only [driveTo]
    split <;> omega
theorem workTo_bd {hs hw : List Int} (h : Small hs) (h2 : Small hw) (k : Nat) : 0 ≤ workTo hs hw k ∧ workTo hs hw k ≤ 2097152 * k := by
  induction k with
  | zero => simp [workTo]
  | succ k ih =>
    have := h.at_ k
    have := h2.at_ k
    simp only [workTo]
    split <;> omega

set_option maxHeartbeats 1000000 in
theorem driving_any (R : Int) (A1 A2 : Option Addr) (c1 c2 : Nat) (hs lo : List Int) (i : Nat) (w : World) (h1 : Nums w w.heap.size A1 hs) (h2 : Nums w w.heap.size A2 lo) (hi : i < hs.length) (hi2 : hs.length ≤ lo.length) (hl : hs.length ≤ 1000000) (f1 : Small hs) :
    Calls Try.prog 15 #[.int .i64 R, .slice A1 hs.length c1, .slice A2 lo.length c2, .int .i64 i] w fun e w' => e = .returned (.int .i64 (driveTo R hs lo (i + 1))) ∧ w = w' := by
  go_enter Try.func15, Try.ntmps15
  go_wp2
  go_loop [8, 9, 10] (fun r s j => r = .int .i64 0 ∧ ∃ k : Nat, k ≤ i + 1 ∧ j = .int .i64 ((k : Int) - 1) ∧ ∃ t : Int, s = .int .i64 t ∧ 0 ≤ t ∧ t ≤ 1048576 * (i + 1 - k) ∧ driveTo R hs lo (i + 1) = t + driveTo R hs lo k) (fun _ _ j => (intOf j + 1).toNat)
  case atStart => exact ⟨rfl, i + 1, by omega, by go_num, 0, rfl, by omega, by omega, by simp⟩
  case round =>
    obtain ⟨rfl, k, hk, rfl, t, rfl, t0, t1, ht⟩ := hrel
    cases k with
    | zero =>
      have HT := Lib.hid ht
      clear ht
      go_wp2
      go_ret
      exact ⟨ret_int (by rw [HT.out]; simp [driveTo]), rfl⟩
    | succ m =>
      have j1 : m < hs.length := by omega
      have j2 : m < lo.length := by omega
      have hd : driveTo R hs lo (m + 1) = (if R ≤ lo[m] then 0 else driveTo R hs lo m) + hs[m] := by rw [driveTo, getDi j1, getDi j2]
      rw [hd] at ht
      have HT := Lib.hid ht
      clear ht hd
      obtain ⟨b, o, rfl, hb, e0⟩ := h1.at_ j1
      obtain ⟨b2, o2, rfl, hb2, g0⟩ := h2.at_ j2
      have x1 := f1 hs[m] (List.getElem_mem _)
      have i0 : (0 : Int) ≤ m := by omega
      by_cases hr : R ≤ lo[m]
      · go_wp2
        go_ret
        exact ⟨ret_int (by rw [HT.out, if_pos hr]; simp), rfl⟩
      · go_wp2
        go_round
        case rel => exact ⟨rfl, m, by omega, by go_num, t + hs[m], rfl, by omega, by omega, by rw [HT.out, if_neg hr]; omega⟩
        case measure => simp [intOf]

set_option maxHeartbeats 1000000 in
theorem working_any (A1 A2 : Option Addr) (c1 c2 : Nat) (hs hw : List Int) (i : Nat) (w : World) (h1 : Nums w w.heap.size A1 hs) (h2 : Nums w w.heap.size A2 hw) (hi : i < hs.length) (hi2 : hs.length ≤ hw.length) (hl : hs.length ≤ 1000000) (f1 : Small hs) (f2 : Small hw) :
    Calls Try.prog 16 #[.slice A1 hs.length c1, .slice A2 hw.length c2, .int .i64 i] w fun e w' => e = .returned (.int .i64 (workTo hs hw (i + 1))) ∧ w = w' := by
  go_enter Try.func16, Try.ntmps16
  go_wp2
  go_loop [7, 8] (fun s j => ∃ k : Nat, k ≤ i + 1 ∧ j = .int .i64 k ∧ s = .int .i64 (workTo hs hw k)) (fun _ j => i + 1 - (intOf j).toNat)
  case atStart => exact ⟨0, by omega, rfl, rfl⟩
  case round =>
    obtain ⟨k, hk, rfl, rfl⟩ := hrel
    by_cases hlt : k ≤ i
    · have j1 : k < hs.length := by omega
      have j2 : k < hw.length := by omega
      have hd : workTo hs hw (k + 1) = if k = 0 then workTo hs hw k + hs[k] else workTo hs hw k + hs[k] + hw[k] := by rw [workTo, getDi j1, getDi j2]
      have HD := Lib.hid hd
      clear hd
      have wb := workTo_bd f1 f2 k
      obtain ⟨b, o, rfl, hb, e0⟩ := h1.at_ j1
      obtain ⟨b2, o2, rfl, hb2, g0⟩ := h2.at_ j2
      have x1 := f1 hs[k] (List.getElem_mem _)
      have x2 := f2 hw[k] (List.getElem_mem _)
      by_cases hk0 : 0 < k
      · go_wp2
        go_round
        case rel => exact ⟨k + 1, by omega, by go_num, by rw [HD.out, if_neg (by omega)]⟩
        case measure => simp [intOf]; omega
      · go_wp2
        go_round
        case rel => exact ⟨k + 1, by omega, by go_num, by rw [HD.out, if_pos (by omega)]⟩
        case measure => simp [intOf]; omega
    · go_wp2
      go_ret
      obtain rfl : k = i + 1 := by omega
      exact ⟨rfl, rfl⟩

theorem getD_a (l : List P2) (k : Nat) : (l.map (·.a)).getD k 0 = (l.getD k ⟨0, 0⟩).a := by
  simp only [List.getD, List.getElem?_map]
  cases l[k]? <;> rfl
theorem getD_b (l : List P2) (k : Nat) : (l.map (·.b)).getD k 0 = (l.getD k ⟨0, 0⟩).b := by
  simp only [List.getD, List.getElem?_map]
  cases l[k]? <;> rfl
theorem dAt_eq (R : Int) (ls ws : List P2) (k : Nat) : driveTo R (ls.map (·.b)) (ws.map (·.a)) k = dAt R ls ws k := by
  induction k with
  | zero => rfl
  | succ k ih => rw [driveTo, dAt, ih, getD_a, getD_b]
theorem wAt_eq (ls ws : List P2) (k : Nat) : workTo (ls.map (·.b)) (ws.map (·.b)) k = wAt ls ws k := by
  induction k with
  | zero => rfl
  | succ k ih =>
    rw [workTo, wAt, ih, getD_b, getD_b]
    split <;> omega
theorem small_b {l : List P2} (h : Fine l) : Small (l.map (·.b)) := fun x hx => by
  obtain ⟨y, hy, rfl⟩ := List.mem_map.1 hx
  have := h y hy
  constructor <;> omega
theorem small_a {l : List P2} (h : Fine l) : Small (l.map (·.a)) := fun x hx => by
  obtain ⟨y, hy, rfl⟩ := List.mem_map.1 hx
  have := h y hy
  constructor <;> omega
end Go.Proofs.Ythjedajkebehbaa
