/-
  The walks of package react's small functions: what each computes. Conditions: none.
-/
import Derived.Test.YteahkgoedibimaaRow
import Derived.Test.YteahkgoedibimaaMix
import Derived.Test.YteahkgoedibimaaThree
import Derived.Test.YteahkgoedibimaaProg
namespace Go.Proofs.Yteahkgoedibimaa
open Go.RowKit
theorem two_ext {w w' : World} {A : Option Addr} {l : List P2} (h : Two w w.heap.size A l) (hb : Below w.heap.size w w') : Two w' w'.heap.size A l := Shows.more (h.below hb) hb.size
theorem num_ext {w w' : World} {A : Option Addr} {l : List Int} (h : Nums w w.heap.size A l) (hb : Below w.heap.size w w') : Nums w' w'.heap.size A l := Shows.more (h.below hb) hb.size

/-- windows and legs that are not right -/
def badP (u : P2) : Bool := decide (u.a < 0) || decide (u.b < u.a) || decide (1048576 < u.b)
def Says (l : List P2) (r : Int) : Prop := (decide (0 ≤ r)) = l.any badP
theorem not_any {l : List P2} : (∀ j, (hj : j < l.length) → badP l[j] = false) → l.any badP = false := fun h => List.any_eq_false.2 (fun x hx => by
  obtain ⟨j, hj, rfl⟩ := List.getElem_of_mem hx
  simpa using h j hj)

set_option maxHeartbeats 400000 in
theorem bad_windows (u : P2) (w : World) :
    Calls Try.prog 34 #[.agg #[.int .i64 u.a, .int .i64 u.b]] w fun e w' => e = .returned (.bool (badP u)) ∧ Below w.heap.size w w' := by
  by_cases h1 : u.a < 0
  all_goals by_cases h2 : u.b < u.a
  all_goals by_cases h3 : 1048576 < u.b
  all_goals try (exfalso; omega)
  all_goals
    (try have h1' := decide_eq_false h1)
    (try have h2' := decide_eq_false h2)
    (try have h3' := decide_eq_false h3)
    go_enter Try.func34, Try.ntmps34
    go_wp2
    go_ret
    exact ⟨by simp [badP]; omega, (Below.refl _ _).alloc (Nat.le_refl _) _⟩
set_option maxHeartbeats 400000 in
theorem index_windows (A : Option Addr) (c : Nat) (l : List P2) (w : World) (h : Two w w.heap.size A l) (hl : l.length ≤ 1000000000) :
    Calls Try.prog 44 #[.slice A l.length c, .func (.func 34) #[] #[]] w fun e w' => ∃ r, Says l r ∧ e = .returned (.int .i64 r) ∧ Below w.heap.size w w' := by
  go_enter Try.func44, Try.ntmps44
  go_wp2
  go_loopw [8] (fun i wr => ∃ k : Nat, k ≤ l.length ∧ i = .int .i64 k ∧ (∀ j, (hj : j < l.length) → j < k → badP l[j] = false) ∧ Below w.heap.size w wr) (fun i _ => l.length - (intOf i).toNat)
  case atStart => exact ⟨0, Nat.zero_le _, rfl, fun j _ h => absurd h (by omega), Below.refl _ _⟩
  case round =>
    obtain ⟨k, hk, rfl, hall, hbw⟩ := hrel
    have HA := Lib.hid hall
    clear hall
    by_cases hlt : k < l.length
    · obtain ⟨b, o, rfl, hb, e0, e1⟩ := (h.below hbw).at_ hlt
      go_wp2_with fail
      refine (bad_windows _ _).mono ?_
      rintro e w1 ⟨rfl, hx⟩
      cases hbad : badP l[k]
      · have HB := Lib.hid hbad
        clear hbad
        go_wp2_with fail
        go_roundw
        case rel =>
          refine ⟨k + 1, by omega, by go_num, fun j hj hjk => ?_, hbw.trans (hx.mono hbw.size)⟩
          by_cases e : j = k
          · subst e; exact HB.out
          · exact HA.out j hj (by omega)
        case measure => simp [intOf]; omega
      · have HB := Lib.hid hbad
        clear hbad
        go_wp2_with fail
        go_ret
        refine ⟨_, ?_, rfl, hbw.trans (hx.mono hbw.size)⟩
        show decide (0 ≤ (k : Int)) = _
        have : l.any badP = true := List.any_eq_true.2 ⟨l[k], List.getElem_mem _, HB.out⟩
        rw [this]; simp
    · go_wp2_with fail
      go_ret
      refine ⟨_, ?_, rfl, hbw⟩
      have : l.any badP = false := not_any (fun j hj => HA.out j hj (by omega))
      show decide (0 ≤ (-1 : Int)) = _
      rw [this]; rfl
set_option maxHeartbeats 400000 in
theorem contains_windows (A : Option Addr) (c : Nat) (l : List P2) (w : World) (h : Two w w.heap.size A l) (hl : l.length ≤ 1000000000) :
    Calls Try.prog 37 #[.slice A l.length c, .func (.func 34) #[] #[]] w fun e w' => e = .returned (.bool (l.any badP)) ∧ Below w.heap.size w w' := by
  go_enter Try.func37, Try.ntmps37
  go_wp2_with fail
  refine (index_windows _ _ _ _ h hl).mono ?_
  rintro e w1 ⟨r, hr, rfl, hx⟩
  have HR : decide (0 ≤ r) = l.any badP := hr
  have H := Lib.hid HR
  clear HR hr
  go_wp2_with fail
  go_ret
  exact ⟨ret_bool H.out, hx⟩
set_option maxHeartbeats 400000 in
theorem bad_legs (u : P2) (w : World) :
    Calls Try.prog 35 #[.agg #[.int .i64 u.a, .int .i64 u.b]] w fun e w' => e = .returned (.bool (badP u)) ∧ Below w.heap.size w w' := by
  by_cases h1 : u.a < 0
  all_goals by_cases h2 : u.b < u.a
  all_goals by_cases h3 : 1048576 < u.b
  all_goals try (exfalso; omega)
  all_goals
    (try have h1' := decide_eq_false h1)
    (try have h2' := decide_eq_false h2)
    (try have h3' := decide_eq_false h3)
    go_enter Try.func35, Try.ntmps35
    go_wp2
    go_ret
    exact ⟨by simp [badP]; omega, (Below.refl _ _).alloc (Nat.le_refl _) _⟩
set_option maxHeartbeats 400000 in
theorem index_legs (A : Option Addr) (c : Nat) (l : List P2) (w : World) (h : Two w w.heap.size A l) (hl : l.length ≤ 1000000000) :
    Calls Try.prog 45 #[.slice A l.length c, .func (.func 35) #[] #[]] w fun e w' => ∃ r, Says l r ∧ e = .returned (.int .i64 r) ∧ Below w.heap.size w w' := by
  go_enter Try.func45, Try.ntmps45
  go_wp2
  go_loopw [8] (fun i wr => ∃ k : Nat, k ≤ l.length ∧ i = .int .i64 k ∧ (∀ j, (hj : j < l.length) → j < k → badP l[j] = false) ∧ Below w.heap.size w wr) (fun i _ => l.length - (intOf i).toNat)
  case atStart => exact ⟨0, Nat.zero_le _, rfl, fun j _ h => absurd h (by omega), Below.refl _ _⟩
  case round =>
    obtain ⟨k, hk, rfl, hall, hbw⟩ := hrel
    have HA := Lib.hid hall
    clear hall
    by_cases hlt : k < l.length
    · obtain ⟨b, o, rfl, hb, e0, e1⟩ := (h.below hbw).at_ hlt
      go_wp2_with fail
      refine (bad_legs _ _).mono ?_
      rintro e w1 ⟨rfl, hx⟩
      cases hbad : badP l[k]
      · have HB := Lib.hid hbad
        clear hbad
        go_wp2_with fail
        go_roundw
        case rel =>
          refine ⟨k + 1, by omega, by go_num, fun j hj hjk => ?_, hbw.trans (hx.mono hbw.size)⟩
          by_cases e : j = k
          · subst e; exact HB.out
          · exact HA.out j hj (by omega)
        case measure => simp [intOf]; omega
      · have HB := Lib.hid hbad
        clear hbad
        go_wp2_with fail
        go_ret
        refine ⟨_, ?_, rfl, hbw.trans (hx.mono hbw.size)⟩
        show decide (0 ≤ (k : Int)) = _
        have : l.any badP = true := List.any_eq_true.2 ⟨l[k], List.getElem_mem _, HB.out⟩
        rw [this]; simp
    · go_wp2_with fail
      go_ret
      refine ⟨_, ?_, rfl, hbw⟩
      have : l.any badP = false := not_any (fun j hj => HA.out j hj (by omega))
      show decide (0 ≤ (-1 : Int)) = _
      rw [this]; rfl
set_option maxHeartbeats 400000 in
theorem contains_legs (A : Option Addr) (c : Nat) (l : List P2) (w : World) (h : Two w w.heap.size A l) (hl : l.length ≤ 1000000000) :
    Calls Try.prog 38 #[.slice A l.length c, .func (.func 35) #[] #[]] w fun e w' => e = .returned (.bool (l.any badP)) ∧ Below w.heap.size w w' := by
  go_enter Try.func38, Try.ntmps38
  go_wp2_with fail
  refine (index_legs _ _ _ _ h hl).mono ?_
  rintro e w1 ⟨r, hr, rfl, hx⟩
  have HR : decide (0 ≤ r) = l.any badP := hr
  have H := Lib.hid HR
  clear HR hr
  go_wp2_with fail
  go_ret
  exact ⟨ret_bool H.out, hx⟩

/-- rides that are not right, among n events -/
def badR (n : Int) (t : P3) : Bool := decide (t.a < 0) || decide (t.b ≤ t.a) || decide (n ≤ t.b) || decide (t.c < 0) || decide (1048576 < t.c)
def SaysR (n : Int) (l : List P3) (r : Int) : Prop := (decide (0 ≤ r)) = l.any (badR n)
theorem not_anyR {n : Int} {l : List P3} : (∀ j, (hj : j < l.length) → badR n l[j] = false) → l.any (badR n) = false := fun h => List.any_eq_false.2 (fun x hx => by
  obtain ⟨j, hj, rfl⟩ := List.getElem_of_mem hx
  simpa using h j hj)
set_option maxHeartbeats 1000000 in
theorem bad_rides (g : Nat) (n : Int) (t : P3) (w : World) (hg : w.cell? ⟨g, 0, none⟩ = some (.int .i64 n)) (hgs : g < w.heap.size) :
    Calls Try.prog 36 #[.agg #[.int .i64 t.a, .int .i64 t.b, .int .i64 t.c], .pointer (some ⟨g, 0, none⟩)] w fun e w' => e = .returned (.bool (badR n t)) ∧ Below w.heap.size w w' := by
  by_cases h1 : t.a < 0
  · skip
    go_enter Try.func36, Try.ntmps36
    go_wp2
    go_ret
    exact ⟨by simp [badR]; omega, (Below.refl _ _).alloc (Nat.le_refl _) _⟩
  have h1' := decide_eq_false h1
  by_cases h2 : t.b ≤ t.a
  · skip
    go_enter Try.func36, Try.ntmps36
    go_wp2
    go_ret
    exact ⟨by simp [badR]; omega, (Below.refl _ _).alloc (Nat.le_refl _) _⟩
  have h2' := decide_eq_false h2
  by_cases h3 : n ≤ t.b
  · skip
    go_enter Try.func36, Try.ntmps36
    go_wp2
    go_ret
    exact ⟨by simp [badR]; omega, (Below.refl _ _).alloc (Nat.le_refl _) _⟩
  have h3' := decide_eq_false h3
  by_cases h4 : t.c < 0
  · skip
    go_enter Try.func36, Try.ntmps36
    go_wp2
    go_ret
    exact ⟨by simp [badR]; omega, (Below.refl _ _).alloc (Nat.le_refl _) _⟩
  have h4' := decide_eq_false h4
  by_cases h5 : 1048576 < t.c
  · skip
    go_enter Try.func36, Try.ntmps36
    go_wp2
    go_ret
    exact ⟨by simp [badR]; omega, (Below.refl _ _).alloc (Nat.le_refl _) _⟩
  have h5' := decide_eq_false h5
  go_enter Try.func36, Try.ntmps36
  go_wp2
  go_ret
  exact ⟨by simp [badR]; omega, (Below.refl _ _).alloc (Nat.le_refl _) _⟩
set_option maxHeartbeats 400000 in
theorem index_rides (g : Nat) (n : Int) (A : Option Addr) (c : Nat) (l : List P3) (w : World) (h : Three w w.heap.size A l) (hl : l.length ≤ 1000000000) (hg : w.cell? ⟨g, 0, none⟩ = some (.int .i64 n)) (hgs : g < w.heap.size) :
    Calls Try.prog 46 #[.slice A l.length c, .func (.func 36) #[] #[.pointer (some ⟨g, 0, none⟩)]] w fun e w' => ∃ r, SaysR n l r ∧ e = .returned (.int .i64 r) ∧ Below w.heap.size w w' := by
  go_enter Try.func46, Try.ntmps46
  go_wp2
  go_loopw [8] (fun i wr => ∃ k : Nat, k ≤ l.length ∧ i = .int .i64 k ∧ (∀ j, (hj : j < l.length) → j < k → badR n l[j] = false) ∧ Below w.heap.size w wr) (fun i _ => l.length - (intOf i).toNat)
  case atStart => exact ⟨0, Nat.zero_le _, rfl, fun j _ h => absurd h (by omega), Below.refl _ _⟩
  case round =>
    obtain ⟨k, hk, rfl, hall, hbw⟩ := hrel
    have HA := Lib.hid hall
    clear hall
    by_cases hlt : k < l.length
    · obtain ⟨b, o, rfl, hb, e0, e1, e2⟩ := (h.below hbw).at_ hlt
      go_wp2_with fail
      refine (bad_rides g n _ _ (((bcell hbw).1 _ _ hgs).trans hg) (Nat.lt_of_lt_of_le hgs hbw.size)).mono ?_
      rintro e w1 ⟨rfl, hx⟩
      cases hbad : badR n l[k]
      · have HB := Lib.hid hbad
        clear hbad
        go_wp2_with fail
        go_roundw
        case rel =>
          refine ⟨k + 1, by omega, by go_num, fun j hj hjk => ?_, hbw.trans (hx.mono hbw.size)⟩
          by_cases e : j = k
          · subst e; exact HB.out
          · exact HA.out j hj (by omega)
        case measure => simp [intOf]; omega
      · have HB := Lib.hid hbad
        clear hbad
        go_wp2_with fail
        go_ret
        refine ⟨_, ?_, rfl, hbw.trans (hx.mono hbw.size)⟩
        show decide (0 ≤ (k : Int)) = _
        have : l.any (badR n) = true := List.any_eq_true.2 ⟨l[k], List.getElem_mem _, HB.out⟩
        rw [this]; simp
    · go_wp2_with fail
      go_ret
      refine ⟨_, ?_, rfl, hbw⟩
      have : l.any (badR n) = false := not_anyR (fun j hj => HA.out j hj (by omega))
      show decide (0 ≤ (-1 : Int)) = _
      rw [this]; rfl
set_option maxHeartbeats 400000 in
theorem contains_rides (g : Nat) (n : Int) (A : Option Addr) (c : Nat) (l : List P3) (w : World) (h : Three w w.heap.size A l) (hl : l.length ≤ 1000000000) (hg : w.cell? ⟨g, 0, none⟩ = some (.int .i64 n)) (hgs : g < w.heap.size) :
    Calls Try.prog 39 #[.slice A l.length c, .func (.func 36) #[] #[.pointer (some ⟨g, 0, none⟩)]] w fun e w' => e = .returned (.bool (l.any (badR n))) ∧ Below w.heap.size w w' := by
  go_enter Try.func39, Try.ntmps39
  go_wp2_with fail
  refine (index_rides g n _ _ _ _ h hl hg hgs).mono ?_
  rintro e w1 ⟨r, hr, rfl, hx⟩
  have HR : decide (0 ≤ r) = l.any (badR n) := hr
  have H := Lib.hid HR
  clear HR hr
  go_wp2_with fail
  go_ret
  exact ⟨ret_bool H.out, hx⟩
end Go.Proofs.Yteahkgoedibimaa
