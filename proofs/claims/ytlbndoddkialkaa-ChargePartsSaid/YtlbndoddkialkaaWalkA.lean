/-
  The walks of package charge but Need: what each function computes. Conditions: right numbers, where a sum is taken.
-/
import Derived.Test.YtlbndoddkialkaaRow
import Derived.Test.YtlbndoddkialkaaMix
import Derived.Test.YtlbndoddkialkaaProg
namespace Go.Proofs.Ytlbndoddkialkaa
open Go.RowKit
theorem info3 : (Try.prog.info? 3).map (fun i => (i.zero, i.size, i.bytes)) = some (some (.int .i64 0), 1, 8) := by kernel_rfl

def badUse (u : P2) : Bool := decide (u.a < -1000000) || decide (u.b < u.a) || decide (1000000 < u.b)
def rightB (F : Int) (us : List P2) : Bool := decide (0 ≤ F) && decide (F ≤ 1000000) && decide (us.length ≤ 200) && !us.any badUse

set_option maxHeartbeats 400000 in
theorem bad_any (u : P2) (w : World) :
    Calls Try.prog 18 #[.agg #[.int .i64 u.a, .int .i64 u.b]] w fun e w' => e = .returned (.bool (badUse u)) ∧ Below w.heap.size w w' := by
  by_cases h1 : u.a < -1000000
  all_goals by_cases h2 : u.b < u.a
  all_goals by_cases h3 : 1000000 < u.b
  all_goals try (exfalso; omega)
  all_goals
    (try have h1' := decide_eq_false h1)
    (try have h2' := decide_eq_false h2)
    (try have h3' := decide_eq_false h3)
    go_enter Try.func18, Try.ntmps18
    go_wp2
    go_ret
    exact ⟨by simp [badUse]; omega, (Below.refl _ _).alloc (Nat.le_refl _) _⟩

/-- What slices.IndexFunc says: whether there is one. -/
def Says (l : List P2) (r : Int) : Prop := (decide (0 ≤ r)) = l.any badUse
theorem not_any {l : List P2} : (∀ j, (hj : j < l.length) → badUse l[j] = false) → l.any badUse = false := fun h => List.any_eq_false.2 (fun x hx => by
  obtain ⟨j, hj, rfl⟩ := List.getElem_of_mem hx
  simpa using h j hj)
theorem two_ext {w w' : World} {A : Option Addr} {l : List P2} (h : Two w w.heap.size A l) (hb : Below w.heap.size w w') : Two w' w'.heap.size A l := Shows.more (h.below hb) hb.size
theorem num_ext {w w' : World} {A : Option Addr} {l : List Int} (h : Nums w w.heap.size A l) (hb : Below w.heap.size w w') : Nums w' w'.heap.size A l := Shows.more (h.below hb) hb.size

set_option maxHeartbeats 400000 in
theorem index_any (A : Option Addr) (c : Nat) (l : List P2) (w : World) (h : Two w w.heap.size A l) (hl : l.length ≤ 1000000000) :
    Calls Try.prog 20 #[.slice A l.length c, .func (.func 18) #[] #[]] w fun e w' => ∃ r, Says l r ∧ e = .returned (.int .i64 r) ∧ Below w.heap.size w w' := by
  go_enter Try.func20, Try.ntmps20
  go_wp2
  go_loopw [8] (fun i wr => ∃ k : Nat, k ≤ l.length ∧ i = .int .i64 k ∧ (∀ j, (hj : j < l.length) → j < k → badUse l[j] = false) ∧ Below w.heap.size w wr) (fun i _ => l.length - (intOf i).toNat)
  case atStart => exact ⟨0, Nat.zero_le _, rfl, fun j _ h => absurd h (by omega), Below.refl _ _⟩
  case round =>
    obtain ⟨k, hk, rfl, hall, hbw⟩ := hrel
    have HA := Lib.hid hall
    clear hall
    by_cases hlt : k < l.length
    · obtain ⟨b, o, rfl, hb, e0, e1⟩ := (h.below hbw).at_ hlt
      go_wp2_with fail
      refine (bad_any _ _).mono ?_
      rintro e w1 ⟨rfl, hx⟩
      cases hbad : badUse l[k]
      · have HB := Lib.hid hbad
        clear hbad
        go_wp2_with fail
        go_roundw
        case rel =>
          refine ⟨k + 1, by omega, by go_num, fun j hj hjk => ?_, hbw.trans (hx.mono hbw.size)⟩
          by_cases e : j = k
          · subst e; exact HB.out
          · exact HA.out j hj (by omega)
        case measure => simp [intOf]; omega
      · have HB := Lib.hid hbad
        clear hbad
        go_wp2_with fail
        go_ret
        refine ⟨_, ?_, rfl, hbw.trans (hx.mono hbw.size)⟩
        show decide (0 ≤ (k : Int)) = _
        have : l.any badUse = true := List.any_eq_true.2 ⟨l[k], List.getElem_mem _, HB.out⟩
        rw [this]; simp
    · go_wp2_with fail
      go_ret
      refine ⟨_, ?_, rfl, hbw⟩
      have : l.any badUse = false := not_any (fun j hj => HA.out j hj (by omega))
      show decide (0 ≤ (-1 : Int)) = _
      rw [this]; rfl

set_option maxHeartbeats 400000 in
theorem contains_any (A : Option Addr) (c : Nat) (l : List P2) (w : World) (h : Two w w.heap.size A l) (hl : l.length ≤ 1000000000) :
    Calls Try.prog 17 #[.slice A l.length c, .func (.func 18) #[] #[]] w fun e w' => e = .returned (.bool (l.any badUse)) ∧ Below w.heap.size w w' := by
  go_enter Try.func17, Try.ntmps17
  go_wp2_with fail
  refine (index_any _ _ _ _ h hl).mono ?_
  rintro e w1 ⟨r, hr, rfl, hx⟩
  have HR : decide (0 ≤ r) = l.any badUse := hr
  have H := Lib.hid HR
  clear HR hr
  go_wp2_with fail
  go_ret
  exact ⟨ret_bool H.out, hx⟩

set_option maxHeartbeats 1000000 in
theorem right_any (F : Int) (A : Option Addr) (c : Nat) (us : List P2) (w : World) (h : Two w w.heap.size A us) :
    Calls Try.prog 13 #[.int .i64 F, .slice A us.length c] w fun e w' => e = .returned (.bool (rightB F us)) ∧ Below w.heap.size w w' := by
  by_cases h1 : 0 ≤ F
  · by_cases h2 : F ≤ 1000000
    · by_cases h3 : us.length ≤ 200
      · go_enter Try.func13, Try.ntmps13
        go_wp2_with fail
        refine (contains_any _ _ _ _ h (by omega)).mono ?_
        rintro e w1 ⟨rfl, hx⟩
        go_wp2_with fail
        go_ret
        exact ⟨by simp [rightB, h1, h2, h3], hx⟩
      · go_enter Try.func13, Try.ntmps13
        have h3' : decide ((us.length : Int) ≤ 200) = false := by simp; omega
        go_wp2_with fail
        go_ret
        exact ⟨by simp [rightB]; omega, Below.refl _ _⟩
    · go_enter Try.func13, Try.ntmps13
      have h2' : decide (F ≤ 1000000) = false := by simp; omega
      go_wp2_with fail
      go_ret
      exact ⟨by simp [rightB]; omega, Below.refl _ _⟩
  · go_enter Try.func13, Try.ntmps13
    have h1' : decide (0 ≤ F) = false := by simp; omega
    go_wp2_with fail
    go_ret
    exact ⟨by simp [rightB]; omega, Below.refl _ _⟩
end Go.Proofs.Ytlbndoddkialkaa
