/-
  The plain law of tiers: a greater claim, a greater Cap, more that has been used. Conditions: none.
-/
import Derived.Test.YtcienmbbfcljnaaLawB
namespace Go.Proofs.Ytcienmbbfcljnaa
open Go.RowKit

theorem part_eq {t : P3} {x : Int} (h : t.a < t.b) : part t x = mn x t.b - mn x t.a := by
  unfold part mn
  (repeat' split) <;> omega
theorem pay1_mono {t : P3} {u x y : Int} (h : part t x ≤ part t y) : pay1 t u x ≤ pay1 t u y ∧ pay1 t u y - pay1 t u x ≤ part t y - part t x := by
  unfold pay1 mn
  (repeat' split) <;> omega
theorem mn_gap {x y m a : Int} (h : x ≤ y) (hm : m ≤ a) : mn x a - mn x m ≤ mn y a - mn y m := by
  unfold mn
  (repeat' split) <;> omega
theorem mn_le' {x y m : Int} (h : x ≤ y) : mn x m ≤ mn y m ∧ mn y m - mn x m ≤ y - x := by
  unfold mn
  (repeat' split) <;> omega
theorem part_mono {t : P3} {x y : Int} (h : t.a < t.b) (hx : x ≤ y) : part t x ≤ part t y := by
  rw [part_eq h, part_eq h]
  have := mn_gap (m := t.a) (a := t.b) hx (by omega)
  omega
theorem rest_mono {L : List P3} {U : List Int} {x y : Int} (hL : FineT L) (hx : x ≤ y) (h0 : 0 ≤ x) : ∀ k, k ≤ L.length → (y - mn y (leastAt L k)) - (x - mn x (leastAt L k)) ≤ restAt L U y k - restAt L U x k
  | 0, _ => by
    simp only [restAt, leastAt]
    have e1 : mn y 0 = 0 := by unfold mn; split <;> omega
    have e2 : mn x 0 = 0 := by unfold mn; split <;> omega
    omega
  | k + 1, hk => by
    have ih := rest_mono (U := U) hL hx h0 k (by omega)
    have a := hL.2 k (by omega)
    have m := part_mono (t := L.getD k ⟨0, 0, 0⟩) (x := x) (y := y) (by omega) hx
    have p := (pay1_mono (u := U.getD k 0) m).2
    rw [part_eq (by omega), part_eq (by omega)] at p
    have g := mn_gap (m := leastAt L k) (a := (L.getD k ⟨0, 0, 0⟩).a) hx (by omega)
    simp only [restAt, payAt, leastAt]
    omega
theorem rest_le {L : List P3} {U : List Int} {x y : Int} (hL : FineT L) (hx : x ≤ y) (h0 : 0 ≤ x) : restAt L U x L.length ≤ restAt L U y L.length := by
  have := rest_mono (U := U) hL hx h0 L.length (Nat.le_refl _)
  have := (mn_le' (m := leastAt L L.length) hx).2
  omega
theorem payAt_mono {L : List P3} {U : List Int} {x y : Int} (hL : FineT L) (hx : x ≤ y) {i : Nat} (hi : i < L.length) : payAt L U x i ≤ payAt L U y i := by
  have a := hL.2 i hi
  exact (pay1_mono (part_mono (by omega) hx)).1
/-- what each tier pays, or less, leaves as much, or more -/
theorem rest_of {L M : List P3} {U V : List Int} {x : Int} (h : ∀ i, i < L.length → payAt L U x i ≤ payAt M V x i) : ∀ k, k ≤ L.length → restAt M V x k ≤ restAt L U x k
  | 0, _ => Int.le_refl _
  | k + 1, hk => by
    have := rest_of h k (by omega)
    have := h k (by omega)
    simp only [restAt]
    omega
theorem set3_get (L : List P3) (k j : Nat) (t : P3) (hk : k < L.length) : (L.set k t).getD j ⟨0, 0, 0⟩ = if j = k then t else L.getD j ⟨0, 0, 0⟩ := by
  by_cases e : j = k
  · subst e
    simp [List.getD, hk]
  · simp [List.getD, e, List.getElem?_set_ne (fun h => e h.symm)]
theorem set1_get (U : List Int) (k j : Nat) (u : Int) (hk : k < U.length) : (U.set k u).getD j 0 = if j = k then u else U.getD j 0 := by
  by_cases e : j = k
  · subst e
    simp [List.getD, hk]
  · simp [List.getD, e, List.getElem?_set_ne (fun h => e h.symm)]
/-- the tiers with another Cap at k -/
def capAt (L : List P3) (k : Nat) (c : Int) : List P3 := L.set k ⟨(L.getD k ⟨0, 0, 0⟩).a, (L.getD k ⟨0, 0, 0⟩).b, c⟩
theorem capAt_length (L : List P3) (k : Nat) (c : Int) : (capAt L k c).length = L.length := by simp [capAt]
theorem capAt_least (L : List P3) (k : Nat) (c : Int) (hk : k < L.length) (j : Nat) : leastAt (capAt L k c) j = leastAt L j := by
  cases j with
  | zero => rfl
  | succ j =>
    simp only [leastAt, capAt]
    rw [set3_get L k j _ hk]
    split
    · rename_i e; subst e; rfl
    · rfl
theorem capAt_right {L : List P3} (h : rightB L = true) {k : Nat} (hk : k < L.length) {c : Int} (h0 : 0 ≤ c) (h1 : c ≤ 1000000000000000) : rightB (capAt L k c) = true := by
  have hL := fine_of_right h
  rw [right_good, capAt_length]
  · exact decide_eq_true hL.1
  · intro j hj
    rw [capAt_length] at hj
    have a := hL.2 j hj
    rw [badAt, capAt_least L k c hk]
    have : badAt L j = false := by
      simp only [rightB, Bool.and_eq_true, List.all_eq_true, List.mem_range, Bool.not_eq_true'] at h
      exact h.1 j hj
    rw [badAt] at this
    simp only [capAt]
    rw [set3_get L k j _ hk]
    split
    · rename_i e
      subst e
      simp only [badT, okMoney, Bool.or_eq_false_iff, Bool.not_eq_false', Bool.and_eq_true, decide_eq_false_iff_not, decide_eq_true_eq]
      omega
    · exact this
theorem capAt_pay {L : List P3} {k : Nat} (hk : k < L.length) {c : Int} (hc : (L.getD k ⟨0, 0, 0⟩).c ≤ c) (U : List Int) (x : Int) (j : Nat) : payAt L U x j ≤ payAt (capAt L k c) U x j ∧ (j ≠ k → payAt (capAt L k c) U x j = payAt L U x j) := by
  simp only [payAt, capAt]
  rw [set3_get L k j _ hk]
  by_cases e : j = k
  · subst e
    rw [if_pos rfl]
    refine ⟨?_, fun h => absurd rfl h⟩
    simp only [pay1, show part ⟨(L.getD j ⟨0, 0, 0⟩).a, (L.getD j ⟨0, 0, 0⟩).b, c⟩ x = part (L.getD j ⟨0, 0, 0⟩) x from rfl]
    generalize part (L.getD j ⟨0, 0, 0⟩) x = p
    unfold mn
    split <;> (split <;> omega)
  · rw [if_neg e]
    exact ⟨Int.le_refl _, fun _ => rfl⟩
theorem use_pay {L : List P3} {U : List Int} {k : Nat} (hk : k < U.length) {u : Int} (hu : U.getD k 0 ≤ u) (x : Int) (j : Nat) : payAt L (U.set k u) x j ≤ payAt L U x j ∧ (j ≠ k → payAt L (U.set k u) x j = payAt L U x j) := by
  simp only [payAt]
  rw [set1_get U k j u hk]
  by_cases e : j = k
  · subst e
    rw [if_pos rfl]
    refine ⟨?_, fun h => absurd rfl h⟩
    unfold pay1 mn
    split <;> (split <;> omega)
  · rw [if_neg e]
    exact ⟨Int.le_refl _, fun _ => rfl⟩
theorem capAt_usable {L : List P3} {U : List Int} (h : usableB L U = true) {k : Nat} (hk : k < L.length) {c : Int} (hc : (L.getD k ⟨0, 0, 0⟩).c ≤ c) : usableB (capAt L k c) U = true := by
  obtain ⟨h0, h1⟩ := fine_used h
  refine usable_good (by rw [capAt_length]; exact h0) fun i hi => ?_
  have a := h1 i (by omega)
  have e : (capAt L k c).getD i ⟨0, 0, 0⟩ = if i = k then ⟨(L.getD k ⟨0, 0, 0⟩).a, (L.getD k ⟨0, 0, 0⟩).b, c⟩ else L.getD i ⟨0, 0, 0⟩ := set3_get L k i _ hk
  simp only [badU, Bool.or_eq_false_iff, decide_eq_false_iff_not]
  rw [e]
  split
  · rename_i e
    subst e
    exact ⟨by omega, by simp only; omega⟩
  · omega
theorem use_usable {L : List P3} {U : List Int} (h : usableB L U = true) {k : Nat} (hk : k < L.length) {u : Int} (h2 : U.getD k 0 ≤ u) (h3 : u ≤ (L.getD k ⟨0, 0, 0⟩).c) : usableB L (U.set k u) = true := by
  obtain ⟨h0, h1⟩ := fine_used h
  refine usable_good (by rw [List.length_set]; exact h0) fun i hi => ?_
  rw [List.length_set] at hi
  have a := h1 i (by omega)
  simp only [badU, Bool.or_eq_false_iff, decide_eq_false_iff_not]
  rw [set1_get U k i u (by omega)]
  split
  · rename_i e
    subst e
    have := h1 i hk
    omega
  · omega
end Go.Proofs.Ytcienmbbfcljnaa
