/-
  The plain law of tiers: what they pay, and the rest, are the claim; sums. Conditions: none.
-/
import Derived.Test.YtcienmbbfcljnaaWalkT
namespace Go.Proofs.Ytcienmbbfcljnaa
open Go.RowKit

theorem sumTo_bounds {l : List Int} (h : ∀ i, i < l.length → 0 ≤ l.getD i 0 ∧ l.getD i 0 ≤ 1000000000000000) : ∀ k, k ≤ l.length → 0 ≤ sumTo l k ∧ sumTo l k ≤ k * 1000000000000000
  | 0, _ => by simp [sumTo]
  | k + 1, hk => by
    have := sumTo_bounds h k (by omega)
    have := h k (by omega)
    simp only [sumTo]
    omega
theorem sumTo_add {a b c : List Int} {n : Nat} (h : ∀ i, i < n → a.getD i 0 = b.getD i 0 + c.getD i 0) : ∀ k, k ≤ n → sumTo a k = sumTo b k + sumTo c k
  | 0, _ => by simp [sumTo]
  | k + 1, hk => by
    have := sumTo_add h k (by omega)
    have := h k (by omega)
    simp only [sumTo]
    omega
theorem sumTo_pays (L : List P3) (U : List Int) (x : Int) (n : Nat) : ∀ k, k ≤ n → sumTo (pays L U x n) k = x - restAt L U x k
  | 0, _ => by simp [sumTo, restAt]
  | k + 1, hk => by
    have := sumTo_pays L U x n k (by omega)
    rw [sumTo, this, pays_get (by omega), restAt]
    omega
/-- the parts lie one beside the other -/
theorem rest_ge {L : List P3} {U : List Int} {x : Int} (hL : FineT L) (hU : ∀ i, i < L.length → 0 ≤ U.getD i 0 ∧ U.getD i 0 ≤ (L.getD i ⟨0, 0, 0⟩).c) (hx : 0 ≤ x) : ∀ k, k ≤ L.length → 0 ≤ restAt L U x k ∧ x - leastAt L k ≤ restAt L U x k
  | 0, _ => by simp only [restAt, leastAt]; omega
  | k + 1, hk => by
    have ih := rest_ge hL hU hx k (by omega)
    have a := hL.2 k (by omega)
    have b := hU k (by omega)
    have p : payAt L U x k ≤ part (L.getD k ⟨0, 0, 0⟩) x := by
      simp only [payAt, pay1, mn]
      split <;> omega
    have q : part (L.getD k ⟨0, 0, 0⟩) x = 0 ∨ (part (L.getD k ⟨0, 0, 0⟩) x = (L.getD k ⟨0, 0, 0⟩).b - (L.getD k ⟨0, 0, 0⟩).a ∧ (L.getD k ⟨0, 0, 0⟩).b ≤ x) ∨ (part (L.getD k ⟨0, 0, 0⟩) x = x - (L.getD k ⟨0, 0, 0⟩).a ∧ x < (L.getD k ⟨0, 0, 0⟩).b ∧ (L.getD k ⟨0, 0, 0⟩).a < x) := by
      unfold part
      split
      · exact .inl rfl
      · split <;> omega
    have q0 : part (L.getD k ⟨0, 0, 0⟩) x = 0 → x ≤ (L.getD k ⟨0, 0, 0⟩).a := by
      unfold part
      split
      · intro _; assumption
      · split <;> omega
    simp only [restAt, leastAt]
    rcases q with q | q | q
    · have := q0 q
      omega
    · omega
    · omega
theorem rests_get {L : List P3} {cs : List Int} {n k : Nat} (h : k < n) : (rests L cs n).getD k 0 = restAt L (useAt L cs k) (cs.getD k 0) L.length := by simp [rests, List.getD, h]
theorem claim_bounds {cs : List Int} (h : claimsB cs = true) : ∀ k, k < cs.length → 0 ≤ cs.getD k 0 ∧ cs.getD k 0 ≤ 1000000000000000 := fun _ hk => okMoney_iff.1 (claims_at h hk)
theorem rests_bounds {L : List P3} {cs : List Int} (hL : FineT L) (hc : claimsB cs = true) : ∀ k, k < (rests L cs cs.length).length → 0 ≤ (rests L cs cs.length).getD k 0 ∧ (rests L cs cs.length).getD k 0 ≤ 1000000000000000 := by
  intro k hk
  rw [rests_length] at hk
  have c := claim_bounds hc k hk
  have a := rest_ge (x := cs.getD k 0) hL (useAt_bounds hL cs k) c.1 L.length (Nat.le_refl _)
  have b := rest_bounds (x := cs.getD k 0) hL (useAt_bounds hL cs k) L.length (Nat.le_refl _)
  rw [rests_get hk]
  omega
theorem useAt_bounds' {L : List P3} (hL : FineT L) (cs : List Int) (k : Nat) : ∀ i, i < (useAt L cs k).length → 0 ≤ (useAt L cs k).getD i 0 ∧ (useAt L cs k).getD i 0 ≤ 1000000000000000 := by
  intro i hi
  rw [useAt_length] at hi
  have := useAt_bounds hL cs k i hi
  have := hL.2 i hi
  omega
/-- what has been paid, and the rests, are the claims -/
theorem once_sum (L : List P3) (cs : List Int) (n : Nat) : ∀ k, k ≤ n → sumTo (rests L cs n) k + sumTo (useAt L cs k) L.length = sumTo cs k
  | 0, _ => by
    have : ∀ m, sumTo (useAt L cs 0) m = 0 := by
      intro m
      induction m with
      | zero => rfl
      | succ m ih => rw [sumTo, ih, useAt_zero]; rfl
    rw [this]
    rfl
  | k + 1, hk => by
    have ih := once_sum L cs n k (by omega)
    have h1 := sumTo_add (a := useAt L cs (k + 1)) (b := useAt L cs k) (c := pays L (useAt L cs k) (cs.getD k 0) L.length) (n := L.length) (fun i hi => by rw [useAt_get hi, pays_get hi]) L.length (Nat.le_refl _)
    rw [sumTo_pays _ _ _ _ _ (Nat.le_refl _)] at h1
    rw [sumTo, rests_get (by omega), sumTo]
    omega
end Go.Proofs.Ytcienmbbfcljnaa
