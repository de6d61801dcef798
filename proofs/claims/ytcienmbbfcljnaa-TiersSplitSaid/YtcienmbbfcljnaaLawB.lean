/-
  The plain law of tiers: what has been used is the sum of the parts, at most the Cap; the order of the claims makes no difference. Conditions: none.
-/
import Derived.Test.YtcienmbbfcljnaaLawA
namespace Go.Proofs.Ytcienmbbfcljnaa
open Go.RowKit

def sumL (f : Int → Int) : List Int → Int
  | [] => 0
  | x :: l => f x + sumL f l
theorem sumL_append (f : Int → Int) (l r : List Int) : sumL f (l ++ r) = sumL f l + sumL f r := by
  induction l with
  | nil => simp [sumL]
  | cons x l ih => simp only [List.cons_append, sumL, ih]; omega
theorem sumL_perm {f : Int → Int} {l r : List Int} (h : l.Perm r) : sumL f l = sumL f r := by
  induction h with
  | nil => rfl
  | cons x _ ih => simp only [sumL, ih]
  | swap x y l => simp only [sumL]; omega
  | trans _ _ h1 h2 => exact h1.trans h2
/-- the sum of the parts of the first k claims -/
def partSum (t : P3) (cs : List Int) : Nat → Int
  | 0 => 0
  | k + 1 => partSum t cs k + part t (cs.getD k 0)
theorem partSum_all (t : P3) (cs : List Int) : ∀ k, k ≤ cs.length → partSum t cs k = sumL (part t) (cs.take k)
  | 0, _ => rfl
  | k + 1, hk => by
    rw [partSum, partSum_all t cs k (by omega), take_snoc cs k (by omega), sumL_append, getD1 (by omega)]
    simp [sumL]
theorem sumTo_all (cs : List Int) : ∀ k, k ≤ cs.length → sumTo cs k = sumL id (cs.take k)
  | 0, _ => rfl
  | k + 1, hk => by
    rw [sumTo, sumTo_all cs k (by omega), take_snoc cs k (by omega), sumL_append, getD1 (by omega)]
    simp [sumL]
theorem partSum_perm {t : P3} {cs ds : List Int} (h : cs.Perm ds) : partSum t cs cs.length = partSum t ds ds.length := by
  rw [partSum_all _ _ _ (Nat.le_refl _), partSum_all _ _ _ (Nat.le_refl _), List.take_length, List.take_length]
  exact sumL_perm h
theorem sumTo_perm {cs ds : List Int} (h : cs.Perm ds) : sumTo cs cs.length = sumTo ds ds.length := by
  rw [sumTo_all _ _ (Nat.le_refl _), sumTo_all _ _ (Nat.le_refl _), List.take_length, List.take_length]
  exact sumL_perm h
theorem partSum_bounds {t : P3} (h1 : 0 ≤ t.a) (h2 : t.a < t.b) (h3 : t.b ≤ 1000000000000000) (cs : List Int) (k : Nat) : 0 ≤ partSum t cs k ∧ partSum t cs k ≤ k * 1000000000000000 := by
  induction k with
  | zero => simp [partSum]
  | succ k ih =>
    have := part_bounds (x := cs.getD k 0) h1 h2 h3
    simp only [partSum]
    omega
theorem mn_zero {c : Int} (h : 0 ≤ c) : mn 0 c = 0 := by
  unfold mn
  split <;> omega
theorem mn_step {s q c : Int} (hq : 0 ≤ q) : mn s c + mn q (c - mn s c) = mn (s + q) c := by
  unfold mn
  by_cases h1 : c < s
  · rw [if_pos h1]
    split <;> (split <;> omega)
  · rw [if_neg h1]
    split <;> (split <;> omega)
theorem useAt_sum {L : List P3} (hL : FineT L) (cs : List Int) {i : Nat} (hi : i < L.length) (k : Nat) : (useAt L cs k).getD i 0 = mn (partSum (L.getD i ⟨0, 0, 0⟩) cs k) (L.getD i ⟨0, 0, 0⟩).c := by
  have a := hL.2 i hi
  induction k with
  | zero => rw [useAt_zero, partSum, mn_zero (by omega)]
  | succ k ih =>
    have p := part_bounds (t := L.getD i ⟨0, 0, 0⟩) (x := cs.getD k 0) (by omega) (by omega) (by omega)
    rw [useAt_get hi, payAt, pay1, ih, partSum]
    exact mn_step p.1
theorem useAt_perm {L : List P3} (hL : FineT L) {cs ds : List Int} (h : cs.Perm ds) : useAt L cs cs.length = useAt L ds ds.length := by
  apply List.ext_getElem
  · rw [useAt_length, useAt_length]
  · intro i h1 h2
    rw [← getD1 h1, ← getD1 h2]
    rw [useAt_length] at h1
    rw [useAt_sum hL cs h1, useAt_sum hL ds h1, partSum_perm h]
theorem claims_perm {cs ds : List Int} (h : cs.Perm ds) (hc : claimsB cs = true) : claimsB ds = true := by
  simp only [claimsB, Bool.not_eq_true', List.any_eq_false] at hc ⊢
  exact fun x hx => hc x (h.mem_iff.2 hx)
theorem run_perm {L : List P3} {cs ds : List Int} (h : cs.Perm ds) (hr : rightB L = true) (hc : claimsB cs = true) (hn : cs.length ≤ 10000) :
    runE L ds = 0 ∧ runR L ds = rests L ds ds.length ∧ runU L ds = useAt L cs cs.length ∧ ds.length = cs.length ∧ sumTo (rests L ds ds.length) ds.length = sumTo (rests L cs cs.length) cs.length := by
  have hd := claims_perm h hc
  have hlen := h.length_eq
  have hok : okRun L ds = true := by simp [okRun, hr, hd]
  refine ⟨by simp [runE, hok]; omega, by simp [runR, hok]; omega, ?_, hlen.symm, ?_⟩
  · rw [useAt_perm (fine_of_right hr) h]
    simp [runU, hok]
    omega
  · have h1 := once_sum L cs cs.length cs.length (Nat.le_refl _)
    have h2 := once_sum L ds ds.length ds.length (Nat.le_refl _)
    have h3 := sumTo_perm h
    rw [useAt_perm (fine_of_right hr) h] at h1
    omega
theorem swap_perm {cs : List Int} {a b : Nat} (ha : a < cs.length) (hb : b < cs.length) : cs.Perm ((cs.set a (cs.getD b 0)).set b (cs.getD a 0)) := by
  rw [getD1 ha, getD1 hb]
  exact (List.set_set_perm ha hb).symm
theorem back_snoc {cs : List Int} {m : Nat} (h : m < cs.length) : ints (cs.reverse.take m) ++ [.int .i64 (cs.getD (cs.length - 1 - m) 0)] = ints (cs.reverse.take (m + 1)) := by
  rw [take_snoc _ _ (by simpa using h), List.getElem_reverse, getD1 (by omega)]
  simp [ints]
theorem partOf (t : P3) (x : Int) (h2 : t.a < t.b) : (if 0 < (if t.b < x then t.b else x) - t.a then (if t.b < x then t.b else x) - t.a else 0) = part t x := by
  unfold part
  (repeat' split) <;> omega
end Go.Proofs.Ytcienmbbfcljnaa
