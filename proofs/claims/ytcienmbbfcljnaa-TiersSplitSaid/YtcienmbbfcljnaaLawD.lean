/-
  The plain law of tiers: a tier that is parted pays what it paid. Conditions: none.
-/
import Derived.Test.YtcienmbbfcljnaaLawC
namespace Go.Proofs.Ytcienmbbfcljnaa
open Go.RowKit

/-- the tiers with the one at i parted at a cut -/
def parted (L : List P3) (i : Nat) (cut : Int) : List P3 :=
  L.take i ++ [⟨(L.getD i ⟨0, 0, 0⟩).a, cut, 1000000000000000⟩, ⟨cut, (L.getD i ⟨0, 0, 0⟩).b, 1000000000000000⟩] ++ L.drop (i + 1)
section
variable {L : List P3} {i : Nat} {cut : Int}
theorem parted_length (hi : i < L.length) : (parted L i cut).length = L.length + 1 := by simp [parted]; omega
theorem parted_lt (hi : i < L.length) {j : Nat} (hj : j < i) : (parted L i cut).getD j ⟨0, 0, 0⟩ = L.getD j ⟨0, 0, 0⟩ := by
  have h1 : j < (L.take i).length := by simp; omega
  simp only [parted, List.getD, List.append_assoc]
  rw [List.getElem?_append_left h1, List.getElem?_take, if_pos hj]
theorem parted_at (hi : i < L.length) : (parted L i cut).getD i ⟨0, 0, 0⟩ = ⟨(L.getD i ⟨0, 0, 0⟩).a, cut, 1000000000000000⟩ := by
  have h1 : (L.take i).length = i := by simp; omega
  simp only [parted, List.getD, List.append_assoc]
  rw [List.getElem?_append_right (by omega), h1]
  simp
theorem parted_at2 (hi : i < L.length) : (parted L i cut).getD (i + 1) ⟨0, 0, 0⟩ = ⟨cut, (L.getD i ⟨0, 0, 0⟩).b, 1000000000000000⟩ := by
  have h1 : (L.take i).length = i := by simp; omega
  simp only [parted, List.getD, List.append_assoc]
  rw [List.getElem?_append_right (by omega), h1, show i + 1 - i = 1 from by omega]
  simp
theorem parted_gt (hi : i < L.length) {j : Nat} (hj : i < j) : (parted L i cut).getD (j + 1) ⟨0, 0, 0⟩ = L.getD j ⟨0, 0, 0⟩ := by
  have h1 : (L.take i).length = i := by simp; omega
  simp only [parted, List.getD, List.append_assoc]
  rw [List.getElem?_append_right (by omega), h1, List.getElem?_append_right (by simp; omega), List.getElem?_drop]
  simp only [List.length_cons, List.length_nil]
  rw [show i + 1 + (j + 1 - i - (0 + 1 + 1)) = j from by omega]
theorem parted_least_le (hi : i < L.length) : ∀ j, j ≤ i → leastAt (parted L i cut) j = leastAt L j
  | 0, _ => rfl
  | j + 1, hj => by simp only [leastAt]; rw [parted_lt hi (by omega)]
theorem parted_least_gt (hi : i < L.length) {j : Nat} (hj : i < j) : leastAt (parted L i cut) (j + 1) = leastAt L j := by
  obtain ⟨j', rfl⟩ : ∃ j', j = j' + 1 := ⟨j - 1, by omega⟩
  simp only [leastAt]
  by_cases e : j' = i
  · subst e; rw [parted_at2 hi]
  · rw [parted_gt hi (by omega)]
theorem parted_right (h : rightB L = true) (hi : i < L.length) (hl : L.length ≤ 5) (h1 : (L.getD i ⟨0, 0, 0⟩).a < cut) (h2 : cut < (L.getD i ⟨0, 0, 0⟩).b) : rightB (parted L i cut) = true := by
  have hL := fine_of_right h
  have ok : ∀ j, j < L.length → badAt L j = false := by
    intro j hj
    simp only [rightB, Bool.and_eq_true, List.all_eq_true, List.mem_range, Bool.not_eq_true'] at h
    exact h.1 j hj
  have a := hL.2 i hi
  rw [right_good, parted_length hi]
  · exact decide_eq_true (by omega)
  · intro j hj
    rw [parted_length hi] at hj
    by_cases e1 : j < i
    · rw [badAt, parted_least_le hi j (by omega), parted_lt hi e1]
      exact ok j (by omega)
    · by_cases e2 : j = i
      · subst e2
        rw [badAt, parted_least_le hi j (Nat.le_refl _), parted_at hi]
        simp only [badT, okMoney, Bool.or_eq_false_iff, Bool.not_eq_false', Bool.and_eq_true, decide_eq_false_iff_not, decide_eq_true_eq]
        omega
      · by_cases e3 : j = i + 1
        · subst e3
          rw [badAt, parted_at2 hi, leastAt, parted_at hi]
          simp only [badT, okMoney, Bool.or_eq_false_iff, Bool.not_eq_false', Bool.and_eq_true, decide_eq_false_iff_not, decide_eq_true_eq]
          omega
        · obtain ⟨j', rfl⟩ : ∃ j', j = j' + 1 := ⟨j - 1, by omega⟩
          rw [badAt, parted_least_gt hi (by omega), parted_gt hi (by omega)]
          exact ok j' (by omega)
end
theorem parted_three {w : World} {B : Nat} {A : Option Addr} {L : List P3} {i n : Nat} {cut : Int} {t : P3} {xs : List Value} (h : Shows w B 3 A n xs) (hn : n = L.length + 1) (hi : i < L.length) (ht : L.getD i ⟨0, 0, 0⟩ = t)
    (hx : xs = P3.cells (L.take i) ++ [.int .i64 t.a, .int .i64 cut, .int .i64 1000000000000000, .int .i64 cut, .int .i64 t.b, .int .i64 1000000000000000] ++ P3.cells (L.drop (i + 1))) : Three w B A (parted L i cut) ∧ (parted L i cut).length = n := by
  have e1 := parted_length (cut := cut) hi
  have e2 : P3.cells (parted L i cut) = xs := by rw [hx, parted, P3.append, P3.append, ht]; rfl
  refine ⟨?_, by omega⟩
  unfold Three
  rw [e1, e2, ← hn]
  exact h
theorem part_parted {t : P3} {cut c d : Int} (h1 : t.a < cut) (h2 : cut < t.b) (x : Int) : part ⟨t.a, cut, c⟩ x + part ⟨cut, t.b, d⟩ x = part t x := by
  unfold part
  simp only
  (repeat' split) <;> omega
theorem partSum_parted {t : P3} {cut c d : Int} (h1 : t.a < cut) (h2 : cut < t.b) (cs : List Int) (k : Nat) : partSum ⟨t.a, cut, c⟩ cs k + partSum ⟨cut, t.b, d⟩ cs k = partSum t cs k := by
  induction k with
  | zero => rfl
  | succ k ih =>
    have := part_parted (t := t) (c := c) (d := d) h1 h2 (cs.getD k 0)
    simp only [partSum]
    omega
/-- claims that are small -/
def Few (cs : List Int) : Prop := cs.length ≤ 30 ∧ ∀ k, k < cs.length → 0 ≤ cs.getD k 0 ∧ cs.getD k 0 ≤ 33333333333333
theorem few_claims {cs : List Int} (h : Few cs) : claimsB cs = true := by
  simp only [claimsB, Bool.not_eq_true', List.any_eq_false]
  intro x hx
  obtain ⟨k, hk, rfl⟩ := List.getElem_of_mem hx
  have := h.2 k hk
  rw [getD1 hk] at this
  simp [okMoney]
  omega
theorem few_sum {cs : List Int} (h : Few cs) {t : P3} (h1 : 0 ≤ t.a) (h2 : t.a < t.b) : ∀ k, k ≤ cs.length → 0 ≤ partSum t cs k ∧ partSum t cs k ≤ k * 33333333333333
  | 0, _ => by simp [partSum]
  | k + 1, hk => by
    have ih := few_sum h h1 h2 k (by omega)
    have a := h.2 k (by omega)
    have p : 0 ≤ part t (cs.getD k 0) ∧ part t (cs.getD k 0) ≤ cs.getD k 0 := by
      unfold part
      split
      · omega
      · split <;> omega
    simp only [partSum]
    omega
section
variable {L : List P3} {i : Nat} {cut : Int} {cs : List Int}
theorem split_use (hr : rightB L = true) (hi : i < L.length) (hl : L.length ≤ 5) (h1 : (L.getD i ⟨0, 0, 0⟩).a < cut) (h2 : cut < (L.getD i ⟨0, 0, 0⟩).b) (hf : Few cs) {k : Nat} (hk : k ≤ cs.length) :
    (∀ j, j < i → (useAt (parted L i cut) cs k).getD j 0 = (useAt (capAt L i 1000000000000000) cs k).getD j 0) ∧
    ((useAt (parted L i cut) cs k).getD i 0 + (useAt (parted L i cut) cs k).getD (i + 1) 0 = (useAt (capAt L i 1000000000000000) cs k).getD i 0) ∧
    (∀ j, i < j → j < L.length → (useAt (parted L i cut) cs k).getD (j + 1) 0 = (useAt (capAt L i 1000000000000000) cs k).getD j 0) := by
  have hS := fine_of_right (parted_right hr hi hl h1 h2)
  have hW := fine_of_right (capAt_right hr hi (show (0 : Int) ≤ 1000000000000000 by decide) (Int.le_refl _))
  have hL := fine_of_right hr
  have lS := parted_length (cut := cut) hi
  have lW := capAt_length L i 1000000000000000
  have gW : ∀ j, (capAt L i 1000000000000000).getD j ⟨0, 0, 0⟩ = if j = i then ⟨(L.getD i ⟨0, 0, 0⟩).a, (L.getD i ⟨0, 0, 0⟩).b, 1000000000000000⟩ else L.getD j ⟨0, 0, 0⟩ := fun j => set3_get L i j _ hi
  have a := hL.2 i hi
  have hkk : (k : Int) ≤ 30 := by have := hf.1; omega
  refine ⟨fun j hj => ?_, ?_, fun j hj hjl => ?_⟩
  · rw [useAt_sum hS cs (by omega), useAt_sum hW cs (by omega), parted_lt hi hj, gW, if_neg (by omega)]
  · rw [useAt_sum hS cs (by omega), useAt_sum hS cs (by omega), useAt_sum hW cs (by omega), parted_at hi, parted_at2 hi, gW, if_pos rfl]
    have s1 := few_sum hf (t := ⟨(L.getD i ⟨0, 0, 0⟩).a, cut, 1000000000000000⟩) (by simp only; omega) h1 k hk
    have s2 := few_sum hf (t := ⟨cut, (L.getD i ⟨0, 0, 0⟩).b, 1000000000000000⟩) (by simp only; omega) h2 k hk
    have s3 := few_sum hf (t := ⟨(L.getD i ⟨0, 0, 0⟩).a, (L.getD i ⟨0, 0, 0⟩).b, 1000000000000000⟩) (by simp only; omega) (by simp only; omega) k hk
    have s4 := partSum_parted (t := ⟨(L.getD i ⟨0, 0, 0⟩).a, (L.getD i ⟨0, 0, 0⟩).b, 1000000000000000⟩) (c := 1000000000000000) (d := 1000000000000000) h1 h2 cs k
    have m : ∀ s : Int, s ≤ 1000000000000000 → mn s 1000000000000000 = s := fun s hs => by unfold mn; split <;> omega
    rw [m _ (by omega), m _ (by omega), m _ (by omega)]
    exact s4
  · rw [useAt_sum hS cs (by omega), useAt_sum hW cs (by omega), parted_gt hi hj, gW, if_neg (by omega)]
theorem rest_succ (L : List P3) (U : List Int) (x : Int) (k : Nat) : restAt L U x (k + 1) = restAt L U x k - payAt L U x k := rfl
theorem pay_diff {L : List P3} {cs : List Int} {k j : Nat} (hj : j < L.length) : payAt L (useAt L cs k) (cs.getD k 0) j = (useAt L cs (k + 1)).getD j 0 - (useAt L cs k).getD j 0 := by
  rw [useAt_get hj]
  omega
theorem split_rest (hr : rightB L = true) (hi : i < L.length) (hl : L.length ≤ 5) (h1 : (L.getD i ⟨0, 0, 0⟩).a < cut) (h2 : cut < (L.getD i ⟨0, 0, 0⟩).b) (hf : Few cs) {k : Nat} (hk : k < cs.length) :
    restAt (parted L i cut) (useAt (parted L i cut) cs k) (cs.getD k 0) (L.length + 1) = restAt (capAt L i 1000000000000000) (useAt (capAt L i 1000000000000000) cs k) (cs.getD k 0) L.length := by
  obtain ⟨a1, a2, a3⟩ := split_use hr hi hl h1 h2 hf (k := k) (by omega)
  obtain ⟨b1, b2, b3⟩ := split_use hr hi hl h1 h2 hf (k := k + 1) (by omega)
  have lS := parted_length (cut := cut) hi
  have lW := capAt_length L i 1000000000000000
  have p1 : ∀ j, j ≤ i → restAt (parted L i cut) (useAt (parted L i cut) cs k) (cs.getD k 0) j = restAt (capAt L i 1000000000000000) (useAt (capAt L i 1000000000000000) cs k) (cs.getD k 0) j := by
    intro j
    induction j with
    | zero => intro _; rfl
    | succ j ih =>
      intro hj
      rw [restAt, restAt, ih (by omega), pay_diff (by omega), pay_diff (by omega), a1 j (by omega), b1 j (by omega)]
  have p2 : ∀ m, i + 1 + m ≤ L.length → restAt (parted L i cut) (useAt (parted L i cut) cs k) (cs.getD k 0) (i + 1 + m + 1) = restAt (capAt L i 1000000000000000) (useAt (capAt L i 1000000000000000) cs k) (cs.getD k 0) (i + 1 + m) := by
    intro m
    induction m with
    | zero =>
      intro _
      simp only [Nat.add_zero]
      rw [restAt, restAt, restAt, p1 i (Nat.le_refl _), pay_diff (by omega), pay_diff (by omega), pay_diff (by omega)]
      omega
    | succ m ih =>
      intro hm
      have e := ih (by omega)
      rw [show i + 1 + (m + 1) + 1 = (i + 1 + m + 1) + 1 from by omega, show i + 1 + (m + 1) = (i + 1 + m) + 1 from by omega]
      rw [rest_succ (parted L i cut) _ _ (i + 1 + m + 1), rest_succ (capAt L i 1000000000000000) _ _ (i + 1 + m), e, pay_diff (by omega), pay_diff (by omega), a3 (i + 1 + m) (by omega) (by omega), b3 (i + 1 + m) (by omega) (by omega)]
  have := p2 (L.length - (i + 1)) (by omega)
  rw [show i + 1 + (L.length - (i + 1)) = L.length from by omega] at this
  exact this
theorem split_rests (hr : rightB L = true) (hi : i < L.length) (hl : L.length ≤ 5) (h1 : (L.getD i ⟨0, 0, 0⟩).a < cut) (h2 : cut < (L.getD i ⟨0, 0, 0⟩).b) (hf : Few cs) :
    rests (parted L i cut) cs cs.length = rests (capAt L i 1000000000000000) cs cs.length := by
  refine List.map_congr_left fun k hk => ?_
  rw [parted_length hi, capAt_length]
  exact split_rest hr hi hl h1 h2 hf (by simpa using hk)
theorem split_take (hr : rightB L = true) (hi : i < L.length) (hl : L.length ≤ 5) (h1 : (L.getD i ⟨0, 0, 0⟩).a < cut) (h2 : cut < (L.getD i ⟨0, 0, 0⟩).b) (hf : Few cs) :
    (useAt (capAt L i 1000000000000000) cs cs.length).take i = (useAt (parted L i cut) cs cs.length).take i ∧
    (useAt (capAt L i 1000000000000000) cs cs.length).drop (i + 1) = (useAt (parted L i cut) cs cs.length).drop (i + 2) := by
  obtain ⟨a1, a2, a3⟩ := split_use hr hi hl h1 h2 hf (k := cs.length) (Nat.le_refl _)
  have lS := useAt_length (parted L i cut) cs cs.length
  have lW := useAt_length (capAt L i 1000000000000000) cs cs.length
  rw [parted_length hi] at lS
  rw [capAt_length] at lW
  refine ⟨List.ext_getElem (by simp; omega) fun j q1 q2 => ?_, List.ext_getElem (by simp; omega) fun j q1 q2 => ?_⟩
  · simp only [List.length_take] at q1
    rw [List.getElem_take, List.getElem_take, ← getD1, ← getD1]
    exact (a1 j (by omega)).symm
  · simp only [List.length_drop] at q1
    rw [List.getElem_drop, List.getElem_drop, ← getD1, ← getD1, show i + 2 + j = i + 1 + j + 1 from by omega]
    exact (a3 (i + 1 + j) (by omega) (by omega)).symm
end
end Go.Proofs.Ytcienmbbfcljnaa
