/-
  The guard in plain words: what it is at least, at most; a run with it keeps the chain. Conditions: none.
-/
import Derived.Test.YteahkgoedibimaaWalkL
import Derived.Test.YteahkgoedibimaaWalkK
namespace Go.Proofs.Yteahkgoedibimaa
open Go.RowKit

theorem ovM_start (ls : List P2) (V : List Int) (k : Nat) (r : P3) (x : Int) : ∀ j, x ≤ ovM ls V k r x j
  | 0 => Int.le_refl _
  | j + 1 => Int.le_trans (ovM_start ls V k r x j) (le_mx1 _ _)
theorem ovM_ge (ls : List P2) (V : List Int) (k : Nat) (r : P3) (x : Int) : ∀ j i, i < j → V.getD (k + 1 + i) 0 + (Sm ls r.b.toNat - Sm ls (k + 1 + i)) - r.c ≤ ovM ls V k r x j
  | 0, _, h => absurd h (by omega)
  | j + 1, i, h => by
    by_cases e : i = j
    · subst e; exact le_mx2 _ _
    · exact Int.le_trans (ovM_ge ls V k r x j i (by omega)) (le_mx1 _ _)
theorem ovM_le {ls : List P2} {V : List Int} {k : Nat} {r : P3} {x y : Int} (hx : x ≤ y) : ∀ j, (∀ i, i < j → V.getD (k + 1 + i) 0 + (Sm ls r.b.toNat - Sm ls (k + 1 + i)) - r.c ≤ y) → ovM ls V k r x j ≤ y
  | 0, _ => hx
  | j + 1, h => mx_le (ovM_le hx j fun i hi => h i (by omega)) (h j (by omega))
theorem ovR_start (ls : List P2) (rs : List P3) (V : List Int) (k : Nat) (x : Int) : ∀ i, x ≤ ovR ls rs V k x i
  | 0 => Int.le_refl _
  | i + 1 => by
    rw [ovR_succ]
    exact Int.le_trans (ovR_start ls rs V k x i) (ovM_start _ _ _ _ _ _)
theorem ovR_ge (ls : List P2) (rs : List P3) (V : List Int) (k : Nat) (x : Int) : ∀ i q, q < i → ∀ m, k < m → (rs.getD q ⟨0, 0, 0⟩).a = k → m ≤ (rs.getD q ⟨0, 0, 0⟩).b.toNat →
    V.getD m 0 + (Sm ls (rs.getD q ⟨0, 0, 0⟩).b.toNat - Sm ls m) - (rs.getD q ⟨0, 0, 0⟩).c ≤ ovR ls rs V k x i
  | 0, _, h, _, _, _, _ => absurd h (by omega)
  | i + 1, q, h, m, hm, ha, hb => by
    rw [ovR_succ]
    by_cases e : q = i
    · subst e
      have := ovM_ge ls V k (rs.getD q ⟨0, 0, 0⟩) (ovR ls rs V k x q) (stepsR k (rs.getD q ⟨0, 0, 0⟩)) (m - (k + 1)) (by rw [stepsR, if_pos ha]; omega)
      rw [show k + 1 + (m - (k + 1)) = m from by omega] at this
      exact this
    · exact Int.le_trans (ovR_ge ls rs V k x i q (by omega) m hm ha hb) (ovM_start _ _ _ _ _ _)
theorem ovR_le {ls : List P2} {rs : List P3} {V : List Int} {k : Nat} {x y : Int} (hx : x ≤ y) : ∀ i, (∀ q, q < i → ∀ m, k < m → (rs.getD q ⟨0, 0, 0⟩).a = k → m ≤ (rs.getD q ⟨0, 0, 0⟩).b.toNat →
    V.getD m 0 + (Sm ls (rs.getD q ⟨0, 0, 0⟩).b.toNat - Sm ls m) - (rs.getD q ⟨0, 0, 0⟩).c ≤ y) → ovR ls rs V k x i ≤ y
  | 0, _ => hx
  | i + 1, h => by
    rw [ovR_succ]
    refine ovM_le (ovR_le hx i fun q hq => h q (by omega)) _ fun j hj => ?_
    unfold stepsR at hj
    split at hj
    · rename_i ha
      exact h i (by omega) (k + 1 + j) (by omega) ha (by omega)
    · omega
/-- what has been said of an event stays -/
theorem gRow_stays (ws ls : List P2) (rs : List P3) {d m : Nat} (hm : ws.length ≤ m + d) : ∀ e, d + e ≤ ws.length → (gRow ws ls rs (d + e)).getD m 0 = (gRow ws ls rs d).getD m 0
  | 0, _ => rfl
  | e + 1, h => by
    rw [show d + (e + 1) = d + e + 1 from by omega]
    simp only [gRow]
    rw [getD_set _ _ _ _ (by rw [gRow_length]; omega), if_neg (by omega)]
    exact gRow_stays ws ls rs hm e (by omega)
theorem GL_at (ws ls : List P2) (rs : List P3) {k d : Nat} (h : k + d + 1 = ws.length) : (GL ws ls rs).getD k 0 = ovR ls rs (gRow ws ls rs d) k (ws.getD k ⟨0, 0⟩).a rs.length := by
  have h1 := gRow_stays ws ls rs (d := d + 1) (m := k) (by omega) k (by omega)
  rw [show d + 1 + k = ws.length from by omega] at h1
  unfold GL
  rw [h1, ← gRow_succ ws ls rs h, getD_set _ _ _ _ (by rw [gRow_length]; omega), if_pos rfl]
theorem GL_later (ws ls : List P2) (rs : List P3) {k d m : Nat} (h : k + d + 1 = ws.length) (hm : k < m) : (gRow ws ls rs d).getD m 0 = (GL ws ls rs).getD m 0 := by
  have h1 := gRow_stays ws ls rs (d := d) (m := m) (by omega) (k + 1) (by omega)
  rw [show d + (k + 1) = ws.length from by omega] at h1
  exact h1.symm
theorem GL_early (ws ls : List P2) (rs : List P3) {k : Nat} (hk : k < ws.length) : (ws.getD k ⟨0, 0⟩).a ≤ (GL ws ls rs).getD k 0 := by
  rw [GL_at ws ls rs (k := k) (d := ws.length - 1 - k) (by omega)]
  exact ovR_start _ _ _ _ _ _
theorem GL_ride (ws ls : List P2) (rs : List P3) {k q m : Nat} (hk : k < ws.length) (hq : q < rs.length) (ha : (rs.getD q ⟨0, 0, 0⟩).a = k) (hm : k < m) (hb : m ≤ (rs.getD q ⟨0, 0, 0⟩).b.toNat) :
    (GL ws ls rs).getD m 0 + (Sm ls (rs.getD q ⟨0, 0, 0⟩).b.toNat - Sm ls m) - (rs.getD q ⟨0, 0, 0⟩).c ≤ (GL ws ls rs).getD k 0 := by
  rw [GL_at ws ls rs (k := k) (d := ws.length - 1 - k) (by omega), ← GL_later ws ls rs (k := k) (d := ws.length - 1 - k) (by omega) hm]
  exact ovR_ge _ _ _ _ _ _ q hq m hm ha hb
theorem GL_least (ws ls : List P2) (rs : List P3) {k : Nat} {y : Int} (hk : k < ws.length) (h0 : (ws.getD k ⟨0, 0⟩).a ≤ y)
    (h : ∀ q, q < rs.length → ∀ m, k < m → (rs.getD q ⟨0, 0, 0⟩).a = k → m ≤ (rs.getD q ⟨0, 0, 0⟩).b.toNat → (GL ws ls rs).getD m 0 + (Sm ls (rs.getD q ⟨0, 0, 0⟩).b.toNat - Sm ls m) - (rs.getD q ⟨0, 0, 0⟩).c ≤ y) : (GL ws ls rs).getD k 0 ≤ y := by
  rw [GL_at ws ls rs (k := k) (d := ws.length - 1 - k) (by omega)]
  refine ovR_le h0 _ fun q hq m hm ha hb => ?_
  rw [GL_later ws ls rs (k := k) (d := ws.length - 1 - k) (by omega) hm]
  exact h q hq m hm ha hb

theorem t_ge_guard (G T : List Int) : ∀ k, G.getD k 0 ≤ tAt G T k
  | 0 => le_mx2 _ _
  | _ + 1 => le_mx2 _ _
theorem t_ge_prev (G T : List Int) (k : Nat) : tAt G T k + T.getD k 0 ≤ tAt G T (k + 1) := le_mx1 _ _
theorem t_mono {G G' T T' : List Int} : ∀ k, (∀ i, i ≤ k → G.getD i 0 ≤ G'.getD i 0) → (∀ i, i < k → T.getD i 0 ≤ T'.getD i 0) → tAt G T k ≤ tAt G' T' k
  | 0, h, _ => by
    have := h 0 (Nat.le_refl _)
    simp only [tAt]
    exact mx_le (le_mx1 _ _) (Int.le_trans this (le_mx2 _ _))
  | k + 1, h, h2 => by
    have ih := t_mono (G := G) (G' := G') (T := T) (T' := T') k (fun i hi => h i (by omega)) (fun i hi => h2 i (by omega))
    have := h (k + 1) (Nat.le_refl _)
    have := h2 k (by omega)
    simp only [tAt]
    exact mx_le (Int.le_trans (by omega) (le_mx1 _ _)) (Int.le_trans (by omega) (le_mx2 _ _))
/-- between two events: nobody has waited, or somebody has -/
theorem t_between {ls : List P2} {G T : List Int} {a : Nat} : ∀ j, (∀ i, a ≤ i → i < a + j → T.getD i 0 ≤ (ls.getD i ⟨0, 0⟩).b) →
    tAt G T (a + j) ≤ tAt G T a + (Sm ls (a + j) - Sm ls a) ∨ ∃ m, a < m ∧ m ≤ a + j ∧ tAt G T (a + j) ≤ G.getD m 0 + (Sm ls (a + j) - Sm ls m)
  | 0, _ => .inl (by simp)
  | j + 1, h => by
    have ih := t_between (ls := ls) (G := G) (T := T) (a := a) j fun i h1 h2 => h i h1 (by omega)
    have hT := h (a + j) (by omega) (by omega)
    rw [show a + (j + 1) = a + j + 1 from by omega]
    have hs : Sm ls (a + j + 1) = Sm ls (a + j) + (ls.getD (a + j) ⟨0, 0⟩).b := rfl
    have ht : tAt G T (a + j + 1) = mx (tAt G T (a + j) + T.getD (a + j) 0) (G.getD (a + j + 1) 0) := rfl
    rw [ht, mx]
    split
    · exact .inr ⟨a + j + 1, by omega, Nat.le_refl _, by omega⟩
    · rcases ih with h1 | ⟨m, m1, m2, h1⟩
      · exact .inl (by omega)
      · exact .inr ⟨m, m1, by omega, by omega⟩

/-- what a guard that has been found says -/
theorem guard_out {ws ls : List P2} {rs : List P3} (h : guardB ws ls rs = true) : rightC ws ls rs = true ∧ keptR ls rs = true ∧ ∀ k, k < ws.length → tAt (GL ws ls rs) (highL ls) k ≤ (ws.getD k ⟨0, 0⟩).b := by
  simp only [guardB, Bool.and_eq_true, List.all_eq_true, List.mem_range, Bool.not_eq_true', lateW, decide_eq_false_iff_not] at h
  exact ⟨h.1.1, h.1.2, fun k hk => by have := h.2 k hk; omega⟩
theorem fits_GL {ws ls : List P2} {rs : List P3} (h : rightC ws ls rs = true) (hk : keptR ls rs = true) : worstB ws ls rs (GL ws ls rs) = true := by
  simp only [worstB, h, Bool.true_and]
  exact fits_of (GL_length _ _ _) fun k _ => by have := GL_bounds (fine_right h) hk k; omega
theorem run_of {ws ls : List P2} {rs : List P3} {G T : List Int} (h : worstB ws ls rs G = true) (hl : T.length = ls.length) (hT : ∀ k, k < ls.length → (ls.getD k ⟨0, 0⟩).a ≤ T.getD k 0 ∧ T.getD k 0 ≤ (ls.getD k ⟨0, 0⟩).b) : runB ws ls rs G T = true := by
  have : (List.range ls.length).all (tookB ls T) = true := run_all fun k hk => by
    have := hT k hk
    simp [tookB, inB]
    simpa using this
  simp [runB, h, hl, this]
/-- the run with the guard keeps the chain -/
theorem keeps_run {ws ls : List P2} {rs : List P3} {T : List Int} (h : guardB ws ls rs = true) (hT : ∀ k, k < ls.length → (ls.getD k ⟨0, 0⟩).a ≤ T.getD k 0 ∧ T.getD k 0 ≤ (ls.getD k ⟨0, 0⟩).b) :
    keepB ws ls rs (runL (GL ws ls rs) T ws.length) = true := by
  obtain ⟨hr, hk, hw⟩ := guard_out h
  have hF := fine_right hr
  have hT2 : ∀ i, i < ls.length → T.getD i 0 ≤ (ls.getD i ⟨0, 0⟩).b := fun i hi => (hT i hi).2
  have h1 : (List.range ws.length).all (winB ws (runL (GL ws ls rs) T ws.length)) = true := win_all fun k hk' => by
    have g1 := t_ge_guard (GL ws ls rs) T k
    have g2 := GL_early ws ls rs hk'
    have g3 := t_mono (G := GL ws ls rs) (G' := GL ws ls rs) (T := T) (T' := highL ls) k (fun _ _ => Int.le_refl _) (fun i hi => by rw [highL_get]; exact hT2 i (by have := hF.1; omega))
    have g4 := hw k hk'
    simp only [winB, inB, runL_get _ _ hk', Bool.and_eq_true, decide_eq_true_eq]
    omega
  have h2 : rs.any (lateR (runL (GL ws ls rs) T ws.length)) = false := not_anyL fun q hq => by
    have hq' := hF.2.2.2 q hq
    have hkq := kept_at hk hq
    rw [← getD3 hq]
    have ride := fun k m => GL_ride ws ls rs (k := k) (q := q) (m := m)
    generalize rs.getD q ⟨0, 0, 0⟩ = r at *
    obtain ⟨ra, rb, rc⟩ := r
    obtain ⟨g0, g1, g2, g3, g4⟩ := hq'
    simp only at g0 g1 g2 g3 g4 hkq ride ⊢
    obtain ⟨na, rfl⟩ := Int.eq_ofNat_of_zero_le g0
    obtain ⟨nb, rfl⟩ := Int.eq_ofNat_of_zero_le (a := rb) (by omega)
    have e1 : ((na : Int)).toNat = na := by simp
    have e2 : ((nb : Int)).toNat = nb := by simp
    rw [e1, e2] at hkq
    simp only [lateR, e1, e2, decide_eq_false_iff_not]
    rw [runL_get _ _ (by omega), runL_get _ _ (by omega)]
    have hb := t_between (ls := ls) (G := GL ws ls rs) (T := T) (a := na) (nb - na) fun i _ hi => hT2 i (by have := hF.1; omega)
    rw [show na + (nb - na) = nb from by omega] at hb
    rcases hb with hb | ⟨m, m1, m2, hb⟩
    · omega
    · have h3 := ride na m (by omega) hq rfl m1 (by rw [e2]; exact m2)
      rw [e2] at h3
      have h4 := t_ge_guard (GL ws ls rs) T na
      omega
  simp [keepB, hr, runL_length, h1, h2]
end Go.Proofs.Yteahkgoedibimaa
