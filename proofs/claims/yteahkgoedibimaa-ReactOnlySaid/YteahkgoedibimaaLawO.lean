/-
  The game: there is a guard exactly if some policy wins. Conditions: none.
-/
import Derived.Test.YteahkgoedibimaaLawA
namespace Go.Proofs.Yteahkgoedibimaa
open Go.RowKit

/-- all rides to event k are kept, if it happens at t -/
def keptAt (rs : List P3) (k : Nat) (t : Int) (times : List Int) : Prop := ∀ q, q < rs.length → (rs.getD q ⟨0, 0, 0⟩).b = k → t - times.getD (rs.getD q ⟨0, 0, 0⟩).a.toNat 0 ≤ (rs.getD q ⟨0, 0, 0⟩).c
/-- some policy wins from event k on, with f events left -/
def Win (ws ls : List P2) (rs : List P3) : Nat → Nat → Int → List Int → Prop
  | 0, _, _, _ => True
  | f + 1, k, now, times => ∃ t, mx now (ws.getD k ⟨0, 0⟩).a ≤ t ∧ t ≤ (ws.getD k ⟨0, 0⟩).b ∧ keptAt rs k t times ∧
      (k < ls.length → ∀ d, (ls.getD k ⟨0, 0⟩).a ≤ d → d ≤ (ls.getD k ⟨0, 0⟩).b → Win ws ls rs f (k + 1) (t + d) (times ++ [t]))

theorem getD_app {l r : List Int} {i : Nat} (h : i < l.length) : (l ++ r).getD i 0 = l.getD i 0 := by
  rw [List.getD_eq_getElem?_getD, List.getD_eq_getElem?_getD, List.getElem?_append_left h]
theorem getD_last (l : List Int) (t : Int) : (l ++ [t]).getD l.length 0 = t := by simp [List.getD]

/-- the guard wins -/
theorem win_of_guard {ws ls : List P2} {rs : List P3} (h : guardB ws ls rs = true) : ∀ (f k : Nat) (T : List Int), k + f = ws.length → T.length = ls.length → (∀ i, i < ls.length → (ls.getD i ⟨0, 0⟩).a ≤ T.getD i 0 ∧ T.getD i 0 ≤ (ls.getD i ⟨0, 0⟩).b) →
    ∀ now, (k = 0 → now = 0) → (∀ j, k = j + 1 → now = tAt (GL ws ls rs) T j + T.getD j 0) → Win ws ls rs f k now (runL (GL ws ls rs) T k)
  | 0, _, _, _, _, _, _, _, _ => trivial
  | f + 1, k, T, hf, hTl, hT, now, h0, h1 => by
    obtain ⟨hr, hk, hw⟩ := guard_out h
    have hF := fine_right hr
    have hkn : k < ws.length := by omega
    have hkeep := keeps_run h hT
    simp only [keepB, Bool.and_eq_true, List.all_eq_true, List.mem_range, Bool.not_eq_true', List.any_eq_false] at hkeep
    obtain ⟨⟨_, hwin⟩, hrid⟩ := hkeep
    have hw1 := hwin k hkn
    simp only [winB, inB, runL_get _ _ hkn, Bool.and_eq_true, decide_eq_true_eq] at hw1
    have hte : mx now ((GL ws ls rs).getD k 0) = tAt (GL ws ls rs) T k := by
      cases k with
      | zero => rw [h0 rfl]; rfl
      | succ j => rw [h1 j rfl]; rfl
    refine ⟨tAt (GL ws ls rs) T k, mx_le (by rw [← hte]; exact le_mx1 _ _) hw1.1, hw1.2, fun q hq hb => ?_, fun hkl d hd1 hd2 => ?_⟩
    · have hq' := hF.2.2.2 q hq
      have := hrid rs[q] (List.getElem_mem _)
      rw [← getD3 hq] at this
      simp only [lateR, decide_eq_true_eq] at this
      rw [hb, Int.toNat_natCast, runL_get _ _ hkn, runL_get _ _ (by omega)] at this
      rw [runL_get _ _ (by omega)]
      omega
    · have hset : ∀ i, (T.set k d).getD i 0 = if i = k then d else T.getD i 0 := fun i => getD_set T k i d (by omega)
      have hsame : ∀ j, j ≤ k → tAt (GL ws ls rs) (T.set k d) j = tAt (GL ws ls rs) T j := by
        intro j
        induction j with
        | zero => intro _; rfl
        | succ j ih =>
          intro hj
          simp only [tAt]
          rw [ih (by omega), hset, if_neg (by omega)]
      have hrun : runL (GL ws ls rs) T k ++ [tAt (GL ws ls rs) T k] = runL (GL ws ls rs) (T.set k d) (k + 1) := by
        simp only [runL]
        rw [List.range_succ, List.map_append]
        congr 1
        · refine List.map_congr_left fun j hj => ?_
          exact (hsame j (by have := List.mem_range.1 hj; omega)).symm
        · simp [hsame k (Nat.le_refl _)]
      rw [hrun]
      refine win_of_guard h f (k + 1) (T.set k d) (by omega) (by rw [List.length_set]; exact hTl) (fun i hi => ?_) _ (fun h => by omega) (fun j hj => ?_)
      · rw [hset]
        split
        · rename_i e; rw [e]; exact ⟨hd1, hd2⟩
        · exact hT i hi
      · obtain rfl : j = k := by omega
        rw [hsame j (Nat.le_refl _), hset, if_pos rfl]

/-- a choice that wins -/
def Choice (ws ls : List P2) (rs : List P3) (f k : Nat) (t : Int) (times : List Int) : Prop :=
  (ws.getD k ⟨0, 0⟩).a ≤ t ∧ t ≤ (ws.getD k ⟨0, 0⟩).b ∧ keptAt rs k t times ∧ (k < ls.length → ∀ d, (ls.getD k ⟨0, 0⟩).a ≤ d → d ≤ (ls.getD k ⟨0, 0⟩).b → Win ws ls rs f (k + 1) (t + d) (times ++ [t]))
/-- a line that is won, where all legs take as long as they can -/
theorem win_line {ws ls : List P2} {rs : List P3} (hF : FineC ws ls rs) : ∀ (f k : Nat) (now : Int) (times : List Int), k + f = ws.length → times.length = k → Win ws ls rs f k now times →
    ∃ L : List Int, L.length = ws.length ∧ (∀ i, i < k → L.getD i 0 = times.getD i 0) ∧ (k < ws.length → now ≤ L.getD k 0) ∧
      ∀ i, k ≤ i → i < ws.length → Choice ws ls rs (ws.length - 1 - i) i (L.getD i 0) (L.take i) ∧ (i + 1 < ws.length → L.getD i 0 + (ls.getD i ⟨0, 0⟩).b ≤ L.getD (i + 1) 0)
  | 0, k, now, times, hf, hl, _ => ⟨times, by omega, fun _ _ => rfl, fun h => by omega, fun i h1 h2 => by omega⟩
  | f + 1, k, now, times, hf, hl, h => by
    obtain ⟨t, h1, h2, h3, h4⟩ := h
    have hlen : (times ++ [t]).length = k + 1 := by simp [hl]
    have hnow : now ≤ t := Int.le_trans (le_mx1 _ _) h1
    have hear : (ws.getD k ⟨0, 0⟩).a ≤ t := Int.le_trans (le_mx2 _ _) h1
    have hls := hF.1.2.2.1
    by_cases hk : k < ls.length
    · have hd := hF.2.2.1 k
      unfold okP at hd
      obtain ⟨L, l1, l2, l3, l4⟩ := win_line hF f (k + 1) (t + (ls.getD k ⟨0, 0⟩).b) (times ++ [t]) (by omega) hlen (h4 hk _ (by omega) (Int.le_refl _))
      have hLk : L.getD k 0 = t := by rw [l2 k (by omega), ← hl, getD_last]
      have htake : L.take k = times := by
        refine List.ext_getElem (by rw [List.length_take, l1, hl]; omega) fun i i1 i2 => ?_
        have := l2 i (by omega)
        rw [getD_app (by omega), getD1 (by omega), getD1 (by omega)] at this
        rw [List.getElem_take]
        exact this
      refine ⟨L, l1, fun i hi => ?_, fun _ => by rw [hLk]; exact hnow, fun i hi1 hi2 => ?_⟩
      · rw [l2 i (by omega), getD_app (by omega)]
      · by_cases e : i = k
        · subst e
          rw [hLk, htake]
          exact ⟨⟨hear, h2, h3, by rw [show ws.length - 1 - i = f from by omega]; exact h4⟩, fun _ => l3 (by omega)⟩
        · exact l4 i (by omega) hi2
    · obtain rfl : f = 0 := by omega
      refine ⟨times ++ [t], by omega, fun i hi => getD_app (by omega), fun _ => ?_, fun i hi1 hi2 => ?_⟩
      · rw [← hl, getD_last]; exact hnow
      · obtain rfl : i = k := by omega
        rw [← hl, getD_last, List.take_left, hl]
        exact ⟨⟨hear, h2, h3, fun h => absurd h hk⟩, fun h => by omega⟩
/-- on such a line sums of High lie between events -/
theorem line_sum {ws ls : List P2} {L : List Int} {k : Nat} (h : ∀ i, k ≤ i → i + 1 < ws.length → L.getD i 0 + (ls.getD i ⟨0, 0⟩).b ≤ L.getD (i + 1) 0) {a : Nat} (ha : k ≤ a) : ∀ j, a + j < ws.length → L.getD a 0 + (Sm ls (a + j) - Sm ls a) ≤ L.getD (a + j) 0
  | 0, _ => by simp
  | j + 1, hj => by
    have ih := line_sum h ha j (by omega)
    have := h (a + j) (by omega) (by omega)
    rw [show a + (j + 1) = a + j + 1 from by omega]
    simp only [Sm]
    omega
theorem getD_take {l : List Int} {i k : Nat} (h : i < k) : (l.take k).getD i 0 = l.getD i 0 := by
  rw [List.getD_eq_getElem?_getD, List.getD_eq_getElem?_getD, List.getElem?_take, if_pos h]
/-- who wins, chooses no time before the guard -/
theorem choice_late {ws ls : List P2} {rs : List P3} (hF : FineC ws ls rs) : ∀ (f k : Nat) (t : Int) (times : List Int), k + f + 1 = ws.length → times.length = k → Choice ws ls rs f k t times → (GL ws ls rs).getD k 0 ≤ t := by
  intro f
  induction f using Nat.strongRecOn with
  | _ f ih =>
    intro k t times hf hl hc
    obtain ⟨c1, c2, c3, c4⟩ := hc
    have hls := hF.1.2.2.1
    refine GL_least ws ls rs (by omega) c1 fun q hq m hm ha hb => ?_
    have hq' := hF.2.2.2 q hq
    have hkl : k < ls.length := by omega
    have hd := hF.2.2.1 k
    unfold okP at hd
    have hlen : (times ++ [t]).length = k + 1 := by simp [hl]
    obtain ⟨L, l1, l2, l3, l4⟩ := win_line hF f (k + 1) (t + (ls.getD k ⟨0, 0⟩).b) (times ++ [t]) (by omega) hlen (c4 hkl _ (by omega) (Int.le_refl _))
    have hLk : L.getD k 0 = t := by rw [l2 k (by omega), ← hl, getD_last]
    have hgm := ih (ws.length - 1 - m) (by omega) m (L.getD m 0) (L.take m) (by omega) (by rw [List.length_take]; omega) (l4 m (by omega) (by omega)).1
    have hsum := line_sum (ws := ws) (ls := ls) (L := L) (k := k + 1) (fun i i1 i2 => (l4 i i1 (by omega)).2 i2) (a := m) (by omega) ((rs.getD q ⟨0, 0, 0⟩).b.toNat - m) (by omega)
    rw [show m + ((rs.getD q ⟨0, 0, 0⟩).b.toNat - m) = (rs.getD q ⟨0, 0, 0⟩).b.toNat from by omega] at hsum
    have hkb := (l4 (rs.getD q ⟨0, 0, 0⟩).b.toNat (by omega) (by omega)).1.2.2.1 q hq (by omega)
    rw [getD_take (by omega), ha, Int.toNat_natCast, hLk] at hkb
    omega
theorem guard_of_win {ws ls : List P2} {rs : List P3} (hr : rightC ws ls rs = true) (h : Win ws ls rs ws.length 0 0 []) : guardB ws ls rs = true := by
  have hF := fine_right hr
  have hls := hF.1.2.2.1
  obtain ⟨L, l1, _, l3, l4⟩ := win_line hF ws.length 0 0 [] (by omega) rfl h
  have hge : ∀ i, i < ws.length → (GL ws ls rs).getD i 0 ≤ L.getD i 0 := fun i hi =>
    choice_late hF (ws.length - 1 - i) i (L.getD i 0) (L.take i) (by omega) (by rw [List.length_take]; omega) (l4 i (by omega) hi).1
  refine guard_all hr (kept_of fun q hq => ?_) fun k hk => ?_
  · have hq' := hF.2.2.2 q hq
    have hsum := line_sum (ws := ws) (ls := ls) (L := L) (k := 0) (fun i i1 i2 => (l4 i i1 (by omega)).2 i2) (a := (rs.getD q ⟨0, 0, 0⟩).a.toNat) (by omega) ((rs.getD q ⟨0, 0, 0⟩).b.toNat - (rs.getD q ⟨0, 0, 0⟩).a.toNat) (by omega)
    rw [show (rs.getD q ⟨0, 0, 0⟩).a.toNat + ((rs.getD q ⟨0, 0, 0⟩).b.toNat - (rs.getD q ⟨0, 0, 0⟩).a.toNat) = (rs.getD q ⟨0, 0, 0⟩).b.toNat from by omega] at hsum
    have hkb := (l4 (rs.getD q ⟨0, 0, 0⟩).b.toNat (by omega) (by omega)).1.2.2.1 q hq (by omega)
    rw [getD_take (by omega)] at hkb
    omega
  · have hw : ∀ j, j < ws.length → tAt (GL ws ls rs) (highL ls) j ≤ L.getD j 0 := by
      intro j
      induction j with
      | zero =>
        intro h0
        exact mx_le (l3 h0) (hge 0 h0)
      | succ j ih =>
        intro hj
        have h1 := ih (by omega)
        have h2 := (l4 j (by omega) (by omega)).2 hj
        simp only [tAt]
        refine mx_le ?_ (hge _ hj)
        rw [highL_get]
        omega
    have h1 := hw k hk
    have h2 := (l4 k (by omega) hk).1.2.1
    simp only [lateW, decide_eq_false_iff_not]
    omega
theorem win_iff {ws ls : List P2} {rs : List P3} (hr : rightC ws ls rs = true) : Win ws ls rs ws.length 0 0 [] ↔ guardB ws ls rs = true := by
  refine ⟨guard_of_win hr, fun h => ?_⟩
  have hF := fine_right hr
  have := win_of_guard h ws.length 0 (highL ls) (by omega) (highL_length ls) (fun i hi => by
    rw [highL_get]
    have := hF.2.2.1 i
    unfold okP at this
    omega) 0 (fun _ => rfl) (fun j hj => by omega)
  exact this
end Go.Proofs.Yteahkgoedibimaa
