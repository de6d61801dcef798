/-
  A wider chain: its guard is not later. Conditions: none.
-/
import Derived.Test.YteahkgoedibimaaLawA
namespace Go.Proofs.Yteahkgoedibimaa
open Go.RowKit

/-- at least as wide: windows, legs, rides -/
def Wider (ws ls : List P2) (rs : List P3) (ws' ls' : List P2) (rs' : List P3) : Prop :=
  ws'.length = ws.length ∧ (∀ k, (ws'.getD k ⟨0, 0⟩).a ≤ (ws.getD k ⟨0, 0⟩).a ∧ (ws.getD k ⟨0, 0⟩).b ≤ (ws'.getD k ⟨0, 0⟩).b) ∧ (∀ k, (ls'.getD k ⟨0, 0⟩).b ≤ (ls.getD k ⟨0, 0⟩).b) ∧
    ∀ q, q < rs'.length → ∃ p, p < rs.length ∧ (rs'.getD q ⟨0, 0, 0⟩).a = (rs.getD p ⟨0, 0, 0⟩).a ∧ (rs'.getD q ⟨0, 0, 0⟩).b = (rs.getD p ⟨0, 0, 0⟩).b ∧ (rs.getD p ⟨0, 0, 0⟩).c ≤ (rs'.getD q ⟨0, 0, 0⟩).c
theorem Sm_wider {ls ls' : List P2} (h : ∀ k, (ls'.getD k ⟨0, 0⟩).b ≤ (ls.getD k ⟨0, 0⟩).b) (a : Nat) : ∀ j, Sm ls' (a + j) - Sm ls' a ≤ Sm ls (a + j) - Sm ls a
  | 0 => by simp
  | j + 1 => by
    have ih := Sm_wider h a j
    have := h (a + j)
    rw [show a + (j + 1) = a + j + 1 from by omega]
    simp only [Sm]
    omega
theorem Sm_wider' {ls ls' : List P2} (h : ∀ k, (ls'.getD k ⟨0, 0⟩).b ≤ (ls.getD k ⟨0, 0⟩).b) {a b : Nat} (hab : a ≤ b) : Sm ls' b - Sm ls' a ≤ Sm ls b - Sm ls a := by
  have := Sm_wider h a (b - a)
  rw [show a + (b - a) = b from by omega] at this
  exact this
theorem GL_wider {ws ls ws' ls' : List P2} {rs rs' : List P3} (h : Wider ws ls rs ws' ls' rs') : ∀ d k, k + d = ws.length → (GL ws' ls' rs').getD k 0 ≤ (GL ws ls rs).getD k 0 := by
  intro d
  induction d using Nat.strongRecOn with
  | _ d ih =>
    intro k hk
    by_cases hd : d = 0
    · rw [getD_out 0 (by rw [GL_length]; have := h.1; omega), getD_out 0 (by rw [GL_length]; omega)]
      exact Int.le_refl _
    · have hkn : k < ws.length := by omega
      refine GL_least ws' ls' rs' (by have := h.1; omega) (Int.le_trans (h.2.1 k).1 (GL_early ws ls rs hkn)) fun q hq m hm ha hb => ?_
      obtain ⟨p, hp, e1, e2, e3⟩ := h.2.2.2 q hq
      by_cases hmn : m < ws.length
      · have h1 := ih (ws.length - m) (by omega) m (by omega)
        have h2 := GL_ride ws ls rs (k := k) (q := p) (m := m) hkn hp (by rw [← e1]; exact ha) hm (by rw [← e2]; exact hb)
        have h3 := Sm_wider' h.2.2.1 (a := m) (b := (rs'.getD q ⟨0, 0, 0⟩).b.toNat) hb
        rw [← e2] at h2
        omega
      · have h2 := GL_ride ws ls rs (k := k) (q := p) (m := m) hkn hp (by rw [← e1]; exact ha) hm (by rw [← e2]; exact hb)
        have h3 := Sm_wider' h.2.2.1 (a := m) (b := (rs'.getD q ⟨0, 0, 0⟩).b.toNat) hb
        rw [← e2] at h2
        rw [getD_out 0 (by rw [GL_length]; omega)] at h2
        rw [getD_out 0 (by rw [GL_length]; have := h.1; omega)]
        omega
theorem GL_wider' {ws ls ws' ls' : List P2} {rs rs' : List P3} (h : Wider ws ls rs ws' ls' rs') (k : Nat) : (GL ws' ls' rs').getD k 0 ≤ (GL ws ls rs).getD k 0 := by
  by_cases hk : k ≤ ws.length
  · exact GL_wider h (ws.length - k) k (by omega)
  · rw [getD_out 0 (by rw [GL_length]; have := h.1; omega), getD_out 0 (by rw [GL_length]; omega)]
    exact Int.le_refl _
theorem guard_wider {ws ls ws' ls' : List P2} {rs rs' : List P3} (h : Wider ws ls rs ws' ls' rs') (hr : rightC ws' ls' rs' = true) (hg : guardB ws ls rs = true) : guardB ws' ls' rs' = true := by
  obtain ⟨_, hk, hw⟩ := guard_out hg
  have hF := fine_right hr
  refine guard_all hr (kept_of fun q hq => ?_) fun k hk' => ?_
  · obtain ⟨p, hp, e1, e2, e3⟩ := h.2.2.2 q hq
    have h1 := kept_at hk hp
    have h2 := hF.2.2.2 q hq
    have h3 := Sm_wider' h.2.2.1 (a := (rs'.getD q ⟨0, 0, 0⟩).a.toNat) (b := (rs'.getD q ⟨0, 0, 0⟩).b.toNat) (by omega)
    rw [← e1, ← e2] at h1
    omega
  · have h1 := hw k (by have := h.1; omega)
    have h2 := t_mono (G := GL ws' ls' rs') (G' := GL ws ls rs) (T := highL ls') (T' := highL ls) k (fun i _ => GL_wider' h i) (fun i _ => by rw [highL_get, highL_get]; exact h.2.2.1 i)
    have h3 := (h.2.1 k).2
    simp only [lateW, decide_eq_false_iff_not]
    omega
theorem any_ok {l : List P2} (h : ∀ k, k < l.length → okP (l.getD k ⟨0, 0⟩)) : l.any badP = false := not_any fun j hj => by
  have := h j hj
  rw [getD2 hj] at this
  unfold okP at this
  simp [badP]
  omega
theorem right_of {ws ls : List P2} {rs : List P3} (h : FineC ws ls rs) : rightC ws ls rs = true := by
  have h1 := any_ok (l := ws) fun k _ => h.2.1 k
  have h2 := any_ok (l := ls) fun k _ => h.2.2.1 k
  have h3 : rs.any (badR ws.length) = false := not_anyR fun j hj => by
    have := h.2.2.2 j hj
    rw [getD3 hj] at this
    simp [badR]
    omega
  have := h.1
  have q1 : decide (1 ≤ ws.length) = true := decide_eq_true (by omega)
  have q2 : decide (ws.length ≤ 82) = true := decide_eq_true (by omega)
  have q3 : decide (ls.length + 1 = ws.length) = true := decide_eq_true (by omega)
  have q4 : decide (rs.length ≤ 200) = true := decide_eq_true (by omega)
  simp only [rightC, h1, h2, h3, q1, q2, q3, q4, Bool.true_and, Bool.not_false]
theorem getD_set' {α : Type} (l : List α) (d : α) (k m : Nat) (x : α) (hk : k < l.length) : (l.set k x).getD m d = if m = k then x else l.getD m d := by
  rw [List.getD_eq_getElem?_getD, List.getElem?_set, List.getD_eq_getElem?_getD]
  by_cases e : m = k
  · subst e; simp [hk]
  · rw [if_neg (fun h => e h.symm), if_neg e]
/-- windows with one of them set -/
theorem wide_ws {ws : List P2} {k : Nat} {u : P2} (hk : k < ws.length) (h1 : u.a ≤ (ws.getD k ⟨0, 0⟩).a) (h2 : (ws.getD k ⟨0, 0⟩).b ≤ u.b) (j : Nat) : ((ws.set k u).getD j ⟨0, 0⟩).a ≤ (ws.getD j ⟨0, 0⟩).a ∧ (ws.getD j ⟨0, 0⟩).b ≤ ((ws.set k u).getD j ⟨0, 0⟩).b := by
  rw [getD_set' _ _ _ _ _ hk]
  split
  · rename_i e; subst e; exact ⟨h1, h2⟩
  · exact ⟨Int.le_refl _, Int.le_refl _⟩
theorem fine_set {l : List P2} {k : Nat} {u : P2} (hk : k < l.length) (hu : okP u) (h : ∀ j, okP (l.getD j ⟨0, 0⟩)) (j : Nat) : okP ((l.set k u).getD j ⟨0, 0⟩) := by
  rw [getD_set' _ _ _ _ _ hk]
  split
  · exact hu
  · exact h j
/-- without rides the guard is Early -/
theorem GL_free (ws ls : List P2) {k : Nat} (hk : k < ws.length) : (GL ws ls []).getD k 0 = (ws.getD k ⟨0, 0⟩).a :=
  Int.le_antisymm (GL_least ws ls [] hk (Int.le_refl _) fun q hq => by simp at hq) (GL_early ws ls [] hk)
theorem right_free {ws ls : List P2} {rs : List P3} (h : rightC ws ls rs = true) : rightC ws ls [] = true := by
  have hF := fine_right h
  exact right_of ⟨⟨hF.1.1, hF.1.2.1, hF.1.2.2.1, by simp⟩, hF.2.1, hF.2.2.1, fun q hq => by simp at hq⟩
theorem wider_free (ws ls : List P2) (rs : List P3) : Wider ws ls rs ws ls [] := ⟨rfl, fun _ => ⟨Int.le_refl _, Int.le_refl _⟩, fun _ => Int.le_refl _, fun q hq => by simp at hq⟩
end Go.Proofs.Yteahkgoedibimaa
