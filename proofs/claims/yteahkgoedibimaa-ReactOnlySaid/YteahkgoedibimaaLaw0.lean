/-
  What package react computes, in plain words: times of a run, sums of High, guards. Conditions: none.
-/
import Derived.Test.YteahkgoedibimaaWalkD
import Derived.Test.YteahkgoedibimaaGrow
namespace Go.Proofs.Yteahkgoedibimaa
open Go.RowKit

def mx (x y : Int) : Int := if x < y then y else x
theorem mx_le {x y b : Int} (h1 : x ≤ b) (h2 : y ≤ b) : mx x y ≤ b := by unfold mx; split <;> assumption
theorem le_mx1 (x y : Int) : x ≤ mx x y := by unfold mx; split <;> omega
theorem le_mx2 (x y : Int) : y ≤ mx x y := by unfold mx; split <;> omega
theorem getD1 {l : List Int} {k : Nat} (hk : k < l.length) : l.getD k 0 = l[k] := by simp [List.getD, hk]
theorem getD_out {α : Type} {l : List α} {k : Nat} (d : α) (hk : l.length ≤ k) : l.getD k d = d := by simp [List.getD, List.getElem?_eq_none hk]
theorem getD2 {l : List P2} {k : Nat} (hk : k < l.length) : l.getD k ⟨0, 0⟩ = l[k] := by simp [List.getD, hk]
theorem getD3 {l : List P3} {k : Nat} (hk : k < l.length) : l.getD k ⟨0, 0, 0⟩ = l[k] := by simp [List.getD, hk]
theorem ints_getD {l : List Int} {k : Nat} (hk : k < l.length) : (ints l)[k]? = some (.int .i64 (l.getD k 0)) := by rw [ints_get l k hk, getD1 hk]
theorem ints_set (l : List Int) (j : Nat) (x : Int) : (ints l).set j (.int .i64 x) = ints (l.set j x) := by simp [ints, List.map_set]
theorem zeros (n : Nat) : (madeCells (Value.int .i64 0).cells (n * 1)).toList = ints (List.replicate n 0) := by
  have := toList_madeCells_one (.int .i64 0) n
  simp only [Nat.mul_one, ints, List.map_replicate]
  exact this
theorem info3 : (Try.prog.info? 3).map (fun i => (i.zero, i.size, i.bytes)) = some (some (.int .i64 0), 1, 8) := by kernel_rfl

/-- The box of a chain. -/
def BoxC (w : World) (g : Nat) (v1 v2 v3 : Value) : Prop := w.cell? ⟨g, 0, none⟩ = some v1 ∧ w.cell? ⟨g, 1, none⟩ = some v2 ∧ w.cell? ⟨g, 2, none⟩ = some v3 ∧ g < w.heap.size
theorem BoxC.new (w : World) (v1 v2 v3 : Value) (e : TypeId) : BoxC (w.alloc (.cells #[v1, v2, v3] e)) w.heap.size v1 v2 v3 := by
  have h : ∀ j u, [v1, v2, v3][j]? = some u → _ := fun j u hu => cell_alloc_add w [v1, v2, v3] e j u hu
  exact ⟨h 0 _ rfl, h 1 _ rfl, h 2 _ rfl, by simp⟩
theorem BoxC.ext {w w' : World} {g : Nat} {v1 v2 v3 : Value} (h : BoxC w g v1 v2 v3) (hx : Below w.heap.size w w') : BoxC w' g v1 v2 v3 := by
  obtain ⟨h0, h1, h2, h3⟩ := h
  have := (bcell hx).1
  exact ⟨(this _ _ h3).trans h0, (this _ _ h3).trans h1, (this _ _ h3).trans h2, Nat.lt_of_lt_of_le h3 hx.size⟩

def okG (x : Int) : Bool := inB x 0 2097152
def fitsB (n : Nat) (G : List Int) : Bool := !G.any (fun x => !okG x) && decide (G.length = n)
theorem not_anyG {l : List Int} : (∀ j, (hj : j < l.length) → okG l[j] = true) → l.any (fun x => !okG x) = false := fun h => List.any_eq_false.2 (fun x hx => by
  obtain ⟨j, hj, rfl⟩ := List.getElem_of_mem hx
  simpa using h j hj)
theorem fits_at {n : Nat} {G : List Int} (h : fitsB n G = true) : G.length = n ∧ ∀ k, 0 ≤ G.getD k 0 ∧ G.getD k 0 ≤ 2097152 := by
  simp only [fitsB, Bool.and_eq_true, Bool.not_eq_true', decide_eq_true_eq, List.any_eq_false] at h
  refine ⟨h.2, fun k => ?_⟩
  by_cases hk : k < G.length
  · have := h.1 G[k] (List.getElem_mem _)
    rw [getD1 hk]
    simp [okG, inB] at this
    omega
  · rw [getD_out _ (by omega)]; omega
theorem fits_of {n : Nat} {G : List Int} (h0 : G.length = n) (h : ∀ k, k < n → 0 ≤ G.getD k 0 ∧ G.getD k 0 ≤ 2097152) : fitsB n G = true := by
  simp only [fitsB, Bool.and_eq_true, Bool.not_eq_true', decide_eq_true_eq]
  refine ⟨not_anyG fun j hj => ?_, h0⟩
  have := h j (by omega)
  rw [getD1 hj] at this
  simp [okG, inB]
  omega

/-- when each event happens -/
def tAt (G T : List Int) : Nat → Int
  | 0 => mx 0 (G.getD 0 0)
  | k + 1 => mx (tAt G T k + T.getD k 0) (G.getD (k + 1) 0)
def runL (G T : List Int) (n : Nat) : List Int := (List.range n).map (tAt G T)
theorem runL_length (G T : List Int) (n : Nat) : (runL G T n).length = n := by simp [runL]
theorem runL_succ (G T : List Int) (n : Nat) : ints (runL G T n) ++ [.int .i64 (tAt G T n)] = ints (runL G T (n + 1)) := by simp [runL, ints, List.range_succ]
theorem runL_get (G T : List Int) {k n : Nat} (hk : k < n) : (runL G T n).getD k 0 = tAt G T k := by
  rw [getD1 (by rw [runL_length]; exact hk)]
  simp [runL]
theorem t_bounds {G T : List Int} {n : Nat} (hG : ∀ k, k < n → 0 ≤ G.getD k 0 ∧ G.getD k 0 ≤ 2097152) (hT : ∀ k, k + 1 < n → 0 ≤ T.getD k 0 ∧ T.getD k 0 ≤ 1048576) : ∀ k, k < n → 0 ≤ tAt G T k ∧ tAt G T k ≤ 2097152 + k * 1048576
  | 0, h => by
    have := hG 0 h
    simp only [tAt, mx]
    split <;> omega
  | k + 1, h => by
    have := hG (k + 1) h
    have := hT k h
    have := t_bounds hG hT k (by omega)
    simp only [tAt, mx]
    split <;> omega

/-- the sum of the first k High -/
def Sm (ls : List P2) : Nat → Int
  | 0 => 0
  | k + 1 => Sm ls k + (ls.getD k ⟨0, 0⟩).b
def okP (u : P2) : Prop := 0 ≤ u.a ∧ u.a ≤ u.b ∧ u.b ≤ 1048576
def FineC (ws ls : List P2) (rs : List P3) : Prop :=
  (1 ≤ ws.length ∧ ws.length ≤ 82 ∧ ls.length + 1 = ws.length ∧ rs.length ≤ 200) ∧ (∀ k, okP (ws.getD k ⟨0, 0⟩)) ∧ (∀ k, okP (ls.getD k ⟨0, 0⟩)) ∧ ∀ k, k < rs.length → 0 ≤ (rs.getD k ⟨0, 0, 0⟩).a ∧ (rs.getD k ⟨0, 0, 0⟩).a < (rs.getD k ⟨0, 0, 0⟩).b ∧ (rs.getD k ⟨0, 0, 0⟩).b < ws.length ∧ 0 ≤ (rs.getD k ⟨0, 0, 0⟩).c ∧ (rs.getD k ⟨0, 0, 0⟩).c ≤ 1048576
theorem fineP {l : List P2} (h : l.any badP = false) (k : Nat) : okP (l.getD k ⟨0, 0⟩) := by
  by_cases hk : k < l.length
  · rw [List.any_eq_false] at h
    have := h l[k] (List.getElem_mem _)
    rw [getD2 hk]
    simp [badP] at this
    unfold okP
    omega
  · rw [getD_out _ (by omega)]; simp [okP]
theorem fine_right {ws ls : List P2} {rs : List P3} (h : rightC ws ls rs = true) : FineC ws ls rs := by
  simp only [rightC, Bool.and_eq_true, decide_eq_true_eq, Bool.not_eq_true'] at h
  obtain ⟨⟨⟨⟨⟨⟨h1, h2⟩, h3⟩, h4⟩, h5⟩, h6⟩, h7⟩ := h
  refine ⟨⟨h1, h2, h3, h4⟩, fineP h5, fineP h6, fun k hk => ?_⟩
  rw [List.any_eq_false] at h7
  have := h7 rs[k] (List.getElem_mem _)
  rw [getD3 hk]
  simp [badR] at this
  omega
theorem Sm_mono {ws ls : List P2} {rs : List P3} (h : FineC ws ls rs) {a b : Nat} (hab : a ≤ b) : Sm ls a ≤ Sm ls b := by
  induction b with
  | zero =>
    obtain rfl : a = 0 := by omega
    exact Int.le_refl _
  | succ b ih =>
    rcases Nat.lt_or_ge b a with h1 | h1
    · obtain rfl : a = b + 1 := by omega
      exact Int.le_refl _
    · have := ih h1
      have := h.2.2.1 b
      unfold okP at this
      simp only [Sm]
      omega
theorem Sm_le {ws ls : List P2} {rs : List P3} (h : FineC ws ls rs) (k : Nat) : Sm ls k ≤ k * 1048576 := by
  induction k with
  | zero => exact Int.le_refl _
  | succ k ih =>
    have := h.2.2.1 k
    unfold okP at this
    simp only [Sm]
    omega
theorem Sm_nonneg {ws ls : List P2} {rs : List P3} (h : FineC ws ls rs) (k : Nat) : 0 ≤ Sm ls k := Sm_mono (a := 0) h (Nat.zero_le _)
def highL (ls : List P2) : List Int := ls.map (·.b)
theorem highL_length (ls : List P2) : (highL ls).length = ls.length := by simp [highL]
theorem highL_get (ls : List P2) (k : Nat) : (highL ls).getD k 0 = (ls.getD k ⟨0, 0⟩).b := by
  by_cases hk : k < ls.length
  · rw [getD1 (by rw [highL_length]; exact hk), getD2 hk]; simp [highL]
  · rw [getD_out _ (by rw [highL_length]; omega), getD_out _ (by omega)]
theorem highL_bounds {ws ls : List P2} {rs : List P3} (h : FineC ws ls rs) (k : Nat) : 0 ≤ (highL ls).getD k 0 ∧ (highL ls).getD k 0 ≤ 1048576 := by
  rw [highL_get]
  have := h.2.2.1 k
  unfold okP at this
  omega

/-- what the ride asks of event k, after j of the events that follow it -/
def ovM (ls : List P2) (V : List Int) (k : Nat) (r : P3) (x : Int) : Nat → Int
  | 0 => x
  | j + 1 => mx (ovM ls V k r x j) (V.getD (k + 1 + j) 0 + (Sm ls r.b.toNat - Sm ls (k + 1 + j)) - r.c)
/-- what the first i rides ask of event k -/
def ovR (ls : List P2) (rs : List P3) (V : List Int) (k : Nat) (x : Int) : Nat → Int
  | 0 => x
  | i + 1 => if (rs.getD i ⟨0, 0, 0⟩).a = k then ovM ls V k (rs.getD i ⟨0, 0, 0⟩) (ovR ls rs V k x i) ((rs.getD i ⟨0, 0, 0⟩).b.toNat - k) else ovR ls rs V k x i
/-- the guards, after the last d events -/
def gRow (ws ls : List P2) (rs : List P3) : Nat → List Int
  | 0 => List.replicate ws.length 0
  | d + 1 => (gRow ws ls rs d).set (ws.length - 1 - d) (ovR ls rs (gRow ws ls rs d) (ws.length - 1 - d) (ws.getD (ws.length - 1 - d) ⟨0, 0⟩).a rs.length)
theorem gRow_length (ws ls : List P2) (rs : List P3) (d : Nat) : (gRow ws ls rs d).length = ws.length := by
  induction d with
  | zero => simp [gRow]
  | succ d ih => simp [gRow, ih]
def GL (ws ls : List P2) (rs : List P3) : List Int := gRow ws ls rs ws.length
/-- whether a ride is too long for its legs -/
def badS (ls : List P2) (r : P3) : Bool := decide (r.c < Sm ls r.b.toNat - Sm ls r.a.toNat)
def keptR (ls : List P2) (rs : List P3) : Bool := !rs.any (badS ls)
theorem kept_at {ls : List P2} {rs : List P3} (h : keptR ls rs = true) {i : Nat} (hi : i < rs.length) : Sm ls (rs.getD i ⟨0, 0, 0⟩).b.toNat - Sm ls (rs.getD i ⟨0, 0, 0⟩).a.toNat ≤ (rs.getD i ⟨0, 0, 0⟩).c := by
  simp only [keptR, Bool.not_eq_true', List.any_eq_false] at h
  have := h rs[i] (List.getElem_mem _)
  rw [getD3 hi]
  simp [badS] at this
  omega
theorem not_kept {ls : List P2} {rs : List P3} {i : Nat} (hi : i < rs.length) (h : (rs.getD i ⟨0, 0, 0⟩).c < Sm ls (rs.getD i ⟨0, 0, 0⟩).b.toNat - Sm ls (rs.getD i ⟨0, 0, 0⟩).a.toNat) : keptR ls rs = false := by
  have : rs.any (badS ls) = true := List.any_eq_true.2 ⟨rs[i], List.getElem_mem _, by rw [← getD3 hi]; exact decide_eq_true h⟩
  simp [keptR, this]
theorem kept_of {ls : List P2} {rs : List P3} (h : ∀ i, i < rs.length → Sm ls (rs.getD i ⟨0, 0, 0⟩).b.toNat - Sm ls (rs.getD i ⟨0, 0, 0⟩).a.toNat ≤ (rs.getD i ⟨0, 0, 0⟩).c) : keptR ls rs = true := by
  simp only [keptR, Bool.not_eq_true', List.any_eq_false]
  intro x hx
  obtain ⟨j, hj, rfl⟩ := List.getElem_of_mem hx
  have := h j hj
  rw [getD3 hj] at this
  simp [badS]
  omega
/-- bounds of the guards, if the rides of this event are kept -/
theorem ovM_bounds {ws ls : List P2} {rs : List P3} (h : FineC ws ls rs) {V : List Int} (hV : ∀ m, 0 ≤ V.getD m 0 ∧ V.getD m 0 ≤ 1048576) {k : Nat} {r : P3} (hk : Sm ls r.b.toNat - Sm ls k ≤ r.c) {x : Int} (h0 : 0 ≤ x) (h1 : x ≤ 1048576) :
    ∀ j, k + j ≤ r.b.toNat → 0 ≤ ovM ls V k r x j ∧ ovM ls V k r x j ≤ 1048576
  | 0, _ => ⟨h0, h1⟩
  | j + 1, hj => by
    have ih := ovM_bounds h hV hk h0 h1 j (by omega)
    have := hV (k + 1 + j)
    have := Sm_mono (a := k) (b := k + 1 + j) h (by omega)
    simp only [ovM, mx]
    split <;> omega
theorem ovR_bounds {ws ls : List P2} {rs : List P3} (h : FineC ws ls rs) {V : List Int} (hV : ∀ m, 0 ≤ V.getD m 0 ∧ V.getD m 0 ≤ 1048576) {k : Nat} {x : Int} (h0 : 0 ≤ x) (h1 : x ≤ 1048576) :
    ∀ i, i ≤ rs.length → (∀ q, q < i → (rs.getD q ⟨0, 0, 0⟩).a = k → Sm ls (rs.getD q ⟨0, 0, 0⟩).b.toNat - Sm ls k ≤ (rs.getD q ⟨0, 0, 0⟩).c) → 0 ≤ ovR ls rs V k x i ∧ ovR ls rs V k x i ≤ 1048576
  | 0, _, _ => ⟨h0, h1⟩
  | i + 1, hi, hq => by
    have ih := ovR_bounds h hV h0 h1 i (by omega) fun q hqi => hq q (by omega)
    simp only [ovR]
    split
    · rename_i e
      have := h.2.2.2 i (by omega)
      exact ovM_bounds h hV (hq i (by omega) e) ih.1 ih.2 _ (by omega)
    · exact ih
theorem getD_set (l : List Int) (k m : Nat) (x : Int) (hk : k < l.length) : (l.set k x).getD m 0 = if m = k then x else l.getD m 0 := by
  rw [List.getD_eq_getElem?_getD, List.getElem?_set, List.getD_eq_getElem?_getD]
  by_cases e : m = k
  · subst e; simp [hk]
  · rw [if_neg (fun h => e h.symm), if_neg e]
theorem gRow_bounds {ws ls : List P2} {rs : List P3} (h : FineC ws ls rs) : ∀ d, d ≤ ws.length → (∀ q, q < rs.length → (ws.length : Int) - d ≤ (rs.getD q ⟨0, 0, 0⟩).a → Sm ls (rs.getD q ⟨0, 0, 0⟩).b.toNat - Sm ls (rs.getD q ⟨0, 0, 0⟩).a.toNat ≤ (rs.getD q ⟨0, 0, 0⟩).c) → ∀ m, 0 ≤ (gRow ws ls rs d).getD m 0 ∧ (gRow ws ls rs d).getD m 0 ≤ 1048576
  | 0, _, _, m => by
    have : (gRow ws ls rs 0).getD m 0 = 0 := by
      show (List.replicate ws.length (0 : Int)).getD m 0 = 0
      rw [List.getD_eq_getElem?_getD, List.getElem?_replicate]
      split <;> rfl
    rw [this]
    omega
  | d + 1, hd, hq, m => by
    have ih := gRow_bounds h d (by omega) fun q h1 h2 => hq q h1 (by omega)
    have hw := h.2.1 (ws.length - 1 - d)
    unfold okP at hw
    simp only [gRow]
    rw [getD_set _ _ _ _ (by rw [gRow_length]; omega)]
    split
    · refine ovR_bounds h ih hw.1 (by omega) _ (Nat.le_refl _) fun q h1 h2 => ?_
      have := hq q h1 (by omega)
      rw [h2] at this
      simpa using this
    · exact ih m
end Go.Proofs.Yteahkgoedibimaa
