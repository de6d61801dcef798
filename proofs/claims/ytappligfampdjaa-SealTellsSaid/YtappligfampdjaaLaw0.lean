/-
  What a ring holds behind a list of pairs: the different pairs whose key is one, as they came. Conditions: none.
-/
import Derived.Test.YtappligfampdjaaRing
namespace Go.Proofs.Ytappligfampdjaa

theorem snoc_ind {α : Type} {P : List α → Prop} (h0 : P []) (hs : ∀ l x, P l → P (l ++ [x])) (l : List α) : P l := by
  rw [← l.reverse_reverse]
  induction l.reverse with
  | nil => exact h0
  | cons x t ih =>
    rw [List.reverse_cons]
    exact hs _ _ ih
def ringL (l : List SE) : List SE := l.foldl addL []
theorem ringL_snoc (l : List SE) (x : SE) : ringL (l ++ [x]) = addL (ringL l) x := by simp [ringL]
def okKeys (l : List SE) : Bool := l.all fun x => keyB x.a
theorem okKeys_snoc (l : List SE) (x : SE) : okKeys (l ++ [x]) = (okKeys l && keyB x.a) := by simp [okKeys]
theorem mem_addL {L : List SE} {e x : SE} : x ∈ addL L e ↔ x ∈ L ∨ (x = e ∧ keyB e.a = true) := by
  unfold addL
  by_cases hk : keyB e.a = true <;> by_cases hm : e ∈ L <;> simp [hk, hm]
  exact fun h => h ▸ hm
theorem mem_ringL {l : List SE} {x : SE} : x ∈ ringL l ↔ x ∈ l ∧ keyB x.a = true := by
  induction l using snoc_ind with
  | h0 => simp [ringL]
  | hs l y ih =>
    rw [ringL_snoc, mem_addL, ih]
    simp only [List.mem_append, List.mem_singleton]
    constructor
    · rintro (⟨h1, h2⟩ | ⟨rfl, h2⟩)
      · exact ⟨.inl h1, h2⟩
      · exact ⟨.inr rfl, h2⟩
    · rintro ⟨h1 | rfl, h2⟩
      · exact .inl ⟨h1, h2⟩
      · exact .inr ⟨rfl, h2⟩
theorem ringL_nodup (l : List SE) : (ringL l).Nodup := by
  induction l using snoc_ind with
  | h0 => simp [ringL]
  | hs l y ih => rw [ringL_snoc]; exact addL_nodup ih
theorem addL_length (L : List SE) (e : SE) : L.length ≤ (addL L e).length ∧ (addL L e).length ≤ L.length + 1 := by
  unfold addL
  split <;> simp
theorem ringL_length (l : List SE) : (ringL l).length ≤ l.length := by
  induction l using snoc_ind with
  | h0 => simp [ringL]
  | hs l y ih =>
    rw [ringL_snoc, List.length_append]
    have := (addL_length (ringL l) y).2
    simp
    omega
theorem nodup_snoc {l : List SE} {x : SE} : (l ++ [x]).Nodup ↔ l.Nodup ∧ x ∉ l := by
  rw [List.nodup_append]
  simp only [List.mem_singleton]
  constructor
  · rintro ⟨h1, _, h2⟩
    exact ⟨h1, fun h => h2 x h x rfl rfl⟩
  · rintro ⟨h1, h2⟩
    exact ⟨h1, by simp, fun a ha b hb e => h2 (hb ▸ e ▸ ha)⟩
theorem ringL_id {l : List SE} (hk : okKeys l = true) (hn : l.Nodup) : ringL l = l := by
  induction l using snoc_ind with
  | h0 => rfl
  | hs l y ih =>
    rw [okKeys_snoc, Bool.and_eq_true] at hk
    obtain ⟨h1, h2⟩ := nodup_snoc.1 hn
    rw [ringL_snoc, ih hk.1 h1]
    simp [addL, hk.2, h2]
theorem ringL_lt {l : List SE} (hn : ¬ l.Nodup) : (ringL l).length < l.length := by
  induction l using snoc_ind with
  | h0 => simp at hn
  | hs l y ih =>
    rw [ringL_snoc, List.length_append, List.length_singleton]
    by_cases h : l.Nodup
    · have hy : y ∈ l := by
        refine Decidable.byContradiction fun hy => hn (nodup_snoc.2 ⟨h, hy⟩)
      have h2 := ringL_length l
      by_cases hk : keyB y.a = true
      · have : y ∈ ringL l := mem_ringL.2 ⟨hy, hk⟩
        simp only [addL, this, decide_true, Bool.not_true, Bool.and_false, Bool.false_eq_true, if_false]
        omega
      · simp only [addL, hk, Bool.false_and, Bool.false_eq_true, if_false]
        omega
    · have := ih h
      have := (addL_length (ringL l) y).2
      omega
/-- Open's error -/
def openE (l : List SE) : Int := if okKeys l then (if l.Nodup then 0 else 5) else 1
theorem take_succ_eq {l : List SE} {k : Nat} (h : k < l.length) : l.take (k + 1) = l.take k ++ [l[k]] := take_snoc l k h
theorem okKeys_take {l : List SE} {k : Nat} (h : k < l.length) (hk : keyB l[k].a = false) : okKeys l = false := by
  simp only [okKeys, List.all_eq_false]
  exact ⟨l[k], List.getElem_mem h, by simp [hk]⟩
end Go.Proofs.Ytappligfampdjaa
