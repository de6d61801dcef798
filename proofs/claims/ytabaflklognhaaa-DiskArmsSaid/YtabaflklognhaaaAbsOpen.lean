/-
  From data that came in to what the abstract walks read. Conditions: none.
-/
import Derived.Test.YtabaflklognhaaaLift
import Derived.Test.YtabaflklognhaaaAbsRet
import Derived.Deep.Slices
namespace Go.Proofs.Ytabaflklognhaaa
open Go.ChangeShapes Go.WideShapes Go.ChangeAt Go.RowKit Go.Deep Go.Joins

theorem open_string {H : Type} {enc : TypeId × Value → H} {P : Program} {w : World} {base : Nat} {spare : Nat → Bool} {held : Bool} {r : Reach} {b0 : Nat} {t : TypeId} {v : Value} {d : DataW H} {ps : List MemPlace} (ht : P.underlying t = some .string)
    (hval : Value.okWide P w r b0 t v) (hd : DataW.Trod enc P w base spare held t v d ps) : ∃ s : ByteArray, v = .string s ∧ d = .lit (.string s.data.toList) ∧ ps = [] ∧ s.size ≤ maxLen := by
  obtain ⟨s, rfl⟩ := okWide_string ht hval
  obtain ⟨fuel, hf⟩ := hd
  obtain ⟨s', h, hx, hw⟩ := DataW.trod_string ht hf
  simp [Value.cells] at h
  subst h
  simp only [Prod.mk.injEq] at hx
  exact ⟨s, rfl, hx.1, hx.2, hw⟩
theorem reps_nil {w : World} {Pr : Prot} : ∀ (i : Nat) (v : Value) (d : D), ([] : List Value)[i]? = some v → ([] : List D)[i]? = some d → RepD w Pr v d := by simp
theorem reps_cons {w : World} {Pr : Prot} {v : Value} {d : D} {vs : List Value} {ds : List D} (h : RepD w Pr v d) (hr : ∀ (i : Nat) (v : Value) (d : D), vs[i]? = some v → ds[i]? = some d → RepD w Pr v d) :
    ∀ (i : Nat) (u : Value) (e : D), (v :: vs)[i]? = some u → (d :: ds)[i]? = some e → RepD w Pr u e
  | 0, _, _, h1, h2 => by cases h1; cases h2; exact h
  | i + 1, u, e, h1, h2 => hr i u e h1 h2
section
variable {H : Type} {enc : TypeId × Value → H}
/-- Elements that are shown by lists of scalars make a list. -/
theorem rep_rows {α : Type} [Inhabited α] {w : World} {base es n c : Nat} {a : Addr} (f : α → List D) (Q : α → Prop) (hpos : 0 < es) (hc : n ≤ c) (hm : c ≤ maxLen)
    (h : ∀ i, i < n → ∃ (x : α) (cs : List Value), Q x ∧ w.cells? base (a.add (i * es)) es = some cs ∧ (f x).length = es ∧ ∀ j, j < es → ∃ v, cs[j]? = some v ∧ (f x)[j]? = some (.val v)) :
    ∃ l : List α, l.length = n ∧ (∀ x ∈ l, Q x) ∧ RepD w (fun b _ => b < w.heap.size) (.slice (some a) n c) (.list es (l.map f)) := by
  rcases Nat.eq_zero_or_pos n with h0 | h0
  · subst h0
    exact ⟨[], rfl, by simp, .nil _ _ _ hm⟩
  have h' : ∀ i, ∃ x : α, i < n → ∃ (cs : List Value), Q x ∧ w.cells? base (a.add (i * es)) es = some cs ∧ (f x).length = es ∧ ∀ j, j < es → ∃ v, cs[j]? = some v ∧ (f x)[j]? = some (.val v) := by
    intro i
    by_cases hi : i < n
    · obtain ⟨x, cs, hx⟩ := h i hi
      exact ⟨x, fun _ => ⟨cs, hx⟩⟩
    · exact ⟨default, fun h => absurd h hi⟩
  let g : Nat → α := fun i => Classical.choose (h' i)
  have hg : ∀ i, i < n → ∃ (cs : List Value), Q (g i) ∧ w.cells? base (a.add (i * es)) es = some cs ∧ (f (g i)).length = es ∧ ∀ j, j < es → ∃ v, cs[j]? = some v ∧ (f (g i))[j]? = some (.val v) := fun i hi => Classical.choose_spec (h' i) hi
  obtain ⟨b, o, spot⟩ := a
  have hspot : spot = none := by
    obtain ⟨cs, _, h1, hl, h2⟩ := hg 0 h0
    obtain ⟨v, h3, hv⟩ := h2 0 hpos
    have hc0 := (World.cells?_some h1).2.2 0 hpos
    rw [h3] at hc0
    simpa [Addr.add] using World.cell?_spot hc0
  subst hspot
  have hcell : ∀ i j v, i < n → j < es → (f (g i))[j]? = some (.val v) → w.cell? ⟨b, o + (i * es + j), none⟩ = some v := by
    intro i j v hi hj hv
    obtain ⟨cs, _, h1, _, h2⟩ := hg i hi
    obtain ⟨u, h3, h4⟩ := h2 j hj
    rw [hv] at h4
    cases h4
    have h5 := (World.cells?_some h1).2.2 j hj
    rw [h3, add_plain, add_plain, Nat.add_assoc] at h5
    exact h5
  have hb : b < w.heap.size := by
    obtain ⟨cs, _, h1, _, _⟩ := hg 0 h0
    have := World.cells?_block h1 hpos
    simpa [Addr.add] using this
  refine ⟨(List.range n).map g, by simp, fun x hx => ?_, ?_⟩
  · obtain ⟨j, hj, rfl⟩ := List.mem_map.1 hx
    obtain ⟨_, h1, _⟩ := hg j (List.mem_range.1 hj)
    exact h1
  · have hval : ∀ (i j : Nat) (e : List D) (d : D), (((List.range n).map g).map f)[i]? = some e → e[j]? = some d → i < n ∧ j < es ∧ e = f (g i) ∧ ∃ v, d = .val v := by
      intro i j e d h1 h2
      rw [List.getElem?_map, List.getElem?_map, Option.map_eq_some_iff] at h1
      obtain ⟨x, h3, rfl⟩ := h1
      rw [Option.map_eq_some_iff] at h3
      obtain ⟨k, h4, rfl⟩ := h3
      have hi : i < n := by have := (List.getElem?_eq_some_iff.1 h4).1; simpa using this
      have hk : k = i := by simpa [hi] using h4.symm
      subst hk
      obtain ⟨_, _, _, hl, h5⟩ := hg k hi
      have hj : j < es := by have := (List.getElem?_eq_some_iff.1 h2).1; omega
      obtain ⟨v, _, h6⟩ := h5 j hj
      rw [h2] at h6
      cases h6
      exact ⟨hi, hj, rfl, v, rfl⟩
    refine .list b o n c es _ (fun i j => match (f (g i))[j]? with | some (.val v) => v | _ => undef) (by simp) (fun e he => ?_) hc hm (fun i j e d h1 h2 => ?_) (fun i j e d h1 h2 => ?_)
    · obtain ⟨x, hx, rfl⟩ := List.mem_map.1 he
      obtain ⟨j, hj, rfl⟩ := List.mem_map.1 hx
      obtain ⟨_, _, _, h1, _⟩ := hg j (List.mem_range.1 hj)
      exact h1
    · obtain ⟨hi, hj, rfl, v, rfl⟩ := hval i j e d h1 h2
      have := hcell i j v hi hj h2
      refine ⟨?_, hb⟩
      rw [h2, Nat.add_assoc]
      exact this
    · obtain ⟨hi, hj, rfl, v, rfl⟩ := hval i j e d h1 h2
      rw [h2]
      exact .val v
end
end Go.Proofs.Ytabaflklognhaaa
