/-
  What cells of a type show, type by type. Conditions: none.
-/
import Derived.Test.YtabaflklognhaaaAbsOpen
namespace Go.Proofs.Ytabaflklognhaaa
open Go.ChangeShapes Go.WideShapes Go.ChangeAt Go.RowKit Go.Deep Go.Joins

section
variable {H : Type} {enc : TypeId × Value → H} {P : Program} {w : World} {base : Nat}
/-- Cells that read at type t show some a, by f. -/
def Show (enc : TypeId × Value → H) (P : Program) (w : World) (base : Nat) (t : TypeId) (c : Nat) {α : Type} (f : α → List D) (Q : α → Prop) : Prop :=
  ∀ (fuel : Nat) (cs : List Value) (x : DataW H × List MemPlace), DataW.trod enc P w base (fun _ => true) true fuel t cs = some x →
    cs.length = c ∧ ∃ a, Q a ∧ (f a).length = c ∧ ∀ (j : Nat) (v : Value) (d : D), cs[j]? = some v → (f a)[j]? = some d → RepD w (fun b _ => b < w.heap.size) v d
theorem show_one {α : Type} {t : TypeId} {g : α → D} {Q : α → Prop} (h : ∀ (fuel : Nat) (cs : List Value) (x : DataW H × List MemPlace), DataW.trod enc P w base (fun _ => true) true fuel t cs = some x → ∃ v a, cs = [v] ∧ Q a ∧ RepD w (fun b _ => b < w.heap.size) v (g a)) :
    Show enc P w base t 1 (fun a => [g a]) Q := by
  intro fuel cs x hx
  obtain ⟨v, a, rfl, ha, hr⟩ := h fuel cs x hx
  refine ⟨rfl, a, ha, rfl, fun j u d h1 h2 => ?_⟩
  cases j with
  | zero => cases h1; cases h2; exact hr
  | succ j => cases h1
theorem show_int {t : TypeId} {k : IntKind} (ht : P.underlying t = some (.int k)) : Show enc P w base t 1 (fun n : Int => [.val (.int k n)]) (fun n => k.min ≤ n ∧ n ≤ k.max) :=
  show_one (g := fun n : Int => .val (.int k n)) fun fuel cs x hx => by
    obtain ⟨n, rfl, _, hw⟩ := DataW.trod_int ht hx
    exact ⟨_, n, rfl, by simpa [Lit.wf] using hw, .val _⟩
theorem show_string {t : TypeId} (ht : P.underlying t = some .string) : Show enc P w base t 1 (fun s : ByteArray => [.str s]) (fun s => s.size ≤ maxLen) :=
  show_one (g := fun s : ByteArray => .str s) fun fuel cs x hx => by
    obtain ⟨s, rfl, _, hw⟩ := DataW.trod_string ht hx
    exact ⟨_, s, rfl, hw, .val _⟩
/-- A list of what its elements show. -/
theorem show_list {α : Type} {t e : TypeId} {es : Nat} {f : α → List D} {Q : α → Prop} (ht : P.underlying t = some (.slice e)) (hc : P.cellsOf e = es) (hpos : 0 < es) (he : Show enc P w base e es f Q) :
    Show enc P w base t 1 (fun l : List α => [.list es (l.map f)]) (fun l => l.length ≤ maxLen ∧ ∀ x ∈ l, Q x) :=
  show_one (g := fun l : List α => .list es (l.map f)) fun fuel cs x hx => by
    rcases open_slice ht hx with ⟨rfl, _⟩ | ⟨a, len, cap, m, k, Dt, Pl, rfl, hb, hl, hm, hmm, _, hf⟩
    · exact ⟨_, [], rfl, ⟨Nat.zero_le _, by simp⟩, .nil _ _ _ (Nat.zero_le _)⟩
    · refine ⟨.slice (some a) len cap, ?_⟩
      simp only [if_true] at hmm
      subst hmm
      rw [hc] at hf
      rcases Nat.eq_zero_or_pos len with h0 | h0
      · subst h0
        exact ⟨[], rfl, ⟨Nat.zero_le _, by simp⟩, .nil _ _ _ hm⟩
      have h1 : ∀ i, i < len → ∃ y : α × List Value, Q y.1 ∧ w.cells? base (a.add (i * es)) es = some y.2 ∧ y.2.length = es ∧ (f y.1).length = es ∧ ∀ (j : Nat) (v : Value) (d : D), y.2[j]? = some v → (f y.1)[j]? = some d → RepD w (fun b _ => b < w.heap.size) v d := by
        intro i hi
        obtain ⟨cs, hcell, htr⟩ := hf i (by omega)
        obtain ⟨h2, y, h3, h4, h5⟩ := he _ _ _ htr
        exact ⟨(y, cs), h3, hcell, h2, h4, h5⟩
      haveI : Inhabited (α × List Value) := ⟨Classical.choose (h1 0 h0)⟩
      obtain ⟨g, hg⟩ := choose_lt h1
      obtain ⟨b, o, spot⟩ := a
      have hspot : spot = none := by
        obtain ⟨_, h2, h3, _, _⟩ := hg 0 h0
        have h4 := (World.cells?_some h2).2.2 0 hpos
        rw [List.getElem?_eq_getElem (by omega)] at h4
        simpa [Addr.add] using World.cell?_spot h4
      subst hspot
      have hblk : b < w.heap.size := by
        obtain ⟨_, h2, _⟩ := hg 0 h0
        have := World.cells?_block h2 hpos
        simpa [Addr.add] using this
      refine ⟨(List.range len).map fun i => (g i).1, rfl, ⟨?_, fun x hx => ?_⟩, ?_⟩
      · simp only [List.length_map, List.length_range]
        omega
      · obtain ⟨j, hj, rfl⟩ := List.mem_map.1 hx
        exact (hg j (List.mem_range.1 hj)).1
      have hval : ∀ (i j : Nat) (e : List D) (d : D), (((List.range len).map fun i => (g i).1).map f)[i]? = some e → e[j]? = some d → i < len ∧ j < es ∧ e = f (g i).1 ∧ ∃ v, (g i).2[j]? = some v := by
        intro i j e d h2 h3
        rw [List.getElem?_map, List.getElem?_map, Option.map_eq_some_iff] at h2
        obtain ⟨x, h4, rfl⟩ := h2
        rw [Option.map_eq_some_iff] at h4
        obtain ⟨k, h5, rfl⟩ := h4
        have hi : i < len := by have := (List.getElem?_eq_some_iff.1 h5).1; simpa using this
        have hk : k = i := by simpa [hi] using h5.symm
        subst hk
        obtain ⟨_, _, h6, h7, _⟩ := hg k hi
        have hj : j < es := by have := (List.getElem?_eq_some_iff.1 h3).1; omega
        exact ⟨hi, hj, rfl, _, List.getElem?_eq_getElem (by omega)⟩
      refine .list b o len m es _ (fun i j => ((g i).2[j]?).getD undef) (by simp) (fun e he => ?_) hl hm (fun i j e d h2 h3 => ?_) (fun i j e d h2 h3 => ?_)
      · obtain ⟨x, hx, rfl⟩ := List.mem_map.1 he
        obtain ⟨j, hj, rfl⟩ := List.mem_map.1 hx
        exact (hg j (List.mem_range.1 hj)).2.2.2.1
      · obtain ⟨hi, hj, rfl, v, hv⟩ := hval i j e d h2 h3
        refine ⟨?_, hblk⟩
        obtain ⟨_, h4, _⟩ := hg i hi
        have h5 := (World.cells?_some h4).2.2 j hj
        rw [hv, add_plain, add_plain] at h5
        rw [hv]
        exact h5
      · obtain ⟨hi, hj, rfl, v, hv⟩ := hval i j e d h2 h3
        rw [hv]
        exact (hg i hi).2.2.2.2 j v d hv h3
/-- Fields from an offset on. -/
def ShowFs (enc : TypeId × Value → H) (P : Program) (w : World) (base : Nat) (o : Nat) (fs : List Field) (c : Nat) {α : Type} (f : α → List D) (Q : α → Prop) : Prop :=
  ∀ (n : Nat) (cs : List Value), (∀ (i : Nat) (fl : Field), fs[i]? = some fl → ∃ y, DataW.trod enc P w base (fun _ => true) true n fl.type ((cs.drop fl.offset).take (P.cellsOf fl.type)) = some y) →
    ∃ a, Q a ∧ (f a).length = c ∧ ∀ (j : Nat) (v : Value) (d : D), cs[o + j]? = some v → (f a)[j]? = some d → RepD w (fun b _ => b < w.heap.size) v d
theorem shows_nil {o : Nat} : ShowFs enc P w base o [] 0 (fun _ : Unit => []) (fun _ => True) := fun _ _ _ => ⟨(), trivial, rfl, fun j v d _ h => by cases h⟩
theorem shows_cons {α β : Type} {fl : Field} {o c c' : Nat} {fs : List Field} {f : α → List D} {Q : α → Prop} {g : β → List D} {R : β → Prop} (h : Show enc P w base fl.type c f Q) (ho : fl.offset = o) (hc : P.cellsOf fl.type = c)
    (hr : ShowFs enc P w base (o + c) fs c' g R) : ShowFs enc P w base o (fl :: fs) (c + c') (fun x : α × β => f x.1 ++ g x.2) (fun x => Q x.1 ∧ R x.2) := by
  intro n cs hcs
  obtain ⟨y, hy⟩ := hcs 0 fl rfl
  obtain ⟨_, a, h1, h2, h3⟩ := h _ _ _ hy
  obtain ⟨b, h4, h5, h6⟩ := hr n cs fun i f hf => hcs (i + 1) f hf
  refine ⟨(a, b), ⟨h1, h4⟩, by simp [h2, h5], fun j v d hv hd => ?_⟩
  have hd : (f a ++ g b)[j]? = some d := hd
  by_cases hj : j < c
  · rw [List.getElem?_append_left (by omega)] at hd
    refine h3 j v d ?_ hd
    rw [ho, hc, List.getElem?_take, if_pos hj, List.getElem?_drop]
    exact hv
  · rw [List.getElem?_append_right (by omega), h2] at hd
    refine h6 (j - c) v d ?_ hd
    rw [show o + c + (j - c) = o + j by omega]
    exact hv
theorem show_struct {α : Type} {t : TypeId} {fs : Array Field} {c : Nat} {f : α → List D} {Q : α → Prop} (ht : P.underlying t = some (.struct fs)) (hc : P.cellsOf t = c) (h : ShowFs enc P w base 0 fs.toList c f Q) : Show enc P w base t c f Q := by
  intro fuel cs x hx
  obtain ⟨xs, n, _, _, hl, hlen, hf⟩ := DataW.trod_struct ht hx
  obtain ⟨a, h1, h2, h3⟩ := h n cs fun i fl hfl => by
    have hfl' : fs[i]? = some fl := by simpa using hfl
    have hi : i < fs.size := (Array.getElem?_eq_some_iff.1 hfl').1
    exact ⟨_, (hf i fl hfl').trans (List.getElem?_eq_getElem (by omega))⟩
  exact ⟨hl.trans hc, a, h1, h2, fun j v d hv hd => h3 j v d (by simpa using hv) hd⟩
theorem Show.as {α β : Type} {t : TypeId} {c : Nat} {f : α → List D} {Q : α → Prop} (h : Show enc P w base t c f Q) (g : β → List D) (R : β → Prop) (m : α → β) (hg : ∀ a, g (m a) = f a) (hR : ∀ a, Q a → R (m a)) : Show enc P w base t c g R := by
  intro fuel cs x hx
  obtain ⟨h1, a, h2, h3, h4⟩ := h fuel cs x hx
  exact ⟨h1, m a, hR a h2, by rw [hg]; exact h3, by rw [hg]; exact h4⟩
/-- A value that came in, of one cell. -/
theorem open_one {α : Type} {t : TypeId} {g : α → D} {Q : α → Prop} {v : Value} {d : DataW H} {ps : List MemPlace} (h : Show enc P w base t 1 (fun a => [g a]) Q) (hv : v.cells = #[v]) (hd : DataW.Trod enc P w base (fun _ => true) true t v d ps) :
    ∃ a, Q a ∧ RepD w (fun b _ => b < w.heap.size) v (g a) := by
  obtain ⟨fuel, hf⟩ := hd
  rw [hv] at hf
  obtain ⟨_, a, h1, _, h2⟩ := h _ _ _ hf
  exact ⟨a, h1, h2 0 v (g a) rfl rfl⟩
/-- A struct that came in. -/
theorem open_struct {α : Type} {t : TypeId} {c : Nat} {f : α → List D} {Q : α → Prop} {v : Value} {d : DataW H} {ps : List MemPlace} (h : Show enc P w base t c f Q) (cs : Array Value) (hv : v = .agg cs) (hd : DataW.Trod enc P w base (fun _ => true) true t v d ps) :
    ∃ a, Q a ∧ RepD w (fun b _ => b < w.heap.size) v (.agg (f a)) := by
  subst hv
  obtain ⟨fuel, hf⟩ := hd
  obtain ⟨h0, a, h1, h2, h3⟩ := h _ _ _ hf
  obtain ⟨l⟩ := cs
  have hl : l.length = c := by simpa [Value.cells] using h0
  exact ⟨a, h1, .agg l (f a) (by omega) fun i v d hv hd => h3 i v d (by simpa [Value.cells] using hv) hd⟩
end
end Go.Proofs.Ytabaflklognhaaa
