/-
  Loads, addresses, literals, boxes, over abstract states. Conditions: none.
-/
import Derived.Test.YtabaflklognhaaaAbsTi
import Derived.Laws.Tables
import Derived.Great.BuildSlice
namespace Go.Proofs.Ytabaflklognhaaa
open Go.RowKit

section
variable {E : Entry} {sl : Slots} {ob : Objs} {a : Act} {w : World} {Pr : Prot} {β : Nat → Value} {κ : Nat → Nat}
/-- the same in another world of the statement -/
theorem Kept.rep {w' : World} {v : Value} {d : D} (hk : Kept Pr β ob w w') (h : RepD w Pr v d) : RepD w' Pr v d := h.keep hk.stays (fun _ _ h => h)
theorem list_form {v : Value} {s : Nat} {l : List (List D)} (h : RepD w Pr v (.list s l)) : ∃ A c, v = .slice A l.length c ∧ l.length ≤ c ∧ c ≤ maxLen := by
  cases h with
  | nil A c _ hm => exact ⟨A, c, rfl, Nat.zero_le _, hm⟩
  | list b o n c _ _ u hn hs hc hm hr hd => subst hn; exact ⟨_, c, rfl, hc, hm⟩
theorem list_at {v : Value} {s : Nat} {l : List (List D)} (h : RepD w Pr v (.list s l)) {i : Nat} {e : List D} (he : l[i]? = some e) : ∃ (b o c : Nat) (u : Nat → Value), v = .slice (some ⟨b, o, none⟩) l.length c ∧ e.length = s ∧
    ∀ (j : Nat) (d : D), e[j]? = some d → w.cell? ⟨b, o + i * s + j, none⟩ = some (u j) ∧ Pr b (o + i * s + j) ∧ RepD w Pr (u j) d := by
  cases h with
  | nil A c _ hm => simp at he
  | list b o n c _ _ u hn hs hc hm hr hd =>
    subst hn
    exact ⟨b, o, c, u i, rfl, hs e (List.mem_of_getElem? he), fun j d hj => ⟨(hr i j e d he hj).1, (hr i j e d he hj).2, hd i j e d he hj⟩⟩
variable {d : Option Nat} {t T ty : TypeId} {p : String} {af : Array Edge} {g : Option (Nat × Bool)} {x y c : Operand} {m : Int}
theorem y_llen {s n : Nat} {l : List (List D)} {t0 : TypeId} {A : Array TypeId} (hx : ToD ob (ev sl x) (.list s l)) (hA : A = #[t0]) (hT : ∃ e es eb ez, ti t0 = .sl e es eb ez) (hn : l.length = n) :
    Y E ⟨d, .call { callee := .builtin .len, args := #[x], argTypes := A }, T, p, af, g⟩ sl ob (.d (.val (.int .i64 n))) := fun a w Pr β κ h => by
  subst hA hn
  obtain ⟨e, es, eb, ez, hT⟩ := hT
  obtain ⟨_, _, _, hu, _⟩ := ti_sl hT
  obtain ⟨A, c, hv, _⟩ := list_form (toD_rep h hx _ (good_ev h x))
  exact ⟨_, .d _ _ (.val _), fun w' _ => by simp [execOp, hv, resolve, invoke, builtin, Builtin.len_, run_underlying hu, goInt]⟩
theorem y_ix {s i : Nat} {l : List (List D)} {e' : List D} {e eb : Nat} {ez : Value} {kk : IntKind} (hx : ToD ob (ev sl x) (.list s l)) (hy : ev sl y = .d (.val (.int kk m))) (hT : ti t = .sl e s eb ez) (hi : m = (i : Int)) (he : l[i]? = some e') :
    Y E ⟨d, .indexAddr t x y, T, p, af, g⟩ sl ob (.ep e' 0) := fun a w Pr β κ h => by
  subst hi
  obtain ⟨_, j, _, hu, _, hj, _, hs, _⟩ := ti_sl hT
  obtain ⟨b, o, c, u, hv, hl, hc⟩ := list_at (toD_rep h hx _ (good_ev h x)) he
  have hlt : i < l.length := (List.getElem?_eq_some_iff.1 he).1
  refine ⟨.pointer (some ⟨b, o + i * s + 0, none⟩), .ep b (o + i * s) 0 e' u hc, fun w' _ => ?_⟩
  have hsz : (sizeOf e).run Try.prog w' = .ok s w' := by simp [sizeOf, typeInfo, hj, hs]
  simp [execOp, hv, good_val h hy, Instr.indexAt, asIntOf, run_underlying hu, hsz, hlt, Addr.add_lit]
theorem take_all {α : Type} {l : List α} {o k : Nat} (h : o = 0) (hl : l.length = k) : (l.drop o).take k = l := by subst h hl; simp
theorem get_map {α β : Type} {f : α → β} {l : List α} {i : Nat} (h : i < l.length) : (l.map f)[i]? = some (f l[i]) := by simp [h]
theorem int_nat (m : Int) (h : 0 ≤ m) : m = (m.toNat : Int) := by omega
theorem y_load1 {l : List D} {o : Nat} {z : D} (hx : ev sl x = .ep l o) (hz : l[o]? = some z) (hT : isOne (ti t) = true) : Y E ⟨d, .load t x, T, p, af, g⟩ sl ob (.d z) := fun a w Pr β κ h => by
  have hv := good_ev h x
  rw [hx] at hv
  generalize hav : a.eval x = v at hv
  cases hv with
  | ep b q _ _ u hr =>
    obtain ⟨h1, h2, h3⟩ := hr o z hz
    exact ⟨u o, .d _ _ h3, fun w' hk => by
      have := run_load_one (t := t) w' hT ((hk.stays _ _ h2).trans h1)
      simp [execOp, hav, this]⟩
theorem y_loadA {l l' : List D} {o k : Nat} (hx : ev sl x = .ep l o) (hT : aggK (ti t) = some k) (hl : (l.drop o).take k = l') (hk : l'.length = k) : Y E ⟨d, .load t x, T, p, af, g⟩ sl ob (.d (.agg l')) := fun a w Pr β κ h => by
  have hv := good_ev h x
  rw [hx] at hv
  generalize hav : a.eval x = v at hv
  cases hv with
  | ep b q _ _ u hr =>
    have hget : ∀ (j : Nat) (z : D), l'[j]? = some z → l[o + j]? = some z := by
      intro j z hj
      rw [← hl, List.getElem?_take] at hj
      split at hj
      · rw [List.getElem?_drop] at hj
        exact hj
      · cases hj
    have hlt : ∀ j, j < k → ∃ z, l'[j]? = some z := fun j hj => ⟨_, List.getElem?_eq_getElem (by omega)⟩
    let cs : List Value := (List.range k).map fun j => u (o + j)
    have hcs : cs.length = k := by simp [cs]
    have hget2 : ∀ (j : Nat) (v : Value), cs[j]? = some v → j < k ∧ v = u (o + j) := by
      intro j v hj
      have hjl : j < k := by have := (List.getElem?_eq_some_iff.1 hj).1; omega
      simp [cs, hjl] at hj
      exact ⟨hjl, hj.symm⟩
    refine ⟨.agg cs.toArray, .d _ _ (.agg cs l' (by omega) fun j v z h1 h2 => ?_), fun w' hkept => ?_⟩
    · obtain ⟨_, rfl⟩ := hget2 j v h1
      exact (hr _ z (hget j z h2)).2.2
    · have := run_load_agg (t := t) w' (b := b) (o := q + o) hT hcs (fun j v hj => by
        obtain ⟨hjl, rfl⟩ := hget2 j v hj
        obtain ⟨z, hz⟩ := hlt j hjl
        obtain ⟨h1, h2, _⟩ := hr _ z (hget j z hz)
        rw [Nat.add_assoc]
        exact (hkept.stays _ _ h2).trans h1)
      simp [execOp, hav, this]
theorem y_faddr {l : List D} {o f off n ft : Nat} {z : List Value} {fs : List (Nat × Nat × Nat)} (hx : ev sl x = .ep l o) (hT : ti t = .st z fs) (hf : fs[f]? = some (off, n + 1, ft)) : Y E ⟨d, .fieldAddr t x f, T, p, af, g⟩ sl ob (.ep l (o + off)) := fun a w Pr β κ h => by
  have hv := good_ev h x
  rw [hx] at hv
  generalize hav : a.eval x = v at hv
  cases hv with
  | ep b q _ _ u hr =>
    refine ⟨.pointer (some ⟨b, q + (o + off), none⟩), .ep b q (o + off) l u hr, fun w' _ => ?_⟩
    have := run_field_addr w' (b := b) (o := q + o) hT hf
    simp [execOp, hav, this, Nat.add_assoc]
theorem y_fbox {i o f off n ft : Nat} {z : List Value} {fs : List (Nat × Nat × Nat)} (hx : ev sl x = .box i o) (hT : ti t = .st z fs) (hf : fs[f]? = some (off, n + 1, ft)) : Y E ⟨d, .fieldAddr t x f, T, p, af, g⟩ sl ob (.box i (o + off)) := fun a w Pr β κ h => by
  have hv := good_ev h x
  rw [hx] at hv
  generalize hav : a.eval x = v at hv
  cases hv with
  | box _ _ gg hb =>
    refine ⟨.pointer (some ⟨gg, o + off, none⟩), .box i (o + off) gg hb, fun w' _ => ?_⟩
    have := run_field_addr w' (b := gg) (o := o) hT hf
    simp [execOp, hav, this]
theorem box_at (h : Good E sl ob a w Pr β κ) {i o : Nat} {T : TypeId} {l : List V} (hx : ev sl x = .box i o) (hf : find ob i = some (.box T l)) :
    ∃ (b : Nat) (cs : List Value), a.eval x = .pointer (some ⟨b, o, none⟩) ∧ β i = .pointer (some ⟨b, 0, none⟩) ∧ w.heap[b]? = some (.cells cs.toArray T (0, 0)) ∧ cs.length = l.length ∧
      (∀ (j : Nat) (v : Value) (x : V), cs[j]? = some v → l[j]? = some x → RepV w Pr β κ v x) ∧ ∀ w', Kept Pr β ob w w' → ∀ j v, cs[j]? = some v → w'.cell? ⟨b, j, none⟩ = some v := by
  have hv := good_ev h x
  rw [hx] at hv
  generalize a.eval x = v at hv
  cases hv with
  | box _ _ b hb =>
    obtain ⟨b', cs, hb', hB, hh, hl, hv, hno⟩ := h.objs i _ hf
    rw [hb'] at hb
    simp only [Value.pointer.injEq, Option.some.injEq, Addr.mk.injEq, and_true] at hb
    subst hb
    refine ⟨b', cs, rfl, hb', hh, hl, hv, fun w' hk j v hj => ?_⟩
    have := (hk.objs i _ b' hf (by rw [hb']; rfl)).trans hh
    rw [cell_of_row w' b' j _ _ (0, 0) this]
    simpa using hj
theorem y_bload1 {i o : Nat} {T' : TypeId} {l : List V} {z : V} (hx : ev sl x = .box i o) (hf : find ob i = some (.box T' l)) (hz : l[o]? = some z) (hT : isOne (ti t) = true) : Y E ⟨d, .load t x, T, p, af, g⟩ sl ob z := fun a w Pr β κ h => by
  obtain ⟨b, cs, hav, _, _, hl, hv, hc⟩ := box_at h hx hf
  have ho : o < cs.length := by rw [hl]; exact (List.getElem?_eq_some_iff.1 hz).1
  have hco : cs[o]? = some cs[o] := List.getElem?_eq_getElem ho
  exact ⟨cs[o], hv o _ z hco hz, fun w' hk => by
    have := run_load_one (t := t) w' hT (hc w' hk o _ hco)
    simp [execOp, hav, this]⟩
def unD : List V → Option (List D)
  | [] => some []
  | .d x :: r => (unD r).map (x :: ·)
  | _ :: _ => none
theorem unD_map : ∀ {l : List V} {ds : List D}, unD l = some ds → l = ds.map V.d := by
  intro l
  induction l with
  | nil => intro ds h; simp only [unD, Option.some.injEq] at h; subst h; rfl
  | cons v l ih =>
    intro ds h
    cases v <;> simp only [unD, Option.map_eq_some_iff, reduceCtorEq] at h
    obtain ⟨r, hr, rfl⟩ := h
    rw [ih hr]
    rfl
theorem y_bloadA {i o k : Nat} {T' : TypeId} {l : List V} {ds : List D} (hx : ev sl x = .box i o) (hf : find ob i = some (.box T' l)) (hT : aggK (ti t) = some k) (hl : unD ((l.drop o).take k) = some ds) (hk : ds.length = k) :
    Y E ⟨d, .load t x, T, p, af, g⟩ sl ob (.d (.agg ds)) := fun a w Pr β κ h => by
  obtain ⟨b, cs, hav, _, _, hcl, hv, hc⟩ := box_at h hx hf
  have hget : ∀ (j : Nat) (z : D), ds[j]? = some z → l[o + j]? = some (.d z) := by
    intro j z hj
    have h1 : ((l.drop o).take k)[j]? = some (.d z) := by rw [unD_map hl]; simp [hj]
    rw [List.getElem?_take] at h1
    split at h1
    · rw [List.getElem?_drop] at h1
      exact h1
    · cases h1
  have hlen : k = 0 ∨ o + k ≤ l.length := by
    by_cases hk0 : k = 0
    · exact .inl hk0
    · right
      have hz : ds[k - 1]? = some (ds[k - 1]'(by omega)) := List.getElem?_eq_getElem (by omega)
      have := (List.getElem?_eq_some_iff.1 (hget _ _ hz)).1
      omega
  have hcs : ((cs.drop o).take k).length = k := by simp; omega
  have hget2 : ∀ (j : Nat) (v : Value), ((cs.drop o).take k)[j]? = some v → j < k ∧ cs[o + j]? = some v := by
    intro j v hj
    have hjl : j < k := by have := (List.getElem?_eq_some_iff.1 hj).1; omega
    rw [List.getElem?_take, if_pos hjl, List.getElem?_drop] at hj
    exact ⟨hjl, hj⟩
  refine ⟨.agg ((cs.drop o).take k).toArray, .d _ _ (.agg _ ds (by omega) fun j v z h1 h2 => ?_), fun w' hkept => ?_⟩
  · exact (hv _ v _ (hget2 j v h1).2 (hget j z h2)).d_inv
  · have := run_load_agg (t := t) w' (b := b) (o := o) hT hcs (fun j v hj => hc w' hkept _ v (hget2 j v hj).2)
    simp [execOp, hav, this]
theorem y_nilbox {i o : Nat} (hx : ev sl x = .box i o) : Y E ⟨d, .nilCheck x, T, p, af, g⟩ sl ob (.box i o) := fun a w Pr β κ h => by
  have hv := good_ev h x
  rw [hx] at hv
  generalize hav : a.eval x = v at hv
  cases hv with
  | box _ _ b hb => exact ⟨_, .box i o b hb, fun w' _ => by simp [execOp, hav]⟩
theorem y_nilep {l : List D} {o : Nat} (hx : ev sl x = .ep l o) : Y E ⟨d, .nilCheck x, T, p, af, g⟩ sl ob (.ep l o) := fun a w Pr β κ h => by
  have hv := good_ev h x
  rw [hx] at hv
  generalize hav : a.eval x = v at hv
  cases hv with
  | ep b q _ _ u hr => exact ⟨_, .ep b q o l u hr, fun w' _ => by simp [execOp, hav]⟩
/-- a field of a struct that is at hand -/
theorem y_field {l : List D} {f off ft : Nat} {z : List Value} {fs : List (Nat × Nat × Nat)} {r : D} (hx : ev sl x = .d (.agg l)) (hT : ti t = .st z fs) (hf : fs[f]? = some (off, 1, ft)) (h1 : isOne (ti ft) = true) (hr : l[off]? = some r) :
    Y E ⟨d, .field t x f, T, p, af, g⟩ sl ob (.d r) := fun a w Pr β κ h => by
  have hv := good_rep h hx
  generalize hav : a.eval x = v at hv
  cases hv with
  | agg cs _ hl hd =>
    obtain ⟨i, F, _, hu, _, _, h5⟩ := ti_st hT
    obtain ⟨q, hq, hy⟩ := mapM_get h5 hf
    simp only [Option.map_eq_some_iff] at hy
    obtain ⟨j, hj, he⟩ := hy
    simp only [Prod.mk.injEq] at he
    obtain ⟨rfl, he2, rfl⟩ := he
    have hq' : F[f]? = some q := by simpa using hq
    have ho : q.offset < cs.length := by rw [hl]; exact (List.getElem?_eq_some_iff.1 hr).1
    have hco : cs[q.offset]? = some cs[q.offset] := List.getElem?_eq_getElem ho
    exact ⟨cs[q.offset], .d _ _ (hd _ _ _ hco hr), fun w' _ => by simp [execOp, hav, Instr.field, run_underlying hu, hq', asAgg, part, run_isAgg_one w' h1, hco]⟩
/-- an element of an array that is at hand -/
theorem y_arr {l : List D} {n i : Nat} {kk : IntKind} {r : D} (hx : ev sl x = .d (.agg l)) (hy : ev sl y = .d (.val (.int kk m))) {e : TypeId} {z : List Value} (hT : ti t = .ar n e 1 z) (h1 : isOne (ti e) = true) (hi : m = (i : Int)) (hin : i < n) (hr : l[i]? = some r) :
    Y E ⟨d, .index t x y, T, p, af, g⟩ sl ob (.d r) := fun a w Pr β κ h => by
  subst hi
  have hv := good_rep h hx
  generalize hav : a.eval x = v at hv
  cases hv with
  | agg cs _ hl hd =>
    obtain ⟨_, _, _, hu, _⟩ := ti_ar hT
    have ho : i < cs.length := by rw [hl]; exact (List.getElem?_eq_some_iff.1 hr).1
    have hco : cs[i]? = some cs[i] := List.getElem?_eq_getElem ho
    exact ⟨cs[i], .d _ _ (hd _ _ _ hco hr), fun w' _ => by simp [execOp, hav, good_val h hy, Instr.index, asIntOf, run_underlying hu, hin, run_sizeOf_one w' h1, part, run_isAgg_one w' h1, hco]⟩
/-- a variable of the package's -/
theorem y_glob {l : List D} {k gl : Nat} (hE : Fine E) (hm : (gl, l) ∈ laidG) (hT : aggK (ti t) = some k) (hl : l.length = k) : Y E ⟨d, .load t (.global gl), T, p, af, g⟩ sl ob (.d (.agg l)) := fun a w Pr β κ h => by
  have henv := (env_now hE h gl l hm).1
  have hu : ∀ j, ∃ u, ∀ z, l[j]? = some z → w.cell? ⟨gl, j, none⟩ = some u ∧ Pr gl j ∧ RepD w Pr u z := by
    intro j
    cases hz : l[j]? with
    | none => exact ⟨undef, fun z h => by cases h⟩
    | some z =>
      obtain ⟨u, hu⟩ := henv j z hz
      exact ⟨u, fun z' h => by cases h; exact hu⟩
  let cs : List Value := (List.range k).map fun j => Classical.choose (hu j)
  have hcs : cs.length = k := by simp [cs]
  have hget2 : ∀ (j : Nat) (v : Value), cs[j]? = some v → j < k ∧ v = Classical.choose (hu j) := by
    intro j v hj
    have hjl : j < k := by have := (List.getElem?_eq_some_iff.1 hj).1; omega
    simp [cs, hjl] at hj
    exact ⟨hjl, hj.symm⟩
  refine ⟨.agg cs.toArray, .d _ _ (.agg cs l (by omega) fun j v z h1 h2 => ?_), fun w' hkept => ?_⟩
  · obtain ⟨_, rfl⟩ := hget2 j v h1
    exact (Classical.choose_spec (hu j) z h2).2.2
  · have := run_load_agg (t := t) w' (b := gl) (o := 0) hT hcs (fun j v hj => by
      obtain ⟨hjl, rfl⟩ := hget2 j v hj
      have hz : l[j]? = some (l[j]'(by omega)) := List.getElem?_eq_getElem (by omega)
      obtain ⟨h1, h2, _⟩ := Classical.choose_spec (hu j) _ hz
      rw [Nat.zero_add]
      exact (hkept.stays _ _ h2).trans h1)
    simp [execOp, Act.eval, this]
end
end Go.Proofs.Ytabaflklognhaaa
