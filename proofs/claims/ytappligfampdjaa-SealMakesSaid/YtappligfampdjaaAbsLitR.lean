/-
  Slice literals that are appended to; slices and maps against nil; over abstract states. Conditions: none.
-/
import Derived.Test.YtappligfampdjaaAbsMap
import Derived.Lib.SliceRun
import Derived.Laws.Cover3
namespace Go.Proofs.Ytappligfampdjaa
open Go.RowKit Go.ChangeMaps

theorem dfill_len {place : Nat → Option (Nat × Nat)} : ∀ {dp : List (Nat × D)} {ds r : List D}, dfill place ds dp = some r → r.length = ds.length
  | [], ds, r, h => by simp only [dfill, Option.some.injEq] at h; rw [h]
  | (i, z) :: dp, ds, r, h => by
    simp only [dfill] at h
    split at h
    · cases h
    · split at h
      · rename_i hc
        rw [dfill_len h]
        simp [putD]
        omega
      · cases h
section
variable {E : Entry} {sl : Slots} {ob : Objs} {a : Act} {w : World} {Pr : Prot} {β : Nat → Value} {κ : Nat → Nat}
variable {d : Nat} {t T ty : TypeId} {p : String} {af : Array Edge} {g : Option (Nat × Bool)} {x y c : Operand}
set_option maxRecDepth 20000 in
theorem litR_now (h : Good E sl ob a w Pr β κ) {parts : List (Nat × Operand)} {dp : List (Nat × D)} {l : List D} {l2 : List (List D)} {e es eb n : Nat} {ez : Value} (hT : ti t = .sl e es eb ez) (hp : PartsD sl ob parts dp) (hl : dfill (fun i => some (i * es, es)) (zerosD es n ez) dp = some l) (hc2 : chunk es n l = l2) (hn : n * es ≤ 1000) (hn2 : n ≤ 1000) (hd : d < E.n) (hno : noneOf d sl ob = true) :
    ∃ v w' Pr', (execOp a.eval ⟨some d, .buildSlice t n parts.toArray, T, p, af, g⟩).run Try.prog w = .ok (.value v) w' ∧ Below w.heap.size w w' ∧ (∀ b o, Pr b o → Pr' b o) ∧
      Good E ((d, .row d 0) :: sl) ((d, .row e es 0 l2) :: ob) (a.put (some d) v) w' Pr' (updV β d v) (updN κ d 0) := by
  subst hc2
  obtain ⟨cs, hc, hr⟩ := run_lit h hT hp hl hn
  have hrun : (execOp a.eval ⟨some d, .buildSlice t n parts.toArray, T, p, af, g⟩).run Try.prog w = .ok (.value (.slice (some ⟨w.heap.size, 0, none⟩) n n)) (w.alloc (.cells cs.toArray e)) := by
    simp only [execOp, parts_map, Sem.run_bind, hr]
    rfl
  have hx : Below w.heap.size w (w.alloc (.cells cs.toArray e)) := (Below.refl _ _).alloc (Nat.le_refl _) _
  have hlen : l.length = n * es := by rw [dfill_len hl]; simp [zerosD]
  have hcl : (chunk es n l).length = n := chunk_len es n l
  refine ⟨_, _, fun b o => Pr b o ∨ (b = w.heap.size ∧ o < n * es), hrun, hx, fun _ _ h => .inl h, h.newobjG (v := .slice (some ⟨w.heap.size, 0, none⟩) n n) hd hno hx (fun _ _ h => .inl h) (fun b o ho => ho.imp id fun h1 => by simp [h1.1]) (fun g hg => by simp [blk] at hg; omega) (fun β' κ' e1 e2 e3 e4 => ?_) (fun β' κ' e1 e2 _ _ => .row d 0 _ ⟨_, _, _, rfl⟩ (Nat.zero_le _) (fun _ => e1.symm))⟩
  refine ⟨e2, cs, ?_, chunk_all es n l hlen, fun q j x z h3 h4 => ?_, fun b hb o => ?_⟩
  · rw [e1, hcl]
    refine ⟨by rw [hc.1, hlen], .inr ⟨w.heap.size, n, cs.toArray, rfl, Nat.zero_le _, heap_alloc_new w _, Nat.le_refl _, by unfold maxLen; omega, by simp; rw [hc.1, hlen], ?_⟩⟩
    show cs.take (n * es) = cs
    exact List.take_of_length_le (by rw [hc.1, hlen]; exact Nat.le_refl _)
  · obtain ⟨hi, hj, hz⟩ := chunk_get es n l q j x z h3 h4
    have hlt : q * es + j < cs.length := by rw [hc.1]; exact (List.getElem?_eq_some_iff.1 hz).1
    exact ⟨cs[q * es + j], List.getElem?_eq_getElem hlt, (hc.2 (q * es + j) _ z (List.getElem?_eq_getElem hlt) hz).keep (stays_below h hx) (fun _ _ h => .inl h)⟩
  · rw [e1] at hb
    simp only [Value.ownBlock, Option.some.injEq] at hb
    subst hb
    rw [hcl]
    refine ⟨fun ho => ho.elim (fun h1 => ?_) (·.2), fun ho => .inr ⟨rfl, ho⟩⟩
    have := h.prl _ _ h1
    omega
set_option maxRecDepth 20000 in
/-- A slice literal that is appended to. -/
theorem st_litR {parts : List (Nat × Operand)} {dp : List (Nat × D)} {l : List D} {l2 : List (List D)} {e es eb n : Nat} {ez : Value} (hT : ti t = .sl e es eb ez) (hp : PartsD sl ob parts dp) (hl : dfill (fun i => some (i * es, es)) (zerosD es n ez) dp = some l) (hc2 : chunk es n l = l2) (hn : n * es ≤ 1000) (hn2 : n ≤ 1000) (hd : d < E.n) (hno : noneOf d sl ob = true) :
    Step E ⟨some d, .buildSlice t n parts.toArray, T, p, af, g⟩ sl ob ((d, .row d 0) :: sl) ((d, .row e es 0 l2) :: ob) := by
  rintro a w ⟨Pr, β, κ, h⟩ K Q hK
  obtain ⟨v, w', Pr', hrun, _, _, hG⟩ := litR_now (d := d) (T := T) (p := p) (af := af) (g := g) h hT hp hl hc2 hn hn2 hd hno
  unfold Oper.wp
  rw [hrun, Oper.upon_value]
  exact hK _ _ ⟨_, _, _, hG⟩
/-- []T{}, to be appended to -/
theorem st_litR0 {e es eb : Nat} {ez : Value} (hT : ti t = .sl e es eb ez) (hd : d < E.n) (hno : noneOf d sl ob = true) :
    Step E ⟨some d, .buildSlice t 0 #[], T, p, af, g⟩ sl ob ((d, .row d 0) :: sl) ((d, .row e es 0 []) :: ob) :=
  st_litR (parts := []) (dp := []) (l := []) (n := 0) hT .nil (by simp [dfill, zerosD]) rfl (by simp) (by simp) hd hno
/-- []T{x}, to be appended to -/
theorem st_litR1 {x : Operand} {z : D} {c : List D} {e es eb : Nat} {ez : Value} (hT : ti t = .sl e es eb ez) (hx : ToD ob (ev sl x) z) (hc : cellsD z = c) (hl : c.length = es) (hes : es ≤ 1000) (hd : d < E.n) (hno : noneOf d sl ob = true) :
    Step E ⟨some d, .buildSlice t 1 #[(0, x)], T, p, af, g⟩ sl ob ((d, .row d 0) :: sl) ((d, .row e es 0 [c]) :: ob) := by
  subst hc
  have h0 : (zerosD es 1 ez).length = es := by simp [zerosD]
  have hp : PartsD sl ob [(0, x)] [(0, z)] := .cons hx .nil
  refine st_litR (l := cellsD z) hT hp ?_ (by simp [chunk, hl, List.take_of_length_le]) (by omega) (by omega) hd hno
  have h2 : putD (zerosD es 1 ez) 0 (cellsD z) = cellsD z := by
    simp only [putD, List.take_zero, List.nil_append, Nat.zero_add]
    rw [List.drop_of_length_le (by omega), List.append_nil]
  simp only [dfill, Nat.zero_mul, h2]
  rw [if_pos ⟨hl, by omega⟩]
/-- A slice against nil: one without elements may be either. -/
theorem al_slnil {s : Nat} {l : List (List D)} {se : TypeId} {ops : Array Oper} {rest : List Oper} {Q : Exit → Act → World → Prop} (hx : ToD ob (ev sl x) (.list s l)) (ht : Try.prog.underlying t = some (.slice se)) (hd : d < E.n)
    (hK : ∀ b : Bool, (b = true → l = []) → AL E ops rest Q ((d, .d (.val (.bool b))) :: sl) ob) : AL E ops (⟨some d, .binOp .eql t x (.const (.slice none 0 0)) ty, T, p, af, none⟩ :: rest) Q sl ob := by
  refine ⟨fun a w hi => ?_⟩
  obtain ⟨Pr, β, κ, h⟩ := hi
  have hrep := toD_rep h hx _ (good_ev h x)
  obtain ⟨A, n, c, hv⟩ : ∃ A n c, a.eval x = .slice A n c := by
    obtain ⟨A, c, hv, _⟩ := list_form hrep
    exact ⟨_, _, _, hv⟩
  rw [hv] at hrep
  have hc : a.eval (.const (.slice none 0 0)) = Value.slice none 0 0 := rfl
  have hrun : (execOp a.eval ⟨some d, .binOp .eql t x (.const (.slice none 0 0)) ty, T, p, af, none⟩).run Try.prog w = .ok (.value (.bool A.isNone)) w := by
    simp [execOp, hv, hc, eqGuard_at_slice, Lib.run_eql_slice_nil w t se A n c 0 0 ht]
  refine wpList_plain rfl fun K hKK => ?_
  unfold Oper.wp
  rw [hrun, Oper.upon_value]
  refine hKK _ _ ((hK A.isNone fun hb => ?_).run _ _ ⟨Pr, β, κ, h.put hd (.d _ _ (.val _))⟩)
  cases hrep with
  | nil => rfl
  | list => cases hb
theorem y_mapnil {dd : Option Nat} {i : Nat} {kt et : TypeId} (hx : ev sl x = .mp i) (ht : Try.prog.underlying t = some (.map kt et)) : Y E ⟨dd, .binOp .eql t x (.const (.map none)) ty, T, p, af, g⟩ sl ob (.d (.val (.bool false))) := fun a w Pr β κ h => by
  have hv := good_ev h x
  rw [hx] at hv
  generalize hav : a.eval x = v at hv
  cases hv with
  | mp _ b hb =>
    have hc : a.eval (.const (.map none)) = Value.map none := rfl
    exact ⟨_, .d _ _ (.val _), fun w' _ => by
      have := run_equalIn_map_nil (P := Try.prog) (w := w') 9999 t kt et (some b) ht
      simp [execOp, hav, hc, eqGuard_at_map, binOp, Op.equal, Op.maxDepth, this]⟩
/-- the parts of a struct literal, of one cell each -/
inductive PartsS (sl : Slots) (fs : List (Nat × Nat × Nat)) : List (Nat × Operand) → List (Nat × V) → Prop where
  | nil : PartsS sl fs [] []
  | cons {i off ft : Nat} {x : Operand} {xs : List (Nat × Operand)} {v : V} {vs : List (Nat × V)} (hf : fs[i]? = some (off, 1, ft)) (h : Cf (ev sl x) v) (h1 : v.one = true) (hr : PartsS sl fs xs vs) : PartsS sl fs ((i, x) :: xs) ((off, v) :: vs)
def sfill (l : List V) : List (Nat × V) → List V
  | [] => l
  | (o, v) :: r => sfill (l.set o v) r
theorem sfill_rep (h : Good E sl ob a w Pr β κ) {fs : List (Nat × Nat × Nat)} : ∀ {parts : List (Nat × Operand)} {ps : List (Nat × V)}, PartsS sl fs parts ps → ∀ {cs : Array Value} {l : List V}, cs.toList.length = l.length → (∀ (j : Nat) (u : Value) (z : V), cs.toList[j]? = some u → l[j]? = some z → RepV w Pr β κ u z) →
    (∀ q ∈ ps, q.1 < l.length) →
    ∃ cs', Instr.fill (fun i => (fs[i]?).map fun q => (q.1, q.2.1)) cs (parts.map fun q => (q.1, a.eval q.2)) = some cs' ∧ cs'.toList.length = (sfill l ps).length ∧ ∀ (j : Nat) (u : Value) (z : V), cs'.toList[j]? = some u → (sfill l ps)[j]? = some z → RepV w Pr β κ u z := by
  intro parts ps hp
  induction hp with
  | nil => intro cs l hl hr _; exact ⟨cs, rfl, hl, hr⟩
  | @cons i off ft x xs v vs hf hc h1 _ ih =>
    intro cs l hl hr hb
    have hv : RepV w Pr β κ (a.eval x) v := hc.eq ▸ good_ev h x
    have hcell := one_cells (one_cell hv h1)
    have hoff : off < l.length := hb (off, v) (by simp)
    obtain ⟨cs', k1, k2, k3⟩ := ih (cs := cs.setIfInBounds off (a.eval x)) (l := l.set off v) (by simpa using hl) (fun j u z h3 h4 => by
      rw [Array.toList_setIfInBounds] at h3
      by_cases hj : off = j
      · subst hj
        rw [List.getElem?_set_self (by omega)] at h3
        rw [List.getElem?_set_self hoff] at h4
        cases h3
        cases h4
        exact hv
      · rw [List.getElem?_set_ne hj] at h3 h4
        exact hr j u z h3 h4) (fun q hq => by simpa using hb q (by simp [hq]))
    refine ⟨cs', ?_, k2, k3⟩
    simp only [List.map_cons, Instr.fill, hf, Option.map_some, hcell]
    rw [if_neg (by simp at hl ⊢; omega)]
    exact k1
set_option maxRecDepth 20000 in
/-- A struct literal that has objects in it. -/
theorem y_buildS {dd : Option Nat} {z : List Value} {fs : List (Nat × Nat × Nat)} {parts : List (Nat × Operand)} {ps : List (Nat × V)} {l : List V} (hT : ti t = .st z fs) (hp : PartsS sl fs parts ps) (hb : (ps.all fun q => Nat.blt q.1 z.length) = true) (hl : sfill (z.map fun v => .d (.val v)) ps = l) :
    Y E ⟨dd, .build t parts.toArray, T, p, af, g⟩ sl ob (.agg l) := fun a w Pr β κ h => by
  subst hl
  obtain ⟨i, F, h1, h2, h3, h4, h5⟩ := ti_st hT
  obtain ⟨cs, hf, k1, k2⟩ := sfill_rep h hp (cs := z.toArray) (l := z.map fun v => .d (.val v)) (by simp) (fun j u y h6 h7 => by
    simp only [List.getElem?_map, Option.map_eq_some_iff] at h7
    obtain ⟨y', h8, rfl⟩ := h7
    have : u = y' := by simpa [h8] using h6.symm
    subst this
    exact .d _ _ (.val _)) (fun q hq => by have := List.all_eq_true.1 hb q hq; simpa [Nat.blt_eq] using this)
  refine ⟨.agg cs, ?_, fun w' _ => ?_⟩
  · have := RepV.agg (w := w) (Pr := Pr) (β := β) (κ := κ) cs.toList _ k1 k2
    simpa using this
  · have hpl : F.toList.mapM (fun f => (Try.prog.info? f.type).map fun i => (f.offset, i.size)) = some (fs.map fun q => (q.1, q.2.1)) := by
      have key : ∀ (F : List Field) (fs : List (Nat × Nat × Nat)), F.mapM (fun f => (Try.prog.info? f.type).map fun j => (f.offset, j.size, f.type)) = some fs → F.mapM (fun f => (Try.prog.info? f.type).map fun i => (f.offset, i.size)) = some (fs.map fun q => (q.1, q.2.1)) := by
        intro F
        induction F with
        | nil => intro fs h; simp at h; subst h; rfl
        | cons f F ih =>
          intro fs h
          rw [List.mapM_cons] at h ⊢
          cases hx : Try.prog.info? f.type with
          | none => rw [hx] at h; simp at h
          | some j =>
            rw [hx] at h
            cases hy : F.mapM (fun f => (Try.prog.info? f.type).map fun j => (f.offset, j.size, f.type)) with
            | none => rw [hy] at h; simp at h
            | some r =>
              rw [hy] at h
              simp at h
              subst h
              rw [ih r hy]
              simp
      exact key _ _ h5
    have hb : Try.prog.built t (parts.map fun q => (q.1, a.eval q.2)) = some cs := by
      simp only [Program.built, h1, h2, h4, hpl, Value.cells]
      rw [← hf]
      congr 1
      funext i
      simp
    have hr := run_build (P := Try.prog) w' t (parts.map fun q => (q.1, a.eval q.2)).toArray cs (by simpa using hb)
    have e : (parts.toArray.map fun x => (x.1, a.eval x.2)) = (parts.map fun q => (q.1, a.eval q.2)).toArray := by simp
    simp only [execOp, e, Sem.run_bind, hr]
    rfl
theorem aq_adoptb {x : Exit} {Q : Exit → Act → World → Prop} (i j r e s : Nat) {T : TypeId} {l l' : List V} (hf : find ob i = some (.box T l)) (hx : l[j]? = some (.d (.val (.slice none 0 0)))) (hno : noneOf r sl ob = true) (hr : r < E.n) (hir : Nat.beq i r = false) (hl : l.set j (.row r 0) = l')
    (h : AQ E x Q sl ((i, .box T l') :: (r, .row e s 0 []) :: ob)) : AQ E x Q sl ob := by
  subst hl
  refine ⟨fun a w hi => ?_⟩
  obtain ⟨Pr, β, κ, hg⟩ := hi
  exact h.run a w (hg.adoptb hf hx hno hr (fun e => by rw [e, Nat.beq_refl] at hir; cases hir))
end
section
variable {E : Entry} {sl sl0 : Slots} {ob ob0 : Objs} {ops : List Oper} {pl : List (Nat × Bool × Oper)} {Q : Exit → Act → World → Prop} {tail : (World → Prop) → Act → World → Prop} {g : Option (Nat × Bool)} {p : String} {af : Array Edge} {T ty t : TypeId} {d i : Nat}
set_option maxRecDepth 20000 in
theorem am_litR {parts : List (Nat × Operand)} {dp : List (Nat × D)} {l : List D} {l2 : List (List D)} {e es eb n : Nat} {ez : Value} (hw : Want ops sl true g) (hT : ti t = .sl e es eb ez) (hp : PartsD sl ob parts dp) (hl : dfill (fun i => some (i * es, es)) (zerosD es n ez) dp = some l) (hc2 : chunk es n l = l2) (hn : n * es ≤ 1000) (hn2 : n ≤ 1000) (hd : d < E.n) (hno : noneOf d sl ob = true) (hno0 : noneOf d sl0 ob0 = true) (hk0 : find ob0 d = none)
    (hK : AM E ops tail Q pl ((d, .und) :: sl0) ob0 ((d, .row d 0) :: sl) ((d, .row e es 0 l2) :: ob)) : AM E ops tail Q ((i, false, ⟨some d, .buildSlice t n parts.toArray, ty, p, af, g⟩) :: pl) sl0 ob0 sl ob := by
  refine ⟨fun a w0 w Pr Pr1 β β1 κ κ1 h0 h1 hn0 => ?_⟩
  refine mix_move (hw.is h1) (fun K hKK => ?_)
  obtain ⟨v, w', Pr', hrun, hx, hpp, hG⟩ := litR_now (d := d) (T := ty) (p := p) (af := af) (g := g) h1 hT hp hl hc2 hn hn2 hd hno
  unfold Oper.wp
  rw [hrun, Oper.upon_value]
  have h0' := (h0.rename hd hno0 hk0 v 0).put hd (v := v) (.und _)
  have hn1 := hn0.grow (Pr2 := Pr') h1 hx hpp
  have hne : ∀ i o, find ob0 i = some o → i ≠ d := fun i o hi e => by rw [e, hk0] at hi; cases hi
  have hn2 : Now ob0 ((d, .row e es 0 l2) :: ob) w0 w' Pr Pr' (updV β d v) (updV β1 d v) (updN κ d 0) (updN κ1 d 0) := by
    refine ⟨by rw [kept_upd hk0]; exact hn1.kept, hn1.pr, fun j => ?_, fun j o hj => ?_⟩
    · by_cases hj : j = d
      · subst hj
        exact .inl ⟨by rw [updV_same, updV_same], by rw [updN_same, updN_same]⟩
      · rw [updV_other _ d _ j hj, updV_other _ d _ j hj, updN_other _ d _ j hj, updN_other _ d _ j hj]
        exact hn1.then_ j
    · have hjd := hne j o hj
      rw [updV_other _ d _ j hjd, updV_other _ d _ j hjd, find_ne hjd]
      exact hn1.sub j o hj
  refine hKK.out _ _ hn1.kept fun _ => ?_
  have := hK.run _ w0 _ Pr Pr' _ _ _ _ h0' hG hn2
  rw [kept_upd hk0] at this
  exact this
end
end Go.Proofs.Ytappligfampdjaa
