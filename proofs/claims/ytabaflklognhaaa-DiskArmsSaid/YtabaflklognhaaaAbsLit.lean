/-
  Literals over abstract states: structs, and slices of them. Conditions: none.
-/
import Derived.Test.YtabaflklognhaaaAbsStore
import Derived.Test.YtabaflklognhaaaGrow
namespace Go.Proofs.Ytabaflklognhaaa
open Go.RowKit

def cellsD : D → List D
  | .agg l => l
  | .val v => v.cells.toList.map D.val
  | d => [d]
def putD (l : List D) (o : Nat) (n : List D) : List D := l.take o ++ n ++ l.drop (o + n.length)
def dfill (place : Nat → Option (Nat × Nat)) (ds : List D) : List (Nat × D) → Option (List D)
  | [] => some ds
  | (i, d) :: rest => match place i with
    | none => none
    | some (off, size) => if (cellsD d).length = size ∧ off + size ≤ ds.length then dfill place (putD ds off (cellsD d)) rest else none
/-- cells one by one -/
def RelC (w : World) (Pr : Prot) (cs : List Value) (ds : List D) : Prop := cs.length = ds.length ∧ ∀ (i : Nat) (v : Value) (d : D), cs[i]? = some v → ds[i]? = some d → RepD w Pr v d
section
variable {w : World} {Pr : Prot}
theorem relC_cells {v : Value} {d : D} (h : RepD w Pr v d) : RelC w Pr v.cells.toList (cellsD d) := by
  cases h with
  | val v =>
    refine ⟨by simp [cellsD], fun i u d h1 h2 => ?_⟩
    simp only [cellsD, List.getElem?_map, h1, Option.map_some, Option.some.injEq] at h2
    subst h2
    exact .val _
  | nil A c s hm =>
    refine ⟨rfl, fun i u d h1 h2 => ?_⟩
    cases i with
    | zero => simp [Value.cells, cellsD] at h1 h2; subst h1 h2; exact .nil A c s hm
    | succ i => simp [cellsD] at h2
  | list b o n c s l u hn hs hc hm hr hd =>
    refine ⟨rfl, fun i v d h1 h2 => ?_⟩
    cases i with
    | zero => simp [Value.cells, cellsD] at h1 h2; subst h1 h2; exact .list b o n c s l u hn hs hc hm hr hd
    | succ i => simp [cellsD] at h2
  | agg cs l hl hd => exact ⟨by simpa [Value.cells, cellsD] using hl, fun i v d h1 h2 => hd i v d (by simpa [Value.cells] using h1) (by simpa [cellsD] using h2)⟩
  | tup cs l hl hd =>
    refine ⟨rfl, fun i v d h1 h2 => ?_⟩
    cases i with
    | zero => simp [Value.cells, cellsD] at h1 h2; subst h1 h2; exact .tup cs l hl hd
    | succ i => simp [cellsD] at h2
  | err t u =>
    refine ⟨rfl, fun i v d h1 h2 => ?_⟩
    cases i with
    | zero => simp [Value.cells, cellsD] at h1 h2; subst h1 h2; exact .err t u
    | succ i => simp [cellsD] at h2
theorem fold_put (new : List Value) : ∀ (k : Nat) (cells : Array Value) (off : Nat), off + k + new.length ≤ cells.size →
    ((new.zipIdx k).foldl (fun cs (c, j) => cs.setIfInBounds (off + j) c) cells).toList = cells.toList.take (off + k) ++ new ++ cells.toList.drop (off + k + new.length) := by
  induction new with
  | nil => intro k cells off h; simp
  | cons v new ih =>
    intro k cells off h
    simp only [List.length_cons] at h
    simp only [List.zipIdx_cons, List.foldl_cons]
    rw [ih (k + 1) _ off (by simp; omega)]
    have hlt : off + k < cells.toList.length := by simp; omega
    simp only [Array.toList_setIfInBounds]
    rw [List.take_set, List.drop_set]
    rw [if_pos (by omega)]
    have e1 : off + (k + 1) = (off + k) + 1 := by omega
    rw [e1, List.take_succ_eq_append_getElem hlt]
    rw [List.set_append_right _ _ (by simp; omega)]
    simp only [List.length_take, List.length_cons]
    rw [show min (off + k) cells.toList.length = off + k by omega, Nat.sub_self]
    simp only [List.set_cons_zero, List.append_assoc, List.singleton_append]
    congr 3
    rw [show off + k + 1 + new.length = off + k + (new.length + 1) by omega]
theorem relC_put {cs vs : List Value} {ds ns : List D} {off : Nat} (h : RelC w Pr cs ds) (hn : RelC w Pr vs ns) (hl : off + ns.length ≤ ds.length) : RelC w Pr (cs.take off ++ vs ++ cs.drop (off + vs.length)) (putD ds off ns) := by
  obtain ⟨h1, h2⟩ := h
  obtain ⟨n1, n2⟩ := hn
  refine ⟨by simp [putD]; omega, fun j u z h3 h4 => ?_⟩
  simp only [putD] at h4
  rw [List.append_assoc] at h3 h4
  by_cases hj1 : j < off
  · rw [List.getElem?_append_left (by simp; omega), List.getElem?_take, if_pos hj1] at h3 h4
    exact h2 j u z h3 h4
  · rw [List.getElem?_append_right (by simp; omega)] at h3 h4
    have e1 : (cs.take off).length = off := by simp; omega
    have e2 : (ds.take off).length = off := by simp; omega
    rw [e1] at h3
    rw [e2] at h4
    by_cases hj2 : j - off < ns.length
    · rw [List.getElem?_append_left (by omega)] at h3 h4
      exact n2 _ u z h3 h4
    · rw [List.getElem?_append_right (by omega), List.getElem?_drop] at h3 h4
      rw [n1] at h3
      exact h2 _ u z h3 h4
/-- parts one by one -/
def RelP (w : World) (Pr : Prot) (vs : List (Nat × Value)) (ds : List (Nat × D)) : Prop := vs.length = ds.length ∧ ∀ (i : Nat) (v : Nat × Value) (d : Nat × D), vs[i]? = some v → ds[i]? = some d → v.1 = d.1 ∧ RepD w Pr v.2 d.2
theorem dfill_rep {place : Nat → Option (Nat × Nat)} : ∀ {dp : List (Nat × D)} {vp : List (Nat × Value)} {cs : Array Value} {ds ds' : List D}, RelC w Pr cs.toList ds → RelP w Pr vp dp → dfill place ds dp = some ds' →
    ∃ cs', Instr.fill place cs vp = some cs' ∧ RelC w Pr cs'.toList ds' := by
  intro dp
  induction dp with
  | nil =>
    intro vp cs ds ds' h hp hf
    have : vp = [] := List.eq_nil_of_length_eq_zero (by simpa using hp.1)
    subst this
    simp only [dfill, Option.some.injEq] at hf
    subst hf
    exact ⟨cs, rfl, h⟩
  | cons x dp ih =>
    obtain ⟨i, d⟩ := x
    intro vp cs ds ds' h hp hf
    cases vp with
    | nil => simp [RelP] at hp
    | cons y vp =>
      obtain ⟨i', v⟩ := y
      obtain ⟨e1, e2⟩ := hp.2 0 _ _ rfl rfl
      simp only at e1 e2
      subst e1
      have hp' : RelP w Pr vp dp := ⟨by simpa using hp.1, fun k a b ha hb => hp.2 (k + 1) a b (by simpa using ha) (by simpa using hb)⟩
      simp only [dfill] at hf
      cases hpl : place i' with
      | none => rw [hpl] at hf; cases hf
      | some q =>
        obtain ⟨off, size⟩ := q
        rw [hpl] at hf
        simp only at hf
        split at hf
        · rename_i hc
          have hcell := relC_cells e2
          have hvs : v.cells.size = size := by have := hcell.1; simp at this; omega
          have hcs : cs.size = ds.length := by simpa using h.1
          have h2 : RelC w Pr ((v.cells.zipIdx.foldl (fun cs (c, j) => cs.setIfInBounds (off + j) c) cs).toList) (putD ds off (cellsD d)) := by
            have e3 := fold_put v.cells.toList 0 cs off (by simp; omega)
            have e4 : v.cells.zipIdx.foldl (fun cs (c, j) => cs.setIfInBounds (off + j) c) cs = (v.cells.toList.zipIdx 0).foldl (fun cs (c, j) => cs.setIfInBounds (off + j) c) cs := by
              rw [← Array.foldl_toList]
              simp
            rw [e4, e3]
            simp only [Nat.add_zero]
            exact relC_put h hcell (by omega)
          obtain ⟨cs', h3, h4⟩ := ih h2 hp' hf
          refine ⟨cs', ?_, h4⟩
          simp only [Instr.fill, hpl]
          rw [if_neg (by simp; omega)]
          exact h3
        · cases hf
end
section
variable {E : Entry} {sl : Slots} {ob : Objs} {a : Act} {w : World} {Pr : Prot} {β : Nat → Value} {κ : Nat → Nat}
/-- What a literal's parts show. -/
inductive PartsD (sl : Slots) (ob : Objs) : List (Nat × Operand) → List (Nat × D) → Prop where
  | nil : PartsD sl ob [] []
  | cons {i : Nat} {x : Operand} {xs : List (Nat × Operand)} {d : D} {ds : List (Nat × D)} (h : ToD ob (ev sl x) d) (hr : PartsD sl ob xs ds) : PartsD sl ob ((i, x) :: xs) ((i, d) :: ds)
theorem PartsD.rep (h : Good E sl ob a w Pr β κ) {xs : List (Nat × Operand)} {ds : List (Nat × D)} (hd : PartsD sl ob xs ds) : RelP w Pr (xs.map fun q => (q.1, a.eval q.2)) ds := by
  induction hd with
  | nil => exact ⟨rfl, fun i v d h => by simp at h⟩
  | @cons i x xs d ds hx hr ih =>
    refine ⟨by simpa using ih.1, fun k v q h1 h2 => ?_⟩
    cases k with
    | zero =>
      simp at h1 h2
      subst h1 h2
      exact ⟨rfl, toD_rep h hx _ (good_ev h x)⟩
    | succ k => exact ih.2 k v q (by simpa using h1) (by simpa using h2)
theorem relC_val (cs : List Value) : RelC w Pr cs (cs.map D.val) := ⟨by simp, fun i v d h1 h2 => by
  simp only [List.getElem?_map, h1, Option.map_some, Option.some.injEq] at h2
  subst h2
  exact .val _⟩
variable {d : Nat} {t T ty : TypeId} {p : String} {af : Array Edge} {g : Option (Nat × Bool)} {x y c : Operand}
set_option maxRecDepth 20000 in
/-- A struct literal. -/
theorem y_build {d : Option Nat} {z : List Value} {fs : List (Nat × Nat × Nat)} {parts : List (Nat × Operand)} {dp : List (Nat × D)} {l : List D} (hT : ti t = .st z fs) (hp : PartsD sl ob parts dp) (hl : dfill (fun i => (fs[i]?).map fun q => (q.1, q.2.1)) (z.map D.val) dp = some l) :
    Y E ⟨d, .build t parts.toArray, T, p, af, g⟩ sl ob (.d (.agg l)) := fun a w Pr β κ h => by
  obtain ⟨i, F, h1, h2, h3, h4, h5⟩ := ti_st hT
  obtain ⟨cs, hf, hc⟩ := dfill_rep (cs := z.toArray) (relC_val z) (hp.rep h) hl
  refine ⟨.agg cs, .d _ _ ?_, fun w' _ => ?_⟩
  · have := RepD.agg cs.toList l hc.1 hc.2
    simpa using this
  · have hpl : F.toList.mapM (fun f => (Try.prog.info? f.type).map fun i => (f.offset, i.size)) = some (fs.map fun q => (q.1, q.2.1)) := by
      have key : ∀ (F : List Field) (fs : List (Nat × Nat × Nat)), F.mapM (fun f => (Try.prog.info? f.type).map fun j => (f.offset, j.size, f.type)) = some fs → F.mapM (fun f => (Try.prog.info? f.type).map fun i => (f.offset, i.size)) = some (fs.map fun q => (q.1, q.2.1)) := by
        intro F
        induction F with
        | nil => intro fs h; simp at h; subst h; rfl
        | cons f F ih =>
          intro fs h
          rw [List.mapM_cons] at h ⊢
          cases hx : Try.prog.info? f.type with
          | none => rw [hx] at h; simp at h
          | some j =>
            rw [hx] at h
            cases hy : F.mapM (fun f => (Try.prog.info? f.type).map fun j => (f.offset, j.size, f.type)) with
            | none => rw [hy] at h; simp at h
            | some r =>
              rw [hy] at h
              simp at h
              subst h
              rw [ih r hy]
              simp
      exact key _ _ h5
    have hb : Try.prog.built t (parts.map fun q => (q.1, a.eval q.2)) = some cs := by
      simp only [Program.built, h1, h2, h4, hpl, Value.cells]
      rw [← hf]
      congr 1
      funext i
      simp
    have hr := run_build (P := Try.prog) w' t (parts.map fun q => (q.1, a.eval q.2)).toArray cs (by simpa using hb)
    have e : (parts.toArray.map fun x => (x.1, a.eval x.2)) = (parts.map fun q => (q.1, a.eval q.2)).toArray := by simp
    simp only [execOp, e, Sem.run_bind, hr]
    rfl
def chunk (s : Nat) : Nat → List D → List (List D)
  | 0, _ => []
  | n + 1, l => l.take s :: chunk s n (l.drop s)
theorem chunk_len (s : Nat) : ∀ (n : Nat) (l : List D), (chunk s n l).length = n := by
  intro n
  induction n with
  | zero => intro l; rfl
  | succ n ih => intro l; simp [chunk, ih]
theorem chunk_get (s : Nat) : ∀ (n : Nat) (l : List D) (i j : Nat) (e : List D) (d : D), (chunk s n l)[i]? = some e → e[j]? = some d → i < n ∧ j < s ∧ l[i * s + j]? = some d := by
  intro n
  induction n with
  | zero => intro l i j e d h; simp [chunk] at h
  | succ n ih =>
    intro l i j e d h1 h2
    cases i with
    | zero =>
      simp [chunk] at h1
      subst h1
      rw [List.getElem?_take] at h2
      split at h2
      · exact ⟨by omega, by assumption, by simpa using h2⟩
      · cases h2
    | succ i =>
      obtain ⟨h3, h4, h5⟩ := ih (l.drop s) i j e d (by simpa [chunk] using h1) h2
      rw [List.getElem?_drop] at h5
      refine ⟨by omega, h4, ?_⟩
      rw [show (i + 1) * s + j = s + (i * s + j) by rw [Nat.succ_mul]; omega]
      exact h5
theorem chunk_all (s : Nat) : ∀ (n : Nat) (l : List D), l.length = n * s → ∀ e ∈ chunk s n l, e.length = s := by
  intro n
  induction n with
  | zero => intro l _ e h; simp [chunk] at h
  | succ n ih =>
    intro l hl e h
    rw [Nat.succ_mul] at hl
    simp only [chunk, List.mem_cons] at h
    rcases h with rfl | h
    · simp; omega
    · exact ih (l.drop s) (by simp; omega) e h
def zerosD (es n : Nat) (ez : Value) : List D := (List.range (n * es)).map fun k => .val (ez.cells.toList.getD (k % es) undef)
set_option maxRecDepth 20000 in
theorem run_lit {parts : List (Nat × Operand)} {dp : List (Nat × D)} {l : List D} {e es eb n : Nat} {ez : Value} (h : Good E sl ob a w Pr β κ) (hT : ti t = .sl e es eb ez) (hp : PartsD sl ob parts dp) (hl : dfill (fun i => some (i * es, es)) (zerosD es n ez) dp = some l) (hn : n * es ≤ 1000) :
    ∃ cs : List Value, RelC w Pr cs l ∧ (Instr.buildSlice t n (parts.map fun q => (q.1, a.eval q.2)).toArray).run Try.prog w = .ok (.slice (some ⟨w.heap.size, 0, none⟩) n n) (w.alloc (.cells cs.toArray e)) := by
  obtain ⟨_, j, _, hu, _, hj, hz, hs, _, hzs⟩ := ti_sl hT
  have h0 : RelC w Pr ((Array.range (n * es)).map (ez.cells[· % ez.cells.size]!)).toList (zerosD es n ez) := by
    have e0 : ((Array.range (n * es)).map (ez.cells[· % ez.cells.size]!)).toList = (List.range (n * es)).map fun k => ez.cells.toList.getD (k % es) undef := by
      simp only [Array.toList_map, Array.toList_range]
      apply List.map_congr_left
      intro k hk
      have hk' : k < n * es := List.mem_range.1 hk
      have hes : 0 < es := by
        rcases Nat.eq_zero_or_pos es with h | h
        · subst h; simp at hk'
        · exact h
      have hlt : k % es < ez.cells.size := by rw [hzs]; exact Nat.mod_lt _ hes
      rw [hzs]
      simp only [List.getD_eq_getElem?_getD]
      rw [List.getElem?_eq_getElem (by simpa using hlt)]
      simp [getElem!_pos ez.cells (k % es) hlt]
    rw [e0]
    have := relC_val (w := w) (Pr := Pr) ((List.range (n * es)).map fun k => ez.cells.toList.getD (k % es) undef)
    simpa [zerosD, List.map_map, Function.comp_def] using this
  obtain ⟨cs, hf, hc⟩ := dfill_rep (place := fun i => some (i * es, es)) h0 (hp.rep h) hl
  refine ⟨cs.toList, hc, ?_⟩
  by_cases hpos : n * es = 0
  · have hf0 : Instr.fill (fun i => some (i * es, es)) #[] (parts.map fun q => (q.1, a.eval q.2)) = some cs := by
      rw [hpos, show Array.range 0 = (#[] : Array Nat) from rfl] at hf
      simpa using hf
    have e1 : Array.range 0 = (#[] : Array Nat) := rfl
    simp [Instr.buildSlice, run_underlying hu, sizeOf, typeInfo, hj, hs, hpos, e1, hf0, newRow]
  · have := run_buildSlice (P := Try.prog) w t e n (parts.map fun q => (q.1, a.eval q.2)).toArray cs j ez hu hj hz (by rw [hs]; omega) (by rw [hs]; exact hpos) (by rw [hs]; simpa using hf)
    simpa using this
end
end Go.Proofs.Ytabaflklognhaaa
