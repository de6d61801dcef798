/-
  Boxes of the call's own, over abstract states. Conditions: none.
-/
import Derived.Test.YtabaflklognhaaaAbsMem
import Derived.Laws.CopyRow
namespace Go.Proofs.Ytabaflklognhaaa
open Go.RowKit

def cellsV : V → List V
  | .d (.agg l) => l.map V.d
  | .agg l => l
  | .d (.val v) => v.cells.toList.map fun u => .d (.val u)
  | v => [v]
/-- what one cell can hold -/
def V.one : V → Bool
  | .d (.val v) => v.oneCell'
  | .d (.list ..) => true
  | .d .err => true
  | .d _ => false
  | .und => false
  | .agg _ => false
  | .tup _ => false
  | _ => true
theorem one_cell {w : World} {Pr : Prot} {β : Nat → Value} {κ : Nat → Nat} {v : Value} {x : V} (h : RepV w Pr β κ v x) (h1 : x.one = true) : v.oneCell' = true := by
  cases h with
  | und v => cases h1
  | d v x h =>
    cases h with
    | val v => exact h1
    | nil A c s hm => rfl
    | list b o n c s l u hn hs hc hm hr hd => rfl
    | agg cs l hl hd => cases h1
    | tup cs l hl hd => cases h1
    | err t u => rfl
  | ep b p o l u hr => rfl
  | box i o g h => rfl
  | sl i o n c g h hc hm hz => rfl
  | mp i g h => rfl
  | row i k v hs hk h => obtain ⟨A, n, c, rfl⟩ := hs; rfl
  | agg cs l hl hd => cases h1
  | clo f cs l hl hd => rfl
  | mv f cs l hl hd => rfl
  | tup cs l hl hd => cases h1
section
variable {E : Entry} {sl : Slots} {ob : Objs} {a : Act} {w : World} {Pr : Prot} {β : Nat → Value} {κ : Nat → Nat}
theorem cells_rep {v : Value} {x : V} (h : RepV w Pr β κ v x) (hu : x ≠ .und) : v.cells.toList.length = (cellsV x).length ∧ ∀ (i : Nat) (u : Value) (y : V), v.cells.toList[i]? = some u → (cellsV x)[i]? = some y → RepV w Pr β κ u y := by
  have single : ∀ {v : Value} {x : V}, RepV w Pr β κ v x → v.cells = #[v] → v.cells.toList.length = [x].length ∧ ∀ (i : Nat) (u : Value) (y : V), v.cells.toList[i]? = some u → ([x] : List V)[i]? = some y → RepV w Pr β κ u y := by
    intro v x h hc
    rw [hc]
    refine ⟨rfl, fun i u y h1 h2 => ?_⟩
    cases i with
    | zero => simp at h1 h2; subst h1 h2; exact h
    | succ i => simp at h1
  cases h with
  | und v => exact absurd rfl hu
  | d v x h =>
    cases h with
    | val v =>
      refine ⟨by simp [cellsV], fun i u y h1 h2 => ?_⟩
      simp only [cellsV, List.getElem?_map, Option.map_eq_some_iff] at h2
      obtain ⟨u', h3, rfl⟩ := h2
      rw [h1] at h3
      cases h3
      exact .d _ _ (.val _)
    | nil A c s hm => exact single (.d _ _ (.nil A c s hm)) rfl
    | list b o n c s l u hn hs hc hm hr hd => exact single (.d _ _ (.list b o n c s l u hn hs hc hm hr hd)) rfl
    | agg cs l hl hd =>
      refine ⟨by simp [cellsV, Value.cells, hl], fun i u y h1 h2 => ?_⟩
      simp only [cellsV, List.getElem?_map, Option.map_eq_some_iff] at h2
      obtain ⟨u', h3, rfl⟩ := h2
      exact .d _ _ (hd i u u' (by simpa [Value.cells] using h1) h3)
    | tup cs l hl hd => exact single (.d _ _ (.tup cs l hl hd)) rfl
    | err t u => exact single (.d _ _ (.err t u)) rfl
  | ep b p o l u hr => exact single (.ep b p o l u hr) rfl
  | box i o g h => exact single (.box i o g h) rfl
  | sl i o n c g h hc hm hz => exact single (.sl i o n c g h hc hm hz) rfl
  | mp i g h => exact single (.mp i g h) rfl
  | row i k v hs hk h =>
    obtain ⟨A, n, c, rfl⟩ := hs
    exact single (.row i k _ ⟨A, n, c, rfl⟩ hk h) rfl
  | agg cs l hl hd =>
    refine ⟨by simp [cellsV, Value.cells, hl], fun i u y h1 h2 => hd i u y (by simpa [Value.cells] using h1) (by simpa [cellsV] using h2)⟩
  | clo f cs l hl hd => exact single (.clo f cs l hl hd) rfl
  | mv f cs l hl hd => exact single (.mv f cs l hl hd) rfl
  | tup cs l hl hd => exact single (.tup cs l hl hd) rfl

/-- where the objects of a state lie -/
theorem find_other {i j : Nat} {o : O} {x : O} (hi : j ≠ i) (h : find ((i, o) :: ob) j = some x) : find ob j = some x := by rwa [find_ne hi] at h
theorem noneOf_slot {d : Nat} (h : noneOf d sl ob = true) (i : Nat) : (look sl i).has d = false := by
  simp only [noneOf, Bool.and_eq_true] at h
  have : ∀ (l : Slots), (l.all fun p => !p.2.has d) = true → ∀ i, (look l i).has d = false := by
    intro l
    induction l with
    | nil => intro _ i; rfl
    | cons p l ih =>
      intro hl i
      simp only [List.all_cons, Bool.and_eq_true, Bool.not_eq_true'] at hl
      by_cases hi : i = p.1
      · subst hi
        rw [show (p :: l) = (p.1, p.2) :: l from rfl, look_eq]
        exact hl.1
      · rw [show (p :: l) = (p.1, p.2) :: l from rfl, look_ne hi]
        exact ih hl.2 i
  exact this sl h.1 i
theorem noneOf_obj {d : Nat} (h : noneOf d sl ob = true) {i : Nat} {o : O} (ho : find ob i = some o) : o.has d = false := by
  simp only [noneOf, Bool.and_eq_true] at h
  have : ∀ (l : Objs), (l.all fun p => !p.2.has d) = true → ∀ i o, find l i = some o → o.has d = false := by
    intro l
    induction l with
    | nil => intro _ i o h; cases h
    | cons p l ih =>
      intro hl i o hf
      simp only [List.all_cons, Bool.and_eq_true, Bool.not_eq_true'] at hl
      by_cases hi : i = p.1
      · subst hi
        rw [show (p :: l) = (p.1, p.2) :: l from rfl, find_eq] at hf
        cases hf
        exact hl.1
      · rw [show (p :: l) = (p.1, p.2) :: l from rfl, find_ne hi] at hf
        exact ih hl.2 i o hf
  exact this ob h.2 i o ho
theorem RepO.other {B i d : Nat} {o : O} {β' : Nat → Value} {κ' : Nat → Nat} (h : RepO w Pr B β κ i o) (ho : o.has d = false) (hi : i ≠ d) (hβ : ∀ j, j ≠ d → β' j = β j) (hκ : ∀ j, j ≠ d → κ' j = κ j) : RepO w Pr B β' κ' i o := by
  cases o with
  | box T l =>
    obtain ⟨g, cs, h1, h2, h3, h4, h5, h6⟩ := h
    exact ⟨g, cs, (hβ i hi).trans h1, h2, h3, h4, fun j v x hj hx => (h5 j v x hj hx).other (hasL_mem ho hx) hβ hκ, h6⟩
  | row e s k l =>
    obtain ⟨h1, xs, h2, h3, h4, h5⟩ := h
    exact ⟨(hκ i hi).trans h1, xs, by rw [hβ i hi]; exact h2, h3, h4, by rw [hβ i hi]; exact h5⟩
  | vec e s k l =>
    obtain ⟨h1, xs, h2, h3, h4, h5⟩ := h
    exact ⟨(hκ i hi).trans h1, xs, by rw [hβ i hi]; exact h2, h3, h4, by rw [hβ i hi]; exact h5⟩
  | map T c l =>
    obtain ⟨g, es, h1, h2⟩ := h
    exact ⟨g, es, (hβ i hi).trans h1, h2⟩
  | iter v s n c =>
    obtain ⟨g, gm, h1, h2, h3, h4, h5⟩ := h
    exact ⟨g, gm, (hβ i hi).trans h1, h2, h3, h4.other ho hβ hκ, h5⟩
def updV (β : Nat → Value) (d : Nat) (v : Value) : Nat → Value := fun i => if i = d then v else β i
def updN (κ : Nat → Nat) (d k : Nat) : Nat → Nat := fun i => if i = d then k else κ i
theorem updV_same (β : Nat → Value) (d : Nat) (v : Value) : updV β d v d = v := by simp [updV]
theorem updV_other (β : Nat → Value) (d : Nat) (v : Value) : ∀ j, j ≠ d → updV β d v j = β j := fun j hj => by simp [updV, hj]
theorem updN_same (κ : Nat → Nat) (d k : Nat) : updN κ d k d = k := by simp [updN]
theorem updN_other (κ : Nat → Nat) (d k : Nat) : ∀ j, j ≠ d → updN κ d k j = κ j := fun j hj => by simp [updN, hj]
/-- A new object, d, in a block of its own. -/
theorem Good.newobjG (h : Good E sl ob a w Pr β κ) {d : Nat} (hd : d < E.n) (hno : noneOf d sl ob = true) {w' : World} {Pr' : Prot} {v : Value} {o : O} {x : V}
    (hx : Below w.heap.size w w') (hp : ∀ b o, Pr b o → Pr' b o) (hn : ∀ b o, Pr' b o → Pr b o ∨ (w.heap.size ≤ b ∧ b < w'.heap.size)) (hb : ∀ g, blk v = some g → w.heap.size ≤ g)
    (ho : ∀ β' : Nat → Value, ∀ κ' : Nat → Nat, β' d = v → κ' d = 0 → (∀ j, j ≠ d → β' j = β j) → (∀ j, j ≠ d → κ' j = κ j) → RepO w' Pr' 0 β' κ' d o) {u : Value}
    (hv : ∀ β' : Nat → Value, ∀ κ' : Nat → Nat, β' d = v → κ' d = 0 → (∀ j, j ≠ d → β' j = β j) → (∀ j, j ≠ d → κ' j = κ j) → RepV w' Pr' β' κ' u x) :
    Good E ((d, x) :: sl) ((d, o) :: ob) (a.put (some d) u) w' Pr' (updV β d v) (updN κ d 0) := by
  have h1 := h.grow hx hp hn
  generalize hβ' : updV β d v = β'
  generalize hκ' : updN κ d 0 = κ'
  have e1 : β' d = v := by rw [← hβ', updV_same]
  have e2 : κ' d = 0 := by rw [← hκ', updN_same]
  have e3 : ∀ j, j ≠ d → β' j = β j := by rw [← hβ']; exact updV_other β d v
  have e4 : ∀ j, j ≠ d → κ' j = κ j := by rw [← hκ']; exact updN_other κ d 0
  have hcl : ∀ i oi, find ((d, o) :: ob) i = some oi → i ≠ d → find ob i = some oi := fun i oi hi hne => find_other hne hi
  have hE := h.below.size
  have hfr : ∀ i o, find E.ob0 i = some o → i ≠ d := fun i o hi e => by have := h.fresh i o hi; omega
  refine Good.put ⟨h1.below, h1.st0, h1.pr0, h1.prn, h1.prl, h1.size, h1.defers, fun i => (h1.slots i).other (noneOf_slot hno i) e3 e4, fun i oi hi => ?_, fun i j oi oj g hi hj hgi hgj => ?_, fun i oi g hi hg => ?_, fun i o hi => ?_, h.fresh⟩ hd (hv β' κ' e1 e2 e3 e4)
  rotate_right 2
  · by_cases hid : i = d
    · rw [hid, e1] at hg
      exact .inr (by have := hb g hg; omega)
    · rw [e3 i hid] at hg
      exact h.own i oi g (hcl i oi hi hid) hg
  · rw [e3 i (hfr i o hi), e4 i (hfr i o hi)]
    exact h.keeps i o hi
  · by_cases hid : i = d
    · subst hid
      rw [find_eq] at hi
      cases hi
      exact ho β' κ' e1 e2 e3 e4
    · have hi' := hcl i oi hi hid
      exact (h1.objs i oi hi').other (noneOf_obj hno hi') hid e3 e4
  · have old : ∀ i oi g, i ≠ d → find ((d, o) :: ob) i = some oi → blk (β' i) = some g → g < w.heap.size ∧ find ob i = some oi ∧ blk (β i) = some g := by
      intro i oi g hne hi hg
      have hi' := hcl i oi hi hne
      rw [e3 i hne] at hg
      exact ⟨((h.objs i oi hi').blkLt g hg).2, hi', hg⟩
    by_cases hid : i = d
    · by_cases hjd : j = d
      · rw [hid, hjd]
      · obtain ⟨h3, _⟩ := old j oj g hjd hj hgj
        rw [hid, e1] at hgi
        have := hb g hgi
        omega
    · by_cases hjd : j = d
      · obtain ⟨h3, _⟩ := old i oi g hid hi hgi
        rw [hjd, e1] at hgj
        have := hb g hgj
        omega
      · obtain ⟨_, h4, h5⟩ := old i oi g hid hi hgi
        obtain ⟨_, h6, h7⟩ := old j oj g hjd hj hgj
        exact h.apart i j oi oj g h4 h6 h5 h7
theorem Good.newobj (h : Good E sl ob a w Pr β κ) {d : Nat} (hd : d < E.n) (hno : noneOf d sl ob = true) {w' : World} {Pr' : Prot} {v : Value} {o : O} {x : V}
    (hx : Below w.heap.size w w') (hp : ∀ b o, Pr b o → Pr' b o) (hn : ∀ b o, Pr' b o → Pr b o ∨ (w.heap.size ≤ b ∧ b < w'.heap.size)) (hb : ∀ g, blk v = some g → w.heap.size ≤ g)
    (ho : ∀ β' : Nat → Value, ∀ κ' : Nat → Nat, β' d = v → κ' d = 0 → (∀ j, j ≠ d → β' j = β j) → (∀ j, j ≠ d → κ' j = κ j) → RepO w' Pr' 0 β' κ' d o) {u : Value}
    (hv : ∀ β' : Nat → Value, ∀ κ' : Nat → Nat, β' d = v → κ' d = 0 → (∀ j, j ≠ d → β' j = β j) → (∀ j, j ≠ d → κ' j = κ j) → RepV w' Pr' β' κ' u x) :
    Inv E ((d, x) :: sl) ((d, o) :: ob) (a.put (some d) u) w' := ⟨_, _, _, h.newobjG hd hno hx hp hn hb ho hv⟩
/-- A new box. -/
theorem Good.newbox (h : Good E sl ob a w Pr β κ) {d : Nat} (hd : d < E.n) (hno : noneOf d sl ob = true) {cs : List Value} {l : List V} {T : TypeId} (hl : cs.length = l.length)
    (hv : ∀ (j : Nat) (v : Value) (x : V), cs[j]? = some v → l[j]? = some x → RepV w Pr β κ v x) (hfree : V.hasL d l = false) :
    Inv E ((d, .box d 0) :: sl) ((d, .box T l) :: ob) (a.put (some d) (.pointer (some ⟨w.heap.size, 0, none⟩))) (w.alloc (.cells cs.toArray T)) := by
  have hx : Below w.heap.size w (w.alloc (.cells cs.toArray T)) := (Below.refl _ _).alloc (Nat.le_refl _) _
  refine h.newobj hd hno (Pr' := Pr) (v := .pointer (some ⟨w.heap.size, 0, none⟩)) hx (fun _ _ h => h) (fun _ _ h => .inl h) (fun g hg => by simp [blk] at hg; omega) (fun β' κ' e1 e2 e3 e4 => ?_) (fun β' κ' e1 e2 e3 e4 => .box d 0 _ e1)
  refine ⟨w.heap.size, cs, e1, Nat.zero_le _, heap_alloc_new w _, hl, fun j v x h1 h2 => ?_, fun o ho => ?_⟩
  · exact ((hv j v x h1 h2).keep (stays_below h hx) (fun _ _ h => h)).other (hasL_mem hfree h2) e3 e4
  · have := h.prl _ _ ho
    omega
variable {d : Nat} {t T T' ty : TypeId} {p : String} {af : Array Edge} {g : Option (Nat × Bool)} {x y c : Operand}
def zeroV : TI → Option (List V)
  | .one z => some [.d (.val z)]
  | .st z _ => some (z.map fun u => .d (.val u))
  | .ar _ _ _ z => some (z.map fun u => .d (.val u))
  | .sl .. => some [.d (.val (.slice none 0 0))]
  | .no => none
theorem hasL_val (l : List Value) (d : Nat) : V.hasL d (l.map fun u => .d (.val u)) = false := by
  induction l with
  | nil => rfl
  | cons u l ih => simp [V.hasL, V.has, ih]
theorem rep_val (l : List Value) : ∀ (j : Nat) (v : Value) (x : V), l[j]? = some v → (l.map fun u => V.d (.val u))[j]? = some x → RepV w Pr β κ v x := by
  intro j v x h1 h2
  simp only [List.getElem?_map, h1, Option.map_some, Option.some.injEq] at h2
  subst h2
  exact .d _ _ (.val _)
/-- A variable of its own, at zero. -/
def isSl : TI → Bool
  | .sl .. => true
  | _ => false
theorem zeroV_run (w : World) {l0 : List V} {e : TypeId} (hT : zeroV (ti e) = some l0) (hsl : isSl (ti e) = false) : ∃ z : Value, (zeroValue e).run Try.prog w = .ok z w ∧ l0 = z.cells.toList.map fun u => .d (.val u) := by
  cases hti : ti e with
  | one z =>
    obtain ⟨i, dsc, h1, _, _, _, _, h3, h4⟩ := ti_one hti
    rw [hti] at hT
    simp only [zeroV, Option.some.injEq] at hT
    exact ⟨z, by simp [zeroValue, typeInfo, h1, h3], by rw [← hT]; cases z <;> first | rfl | cases h4⟩
  | st z fs =>
    obtain ⟨i, F, h1, _, _, h3, _⟩ := ti_st hti
    rw [hti] at hT
    simp only [zeroV, Option.some.injEq] at hT
    exact ⟨.agg z.toArray, by simp [zeroValue, typeInfo, h1, h3], by rw [← hT]; rfl⟩
  | ar n e' es z =>
    obtain ⟨i, j, h1, _, _, h3, _⟩ := ti_ar hti
    rw [hti] at hT
    simp only [zeroV, Option.some.injEq] at hT
    exact ⟨.agg z.toArray, by simp [zeroValue, typeInfo, h1, h3], by rw [← hT]; rfl⟩
  | sl a b c z => rw [hti] at hsl; cases hsl
  | no => rw [hti] at hT; cases hT
set_option maxRecDepth 20000 in
theorem st_alloc {l l0 : List V} {e : TypeId} (hT : zeroV (ti e) = some l0) (hl : l0 = l) (hsl : isSl (ti e) = false) (hd : d < E.n) (hno : noneOf d sl ob = true) : Step E ⟨some d, .alloc e, T, p, af, g⟩ sl ob ((d, .box d 0) :: sl) ((d, .box e l) :: ob) := by
  subst hl
  rintro a w ⟨Pr, β, κ, h⟩ K Q hK
  obtain ⟨z, hz, hzl⟩ : ∃ z : Value, (zeroValue e).run Try.prog w = .ok z w ∧ l0 = z.cells.toList.map fun u => .d (.val u) := by
    cases hti : ti e with
    | one z =>
      obtain ⟨i, dsc, h1, _, _, _, _, h3, h4⟩ := ti_one hti
      rw [hti] at hT
      simp only [zeroV, Option.some.injEq] at hT
      exact ⟨z, by simp [zeroValue, typeInfo, h1, h3], by rw [← hT]; cases z <;> first | rfl | cases h4⟩
    | st z fs =>
      obtain ⟨i, F, h1, _, _, h3, _⟩ := ti_st hti
      rw [hti] at hT
      simp only [zeroV, Option.some.injEq] at hT
      exact ⟨.agg z.toArray, by simp [zeroValue, typeInfo, h1, h3], by rw [← hT]; rfl⟩
    | ar n e' es z =>
      obtain ⟨i, j, h1, _, _, h3, _⟩ := ti_ar hti
      rw [hti] at hT
      simp only [zeroV, Option.some.injEq] at hT
      exact ⟨.agg z.toArray, by simp [zeroValue, typeInfo, h1, h3], by rw [← hT]; rfl⟩
    | sl a b c z => rw [hti] at hsl; cases hsl
    | no => rw [hti] at hT; cases hT
  subst hzl
  have hrun : (execOp a.eval ⟨some d, .alloc e, T, p, af, g⟩).run Try.prog w = .ok (.value (.pointer (some ⟨w.heap.size, 0, none⟩))) (w.alloc (.cells z.cells e)) := by
    simp [execOp, Instr.alloc, hz, newVar, newRow]
  unfold Oper.wp
  rw [hrun, Oper.upon_value]
  have := h.newbox hd hno (T := e) (cs := z.cells.toList) (by simp) (rep_val _) (hasL_val _ d)
  simp only [Array.toArray_toList] at this
  exact hK _ _ this
theorem st_box {v : V} {l : List V} {e : TypeId} (hx : ev sl x = v) (hu : v ≠ .und) (hl : cellsV v = l) (hd : d < E.n) (hno : noneOf d sl ob = true) (hfree : V.hasL d l = false) : Step E ⟨some d, .box e x, T, p, af, g⟩ sl ob ((d, .box d 0) :: sl) ((d, .box e l) :: ob) := by
  subst hl
  rintro a w ⟨Pr, β, κ, h⟩ K Q hK
  have hr := good_ev h x
  rw [hx] at hr
  obtain ⟨h1, h2⟩ := cells_rep hr hu
  have hrun : (execOp a.eval ⟨some d, .box e x, T, p, af, g⟩).run Try.prog w = .ok (.value (.pointer (some ⟨w.heap.size, 0, none⟩))) (w.alloc (.cells (a.eval x).cells e)) := by
    simp [execOp, Instr.box, newVar, newRow]
  unfold Oper.wp
  rw [hrun, Oper.upon_value]
  have := h.newbox hd hno (T := e) (cs := (a.eval x).cells.toList) h1 h2 hfree
  simp only [Array.toArray_toList] at this
  exact hK _ _ this
end
end Go.Proofs.Ytabaflklognhaaa
