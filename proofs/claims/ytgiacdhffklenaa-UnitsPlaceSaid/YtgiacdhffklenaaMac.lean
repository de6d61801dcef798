/-
  Conditions: none.
-/
import Derived.Laws.CopyRow
import Derived.Deep.RegionHeld3
import Derived.Test.YtgiacdhffklenaaMab
set_option maxHeartbeats 16000000
set_option maxRecDepth 20000
namespace Go.Proofs.Ytgiacdhffklenaa
section
open Go.RowKit
def cellsV : V → List V
 | .d (.agg l) => l.map V.d
 | .agg l => l
 | .d (.val v) => v.cells.toList.map fun u => .d (.val u)
 | v => [v]
def V.one : V → Bool
 | .d (.val v) => v.oneCell'
 | .d (.list ..) => true
 | .d .err => true
 | .d (.ifc ..) => true
 | .d _ => false
 | .und => false
 | .agg _ => false
 | .tup _ => false
 | _ => true
theorem one_cell {w : World} {Pr : Prot} {β : Nat → Value} {κ : Nat → Nat} {v : Value} {x : V} (h : RepV w Pr β κ v x) (h1 : x.one = true) : v.oneCell' = true := by
 cases h with
 | und v => cases h1
 | d v x h =>
  cases h with
  | val v => exact h1
  | nil A c s hm => rfl
  | list b o n c s l u hn hs hc hm hr hd => rfl
  | agg cs l hl hd => cases h1
  | tup cs l hl hd => cases h1
  | err t u => rfl
  | ifc t u x h => rfl
 | ep b p o l u hr => rfl
 | box i o g h => rfl
 | sl i o n c g h hc hm hz => rfl
 | mp i g h => rfl
 | row i k v hs hk h => obtain ⟨A, n, c, rfl⟩ := hs; rfl
 | agg cs l hl hd => cases h1
 | clo f cs l hl hd => rfl
 | mv f cs l hl hd => rfl
 | tup cs l hl hd => cases h1
section
variable {E : Entry} {sl : Slots} {ob : Objs} {a : Act} {w : World} {Pr : Prot} {β : Nat → Value} {κ : Nat → Nat}
theorem cells_rep {v : Value} {x : V} (h : RepV w Pr β κ v x) (hu : x ≠ .und) : v.cells.toList.length = (cellsV x).length ∧ ∀ (i : Nat) (u : Value) (y : V), v.cells.toList[i]? = some u → (cellsV x)[i]? = some y → RepV w Pr β κ u y := by
 have single : ∀ {v : Value} {x : V}, RepV w Pr β κ v x → v.cells = #[v] → v.cells.toList.length = [x].length ∧ ∀ (i : Nat) (u : Value) (y : V), v.cells.toList[i]? = some u → ([x] : List V)[i]? = some y → RepV w Pr β κ u y := by
  intro v x h hc
  rw [hc]
  refine ⟨rfl, fun i u y h1 h2 => ?_⟩
  cases i with
  | zero => simp at h1 h2; subst h1 h2; exact h
  | succ i => simp at h1
 cases h with
 | und v => exact absurd rfl hu
 | d v x h =>
  cases h with
  | val v =>
   refine ⟨by simp [cellsV], fun i u y h1 h2 => ?_⟩
   simp only [cellsV, List.getElem?_map, Option.map_eq_some_iff] at h2
   obtain ⟨u', h3, rfl⟩ := h2
   rw [h1] at h3
   cases h3
   exact .d _ _ (.val _)
  | nil A c s hm => exact single (.d _ _ (.nil A c s hm)) rfl
  | list b o n c s l u hn hs hc hm hr hd => exact single (.d _ _ (.list b o n c s l u hn hs hc hm hr hd)) rfl
  | agg cs l hl hd =>
   refine ⟨by simp [cellsV, Value.cells, hl], fun i u y h1 h2 => ?_⟩
   simp only [cellsV, List.getElem?_map, Option.map_eq_some_iff] at h2
   obtain ⟨u', h3, rfl⟩ := h2
   exact .d _ _ (hd i u u' (by simpa [Value.cells] using h1) h3)
  | tup cs l hl hd => exact single (.d _ _ (.tup cs l hl hd)) rfl
  | err t u => exact single (.d _ _ (.err t u)) rfl
  | ifc t u x h => exact single (.d _ _ (.ifc t u x h)) rfl
 | ep b p o l u hr => exact single (.ep b p o l u hr) rfl
 | box i o g h => exact single (.box i o g h) rfl
 | sl i o n c g h hc hm hz => exact single (.sl i o n c g h hc hm hz) rfl
 | mp i g h => exact single (.mp i g h) rfl
 | row i k v hs hk h =>
  obtain ⟨A, n, c, rfl⟩ := hs
  exact single (.row i k _ ⟨A, n, c, rfl⟩ hk h) rfl
 | agg cs l hl hd =>
  refine ⟨by simp [cellsV, Value.cells, hl], fun i u y h1 h2 => hd i u y (by simpa [Value.cells] using h1) (by simpa [cellsV] using h2)⟩
 | clo f cs l hl hd => exact single (.clo f cs l hl hd) rfl
 | mv f cs l hl hd => exact single (.mv f cs l hl hd) rfl
 | tup cs l hl hd => exact single (.tup cs l hl hd) rfl
theorem find_other {i j : Nat} {o : O} {x : O} (hi : j ≠ i) (h : find ((i, o) :: ob) j = some x) : find ob j = some x := by rwa [find_ne hi] at h
theorem noneOf_slot {d : Nat} (h : noneOf d sl ob = true) (i : Nat) : (look sl i).has d = false := by
 simp only [noneOf, Bool.and_eq_true] at h
 have : ∀ (l : Slots), (l.all fun p => !p.2.has d) = true → ∀ i, (look l i).has d = false := by
  intro l
  induction l with
  | nil => intro _ i; rfl
  | cons p l ih =>
   intro hl i
   simp only [List.all_cons, Bool.and_eq_true, Bool.not_eq_true'] at hl
   by_cases hi : i = p.1
   ·subst hi
    rw [show (p :: l) = (p.1, p.2) :: l from rfl, look_eq]
    exact hl.1
   ·rw [show (p :: l) = (p.1, p.2) :: l from rfl, look_ne hi]
    exact ih hl.2 i
 exact this sl h.1 i
theorem noneOf_obj {d : Nat} (h : noneOf d sl ob = true) {i : Nat} {o : O} (ho : find ob i = some o) : o.has d = false := by
 simp only [noneOf, Bool.and_eq_true] at h
 have : ∀ (l : Objs), (l.all fun p => !p.2.has d) = true → ∀ i o, find l i = some o → o.has d = false := by
  intro l
  induction l with
  | nil => intro _ i o h; cases h
  | cons p l ih =>
   intro hl i o hf
   simp only [List.all_cons, Bool.and_eq_true, Bool.not_eq_true'] at hl
   by_cases hi : i = p.1
   ·subst hi
    rw [show (p :: l) = (p.1, p.2) :: l from rfl, find_eq] at hf
    cases hf
    exact hl.1
   ·rw [show (p :: l) = (p.1, p.2) :: l from rfl, find_ne hi] at hf
    exact ih hl.2 i o hf
 exact this ob h.2 i o ho
theorem RepO.other {B i d : Nat} {o : O} {β' : Nat → Value} {κ' : Nat → Nat} (h : RepO w Pr B β κ i o) (ho : o.has d = false) (hi : i ≠ d) (hβ : ∀ j, j ≠ d → β' j = β j) (hκ : ∀ j, j ≠ d → κ' j = κ j) : RepO w Pr B β' κ' i o := by
 cases o with
 | box T l =>
  obtain ⟨g, cs, h1, h2, h3, h4, h5, h6⟩ := h
  exact ⟨g, cs, (hβ i hi).trans h1, h2, h3, h4, fun j v x hj hx => (h5 j v x hj hx).other (hasL_mem ho hx) hβ hκ, h6⟩
 | row e s k l =>
  obtain ⟨h1, xs, h2, h3, h4, h5⟩ := h
  exact ⟨(hκ i hi).trans h1, xs, by rw [hβ i hi]; exact h2, h3, h4, by rw [hβ i hi]; exact h5⟩
 | vec e s k l =>
  obtain ⟨h1, xs, h2, h3, h4, h5⟩ := h
  exact ⟨(hκ i hi).trans h1, xs, by rw [hβ i hi]; exact h2, h3, h4, by rw [hβ i hi]; exact h5⟩
 | byt e k l =>
  obtain ⟨h1, g, cap, cur, fz, h2, h3⟩ := h
  exact ⟨(hκ i hi).trans h1, g, cap, cur, fz, (hβ i hi).trans h2, h3⟩
 | map T c l =>
  obtain ⟨g, es, h1, h2⟩ := h
  exact ⟨g, es, (hβ i hi).trans h1, h2⟩
 | iter v s n c =>
  obtain ⟨g, gm, h1, h2, h3, h4, h5⟩ := h
  exact ⟨g, gm, (hβ i hi).trans h1, h2, h3, h4.other ho hβ hκ, h5⟩
def updV (β : Nat → Value) (d : Nat) (v : Value) : Nat → Value := fun i => if i = d then v else β i
def updN (κ : Nat → Nat) (d k : Nat) : Nat → Nat := fun i => if i = d then k else κ i
theorem updV_same (β : Nat → Value) (d : Nat) (v : Value) : updV β d v d = v := by simp [updV]
theorem updV_other (β : Nat → Value) (d : Nat) (v : Value) : ∀ j, j ≠ d → updV β d v j = β j := fun j hj => by simp [updV, hj]
theorem updN_same (κ : Nat → Nat) (d k : Nat) : updN κ d k d = k := by simp [updN]
theorem updN_other (κ : Nat → Nat) (d k : Nat) : ∀ j, j ≠ d → updN κ d k j = κ j := fun j hj => by simp [updN, hj]
theorem Good.newobjG (h : Good E sl ob a w Pr β κ) {d : Nat} (hd : d < E.n) (hno : noneOf d sl ob = true) {w' : World} {Pr' : Prot} {v : Value} {o : O} {x : V}
  (hx : Below w.heap.size w w') (hp : ∀ b o, Pr b o → Pr' b o) (hn : ∀ b o, Pr' b o → Pr b o ∨ (w.heap.size ≤ b ∧ b < w'.heap.size)) (hb : ∀ g, blk v = some g → w.heap.size ≤ g)
  (ho : ∀ β' : Nat → Value, ∀ κ' : Nat → Nat, β' d = v → κ' d = 0 → (∀ j, j ≠ d → β' j = β j) → (∀ j, j ≠ d → κ' j = κ j) → RepO w' Pr' 0 β' κ' d o) {u : Value}
  (hv : ∀ β' : Nat → Value, ∀ κ' : Nat → Nat, β' d = v → κ' d = 0 → (∀ j, j ≠ d → β' j = β j) → (∀ j, j ≠ d → κ' j = κ j) → RepV w' Pr' β' κ' u x) :
  Good E ((d, x) :: sl) ((d, o) :: ob) (a.put (some d) u) w' Pr' (updV β d v) (updN κ d 0) := by
 have h1 := h.grow hx hp hn
 generalize hβ' : updV β d v = β'
 generalize hκ' : updN κ d 0 = κ'
 have e1 : β' d = v := by rw [← hβ', updV_same]
 have e2 : κ' d = 0 := by rw [← hκ', updN_same]
 have e3 : ∀ j, j ≠ d → β' j = β j := by rw [← hβ']; exact updV_other β d v
 have e4 : ∀ j, j ≠ d → κ' j = κ j := by rw [← hκ']; exact updN_other κ d 0
 have hcl : ∀ i oi, find ((d, o) :: ob) i = some oi → i ≠ d → find ob i = some oi := fun i oi hi hne => find_other hne hi
 have hE := h.below.size
 have hfr : ∀ i o, find E.ob0 i = some o → i ≠ d := fun i o hi e => by have := h.fresh i o hi; omega
 refine Good.put ⟨h1.below, h1.st0, h1.pr0, h1.prn, h1.prl, h1.size, h1.defers, fun i => (h1.slots i).other (noneOf_slot hno i) e3 e4, fun i oi hi => ?_, fun i j oi oj g hi hj hgi hgj => ?_, fun i oi g hi hg => ?_, fun i o hi => ?_, h.fresh⟩ hd (hv β' κ' e1 e2 e3 e4)
 rotate_right 2
 ·by_cases hid : i = d
  ·rw [hid, e1] at hg
   exact .inr (by have := hb g hg; omega)
  ·rw [e3 i hid] at hg
   exact h.own i oi g (hcl i oi hi hid) hg
 ·rw [e3 i (hfr i o hi), e4 i (hfr i o hi)]
  exact h.keeps i o hi
 ·by_cases hid : i = d
  ·subst hid
   rw [find_eq] at hi
   cases hi
   exact ho β' κ' e1 e2 e3 e4
  ·have hi' := hcl i oi hi hid
   exact (h1.objs i oi hi').other (noneOf_obj hno hi') hid e3 e4
 ·have old : ∀ i oi g, i ≠ d → find ((d, o) :: ob) i = some oi → blk (β' i) = some g → g < w.heap.size ∧ find ob i = some oi ∧ blk (β i) = some g := by
   intro i oi g hne hi hg
   have hi' := hcl i oi hi hne
   rw [e3 i hne] at hg
   exact ⟨((h.objs i oi hi').blkLt g hg).2, hi', hg⟩
  by_cases hid : i = d
  ·by_cases hjd : j = d
   ·rw [hid, hjd]
   ·obtain ⟨h3, _⟩ := old j oj g hjd hj hgj
    rw [hid, e1] at hgi
    have := hb g hgi
    omega
  ·by_cases hjd : j = d
   ·obtain ⟨h3, _⟩ := old i oi g hid hi hgi
    rw [hjd, e1] at hgj
    have := hb g hgj
    omega
   ·obtain ⟨_, h4, h5⟩ := old i oi g hid hi hgi
    obtain ⟨_, h6, h7⟩ := old j oj g hjd hj hgj
    exact h.apart i j oi oj g h4 h6 h5 h7
theorem Good.newobj (h : Good E sl ob a w Pr β κ) {d : Nat} (hd : d < E.n) (hno : noneOf d sl ob = true) {w' : World} {Pr' : Prot} {v : Value} {o : O} {x : V}
  (hx : Below w.heap.size w w') (hp : ∀ b o, Pr b o → Pr' b o) (hn : ∀ b o, Pr' b o → Pr b o ∨ (w.heap.size ≤ b ∧ b < w'.heap.size)) (hb : ∀ g, blk v = some g → w.heap.size ≤ g)
  (ho : ∀ β' : Nat → Value, ∀ κ' : Nat → Nat, β' d = v → κ' d = 0 → (∀ j, j ≠ d → β' j = β j) → (∀ j, j ≠ d → κ' j = κ j) → RepO w' Pr' 0 β' κ' d o) {u : Value}
  (hv : ∀ β' : Nat → Value, ∀ κ' : Nat → Nat, β' d = v → κ' d = 0 → (∀ j, j ≠ d → β' j = β j) → (∀ j, j ≠ d → κ' j = κ j) → RepV w' Pr' β' κ' u x) :
  Inv E ((d, x) :: sl) ((d, o) :: ob) (a.put (some d) u) w' := ⟨_, _, _, h.newobjG hd hno hx hp hn hb ho hv⟩
theorem Good.newbox (h : Good E sl ob a w Pr β κ) {d : Nat} (hd : d < E.n) (hno : noneOf d sl ob = true) {cs : List Value} {l : List V} {T : TypeId} (hl : cs.length = l.length)
  (hv : ∀ (j : Nat) (v : Value) (x : V), cs[j]? = some v → l[j]? = some x → RepV w Pr β κ v x) (hfree : V.hasL d l = false) :
  Inv E ((d, .box d 0) :: sl) ((d, .box T l) :: ob) (a.put (some d) (.pointer (some ⟨w.heap.size, 0, none⟩))) (w.alloc (.cells cs.toArray T)) := by
 have hx : Below w.heap.size w (w.alloc (.cells cs.toArray T)) := (Below.refl _ _).alloc (Nat.le_refl _) _
 refine h.newobj hd hno (Pr' := Pr) (v := .pointer (some ⟨w.heap.size, 0, none⟩)) hx (fun _ _ h => h) (fun _ _ h => .inl h) (fun g hg => by simp [blk] at hg; omega) (fun β' κ' e1 e2 e3 e4 => ?_) (fun β' κ' e1 e2 e3 e4 => .box d 0 _ e1)
 refine ⟨w.heap.size, cs, e1, Nat.zero_le _, heap_alloc_new w _, hl, fun j v x h1 h2 => ?_, fun o ho => ?_⟩
 ·exact ((hv j v x h1 h2).keep (stays_below h hx) (fun _ _ h => h)).other (hasL_mem hfree h2) e3 e4
 ·have := h.prl _ _ ho
  omega
variable {d : Nat} {t T T' ty : TypeId} {p : String} {af : Array Edge} {g : Option (Nat × Bool)} {x y c : Operand}
def zeroV : TI → Option (List V)
 | .one z => some [.d (.val z)]
 | .st z _ => some (z.map fun u => .d (.val u))
 | .ar _ _ _ z => some (z.map fun u => .d (.val u))
 | .sl .. => some [.d (.val (.slice none 0 0))]
 | .no => none
theorem hasL_val (l : List Value) (d : Nat) : V.hasL d (l.map fun u => .d (.val u)) = false := by
 induction l with
 | nil => rfl
 | cons u l ih => simp [V.hasL, V.has, ih]
theorem rep_val (l : List Value) : ∀ (j : Nat) (v : Value) (x : V), l[j]? = some v → (l.map fun u => V.d (.val u))[j]? = some x → RepV w Pr β κ v x := by
 intro j v x h1 h2
 simp only [List.getElem?_map, h1, Option.map_some, Option.some.injEq] at h2
 subst h2
 exact .d _ _ (.val _)
def isSl : TI → Bool
 | .sl .. => true
 | _ => false
theorem zeroV_run (w : World) {l0 : List V} {e : TypeId} (hT : zeroV (ti e) = some l0) (hsl : isSl (ti e) = false) : ∃ z : Value, (zeroValue e).run Try.prog w = .ok z w ∧ l0 = z.cells.toList.map fun u => .d (.val u) := by
 cases hti : ti e with
 | one z =>
  obtain ⟨i, dsc, h1, _, _, _, _, h3, h4⟩ := ti_one hti
  rw [hti] at hT
  simp only [zeroV, Option.some.injEq] at hT
  exact ⟨z, by simp [zeroValue, typeInfo, h1, h3], by rw [← hT]; cases z <;> first | rfl | cases h4⟩
 | st z fs =>
  obtain ⟨i, F, h1, _, _, h3, _⟩ := ti_st hti
  rw [hti] at hT
  simp only [zeroV, Option.some.injEq] at hT
  exact ⟨.agg z.toArray, by simp [zeroValue, typeInfo, h1, h3], by rw [← hT]; rfl⟩
 | ar n e' es z =>
  obtain ⟨i, j, h1, _, _, h3, _⟩ := ti_ar hti
  rw [hti] at hT
  simp only [zeroV, Option.some.injEq] at hT
  exact ⟨.agg z.toArray, by simp [zeroValue, typeInfo, h1, h3], by rw [← hT]; rfl⟩
 | sl a b c z => rw [hti] at hsl; cases hsl
 | no => rw [hti] at hT; cases hT
theorem st_alloc {l l0 : List V} {e : TypeId} (hT : zeroV (ti e) = some l0) (hl : l0 = l) (hsl : isSl (ti e) = false) (hd : d < E.n) (hno : noneOf d sl ob = true) : Step E ⟨some d, .alloc e, T, p, af, g⟩ sl ob ((d, .box d 0) :: sl) ((d, .box e l) :: ob) := by
 subst hl
 rintro a w ⟨Pr, β, κ, h⟩ K Q hK
 obtain ⟨z, hz, hzl⟩ : ∃ z : Value, (zeroValue e).run Try.prog w = .ok z w ∧ l0 = z.cells.toList.map fun u => .d (.val u) := by
  cases hti : ti e with
  | one z =>
   obtain ⟨i, dsc, h1, _, _, _, _, h3, h4⟩ := ti_one hti
   rw [hti] at hT
   simp only [zeroV, Option.some.injEq] at hT
   exact ⟨z, by simp [zeroValue, typeInfo, h1, h3], by rw [← hT]; cases z <;> first | rfl | cases h4⟩
  | st z fs =>
   obtain ⟨i, F, h1, _, _, h3, _⟩ := ti_st hti
   rw [hti] at hT
   simp only [zeroV, Option.some.injEq] at hT
   exact ⟨.agg z.toArray, by simp [zeroValue, typeInfo, h1, h3], by rw [← hT]; rfl⟩
  | ar n e' es z =>
   obtain ⟨i, j, h1, _, _, h3, _⟩ := ti_ar hti
   rw [hti] at hT
   simp only [zeroV, Option.some.injEq] at hT
   exact ⟨.agg z.toArray, by simp [zeroValue, typeInfo, h1, h3], by rw [← hT]; rfl⟩
  | sl a b c z => rw [hti] at hsl; cases hsl
  | no => rw [hti] at hT; cases hT
 subst hzl
 have hrun : (execOp a.eval ⟨some d, .alloc e, T, p, af, g⟩).run Try.prog w = .ok (.value (.pointer (some ⟨w.heap.size, 0, none⟩))) (w.alloc (.cells z.cells e)) := by
  simp [execOp, Instr.alloc, hz, newVar, newRow]
 unfold Oper.wp
 rw [hrun, Oper.upon_value]
 have := h.newbox hd hno (T := e) (cs := z.cells.toList) (by simp) (rep_val _) (hasL_val _ d)
 simp only [Array.toArray_toList] at this
 exact hK _ _ this
theorem st_box {v : V} {l : List V} {e : TypeId} (hx : ev sl x = v) (hu : v ≠ .und) (hl : cellsV v = l) (hd : d < E.n) (hno : noneOf d sl ob = true) (hfree : V.hasL d l = false) : Step E ⟨some d, .box e x, T, p, af, g⟩ sl ob ((d, .box d 0) :: sl) ((d, .box e l) :: ob) := by
 subst hl
 rintro a w ⟨Pr, β, κ, h⟩ K Q hK
 have hr := good_ev h x
 rw [hx] at hr
 obtain ⟨h1, h2⟩ := cells_rep hr hu
 have hrun : (execOp a.eval ⟨some d, .box e x, T, p, af, g⟩).run Try.prog w = .ok (.value (.pointer (some ⟨w.heap.size, 0, none⟩))) (w.alloc (.cells (a.eval x).cells e)) := by
  simp [execOp, Instr.box, newVar, newRow]
 unfold Oper.wp
 rw [hrun, Oper.upon_value]
 have := h.newbox hd hno (T := e) (cs := (a.eval x).cells.toList) h1 h2 hfree
 simp only [Array.toArray_toList] at this
 exact hK _ _ this
end
end
section
open Go.RowKit
section
variable {E : Entry} {sl : Slots} {ob : Objs} {a : Act} {w : World} {Pr : Prot} {β : Nat → Value} {κ : Nat → Nat}
theorem Good.setobj (h : Good E sl ob a w Pr β κ) {i b : Nat} {o o' : O} (hf : find ob i = some o) (hb : β i = .pointer (some ⟨b, 0, none⟩)) {cs : Array Value} {T : TypeId} (hno : ∀ q, ¬ Pr b q) (hold : ∃ c0, w.heap[b]? = some (.cells c0 T (0, 0)))
  (ho : (∀ (v : Value) (x : V), RepV w Pr β κ v x → RepV (w.setRow b cs) Pr β κ v x) → RepO (w.setRow b cs) Pr 0 β κ i o') : Good E sl ((i, o') :: ob) a (w.setRow b cs) Pr β κ := by
 obtain ⟨c0, hold⟩ := hold
 have hs : Stays Pr w (w.setRow b cs) := fun b' q hq => World.cell?_of_block (a := ⟨b', q, none⟩) (setRow_other w b b' cs (by rintro rfl; exact hno q hq))
 have hE := h.below.size
 have hbo := h.own i o b hf (by rw [hb]; rfl)
 have hx : Under (fun g => g = b) w (w.setRow b cs) := ⟨rfl, rfl, rfl, by simp [World.setRow], fun k _ hn => setRow_other w b k cs hn⟩
 refine ⟨h.below.then hx (fun g hg => hg ▸ hbo), fun b' q hq => (hs b' q (h.pr0 b' q hq)).trans (h.st0 b' q hq), h.pr0, h.prn, fun b' q hq => by have := h.prl b' q hq; simpa [World.setRow] using this, h.size, h.defers, fun j => (h.slots j).keep hs (fun _ _ h => h), fun j oj hj => ?_, fun j k oj ok g hj hk => ?_, fun j oj g hj hg => ?_, h.keeps, h.fresh⟩
 rotate_right 1
 ·by_cases hji : j = i
  ·subst hji
   exact h.own j o g hf hg
  ·exact h.own j oj g (find_other hji hj) hg
 ·by_cases hji : j = i
  ·subst hji
   rw [find_eq] at hj
   cases hj
   exact ho (fun v x hv => hv.keep hs (fun _ _ h => h))
  ·have hj' := find_other hji hj
   refine (h.objs j oj hj').keep hs (fun _ _ h => h) (fun _ _ h => .inl h) (fun g hg => setRow_other w b g cs ?_)
   rintro rfl
   exact hji (h.apart j i oj o _ hj' hf hg (by rw [hb]; rfl))
 ·have key : ∀ m om, find ((i, o') :: ob) m = some om → ∃ om', find ob m = some om' := by
   intro m om hm
   by_cases hmi : m = i
   ·exact ⟨o, hmi ▸ hf⟩
   ·exact ⟨om, find_other hmi hm⟩
  obtain ⟨oj', hj'⟩ := key j oj hj
  obtain ⟨ok', hk'⟩ := key k ok hk
  exact h.apart j k oj' ok' g hj' hk'
def put (l : List V) (o : Nat) (n : List V) : List V := l.take o ++ n ++ l.drop (o + n.length)
variable {d : Nat} {t T T' ty : TypeId} {p : String} {af : Array Edge} {g : Option (Nat × Bool)} {x y c : Operand}
theorem store_now (h : Good E sl ob a w Pr β κ) {i o k : Nat} {l l' n : List V} {v : V} (hx : ev sl x = .box i o) (hf : find ob i = some (.box T' l)) (hv : ev sl y = v) (hu : v ≠ .und) (hn : cellsV v = n) (h1 : ∀ z ∈ n, z.one = true) (hT : (isOne (ti t) = true ∧ k = 1) ∨ aggK (ti t) = some k) (hk : n.length = k) (hl : o + n.length ≤ l.length) (hr : put l o n = l') :
  ∃ (b : Nat) (cs : Array Value), (execOp a.eval ⟨none, .store t x y, T, p, af, g⟩).run Try.prog w = .ok .skip (w.setRow b cs) ∧ β i = .pointer (some ⟨b, 0, none⟩) ∧ (∀ q, ¬ Pr b q) ∧ Good E sl ((i, .box T' l') :: ob) a (w.setRow b cs) Pr β κ := by
 subst hr
 obtain ⟨b, cs, hav, hb, hh, hcl, hcv, _⟩ := box_at h hx hf
 obtain ⟨b', cs', hb', hB, _, _, _, hno⟩ := h.objs i _ hf
 rw [hb] at hb'
 simp only [Value.pointer.injEq, Option.some.injEq, Addr.mk.injEq, and_true] at hb'
 subst hb'
 have hrep := good_ev h y
 rw [hv] at hrep
 obtain ⟨c1, c2⟩ := cells_rep hrep hu
 rw [hn] at c1 c2
 have hone : ∀ u ∈ (a.eval y).cells.toList, u.oneCell' = true := by
  intro u hu'
  obtain ⟨j, hj, rfl⟩ := List.getElem_of_mem hu'
  have hj2 : n[j]? = some (n[j]'(by omega)) := List.getElem?_eq_getElem (by omega)
  exact one_cell (c2 j _ _ (List.getElem?_eq_getElem hj) hj2) (h1 _ (List.getElem_mem _))
 have hsz : (sizeOf t).run Try.prog w = .ok k w := by
  rcases hT with ⟨h2, rfl⟩ | h2
  ·exact run_sizeOf_one w h2
  ·exact (run_isAgg_agg w h2).2
 have hsz2 : (a.eval y).cells.size = k := by
  have : (a.eval y).cells.toList.length = k := by omega
  simpa using this
 have hst := run_storeCells_at Try.prog b o T' (a.eval y).cells.toList 0 cs.toArray w hh (by simp; omega) hone
 have hrun : (execOp a.eval ⟨none, .store t x y, T, p, af, g⟩).run Try.prog w = .ok .skip (w.setRow b (cs.take o ++ (a.eval y).cells.toList ++ cs.drop (o + (a.eval y).cells.toList.length)).toArray) := by
  simp only [Nat.add_zero] at hst
  simp [execOp, hav, Instr.storeAt, Instr.sureAddr, storeVar, hsz, hsz2, hst]
 have hgood : Good E sl ((i, .box T' (put l o n)) :: ob) a (w.setRow b (cs.take o ++ (a.eval y).cells.toList ++ cs.drop (o + (a.eval y).cells.toList.length)).toArray) Pr β κ := by
  refine h.setobj (T := T') hf hb hno ⟨_, hh⟩ (fun hkeep => ?_)
  refine ⟨b, cs.take o ++ (a.eval y).cells.toList ++ cs.drop (o + (a.eval y).cells.toList.length), hb, hB, setRow_heap w b _ _ _ _ hh, by simp [put]; omega, fun j u z h2 h3 => hkeep u z ?_, hno⟩
  simp only [put] at h3
  rw [List.append_assoc] at h2 h3
  by_cases hj1 : j < o
  ·rw [List.getElem?_append_left (by simp; omega), List.getElem?_take, if_pos hj1] at h2 h3
   exact hcv j u z h2 h3
  ·rw [List.getElem?_append_right (by simp; omega)] at h2 h3
   have e1 : (cs.take o).length = o := by simp; omega
   have e2 : (l.take o).length = o := by simp; omega
   rw [e1] at h2
   rw [e2] at h3
   by_cases hj2 : j - o < n.length
   ·rw [List.getElem?_append_left (by omega)] at h2 h3
    exact c2 _ u z h2 h3
   ·rw [List.getElem?_append_right (by omega), List.getElem?_drop] at h2 h3
    rw [c1] at h2
    exact hcv _ u z h2 h3
 exact ⟨b, _, hrun, hb, hno, hgood⟩
theorem st_store {i o k : Nat} {l l' n : List V} {v : V} (hx : ev sl x = .box i o) (hf : find ob i = some (.box T' l)) (hv : ev sl y = v) (hu : v ≠ .und) (hn : cellsV v = n) (h1 : ∀ z ∈ n, z.one = true) (hT : (isOne (ti t) = true ∧ k = 1) ∨ aggK (ti t) = some k) (hk : n.length = k) (hl : o + n.length ≤ l.length) (hr : put l o n = l') :
  Step E ⟨none, .store t x y, T, p, af, g⟩ sl ob sl ((i, .box T' l') :: ob) := by
 rintro a w ⟨Pr, β, κ, h⟩ K Q hK
 obtain ⟨b, cs, hrun, _, _, hG⟩ := store_now (T := T) (p := p) (af := af) (g := g) h hx hf hv hu hn h1 hT hk hl hr
 unfold Oper.wp
 rw [hrun, Oper.upon_skip]
 exact hK _ _ ⟨Pr, β, κ, hG⟩
end
end
section
open Go.RowKit
def Off (v : Value) (w : World) (v' : Value) : Prop := ∀ k, k < w.heap.size → v.ownBlock ≠ some k → v'.ownBlock ≠ some k
def Apart (v r : Value) : Prop := ∀ k, v.ownBlock = some k → r.ownBlock ≠ some k
theorem Apart.nil (n c : Nat) (r : Value) : Apart (.slice none n c) r := fun k h => by simp [Value.ownBlock] at h
theorem Apart.off {w : World} {base s n : Nat} {e : TypeId} {v v' r : Value} {xs : List Value} (h : Apart v r) (hr : w.ownsRow base e s r n xs) (ho : Off v w v') : Apart v' r :=
 fun k h1 h2 => ho k (hr.lt k h2).2 (fun h3 => h k h3 h2) h1
theorem Apart.own {w w' : World} {base s n : Nat} {e : TypeId} {v r : Value} {xs : List Value} (h : Apart v r) (hr : w.ownsRow base e s r n xs) (hg : w.grownBy w' v.ownBlock) : w'.ownsRow base e s r n xs := by
 refine hr.kept hg ?_
 cases hb : r.ownBlock with
 | none => exact .inl rfl
 | some k => exact .inr (fun e => h k e.symm hb)
theorem append_off {P : Program} (w : World) (base : Nat) (t ty e : TypeId) (i : TypeInfo) (z : Value) (size bytes : Nat) (ht : P.underlying t = some (.slice e)) (hi : P.info? e = some i) (hz : i.zero = some z)
  (hsize : i.size = size) (hby : i.bytes = bytes)
  (v : Value) (n : Nat) (xs : List Value) (hown : w.ownsRow base e size v n xs)
  (a : Addr) (m c : Nat) (news : List Value) (hl : news.length = m * size) (hsz : 0 < size) (hnews : ∀ j u, news[j]? = some u → w.cell? (a.add j) = some u) (h1 : ∀ u ∈ news, u.oneCell' = true)
  (h63 : n + m ≤ maxLen) (hbytes : (n + m) * bytes ≤ 140737488355328) {v' : Value} {w' : World}
  (h : (Builtin.append_ #[t, t] ty #[v, .slice (some a) m c]).run P w = .ok v' w') : Off v w v' := by
 intro k hk hv
 subst hsize
 subst hby
 simp only [maxLen] at h63
 rcases hown.2 with ⟨rfl, rfl⟩ | ⟨g, cap, cur, rfl, hbg, hg, hnc, hcm, hcs, htake⟩
 ·by_cases hm : m = 0
  ·subst hm
   have hn : news = [] := List.eq_nil_of_length_eq_zero (by simpa using hl)
   subst hn
   have hr : (Builtin.append_ #[t, t] ty #[.slice none 0 0, .slice (some a) 0 c]).run P w = .ok (.slice none 0 0) w := by
    simp [Builtin.append_, run_underlying ht, sizeOf, typeInfo, hi, Builtin.lenOf, Builtin.firstCells, loadCells, loadCellsFrom]
   rw [hr] at h
   cases h
   exact hv
  ·have hr := run_append_nil (P := P) w t ty e i z ht hi hz a m c news hl hnews (by omega) (by omega) (by have hb := hbytes; simp only [Nat.zero_add] at hb; omega)
   rw [hr] at h
   cases h
   simp [Value.ownBlock]
   omega
 ·by_cases hroom : n + m ≤ cap
  ·have hfit : n * i.size + news.length ≤ cur.size := by rw [hl, hcs, ← Nat.add_mul]; exact Nat.mul_le_mul_right _ hroom
   have hr := run_append_room (P := P) w t ty e i ht hi g n cap cur hg a m c news hl hnews h1 hroom hfit
   rw [hr] at h
   cases h
   simpa [Value.ownBlock] using hv
  ·have holds : ∀ j u, xs[j]? = some u → w.cell? ((⟨g, 0, none⟩ : Addr).add j) = some u := hown.cells (g := g) rfl
   have hr := run_append_grow (P := P) w t ty e i z ht hi hz ⟨g, 0, none⟩ n cap xs hown.1 holds a m c news hl hnews (by omega) (by omega) (growslice_fits (by omega) hbytes)
   rw [hr] at h
   cases h
   simp [Value.ownBlock]
   omega
end
section
open Go.RowKit
def tailOk (ops : Array Oper) (tail : List Nat) : List Nat → Array Bool → Bool
 | [], listed => (Region.ready .any ops listed).isEmpty
 | i :: rest, listed => (Region.ready .any ops listed == [i]) && tailOk ops tail rest (listed.setIfInBounds i true)
def mixOk (ops : Array Oper) (tail : List Nat) : List (Nat × Bool) → Array Bool → Bool
 | [], listed => tailOk ops tail tail listed
 | (i, s) :: rest, listed =>
  !tail.contains i && (Region.ready .any ops listed).contains i && (if s then Region.free .any ops listed i else Region.ready .any ops listed == [i]) && mixOk ops tail rest (listed.setIfInBounds i true)
def waitsAll (ops : Array Oper) (tail : List Nat) : Bool :=
 tail.all fun j => (List.range ops.size).all fun i => tail.contains i || ((ops[j]?).map fun o => o.after.any fun e => Region.binds .any e && e.on == i).getD true
def wpAnyT (P : Program) (ops : Array Oper) (Q : Exit → Act → World → Prop) (S : World → Prop) (tail : List Nat) : Nat → Array Bool → Act → World → Prop
 | 0, listed, a, w => Region.ready .any ops listed = [] ∧ Q .normal a w
 | fuel + 1, listed, a, w =>
  (Region.ready .any ops listed = [] → Q .normal a w) ∧
  ∀ i ∈ Region.ready .any ops listed, wpOp P ops Q i (fun a' w' => (i ∉ tail → S w') ∧ wpAnyT P ops Q S tail fuel (listed.setIfInBounds i true) a' w') a w
def wpMix (P : Program) (ops : Array Oper) (S : World → Prop) (Q : Exit → Act → World → Prop) (R : Act → World → Prop) : List (Nat × Bool × Oper) → Act → World → Prop
 | [], a, w => R a w
 | (i, true, o) :: rest, a, w => ops[i]? = some o → ∃ v, YieldsIf P ops S o v a ∧ wpMix P ops S Q R rest (a.put o.dst v) w
 | (i, false, o) :: rest, a, w => ops[i]? = some o → wpOp P ops Q i (fun a' w' => S w' ∧ (S w' → wpMix P ops S Q R rest a' w')) a w
def planned (ops : List Oper) (plan : List (Nat × Bool)) : List (Nat × Bool × Oper) := plan.filterMap fun x => (ops[x.1]?).map fun o => (x.1, x.2, o)
def tailed (ops : List Oper) (tail : List Nat) : List Oper := tail.filterMap fun i => ops[i]?
section
variable {P : Program} {S : World → Prop} {Q : Exit → Act → World → Prop} {tail : List Nat}
theorem any_of_anyT {ops : Array Oper} : ∀ (fuel : Nat) (listed : Array Bool) (a : Act) (w : World), wpAnyT P ops Q S tail fuel listed a w → wpAny P .any ops Q fuel listed a w
 | 0, _, _, _, h => h
 | fuel + 1, _, _, _, h => ⟨h.1, fun i hi => wpOp_mono (fun a' w' h' => any_of_anyT fuel _ a' w' h'.2) (h.2 i hi)⟩
theorem anyT_done {ops : Array Oper} {listed : Array Bool} {a : Act} {w : World} (hr : Region.ready .any ops listed = []) (h : Q .normal a w) : ∀ fuel, wpAnyT P ops Q S tail fuel listed a w
 | 0 => ⟨hr, h⟩
 | _ + 1 => ⟨fun _ => h, by rw [hr]; simp⟩
theorem anyT_only {ops : Array Oper} {fuel i : Nat} {listed : Array Bool} {a : Act} {w : World} (hr : Region.ready .any ops listed = [i])
  (h : wpOp P ops Q i (fun a' w' => (i ∉ tail → S w') ∧ wpAnyT P ops Q S tail fuel (listed.setIfInBounds i true) a' w') a w) : wpAnyT P ops Q S tail (fuel + 1) listed a w :=
 ⟨fun h0 => (by rw [hr] at h0; cases h0), fun j hj => by
  rw [hr] at hj
  obtain rfl : j = i := by simpa using hj
  exact h⟩
theorem anyT_take {ops : Array Oper} {i : Nat} {oi : Oper} {v : Value} (hi : ops[i]? = some oi) (hs : Region.noSelect ops = true) (hw : waitsAll ops tail = true) (hit : i ∉ tail)
  (hQ : ∀ c a d v w, Q (.panic c) (Act.put a d v) w → Q (.panic c) a w) :
  ∀ (fuel : Nat) (listed : Array Bool) (a : Act) (w : World),
   (∀ j oj, ops[j]? = some oj → j ≠ i → listed.getD j true = false → (∀ e ∈ oj.after, Region.binds .any e = true → e.on ≠ i) → oi.apart ops oj = true) →
   i ∈ Region.ready .any ops listed → YieldsIf P ops S oi v a → S w → wpAnyT P ops Q S tail fuel (listed.setIfInBounds i true) (a.put oi.dst v) w → wpAnyT P ops Q S tail (fuel + 1) listed a w := by
 intro fuel
 induction fuel with
 | zero =>
  intro listed a w _ hr hy hS H
  refine ⟨fun h0 => (by rw [h0] at hr; cases hr), fun j hj => ?_⟩
  by_cases hne : j = i
  ·subst hne
   exact hy.wpOp hi hS ⟨fun _ => hS, H⟩
  ·have hmem := ready_mono hj hne
   rw [H.1] at hmem
   cases hmem
 | succ n ih =>
  intro listed a w hfree hr hy hS H
  refine ⟨fun h0 => (by rw [h0] at hr; cases hr), fun j hj => ?_⟩
  by_cases hne : j = i
  ·subst hne
   exact hy.wpOp hi hS ⟨fun _ => hS, H⟩
  obtain ⟨hun, oj, hoj, hdeps⟩ := mem_ready.1 hj
  have hiu : listed.getD i true = false := (mem_ready.1 hr).1
  have hif : listed.getD i false = false := by
   rcases Nat.lt_or_ge i listed.size with hlt | hge
   ·simpa [hlt] using hiu
   ·simp [Array.getElem?_eq_none hge] at hiu
  have hdoes : ∀ e ∈ oj.after, Region.binds .any e = true → e.on ≠ i := fun e he hb heq => by
   have := hdeps e he hb
   rw [heq, hif] at this
   cases this
  have hjt : j ∉ tail := fun hjt => by
   have h1 := List.all_eq_true.1 hw j hjt
   have hlt : i < ops.size := (Array.getElem?_eq_some_iff.1 hi).1
   have h2 := List.all_eq_true.1 h1 i (List.mem_range.2 hlt)
   have h3 : tail.contains i = false := by simpa using hit
   rw [h3, hoj] at h2
   simp only [Bool.false_or, Option.map_some, Option.getD_some] at h2
   obtain ⟨e, he, hb⟩ := Array.any_eq_true'.1 h2
   simp only [Bool.and_eq_true, beq_iff_eq] at hb
   exact hdoes e he hb.1 hb.2
  have step := wpOp_putIf hoj (hfree j oj hoj hne hun hdoes) (fun cs b => Region.noSelect_spec hs i oi cs b hi) (fun cs b => Region.noSelect_spec hs j oj cs b hoj) (fun c a w hq => hQ c a _ _ w hq) hy (H.2 j (ready_mono hj hne))
  refine wpOp_mono (fun a' w' ⟨hy', hS', hW⟩ => ⟨hS', ih (listed.setIfInBounds j true) a' w' ?_ (ready_mono hr (Ne.symm hne)) hy' (hS' hjt) ?_⟩) step
  ·intro k ok hk hki hku hno
   refine hfree k ok hk hki ?_ hno
   by_cases hjk : j = k
   ·rw [← hjk]; exact hun
   ·rwa [getD_set_ne true hjk] at hku
  ·rw [Array.setIfInBounds_comm _ _ hne]
   exact hW
theorem anyT_tail {ops : List Oper} : ∀ (t : List Nat) (fuel : Nat) (listed : Array Bool) (a : Act) (w : World), tailOk ops.toArray tail t listed = true → t.length ≤ fuel → (∀ i ∈ t, i ∈ tail) →
  wpList P ops.toArray Q (tailed ops t) a w → wpAnyT P ops.toArray Q S tail fuel listed a w
 | [], fuel, listed, a, w, hok, _, _, h => anyT_done (by simpa [tailOk] using hok) h fuel
 | i :: t, 0, _, _, _, _, hf, _, _ => absurd hf (by simp)
 | i :: t, fuel + 1, listed, a, w, hok, hf, ht, h => by
  simp only [tailOk, Bool.and_eq_true, beq_iff_eq] at hok
  obtain ⟨_, o, ho, _⟩ := mem_ready.1 (show i ∈ Region.ready .any ops.toArray listed by rw [hok.1]; simp)
  have hl : ops[i]? = some o := by simpa using ho
  have hc : tailed ops (i :: t) = o :: tailed ops t := by simp [tailed, hl]
  rw [hc] at h
  refine anyT_only hok.1 ?_
  have hK : ∀ a' w', wpList P ops.toArray Q (tailed ops t) a' w' → (i ∉ tail → S w') ∧ wpAnyT P ops.toArray Q S tail fuel (listed.setIfInBounds i true) a' w' :=
   fun a' w' h' => ⟨fun hn => absurd (ht i (by simp)) hn, anyT_tail t fuel _ a' w' hok.2 (by simpa using hf) (fun j hj => ht j (List.mem_cons_of_mem _ hj)) h'⟩
  refine wpOp_mono hK ?_
  unfold wpOp
  rw [ho]
  exact h
theorem anyT_of_mix {ops : List Oper} (hs : Region.noSelect ops.toArray = true) (hw : waitsAll ops.toArray tail = true) (hQ : ∀ c a d v w, Q (.panic c) (Act.put a d v) w → Q (.panic c) a w) :
  ∀ (plan : List (Nat × Bool)) (fuel : Nat) (listed : Array Bool) (a : Act) (w : World), mixOk ops.toArray tail plan listed = true → plan.length + tail.length ≤ fuel → S w →
   wpMix P ops.toArray S Q (wpList P ops.toArray Q (tailed ops tail)) (planned ops plan) a w → wpAnyT P ops.toArray Q S tail fuel listed a w
 | [], fuel, listed, a, w, hok, hf, _, h => anyT_tail tail fuel listed a w hok (by simpa using hf) (fun _ hi => hi) h
 | (i, s) :: rest, 0, listed, a, w, _, hf, _, _ => absurd hf (by simp)
 | (i, s) :: rest, fuel + 1, listed, a, w, hok, hf, hS, h => by
  simp only [mixOk, Bool.and_eq_true, Bool.not_eq_true'] at hok
  obtain ⟨⟨⟨ht, hr⟩, hk⟩, hok'⟩ := hok
  have hlen : rest.length + tail.length ≤ fuel := by simp at hf; omega
  have hri : i ∈ Region.ready .any ops.toArray listed := by simpa using hr
  obtain ⟨_, o, ho, _⟩ := mem_ready.1 hri
  have hl : ops[i]? = some o := by simpa using ho
  have hit : i ∉ tail := by simpa using ht
  have hp : planned ops ((i, s) :: rest) = (i, s, o) :: planned ops rest := by simp [planned, hl]
  rw [hp] at h
  cases s with
  | true =>
   obtain ⟨v, hy, h'⟩ := h ho
   exact anyT_take ho hs hw hit hQ fuel listed a w (Region.free_spec ho hk) hri hy hS (anyT_of_mix hs hw hQ rest fuel _ _ w hok' hlen hS h')
  | false =>
   have he : Region.ready .any ops.toArray listed = [i] := by simpa using hk
   exact anyT_only he (wpOp_mono (fun a' w' ⟨hS', hW⟩ => ⟨fun _ => hS', anyT_of_mix hs hw hQ rest fuel _ a' w' hok' hlen hS' (hW hS')⟩) (h ho))
theorem wp_region_mix {id : Nat} {ops : List Oper} {a : Act} {w : World} (plan : List (Nat × Bool)) (tail : List Nat) (S : World → Prop) (hm : P.follows .mixedOrders = true) (hs : Region.noSelect ops.toArray = true)
  (hw : waitsAll ops.toArray tail = true) (hok : mixOk ops.toArray tail plan (Array.replicate ops.length false) = true) (hlen : plan.length + tail.length ≤ ops.length) (hS : S w.drew)
  (h : S w.drew → wpMix P ops.toArray S (NoPanic Q) (wpList P ops.toArray (NoPanic Q) (tailed ops tail)) (planned ops plan) a w.drew) : (Code.region id ops.toArray true).wp P Q a w := by
 refine wp_region_noPanic ?_
 refine wp_region_any hm (any_of_anyT (S := S) (tail := tail) _ _ _ _ ?_)
 have := anyT_of_mix (P := P) (S := S) (Q := NoPanic Q) hs hw (fun _ _ _ _ _ h => h) plan ops.length (Array.replicate ops.length false) a w.drew hok hlen hS (h hS)
 simpa using this
variable {R : Act → World → Prop}
variable {ops : Array Oper} {a : Act} {w : World} {i : Nat} {o : Oper} {rest : List (Nat × Bool × Oper)}
theorem mix_nil (h : R a w) : wpMix P ops S Q R [] a w := h
theorem mix_skip (hw : Region.wanted o (yielded ops a.tmps) = false) (h : wpMix P ops S Q R rest (a.put o.dst undef) w) : wpMix P ops S Q R ((i, true, o) :: rest) a w :=
 fun _ => ⟨undef, .inr ⟨hw, rfl⟩, h⟩
theorem mix_take (hw : Region.wanted o (yielded ops a.tmps) = true) (h : ∃ v, (∀ w', S w' → (execOp a.eval o).run P w' = .ok (.value v) w') ∧ wpMix P ops S Q R rest (a.put o.dst v) w) :
  wpMix P ops S Q R ((i, true, o) :: rest) a w :=
 fun _ => let ⟨v, hy, h⟩ := h; ⟨v, .inl ⟨hw, hy⟩, h⟩
theorem mix_pass (hS : S w) (hw : Region.wanted o (yielded ops a.tmps) = false) (h : wpMix P ops S Q R rest (a.put o.dst undef) w) : wpMix P ops S Q R ((i, false, o) :: rest) a w := fun ho => by
 unfold wpOp
 rw [ho]
 simp only [hw]
 exact ⟨hS, fun _ => h⟩
theorem mix_move (hw : Region.wanted o (yielded ops a.tmps) = true) (h : ∀ K : Act → World → Prop, Shut (∀ a w, S w → (S w → wpMix P ops S Q R rest a w) → K a w) → o.wp P a w K Q) :
  wpMix P ops S Q R ((i, false, o) :: rest) a w := fun ho => by
 refine wpOp_step ho (fun K hK => ?_)
 rw [if_pos hw]
 exact h K (fun a w hS hW => hK a w ⟨hS, hW⟩)
end
def isV : Op → Bool
 | .move _ | .assign _ | .pick .. | .binOp .. | .unOp .. | .convert .. | .fieldAddr .. | .field .. | .indexAddr .. | .index .. | .slice .. | .extract .. | .build .. => true
 | .call { callee := .builtin b, .. } => match b with | .len | .cap | .min | .max => true | _ => false
 | _ => false
section
variable {P : Program} {S : World → Prop} {Q : Exit → Act → World → Prop} {R : Act → World → Prop} {ops : Array Oper} {a : Act} {w : World} {i : Nat} {o : Oper} {rest : List (Nat × Bool × Oper)}
end
structure SB (base : Nat) (we : World) (B : Nat) (row : Option Nat) (w0 w' : World) : Prop where
 cell : ∀ b o, b < B → some b ≠ row → w'.cell? ⟨b, o, none⟩ = w0.cell? ⟨b, o, none⟩
 frozen : ∀ b o, b < B → some b ≠ row → w'.frozen? ⟨b, o, none⟩ = w0.frozen? ⟨b, o, none⟩
 size : B ≤ w'.heap.size
 below : Below base we w'
section
variable {base B : Nat} {we w0 w1 w2 : World} {row : Option Nat}
theorem SB.start (hb : Below base we w0) (hB : B ≤ w0.heap.size) : SB base we B row w0 w0.drew := ⟨fun _ _ _ _ => rfl, fun _ _ _ _ => rfl, hB, hb.drew⟩
theorem SB.step (h : SB base we B row w0 w1) (hx : Below w1.heap.size w1 w2) (hB : base ≤ B) : SB base we B row w0 w2 :=
 ⟨fun b o hb hr => ((bcell hx).1 b o (Nat.lt_of_lt_of_le hb h.size)).trans (h.cell b o hb hr), fun b o hb hr => ((bcell hx).2 b o (Nat.lt_of_lt_of_le hb h.size)).trans (h.frozen b o hb hr),
  Nat.le_trans h.size hx.size, h.below.trans (hx.mono (Nat.le_trans hB h.size))⟩
theorem SB.alloc (h : SB base we B row w0 w1) (o : Obj) (hB : base ≤ B) : SB base we B row w0 (w1.alloc o) := h.step ((Below.refl _ _).alloc (Nat.le_refl _) o) hB
end
end
section
open Go.RowKit
theorem append_keeps {P : Program} (w : World) (base : Nat) (t ty e : TypeId) (i : TypeInfo) (z : Value) (size bytes : Nat) (ht : P.underlying t = some (.slice e)) (hi : P.info? e = some i) (hz : i.zero = some z)
  (hsize : i.size = size) (hby : i.bytes = bytes)
  (g n cap : Nat) (xs : List Value) (hown : w.ownsRow base e size (.slice (some ⟨g, 0, none⟩) n cap) n xs)
  (a : Addr) (m c : Nat) (news : List Value) (hl : news.length = m * size) (hnews : ∀ j u, news[j]? = some u → w.cell? (a.add j) = some u) (h1 : ∀ u ∈ news, u.oneCell' = true)
  (h63 : n + m ≤ maxLen) (hbytes : (n + m) * bytes ≤ 140737488355328) {v' : Value} {w' : World}
  (h : (Builtin.append_ #[t, t] ty #[.slice (some ⟨g, 0, none⟩) n cap, .slice (some a) m c]).run P w = .ok v' w') (hown' : w'.ownsRow base e size v' (n + m) (xs ++ news)) :
  ∀ j, j < n * size → w'.cell? ⟨g, j, none⟩ = w.cell? ⟨g, j, none⟩ := by
 intro j hj
 subst hsize
 subst hby
 simp only [maxLen] at h63
 rcases hown.2 with ⟨h0, _⟩ | ⟨g', cap', cur, h0, hbg, hg, hnc, hcm, hcs, htake⟩
 ·simp at h0
 ·simp only [Value.slice.injEq, Option.some.injEq, Addr.mk.injEq, and_true, true_and] at h0
  obtain ⟨rfl, rfl⟩ := h0
  by_cases hroom : n + m ≤ cap
  ·have hfit : n * i.size + news.length ≤ cur.size := by rw [hl, hcs, ← Nat.add_mul]; exact Nat.mul_le_mul_right _ hroom
   have hr := run_append_room (P := P) w t ty e i ht hi g n cap cur hg a m c news hl hnews h1 hroom hfit
   rw [hr] at h
   cases h
   rw [hown'.cellAt j (by rw [Nat.add_mul]; omega), hown.cellAt j hj, List.getElem?_append_left (by rw [hown.1]; exact hj)]
  ·have holds : ∀ j u, xs[j]? = some u → w.cell? ((⟨g, 0, none⟩ : Addr).add j) = some u := hown.cells (g := g) rfl
   have hr := run_append_grow (P := P) w t ty e i z ht hi hz ⟨g, 0, none⟩ n cap xs hown.1 holds a m c news hl hnews (by omega) (by omega) (growslice_fits (by omega) hbytes)
   rw [hr] at h
   cases h
   have hlt := (Array.getElem?_eq_some_iff.1 hg).1
   exact (bcell (((Below.refl w.heap.size w).drew).alloc (by simp) _)).1 g j hlt
structure SG (base : Nat) (we : World) (B : Nat) (g n : Nat) (w0 w' : World) : Prop where
 cell : ∀ b o, b < B → b ≠ g → w'.cell? ⟨b, o, none⟩ = w0.cell? ⟨b, o, none⟩
 kept : ∀ o, o < n → w'.cell? ⟨g, o, none⟩ = w0.cell? ⟨g, o, none⟩
 size : B ≤ w'.heap.size
 inB : g < B
 below : Below base we w'
section
variable {base B g n : Nat} {we w0 w1 w2 : World}
theorem SG.start (hb : Below base we w0) (hB : B ≤ w0.heap.size) (hg : g < B) : SG base we B g n w0 w0.drew := ⟨fun _ _ _ _ => rfl, fun _ _ => rfl, hB, hg, hb.drew⟩
theorem SG.step (h : SG base we B g n w0 w1) (hx : Below w1.heap.size w1 w2) (hB : base ≤ B) : SG base we B g n w0 w2 :=
 ⟨fun b o hb hr => ((bcell hx).1 b o (Nat.lt_of_lt_of_le hb h.size)).trans (h.cell b o hb hr), fun o ho => ((bcell hx).1 g o (Nat.lt_of_lt_of_le h.inB h.size)).trans (h.kept o ho),
  Nat.le_trans h.size hx.size, h.inB, h.below.trans (hx.mono (Nat.le_trans hB h.size))⟩
theorem SG.alloc (h : SG base we B g n w0 w1) (o : Obj) (hB : base ≤ B) : SG base we B g n w0 (w1.alloc o) := h.step ((Below.refl _ _).alloc (Nat.le_refl _) o) hB
end
end
section
open Go.RowKit
def cellsD : D → List D
 | .agg l => l
 | .val v => v.cells.toList.map D.val
 | d => [d]
def putD (l : List D) (o : Nat) (n : List D) : List D := l.take o ++ n ++ l.drop (o + n.length)
def dfill (place : Nat → Option (Nat × Nat)) (ds : List D) : List (Nat × D) → Option (List D)
 | [] => some ds
 | (i, d) :: rest => match place i with
  | none => none
  | some (off, size) => if (cellsD d).length = size ∧ off + size ≤ ds.length then dfill place (putD ds off (cellsD d)) rest else none
def RelC (w : World) (Pr : Prot) (cs : List Value) (ds : List D) : Prop := cs.length = ds.length ∧ ∀ (i : Nat) (v : Value) (d : D), cs[i]? = some v → ds[i]? = some d → RepD w Pr v d
section
variable {w : World} {Pr : Prot}
theorem relC_cells {v : Value} {d : D} (h : RepD w Pr v d) : RelC w Pr v.cells.toList (cellsD d) := by
 cases h with
 | val v =>
  refine ⟨by simp [cellsD], fun i u d h1 h2 => ?_⟩
  simp only [cellsD, List.getElem?_map, h1, Option.map_some, Option.some.injEq] at h2
  subst h2
  exact .val _
 | nil A c s hm =>
  refine ⟨rfl, fun i u d h1 h2 => ?_⟩
  cases i with
  | zero => simp [Value.cells, cellsD] at h1 h2; subst h1 h2; exact .nil A c s hm
  | succ i => simp [cellsD] at h2
 | list b o n c s l u hn hs hc hm hr hd =>
  refine ⟨rfl, fun i v d h1 h2 => ?_⟩
  cases i with
  | zero => simp [Value.cells, cellsD] at h1 h2; subst h1 h2; exact .list b o n c s l u hn hs hc hm hr hd
  | succ i => simp [cellsD] at h2
 | agg cs l hl hd => exact ⟨by simpa [Value.cells, cellsD] using hl, fun i v d h1 h2 => hd i v d (by simpa [Value.cells] using h1) (by simpa [cellsD] using h2)⟩
 | tup cs l hl hd =>
  refine ⟨rfl, fun i v d h1 h2 => ?_⟩
  cases i with
  | zero => simp [Value.cells, cellsD] at h1 h2; subst h1 h2; exact .tup cs l hl hd
  | succ i => simp [cellsD] at h2
 | err t u =>
  refine ⟨rfl, fun i v d h1 h2 => ?_⟩
  cases i with
  | zero => simp [Value.cells, cellsD] at h1 h2; subst h1 h2; exact .err t u
  | succ i => simp [cellsD] at h2
 | ifc t u x h =>
  refine ⟨rfl, fun i v d h1 h2 => ?_⟩
  cases i with
  | zero => simp [Value.cells, cellsD] at h1 h2; subst h1 h2; exact .ifc t u x h
  | succ i => simp [cellsD] at h2
theorem fold_put (new : List Value) : ∀ (k : Nat) (cells : Array Value) (off : Nat), off + k + new.length ≤ cells.size →
  ((new.zipIdx k).foldl (fun cs (c, j) => cs.setIfInBounds (off + j) c) cells).toList = cells.toList.take (off + k) ++ new ++ cells.toList.drop (off + k + new.length) := by
 induction new with
 | nil => intro k cells off h; simp
 | cons v new ih =>
  intro k cells off h
  simp only [List.length_cons] at h
  simp only [List.zipIdx_cons, List.foldl_cons]
  rw [ih (k + 1) _ off (by simp; omega)]
  have hlt : off + k < cells.toList.length := by simp; omega
  simp only [Array.toList_setIfInBounds]
  rw [List.take_set, List.drop_set]
  rw [if_pos (by omega)]
  have e1 : off + (k + 1) = (off + k) + 1 := by omega
  rw [e1, List.take_succ_eq_append_getElem hlt]
  rw [List.set_append_right _ _ (by simp; omega)]
  simp only [List.length_take, List.length_cons]
  rw [show min (off + k) cells.toList.length = off + k by omega, Nat.sub_self]
  simp only [List.set_cons_zero, List.append_assoc, List.singleton_append]
  congr 3
  rw [show off + k + 1 + new.length = off + k + (new.length + 1) by omega]
theorem relC_put {cs vs : List Value} {ds ns : List D} {off : Nat} (h : RelC w Pr cs ds) (hn : RelC w Pr vs ns) (hl : off + ns.length ≤ ds.length) : RelC w Pr (cs.take off ++ vs ++ cs.drop (off + vs.length)) (putD ds off ns) := by
 obtain ⟨h1, h2⟩ := h
 obtain ⟨n1, n2⟩ := hn
 refine ⟨by simp [putD]; omega, fun j u z h3 h4 => ?_⟩
 simp only [putD] at h4
 rw [List.append_assoc] at h3 h4
 by_cases hj1 : j < off
 ·rw [List.getElem?_append_left (by simp; omega), List.getElem?_take, if_pos hj1] at h3 h4
  exact h2 j u z h3 h4
 ·rw [List.getElem?_append_right (by simp; omega)] at h3 h4
  have e1 : (cs.take off).length = off := by simp; omega
  have e2 : (ds.take off).length = off := by simp; omega
  rw [e1] at h3
  rw [e2] at h4
  by_cases hj2 : j - off < ns.length
  ·rw [List.getElem?_append_left (by omega)] at h3 h4
   exact n2 _ u z h3 h4
  ·rw [List.getElem?_append_right (by omega), List.getElem?_drop] at h3 h4
   rw [n1] at h3
   exact h2 _ u z h3 h4
def RelP (w : World) (Pr : Prot) (vs : List (Nat × Value)) (ds : List (Nat × D)) : Prop := vs.length = ds.length ∧ ∀ (i : Nat) (v : Nat × Value) (d : Nat × D), vs[i]? = some v → ds[i]? = some d → v.1 = d.1 ∧ RepD w Pr v.2 d.2
theorem dfill_rep {place : Nat → Option (Nat × Nat)} : ∀ {dp : List (Nat × D)} {vp : List (Nat × Value)} {cs : Array Value} {ds ds' : List D}, RelC w Pr cs.toList ds → RelP w Pr vp dp → dfill place ds dp = some ds' →
  ∃ cs', Instr.fill place cs vp = some cs' ∧ RelC w Pr cs'.toList ds' := by
 intro dp
 induction dp with
 | nil =>
  intro vp cs ds ds' h hp hf
  have : vp = [] := List.eq_nil_of_length_eq_zero (by simpa using hp.1)
  subst this
  simp only [dfill, Option.some.injEq] at hf
  subst hf
  exact ⟨cs, rfl, h⟩
 | cons x dp ih =>
  obtain ⟨i, d⟩ := x
  intro vp cs ds ds' h hp hf
  cases vp with
  | nil => simp [RelP] at hp
  | cons y vp =>
   obtain ⟨i', v⟩ := y
   obtain ⟨e1, e2⟩ := hp.2 0 _ _ rfl rfl
   simp only at e1 e2
   subst e1
   have hp' : RelP w Pr vp dp := ⟨by simpa using hp.1, fun k a b ha hb => hp.2 (k + 1) a b (by simpa using ha) (by simpa using hb)⟩
   simp only [dfill] at hf
   cases hpl : place i' with
   | none => rw [hpl] at hf; cases hf
   | some q =>
    obtain ⟨off, size⟩ := q
    rw [hpl] at hf
    simp only at hf
    split at hf
    ·rename_i hc
     have hcell := relC_cells e2
     have hvs : v.cells.size = size := by have := hcell.1; simp at this; omega
     have hcs : cs.size = ds.length := by simpa using h.1
     have h2 : RelC w Pr ((v.cells.zipIdx.foldl (fun cs (c, j) => cs.setIfInBounds (off + j) c) cs).toList) (putD ds off (cellsD d)) := by
      have e3 := fold_put v.cells.toList 0 cs off (by simp; omega)
      have e4 : v.cells.zipIdx.foldl (fun cs (c, j) => cs.setIfInBounds (off + j) c) cs = (v.cells.toList.zipIdx 0).foldl (fun cs (c, j) => cs.setIfInBounds (off + j) c) cs := by
       rw [← Array.foldl_toList]
       simp
      rw [e4, e3]
      simp only [Nat.add_zero]
      exact relC_put h hcell (by omega)
     obtain ⟨cs', h3, h4⟩ := ih h2 hp' hf
     refine ⟨cs', ?_, h4⟩
     simp only [Instr.fill, hpl]
     rw [if_neg (by simp; omega)]
     exact h3
    ·cases hf
end
section
variable {E : Entry} {sl : Slots} {ob : Objs} {a : Act} {w : World} {Pr : Prot} {β : Nat → Value} {κ : Nat → Nat}
inductive PartsD (sl : Slots) (ob : Objs) : List (Nat × Operand) → List (Nat × D) → Prop where
 | nil : PartsD sl ob [] []
 | cons {i : Nat} {x : Operand} {xs : List (Nat × Operand)} {d : D} {ds : List (Nat × D)} (h : ToD ob (ev sl x) d) (hr : PartsD sl ob xs ds) : PartsD sl ob ((i, x) :: xs) ((i, d) :: ds)
theorem PartsD.rep (h : Good E sl ob a w Pr β κ) {xs : List (Nat × Operand)} {ds : List (Nat × D)} (hd : PartsD sl ob xs ds) : RelP w Pr (xs.map fun q => (q.1, a.eval q.2)) ds := by
 induction hd with
 | nil => exact ⟨rfl, fun i v d h => by simp at h⟩
 | @cons i x xs d ds hx hr ih =>
  refine ⟨by simpa using ih.1, fun k v q h1 h2 => ?_⟩
  cases k with
  | zero =>
   simp at h1 h2
   subst h1 h2
   exact ⟨rfl, toD_rep h hx _ (good_ev h x)⟩
  | succ k => exact ih.2 k v q (by simpa using h1) (by simpa using h2)
theorem relC_val (cs : List Value) : RelC w Pr cs (cs.map D.val) := ⟨by simp, fun i v d h1 h2 => by
 simp only [List.getElem?_map, h1, Option.map_some, Option.some.injEq] at h2
 subst h2
 exact .val _⟩
variable {d : Nat} {t T ty : TypeId} {p : String} {af : Array Edge} {g : Option (Nat × Bool)} {x y c : Operand}
theorem y_build {d : Option Nat} {z : List Value} {fs : List (Nat × Nat × Nat)} {parts : List (Nat × Operand)} {dp : List (Nat × D)} {l : List D} (hT : ti t = .st z fs) (hp : PartsD sl ob parts dp) (hl : dfill (fun i => (fs[i]?).map fun q => (q.1, q.2.1)) (z.map D.val) dp = some l) :
  Y E ⟨d, .build t parts.toArray, T, p, af, g⟩ sl ob (.d (.agg l)) := fun a w Pr β κ h => by
 obtain ⟨i, F, h1, h2, h3, h4, h5⟩ := ti_st hT
 obtain ⟨cs, hf, hc⟩ := dfill_rep (cs := z.toArray) (relC_val z) (hp.rep h) hl
 refine ⟨.agg cs, .d _ _ ?_, fun w' _ => ?_⟩
 ·have := RepD.agg cs.toList l hc.1 hc.2
  simpa using this
 ·have hpl : F.toList.mapM (fun f => (Try.prog.info? f.type).map fun i => (f.offset, i.size)) = some (fs.map fun q => (q.1, q.2.1)) := by
   have key : ∀ (F : List Field) (fs : List (Nat × Nat × Nat)), F.mapM (fun f => (Try.prog.info? f.type).map fun j => (f.offset, j.size, f.type)) = some fs → F.mapM (fun f => (Try.prog.info? f.type).map fun i => (f.offset, i.size)) = some (fs.map fun q => (q.1, q.2.1)) := by
    intro F
    induction F with
    | nil => intro fs h; simp at h; subst h; rfl
    | cons f F ih =>
     intro fs h
     rw [List.mapM_cons] at h ⊢
     cases hx : Try.prog.info? f.type with
     | none => rw [hx] at h; simp at h
     | some j =>
      rw [hx] at h
      cases hy : F.mapM (fun f => (Try.prog.info? f.type).map fun j => (f.offset, j.size, f.type)) with
      | none => rw [hy] at h; simp at h
      | some r =>
       rw [hy] at h
       simp at h
       subst h
       rw [ih r hy]
       simp
   exact key _ _ h5
  have hb : Try.prog.built t (parts.map fun q => (q.1, a.eval q.2)) = some cs := by
   simp only [Program.built, h1, h2, h4, hpl, Value.cells]
   rw [← hf]
   congr 1
   funext i
   simp
  have hr := run_build (P := Try.prog) w' t (parts.map fun q => (q.1, a.eval q.2)).toArray cs (by simpa using hb)
  have e : (parts.toArray.map fun x => (x.1, a.eval x.2)) = (parts.map fun q => (q.1, a.eval q.2)).toArray := by simp
  simp only [execOp, e, Sem.run_bind, hr]
  rfl
def chunk (s : Nat) : Nat → List D → List (List D)
 | 0, _ => []
 | n + 1, l => l.take s :: chunk s n (l.drop s)
theorem chunk_len (s : Nat) : ∀ (n : Nat) (l : List D), (chunk s n l).length = n := by
 intro n
 induction n with
 | zero => intro l; rfl
 | succ n ih => intro l; simp [chunk, ih]
theorem chunk_get (s : Nat) : ∀ (n : Nat) (l : List D) (i j : Nat) (e : List D) (d : D), (chunk s n l)[i]? = some e → e[j]? = some d → i < n ∧ j < s ∧ l[i * s + j]? = some d := by
 intro n
 induction n with
 | zero => intro l i j e d h; simp [chunk] at h
 | succ n ih =>
  intro l i j e d h1 h2
  cases i with
  | zero =>
   simp [chunk] at h1
   subst h1
   rw [List.getElem?_take] at h2
   split at h2
   ·exact ⟨by omega, by assumption, by simpa using h2⟩
   ·cases h2
  | succ i =>
   obtain ⟨h3, h4, h5⟩ := ih (l.drop s) i j e d (by simpa [chunk] using h1) h2
   rw [List.getElem?_drop] at h5
   refine ⟨by omega, h4, ?_⟩
   rw [show (i + 1) * s + j = s + (i * s + j) by rw [Nat.succ_mul]; omega]
   exact h5
theorem chunk_all (s : Nat) : ∀ (n : Nat) (l : List D), l.length = n * s → ∀ e ∈ chunk s n l, e.length = s := by
 intro n
 induction n with
 | zero => intro l _ e h; simp [chunk] at h
 | succ n ih =>
  intro l hl e h
  rw [Nat.succ_mul] at hl
  simp only [chunk, List.mem_cons] at h
  rcases h with rfl | h
  ·simp; omega
  ·exact ih (l.drop s) (by simp; omega) e h
def zerosD (es n : Nat) (ez : Value) : List D := (List.range (n * es)).map fun k => .val (ez.cells.toList.getD (k % es) undef)
theorem run_lit {parts : List (Nat × Operand)} {dp : List (Nat × D)} {l : List D} {e es eb n : Nat} {ez : Value} (h : Good E sl ob a w Pr β κ) (hT : ti t = .sl e es eb ez) (hp : PartsD sl ob parts dp) (hl : dfill (fun i => some (i * es, es)) (zerosD es n ez) dp = some l) (hn : n * es ≤ 1000) :
  ∃ cs : List Value, RelC w Pr cs l ∧ (Instr.buildSlice t n (parts.map fun q => (q.1, a.eval q.2)).toArray).run Try.prog w = .ok (.slice (some ⟨w.heap.size, 0, none⟩) n n) (w.alloc (.cells cs.toArray e)) := by
 obtain ⟨_, j, _, hu, _, hj, hz, hs, _, hzs⟩ := ti_sl hT
 have h0 : RelC w Pr ((Array.range (n * es)).map (ez.cells[· % ez.cells.size]!)).toList (zerosD es n ez) := by
  have e0 : ((Array.range (n * es)).map (ez.cells[· % ez.cells.size]!)).toList = (List.range (n * es)).map fun k => ez.cells.toList.getD (k % es) undef := by
   simp only [Array.toList_map, Array.toList_range]
   apply List.map_congr_left
   intro k hk
   have hk' : k < n * es := List.mem_range.1 hk
   have hes : 0 < es := by
    rcases Nat.eq_zero_or_pos es with h | h
    ·subst h; simp at hk'
    ·exact h
   have hlt : k % es < ez.cells.size := by rw [hzs]; exact Nat.mod_lt _ hes
   rw [hzs]
   simp only [List.getD_eq_getElem?_getD]
   rw [List.getElem?_eq_getElem (by simpa using hlt)]
   simp [getElem!_pos ez.cells (k % es) hlt]
  rw [e0]
  have := relC_val (w := w) (Pr := Pr) ((List.range (n * es)).map fun k => ez.cells.toList.getD (k % es) undef)
  simpa [zerosD, List.map_map, Function.comp_def] using this
 obtain ⟨cs, hf, hc⟩ := dfill_rep (place := fun i => some (i * es, es)) h0 (hp.rep h) hl
 refine ⟨cs.toList, hc, ?_⟩
 by_cases hpos : n * es = 0
 ·have hf0 : Instr.fill (fun i => some (i * es, es)) #[] (parts.map fun q => (q.1, a.eval q.2)) = some cs := by
   rw [hpos, show Array.range 0 = (#[] : Array Nat) from rfl] at hf
   simpa using hf
  have e1 : Array.range 0 = (#[] : Array Nat) := rfl
  simp [Instr.buildSlice, run_underlying hu, sizeOf, typeInfo, hj, hs, hpos, e1, hf0, newRow]
 ·have := run_buildSlice (P := Try.prog) w t e n (parts.map fun q => (q.1, a.eval q.2)).toArray cs j ez hu hj hz (by rw [hs]; omega) (by rw [hs]; exact hpos) (by rw [hs]; simpa using hf)
  simpa using this
end
end
end Go.Proofs.Ytgiacdhffklenaa
