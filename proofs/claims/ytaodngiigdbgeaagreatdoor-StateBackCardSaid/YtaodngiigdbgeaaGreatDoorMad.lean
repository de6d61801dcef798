/-
  Conditions: none.
-/
import Derived.Laws.Tables
import Derived.Great.BuildSlice
import Derived.Laws.CopyRow
import Derived.Test.YtaodngiigdbgeaaGreatDoorMaa
import Derived.Test.YtaodngiigdbgeaaGreatDoorMac
set_option maxHeartbeats 16000000
set_option maxRecDepth 20000
set_option linter.unusedSimpArgs false
set_option linter.unusedVariables false
namespace Go.Proofs.YtaodngiigdbgeaaGreatDoor
section
open Go.RowKit
section
variable {E : Entry} {sl : Slots} {ob : Objs} {a : Act} {w : World} {Pr : Prot} {β : Nat → Value} {κ : Nat → Nat}
theorem Kept.rep {w' : World} {v : Value} {d : D} (hk : Kept Pr β ob w w') (h : RepD w Pr v d) : RepD w' Pr v d := h.keep hk.stays (fun _ _ h => h)
theorem qA {v : Value} {s : Nat} {l : List (List D)} (h : RepD w Pr v (.list s l)) : ∃ A c, v = .slice A l.length c ∧ l.length ≤ c ∧ c ≤ maxLen := by
 cases h with
 | nil A c _ hm => exact ⟨A, c, rfl, Nat.zero_le _, hm⟩
 | list b o n c _ _ u hn hs hc hm hr hd => subst hn; exact ⟨_, c, rfl, hc, hm⟩
theorem aTn {v : Value} {s : Nat} {l : List (List D)} (h : RepD w Pr v (.list s l)) {i : Nat} {e : List D} (he : l[i]? = some e) : ∃ (b o c : Nat) (u : Nat → Value), v = .slice (some ⟨b, o, none⟩) l.length c ∧ e.length = s ∧
  ∀ (j : Nat) (d : D), e[j]? = some d → w.cell? ⟨b, o + i * s + j, none⟩ = some (u j) ∧ Pr b (o + i * s + j) ∧ RepD w Pr (u j) d := by
 cases h with
 | nil A c _ hm => simp at he
 | list b o n c _ _ u hn hs hc hm hr hd =>
  subst hn
  exact ⟨b, o, c, u i, rfl, hs e (List.mem_of_getElem? he), fun j d hj => ⟨(hr i j e d he hj).1, (hr i j e d he hj).2, hd i j e d he hj⟩⟩
variable {d : Option Nat} {t T ty : TypeId} {p : String} {af : Array Edge} {g : Option (Nat × Bool)} {x y c : Operand} {m : Int}
theorem nI {s n : Nat} {l : List (List D)} {t0 : TypeId} {A : Array TypeId} (hx : ToD ob (ev sl x) (.list s l)) (hA : A = #[t0]) (hT : ∃ e es eb ez, ti t0 = .sl e es eb ez) (hn : l.length = n) :
  Y E ⟨d, .call { callee := .builtin .len, args := #[x], argTypes := A }, T, p, af, g⟩ sl ob (.d (.val (.int .i64 n))) := fun a w Pr β κ h => by
 subst hA hn
 obtain ⟨e, es, eb, ez, hT⟩ := hT
 obtain ⟨_, _, _, hu, _⟩ := mV hT
 obtain ⟨A, c, hv, _⟩ := qA (eZ h hx _ (bO h x))
 exact ⟨_, .d _ _ (.val _), fun w' _ => by simp [execOp, hv, resolve, invoke, builtin, Builtin.len_, run_underlying hu, goInt]⟩
theorem cT {s i : Nat} {l : List (List D)} {e' : List D} {e eb : Nat} {ez : Value} {kk : IntKind} (hx : ToD ob (ev sl x) (.list s l)) (hy : ev sl y = .d (.val (.int kk m))) (hT : ti t = .sl e s eb ez) (hi : m = (i : Int)) (he : l[i]? = some e') :
  Y E ⟨d, .indexAddr t x y, T, p, af, g⟩ sl ob (.ep e' 0) := fun a w Pr β κ h => by
 subst hi
 obtain ⟨_, j, _, hu, _, hj, _, hs, _⟩ := mV hT
 obtain ⟨b, o, c, u, hv, hl, hc⟩ := aTn (eZ h hx _ (bO h x)) he
 have hlt : i < l.length := (List.getElem?_eq_some_iff.1 he).1
 refine ⟨.pointer (some ⟨b, o + i * s + 0, none⟩), .ep b (o + i * s) 0 e' u hc, fun w' _ => ?_⟩
 have hsz : (sizeOf e).run Tryz.prog w' = .ok s w' := by simp [sizeOf, typeInfo, hj, hs]
 simp [execOp, hv, bT h hy, Instr.indexAt, asIntOf, run_underlying hu, hsz, hlt, Addr.add_lit]
theorem dJ {α : Type} {l : List α} {o k : Nat} (h : o = 0) (hl : l.length = k) : (l.drop o).take k = l := by subst h hl; simp
theorem bC {α β : Type} {f : α → β} {l : List α} {i : Nat} (h : i < l.length) : (l.map f)[i]? = some (f l[i]) := by simp [h]
theorem aIp (m : Int) (h : 0 ≤ m) : m = (m.toNat : Int) := by omega
theorem eP {l : List D} {o : Nat} {z : D} (hx : ev sl x = .ep l o) (hz : l[o]? = some z) (hT : isOne (ti t) = true) : Y E ⟨d, .load t x, T, p, af, g⟩ sl ob (.d z) := fun a w Pr β κ h => by
 have hv := bO h x
 rw [hx] at hv
 generalize hav : a.eval x = v at hv
 cases hv with
 | ep b q _ _ u hr =>
  obtain ⟨h1, h2, h3⟩ := hr o z hz
  exact ⟨u o, .d _ _ h3, fun w' hk => by
   have := lG (t := t) w' hT ((hk.stays _ _ h2).trans h1)
   simp [execOp, hav, this]⟩
theorem bZ {l l' : List D} {o k : Nat} (hx : ev sl x = .ep l o) (hT : aggK (ti t) = some k) (hl : (l.drop o).take k = l') (hk : l'.length = k) : Y E ⟨d, .load t x, T, p, af, g⟩ sl ob (.d (.agg l')) := fun a w Pr β κ h => by
 have hv := bO h x
 rw [hx] at hv
 generalize hav : a.eval x = v at hv
 cases hv with
 | ep b q _ _ u hr =>
  have hget : ∀ (j : Nat) (z : D), l'[j]? = some z → l[o + j]? = some z := by
   intro j z hj
   rw [← hl, List.getElem?_take] at hj
   split at hj
   ·rw [List.getElem?_drop] at hj
    exact hj
   ·cases hj
  have hlt : ∀ j, j < k → ∃ z, l'[j]? = some z := fun j hj => ⟨_, List.getElem?_eq_getElem zb⟩
  let cs : List Value := (List.range k).map fun j => u (o + j)
  have hcs : cs.length = k := by simp [cs]
  have hget2 : ∀ (j : Nat) (v : Value), cs[j]? = some v → j < k ∧ v = u (o + j) := by
   intro j v hj
   have hjl : j < k := by have := (List.getElem?_eq_some_iff.1 hj).1; omega
   simp [cs, hjl] at hj
   exact ⟨hjl, hj.symm⟩
  refine ⟨.agg cs.toArray, .d _ _ (.agg cs l' zb fun j v z h1 h2 => ?_), fun w' hkept => ?_⟩
  ·obtain ⟨_, rfl⟩ := hget2 j v h1
   exact (hr _ z (hget j z h2)).2.2
  ·have := lF (t := t) w' (b := b) (o := q + o) hT hcs (fun j v hj => by
    obtain ⟨hjl, rfl⟩ := hget2 j v hj
    obtain ⟨z, hz⟩ := hlt j hjl
    obtain ⟨h1, h2, _⟩ := hr _ z (hget j z hz)
    rw [Nat.add_assoc]
    exact (hkept.stays _ _ h2).trans h1)
   simp [execOp, hav, this]
theorem wB {l : List D} {o f off n ft : Nat} {z : List Value} {fs : List (Nat × Nat × Nat)} (hx : ev sl x = .ep l o) (hT : ti t = .st z fs) (hf : fs[f]? = some (off, n + 1, ft)) : Y E ⟨d, .fieldAddr t x f, T, p, af, g⟩ sl ob (.ep l (o + off)) := fun a w Pr β κ h => by
 have hv := bO h x
 rw [hx] at hv
 generalize hav : a.eval x = v at hv
 cases hv with
 | ep b q _ _ u hr =>
  refine ⟨.pointer (some ⟨b, q + (o + off), none⟩), .ep b q (o + off) l u hr, fun w' _ => ?_⟩
  have := lZ w' (b := b) (o := q + o) hT hf
  simp [execOp, hav, this, Nat.add_assoc]
theorem aDe {i o f off n ft : Nat} {z : List Value} {fs : List (Nat × Nat × Nat)} (hx : ev sl x = .box i o) (hT : ti t = .st z fs) (hf : fs[f]? = some (off, n + 1, ft)) : Y E ⟨d, .fieldAddr t x f, T, p, af, g⟩ sl ob (.box i (o + off)) := fun a w Pr β κ h => by
 have hv := bO h x
 rw [hx] at hv
 generalize hav : a.eval x = v at hv
 cases hv with
 | box _ _ gg hb =>
  refine ⟨.pointer (some ⟨gg, o + off, none⟩), .box i (o + off) gg hb, fun w' _ => ?_⟩
  have := lZ w' (b := gg) (o := o) hT hf
  simp [execOp, hav, this]
theorem tM (h : Good E sl ob a w Pr β κ) {i o : Nat} {T : TypeId} {l : List V} (hx : ev sl x = .box i o) (hf : find ob i = some (.box T l)) :
  ∃ (b : Nat) (cs : List Value), a.eval x = .pointer (some ⟨b, o, none⟩) ∧ β i = .pointer (some ⟨b, 0, none⟩) ∧ w.heap[b]? = some (.cells cs.toArray T (0, 0)) ∧ cs.length = l.length ∧
   (∀ (j : Nat) (v : Value) (x : V), cs[j]? = some v → l[j]? = some x → RepV w Pr β κ v x) ∧ ∀ w', Kept Pr β ob w w' → ∀ j v, cs[j]? = some v → w'.cell? ⟨b, j, none⟩ = some v := by
 have hv := bO h x
 rw [hx] at hv
 generalize a.eval x = v at hv
 cases hv with
 | box _ _ b hb =>
  obtain ⟨b', cs, hb', hB, hh, hl, hv, hno⟩ := h.objs i _ hf
  rw [hb'] at hb
  simp only [Value.pointer.injEq, Option.some.injEq, Addr.mk.injEq, and_true] at hb
  subst hb
  refine ⟨b', cs, rfl, hb', hh, hl, hv, fun w' hk j v hj => ?_⟩
  have := (hk.objs i _ b' hf (by rw [hb']; rfl)).trans hh
  rw [cell_of_row w' b' j _ _ (0, 0) this]
  simpa using hj
theorem dA {i o : Nat} {T' : TypeId} {l : List V} {z : V} (hx : ev sl x = .box i o) (hf : find ob i = some (.box T' l)) (hz : l[o]? = some z) (hT : isOne (ti t) = true) : Y E ⟨d, .load t x, T, p, af, g⟩ sl ob z := fun a w Pr β κ h => by
 obtain ⟨b, cs, hav, _, _, hl, hv, hc⟩ := tM h hx hf
 have ho : o < cs.length := by rw [hl]; exact (List.getElem?_eq_some_iff.1 hz).1
 have hco : cs[o]? = some cs[o] := List.getElem?_eq_getElem ho
 exact ⟨cs[o], hv o _ z hco hz, fun w' hk => by
  have := lG (t := t) w' hT (hc w' hk o _ hco)
  simp [execOp, hav, this]⟩
def unD : List V → Option (List D)
 | [] => some []
 | .d x :: r => (unD r).map (x :: ·)
 | _ :: _ => none
theorem aUz : ∀ {l : List V} {ds : List D}, unD l = some ds → l = ds.map V.d := by
 intro l
 induction l with
 | nil => intro ds h; simp only [unD, Option.some.injEq] at h; subst h; rfl
 | cons v l ih =>
  intro ds h
  cases v <;> simp only [unD, Option.map_eq_some_iff, reduceCtorEq] at h
  obtain ⟨r, hr, rfl⟩ := h
  rw [ih hr]
  rfl
theorem dB {i o k : Nat} {T' : TypeId} {l : List V} {ds : List D} (hx : ev sl x = .box i o) (hf : find ob i = some (.box T' l)) (hT : aggK (ti t) = some k) (hl : unD ((l.drop o).take k) = some ds) (hk : ds.length = k) :
  Y E ⟨d, .load t x, T, p, af, g⟩ sl ob (.d (.agg ds)) := fun a w Pr β κ h => by
 obtain ⟨b, cs, hav, _, _, hcl, hv, hc⟩ := tM h hx hf
 have hget : ∀ (j : Nat) (z : D), ds[j]? = some z → l[o + j]? = some (.d z) := by
  intro j z hj
  have h1 : ((l.drop o).take k)[j]? = some (.d z) := by rw [aUz hl]; simp [hj]
  rw [List.getElem?_take] at h1
  split at h1
  ·rw [List.getElem?_drop] at h1
   exact h1
  ·cases h1
 have hlen : k = 0 ∨ o + k ≤ l.length := by
  by_cases hk0 : k = 0
  ·exact .inl hk0
  ·right
   have hz : ds[k - 1]? = some (ds[k - 1]'zb) := List.getElem?_eq_getElem zb
   have := (List.getElem?_eq_some_iff.1 (hget _ _ hz)).1
   omega
 have hcs : ((cs.drop o).take k).length = k := by simp; omega
 have hget2 : ∀ (j : Nat) (v : Value), ((cs.drop o).take k)[j]? = some v → j < k ∧ cs[o + j]? = some v := by
  intro j v hj
  have hjl : j < k := by have := (List.getElem?_eq_some_iff.1 hj).1; omega
  rw [List.getElem?_take, if_pos hjl, List.getElem?_drop] at hj
  exact ⟨hjl, hj⟩
 refine ⟨.agg ((cs.drop o).take k).toArray, .d _ _ (.agg _ ds zb fun j v z h1 h2 => ?_), fun w' hkept => ?_⟩
 ·exact (hv _ v _ (hget2 j v h1).2 (hget j z h2)).d_inv
 ·have := lF (t := t) w' (b := b) (o := o) hT hcs (fun j v hj => hc w' hkept _ v (hget2 j v hj).2)
  simp [execOp, hav, this]
theorem tF {i o : Nat} (hx : ev sl x = .box i o) : Y E ⟨d, .nilCheck x, T, p, af, g⟩ sl ob (.box i o) := fun a w Pr β κ h => by
 have hv := bO h x
 rw [hx] at hv
 generalize hav : a.eval x = v at hv
 cases hv with
 | box _ _ b hb => exact ⟨_, .box i o b hb, fun w' _ => by simp [execOp, hav]⟩
theorem wC {l : List D} {o : Nat} (hx : ev sl x = .ep l o) : Y E ⟨d, .nilCheck x, T, p, af, g⟩ sl ob (.ep l o) := fun a w Pr β κ h => by
 have hv := bO h x
 rw [hx] at hv
 generalize hav : a.eval x = v at hv
 cases hv with
 | ep b q _ _ u hr => exact ⟨_, .ep b q o l u hr, fun w' _ => by simp [execOp, hav]⟩
theorem aVe {l : List D} {f off ft : Nat} {z : List Value} {fs : List (Nat × Nat × Nat)} {r : D} (hx : ev sl x = .d (.agg l)) (hT : ti t = .st z fs) (hf : fs[f]? = some (off, 1, ft)) (h1 : isOne (ti ft) = true) (hr : l[off]? = some r) :
  Y E ⟨d, .field t x f, T, p, af, g⟩ sl ob (.d r) := fun a w Pr β κ h => by
 have hv := iA h hx
 generalize hav : a.eval x = v at hv
 cases hv with
 | agg cs _ hl hd =>
  obtain ⟨i, F, _, hu, _, _, h5⟩ := yI hT
  obtain ⟨q, hq, hy⟩ := aEw h5 hf
  simp only [Option.map_eq_some_iff] at hy
  obtain ⟨j, hj, he⟩ := hy
  simp only [Prod.mk.injEq] at he
  obtain ⟨rfl, he2, rfl⟩ := he
  have hq' : F[f]? = some q := by simpa using hq
  have ho : q.offset < cs.length := by rw [hl]; exact (List.getElem?_eq_some_iff.1 hr).1
  have hco : cs[q.offset]? = some cs[q.offset] := List.getElem?_eq_getElem ho
  exact ⟨cs[q.offset], .d _ _ (hd _ _ _ hco hr), fun w' _ => by simp [execOp, hav, Instr.field, run_underlying hu, hq', asAgg, part, nH w' h1, hco]⟩
theorem aRk {l : List D} {n i : Nat} {kk : IntKind} {r : D} (hx : ev sl x = .d (.agg l)) (hy : ev sl y = .d (.val (.int kk m))) {e : TypeId} {z : List Value} (hT : ti t = .ar n e 1 z) (h1 : isOne (ti e) = true) (hi : m = (i : Int)) (hin : i < n) (hr : l[i]? = some r) :
  Y E ⟨d, .index t x y, T, p, af, g⟩ sl ob (.d r) := fun a w Pr β κ h => by
 subst hi
 have hv := iA h hx
 generalize hav : a.eval x = v at hv
 cases hv with
 | agg cs _ hl hd =>
  obtain ⟨_, _, _, hu, _⟩ := aGb hT
  have ho : i < cs.length := by rw [hl]; exact (List.getElem?_eq_some_iff.1 hr).1
  have hco : cs[i]? = some cs[i] := List.getElem?_eq_getElem ho
  exact ⟨cs[i], .d _ _ (hd _ _ _ hco hr), fun w' _ => by simp [execOp, hav, bT h hy, Instr.index, asIntOf, run_underlying hu, hin, mA w' h1, part, nH w' h1, hco]⟩
theorem gB {l : List D} {k gl : Nat} (hE : Fine E) (hm : (gl, l) ∈ laidG) (hT : aggK (ti t) = some k) (hl : l.length = k) : Y E ⟨d, .load t (.global gl), T, p, af, g⟩ sl ob (.d (.agg l)) := fun a w Pr β κ h => by
 have henv := (jQ hE h gl l hm).1
 have hu : ∀ j, ∃ u, ∀ z, l[j]? = some z → w.cell? ⟨gl, j, none⟩ = some u ∧ Pr gl j ∧ RepD w Pr u z := by
  intro j
  cases hz : l[j]? with
  | none => exact ⟨undef, fun z h => by cases h⟩
  | some z =>
   obtain ⟨u, hu⟩ := henv j z hz
   exact ⟨u, fun z' h => by cases h; exact hu⟩
 let cs : List Value := (List.range k).map fun j => Classical.choose (hu j)
 have hcs : cs.length = k := by simp [cs]
 have hget2 : ∀ (j : Nat) (v : Value), cs[j]? = some v → j < k ∧ v = Classical.choose (hu j) := by
  intro j v hj
  have hjl : j < k := by have := (List.getElem?_eq_some_iff.1 hj).1; omega
  simp [cs, hjl] at hj
  exact ⟨hjl, hj.symm⟩
 refine ⟨.agg cs.toArray, .d _ _ (.agg cs l zb fun j v z h1 h2 => ?_), fun w' hkept => ?_⟩
 ·obtain ⟨_, rfl⟩ := hget2 j v h1
  exact (Classical.choose_spec (hu j) z h2).2.2
 ·have := lF (t := t) w' (b := gl) (o := 0) hT hcs (fun j v hj => by
   obtain ⟨hjl, rfl⟩ := hget2 j v hj
   have hz : l[j]? = some (l[j]'zb) := List.getElem?_eq_getElem zb
   obtain ⟨h1, h2, _⟩ := Classical.choose_spec (hu j) _ hz
   rw [Nat.zero_add]
   exact (hkept.stays _ _ h2).trans h1)
  simp [execOp, Act.eval, this]
end
end
section
open Go.RowKit
def cellsV : V → List V
 | .d (.agg l) => l.map V.d
 | .agg l => l
 | .d (.val v) => v.cells.toList.map fun u => .d (.val u)
 | v => [v]
def V.one : V → Bool
 | .d (.val v) => v.oneCell'
 | .d (.list ..) => true
 | .d .err => true
 | .d (.ifc ..) => true
 | .d _ => false
 | .und => false
 | .agg _ => false
 | .tup _ => false
 | _ => true
theorem sJ {w : World} {Pr : Prot} {β : Nat → Value} {κ : Nat → Nat} {v : Value} {x : V} (h : RepV w Pr β κ v x) (h1 : x.one = true) : v.oneCell' = true := by
 cases h with
 | und v => cases h1
 | d v x h =>
  cases h with
  | val v => exact h1
  | nil A c s hm => rfl
  | list b o n c s l u hn hs hc hm hr hd => rfl
  | agg cs l hl hd => cases h1
  | tup cs l hl hd => cases h1
  | err t u => rfl
  | ifc t u x h => rfl
 | ep b p o l u hr => rfl
 | box i o g h => rfl
 | sl i o n c g h hc hm hz => rfl
 | mp i g h => rfl
 | row i k v hs hk h => obtain ⟨A, n, c, rfl⟩ := hs; rfl
 | vp i k o v hs hk h => obtain ⟨x, rfl⟩ := hs; rfl
 | agg cs l hl hd => cases h1
 | clo f cs l hl hd => rfl
 | mv f cs l hl hd => rfl
 | tup cs l hl hd => cases h1
section
variable {E : Entry} {sl : Slots} {ob : Objs} {a : Act} {w : World} {Pr : Prot} {β : Nat → Value} {κ : Nat → Nat}
theorem zJ {v : Value} {x : V} (h : RepV w Pr β κ v x) (hu : x ≠ .und) : v.cells.toList.length = (cellsV x).length ∧ ∀ (i : Nat) (u : Value) (y : V), v.cells.toList[i]? = some u → (cellsV x)[i]? = some y → RepV w Pr β κ u y := by
 have single : ∀ {v : Value} {x : V}, RepV w Pr β κ v x → v.cells = #[v] → v.cells.toList.length = [x].length ∧ ∀ (i : Nat) (u : Value) (y : V), v.cells.toList[i]? = some u → ([x] : List V)[i]? = some y → RepV w Pr β κ u y := by
  intro v x h hc
  rw [hc]
  refine ⟨rfl, fun i u y h1 h2 => ?_⟩
  cases i with
  | zero => simp at h1 h2; subst h1 h2; exact h
  | succ i => simp at h1
 cases h with
 | und v => exact absurd rfl hu
 | d v x h =>
  cases h with
  | val v =>
   refine ⟨by simp [cellsV], fun i u y h1 h2 => ?_⟩
   simp only [cellsV, List.getElem?_map, Option.map_eq_some_iff] at h2
   obtain ⟨u', h3, rfl⟩ := h2
   rw [h1] at h3
   cases h3
   exact .d _ _ (.val _)
  | nil A c s hm => exact single (.d _ _ (.nil A c s hm)) rfl
  | list b o n c s l u hn hs hc hm hr hd => exact single (.d _ _ (.list b o n c s l u hn hs hc hm hr hd)) rfl
  | agg cs l hl hd =>
   refine ⟨by simp [cellsV, Value.cells, hl], fun i u y h1 h2 => ?_⟩
   simp only [cellsV, List.getElem?_map, Option.map_eq_some_iff] at h2
   obtain ⟨u', h3, rfl⟩ := h2
   exact .d _ _ (hd i u u' (by simpa [Value.cells] using h1) h3)
  | tup cs l hl hd => exact single (.d _ _ (.tup cs l hl hd)) rfl
  | err t u => exact single (.d _ _ (.err t u)) rfl
  | ifc t u x h => exact single (.d _ _ (.ifc t u x h)) rfl
 | ep b p o l u hr => exact single (.ep b p o l u hr) rfl
 | box i o g h => exact single (.box i o g h) rfl
 | sl i o n c g h hc hm hz => exact single (.sl i o n c g h hc hm hz) rfl
 | mp i g h => exact single (.mp i g h) rfl
 | row i k v hs hk h =>
  obtain ⟨A, n, c, rfl⟩ := hs
  exact single (.row i k _ ⟨A, n, c, rfl⟩ hk h) rfl
 | vp i k o v hs hk h =>
  obtain ⟨x, rfl⟩ := hs
  exact single (.vp i k o _ ⟨x, rfl⟩ hk h) rfl
 | agg cs l hl hd =>
  refine ⟨by simp [cellsV, Value.cells, hl], fun i u y h1 h2 => hd i u y (by simpa [Value.cells] using h1) (by simpa [cellsV] using h2)⟩
 | clo f cs l hl hd => exact single (.clo f cs l hl hd) rfl
 | mv f cs l hl hd => exact single (.mv f cs l hl hd) rfl
 | tup cs l hl hd => exact single (.tup cs l hl hd) rfl
theorem cS {i j : Nat} {o : O} {x : O} (hi : j ≠ i) (h : find ((i, o) :: ob) j = some x) : find ob j = some x := by rwa [cE hi] at h
theorem jM {d : Nat} (h : noneOf d sl ob = true) (i : Nat) : (look sl i).has d = false := by
 simp only [noneOf, Bool.and_eq_true] at h
 have : ∀ (l : Slots), (l.all fun p => !p.2.has d) = true → ∀ i, (look l i).has d = false := by
  intro l
  induction l with
  | nil => intro _ i; rfl
  | cons p l ih =>
   intro hl i
   simp only [List.all_cons, Bool.and_eq_true, Bool.not_eq_true'] at hl
   by_cases hi : i = p.1
   ·subst hi
    rw [show (p :: l) = (p.1, p.2) :: l from rfl, iK]
    exact hl.1
   ·rw [show (p :: l) = (p.1, p.2) :: l from rfl, jS hi]
    exact ih hl.2 i
 exact this sl h.1 i
theorem iE {d : Nat} (h : noneOf d sl ob = true) {i : Nat} {o : O} (ho : find ob i = some o) : o.has d = false := by
 simp only [noneOf, Bool.and_eq_true] at h
 have : ∀ (l : Objs), (l.all fun p => !p.2.has d) = true → ∀ i o, find l i = some o → o.has d = false := by
  intro l
  induction l with
  | nil => intro _ i o h; cases h
  | cons p l ih =>
   intro hl i o hf
   simp only [List.all_cons, Bool.and_eq_true, Bool.not_eq_true'] at hl
   by_cases hi : i = p.1
   ·subst hi
    rw [show (p :: l) = (p.1, p.2) :: l from rfl, cN] at hf
    cases hf
    exact hl.1
   ·rw [show (p :: l) = (p.1, p.2) :: l from rfl, cE hi] at hf
    exact ih hl.2 i o hf
 exact this ob h.2 i o ho
theorem RepO.other {B i d : Nat} {o : O} {β' : Nat → Value} {κ' : Nat → Nat} (h : RepO w Pr B β κ i o) (ho : o.has d = false) (hi : i ≠ d) (hβ : ∀ j, j ≠ d → β' j = β j) (hκ : ∀ j, j ≠ d → κ' j = κ j) : RepO w Pr B β' κ' i o := by
 cases o with
 | box T l =>
  obtain ⟨g, cs, h1, h2, h3, h4, h5, h6⟩ := h
  exact ⟨g, cs, (hβ i hi).trans h1, h2, h3, h4, fun j v x hj hx => (h5 j v x hj hx).other (gJ ho hx) hβ hκ, h6⟩
 | row e s k l =>
  obtain ⟨h1, xs, h2, h3, h4, h5⟩ := h
  exact ⟨(hκ i hi).trans h1, xs, by rw [hβ i hi]; exact h2, h3, h4, by rw [hβ i hi]; exact h5⟩
 | vec e s k l =>
  obtain ⟨h1, xs, h2, h3, h4, h5⟩ := h
  exact ⟨(hκ i hi).trans h1, xs, by rw [hβ i hi]; exact h2, h3, h4, by rw [hβ i hi]; exact h5⟩
 | byt e k l =>
  obtain ⟨h1, g, cap, cur, fz, h2, h3⟩ := h
  exact ⟨(hκ i hi).trans h1, g, cap, cur, fz, (hβ i hi).trans h2, h3⟩
 | map T c l =>
  obtain ⟨g, es, h1, h2⟩ := h
  exact ⟨g, es, (hβ i hi).trans h1, h2⟩
 | iter v s n c =>
  obtain ⟨g, gm, h1, h2, h3, h4, h5⟩ := h
  exact ⟨g, gm, (hβ i hi).trans h1, h2, h3, h4.other ho hβ hκ, h5⟩
def updV (β : Nat → Value) (d : Nat) (v : Value) : Nat → Value := fun i => if i = d then v else β i
def updN (κ : Nat → Nat) (d k : Nat) : Nat → Nat := fun i => if i = d then k else κ i
theorem eL (β : Nat → Value) (d : Nat) (v : Value) : updV β d v d = v := by simp [updV]
theorem cL (β : Nat → Value) (d : Nat) (v : Value) : ∀ j, j ≠ d → updV β d v j = β j := fun j hj => by simp [updV, hj]
theorem fA (κ : Nat → Nat) (d k : Nat) : updN κ d k d = k := by simp [updN]
theorem fM (κ : Nat → Nat) (d k : Nat) : ∀ j, j ≠ d → updN κ d k j = κ j := fun j hj => by simp [updN, hj]
theorem Good.newobjG (h : Good E sl ob a w Pr β κ) {d : Nat} (hd : d < E.n) (hno : noneOf d sl ob = true) {w' : World} {Pr' : Prot} {v : Value} {o : O} {x : V}
  (hx : Below w.heap.size w w') (hp : ∀ b o, Pr b o → Pr' b o) (hn : ∀ b o, Pr' b o → Pr b o ∨ (w.heap.size ≤ b ∧ b < w'.heap.size)) (hb : ∀ g, blk v = some g → w.heap.size ≤ g)
  (ho : ∀ β' : Nat → Value, ∀ κ' : Nat → Nat, β' d = v → κ' d = 0 → (∀ j, j ≠ d → β' j = β j) → (∀ j, j ≠ d → κ' j = κ j) → RepO w' Pr' 0 β' κ' d o) {u : Value}
  (hv : ∀ β' : Nat → Value, ∀ κ' : Nat → Nat, β' d = v → κ' d = 0 → (∀ j, j ≠ d → β' j = β j) → (∀ j, j ≠ d → κ' j = κ j) → RepV w' Pr' β' κ' u x) :
  Good E ((d, x) :: sl) ((d, o) :: ob) (a.put (some d) u) w' Pr' (updV β d v) (updN κ d 0) := by
 have h1 := h.grow hx hp hn
 generalize hβ' : updV β d v = β'
 generalize hκ' : updN κ d 0 = κ'
 have e1 : β' d = v := by rw [← hβ', eL]
 have e2 : κ' d = 0 := by rw [← hκ', fA]
 have e3 : ∀ j, j ≠ d → β' j = β j := by rw [← hβ']; exact cL β d v
 have e4 : ∀ j, j ≠ d → κ' j = κ j := by rw [← hκ']; exact fM κ d 0
 have hcl : ∀ i oi, find ((d, o) :: ob) i = some oi → i ≠ d → find ob i = some oi := fun i oi hi hne => cS hne hi
 have hE := h.below.size
 have hfr : ∀ i o, find E.ob0 i = some o → i ≠ d := fun i o hi e => by have := h.fresh i o hi; omega
 refine Good.put ⟨h1.below, h1.st0, h1.pr0, h1.prn, h1.prl, h1.size, h1.defers, fun i => (h1.slots i).other (jM hno i) e3 e4, fun i oi hi => ?_, fun i j oi oj g hi hj hgi hgj => ?_, fun i oi g hi hg => ?_, fun i o hi => ?_, h.fresh⟩ hd (hv β' κ' e1 e2 e3 e4)
 rotate_right 2
 ·by_cases hid : i = d
  ·rw [hid, e1] at hg
   exact .inr (by have := hb g hg; omega)
  ·rw [e3 i hid] at hg
   exact h.own i oi g (hcl i oi hi hid) hg
 ·rw [e3 i (hfr i o hi), e4 i (hfr i o hi)]
  exact h.keeps i o hi
 ·by_cases hid : i = d
  ·subst hid
   rw [cN] at hi
   cases hi
   exact ho β' κ' e1 e2 e3 e4
  ·have hi' := hcl i oi hi hid
   exact (h1.objs i oi hi').other (iE hno hi') hid e3 e4
 ·have old : ∀ i oi g, i ≠ d → find ((d, o) :: ob) i = some oi → blk (β' i) = some g → g < w.heap.size ∧ find ob i = some oi ∧ blk (β i) = some g := by
   intro i oi g hne hi hg
   have hi' := hcl i oi hi hne
   rw [e3 i hne] at hg
   exact ⟨((h.objs i oi hi').blkLt g hg).2, hi', hg⟩
  by_cases hid : i = d
  ·by_cases hjd : j = d
   ·rw [hid, hjd]
   ·obtain ⟨h3, _⟩ := old j oj g hjd hj hgj
    rw [hid, e1] at hgi
    have := hb g hgi
    omega
  ·by_cases hjd : j = d
   ·obtain ⟨h3, _⟩ := old i oi g hid hi hgi
    rw [hjd, e1] at hgj
    have := hb g hgj
    omega
   ·obtain ⟨_, h4, h5⟩ := old i oi g hid hi hgi
    obtain ⟨_, h6, h7⟩ := old j oj g hjd hj hgj
    exact h.apart i j oi oj g h4 h6 h5 h7
theorem Good.newobj (h : Good E sl ob a w Pr β κ) {d : Nat} (hd : d < E.n) (hno : noneOf d sl ob = true) {w' : World} {Pr' : Prot} {v : Value} {o : O} {x : V}
  (hx : Below w.heap.size w w') (hp : ∀ b o, Pr b o → Pr' b o) (hn : ∀ b o, Pr' b o → Pr b o ∨ (w.heap.size ≤ b ∧ b < w'.heap.size)) (hb : ∀ g, blk v = some g → w.heap.size ≤ g)
  (ho : ∀ β' : Nat → Value, ∀ κ' : Nat → Nat, β' d = v → κ' d = 0 → (∀ j, j ≠ d → β' j = β j) → (∀ j, j ≠ d → κ' j = κ j) → RepO w' Pr' 0 β' κ' d o) {u : Value}
  (hv : ∀ β' : Nat → Value, ∀ κ' : Nat → Nat, β' d = v → κ' d = 0 → (∀ j, j ≠ d → β' j = β j) → (∀ j, j ≠ d → κ' j = κ j) → RepV w' Pr' β' κ' u x) :
  Inv E ((d, x) :: sl) ((d, o) :: ob) (a.put (some d) u) w' := ⟨_, _, _, h.newobjG hd hno hx hp hn hb ho hv⟩
theorem Good.newbox (h : Good E sl ob a w Pr β κ) {d : Nat} (hd : d < E.n) (hno : noneOf d sl ob = true) {cs : List Value} {l : List V} {T : TypeId} (hl : cs.length = l.length)
  (hv : ∀ (j : Nat) (v : Value) (x : V), cs[j]? = some v → l[j]? = some x → RepV w Pr β κ v x) (hfree : V.hasL d l = false) :
  Inv E ((d, .box d 0) :: sl) ((d, .box T l) :: ob) (a.put (some d) (.pointer (some ⟨w.heap.size, 0, none⟩))) (w.alloc (.cells cs.toArray T)) := by
 have hx : Below w.heap.size w (w.alloc (.cells cs.toArray T)) := (Below.refl _ _).alloc (Nat.le_refl _) _
 refine h.newobj hd hno (Pr' := Pr) (v := .pointer (some ⟨w.heap.size, 0, none⟩)) hx (fun _ _ h => h) (fun _ _ h => .inl h) (fun g hg => by simp [blk] at hg; omega) (fun β' κ' e1 e2 e3 e4 => ?_) (fun β' κ' e1 e2 e3 e4 => .box d 0 _ e1)
 refine ⟨w.heap.size, cs, e1, Nat.zero_le _, heap_alloc_new w _, hl, fun j v x h1 h2 => ?_, fun o ho => ?_⟩
 ·exact ((hv j v x h1 h2).keep (iH h hx) (fun _ _ h => h)).other (gJ hfree h2) e3 e4
 ·have := h.prl _ _ ho
  omega
variable {d : Nat} {t T T' ty : TypeId} {p : String} {af : Array Edge} {g : Option (Nat × Bool)} {x y c : Operand}
def zeroV : TI → Option (List V)
 | .one z => some [.d (.val z)]
 | .st z _ => some (z.map fun u => .d (.val u))
 | .ar _ _ _ z => some (z.map fun u => .d (.val u))
 | .sl .. => some [.d (.val (.slice none 0 0))]
 | .no => none
theorem aOb (l : List Value) (d : Nat) : V.hasL d (l.map fun u => .d (.val u)) = false := by
 induction l with
 | nil => rfl
 | cons u l ih => simp [V.hasL, V.has, ih]
theorem aJk (l : List Value) : ∀ (j : Nat) (v : Value) (x : V), l[j]? = some v → (l.map fun u => V.d (.val u))[j]? = some x → RepV w Pr β κ v x := by
 intro j v x h1 h2
 simp only [List.getElem?_map, h1, Option.map_some, Option.some.injEq] at h2
 subst h2
 exact .d _ _ (.val _)
def isSl : TI → Bool
 | .sl .. => true
 | _ => false
theorem aMo (w : World) {l0 : List V} {e : TypeId} (hT : zeroV (ti e) = some l0) (hsl : isSl (ti e) = false) : ∃ z : Value, (zeroValue e).run Tryz.prog w = .ok z w ∧ l0 = z.cells.toList.map fun u => .d (.val u) := by
 cases hti : ti e with
 | one z =>
  obtain ⟨i, dsc, h1, _, _, _, _, h3, h4⟩ := aCz hti
  rw [hti] at hT
  simp only [zeroV, Option.some.injEq] at hT
  exact ⟨z, by simp [zeroValue, typeInfo, h1, h3], by rw [← hT]; cases z <;> first | rfl | cases h4⟩
 | st z fs =>
  obtain ⟨i, F, h1, _, _, h3, _⟩ := yI hti
  rw [hti] at hT
  simp only [zeroV, Option.some.injEq] at hT
  exact ⟨.agg z.toArray, by simp [zeroValue, typeInfo, h1, h3], by rw [← hT]; rfl⟩
 | ar n e' es z =>
  obtain ⟨i, j, h1, _, _, h3, _⟩ := aGb hti
  rw [hti] at hT
  simp only [zeroV, Option.some.injEq] at hT
  exact ⟨.agg z.toArray, by simp [zeroValue, typeInfo, h1, h3], by rw [← hT]; rfl⟩
 | sl a b c z => rw [hti] at hsl; cases hsl
 | no => rw [hti] at hT; cases hT
theorem eI {l l0 : List V} {e : TypeId} (hT : zeroV (ti e) = some l0) (hl : l0 = l) (hsl : isSl (ti e) = false) (hd : d < E.n) (hno : noneOf d sl ob = true) : Step E ⟨some d, .alloc e, T, p, af, g⟩ sl ob ((d, .box d 0) :: sl) ((d, .box e l) :: ob) := by
 subst hl
 rintro a w ⟨Pr, β, κ, h⟩ K Q hK
 obtain ⟨z, hz, hzl⟩ : ∃ z : Value, (zeroValue e).run Tryz.prog w = .ok z w ∧ l0 = z.cells.toList.map fun u => .d (.val u) := by
  cases hti : ti e with
  | one z =>
   obtain ⟨i, dsc, h1, _, _, _, _, h3, h4⟩ := aCz hti
   rw [hti] at hT
   simp only [zeroV, Option.some.injEq] at hT
   exact ⟨z, by simp [zeroValue, typeInfo, h1, h3], by rw [← hT]; cases z <;> first | rfl | cases h4⟩
  | st z fs =>
   obtain ⟨i, F, h1, _, _, h3, _⟩ := yI hti
   rw [hti] at hT
   simp only [zeroV, Option.some.injEq] at hT
   exact ⟨.agg z.toArray, by simp [zeroValue, typeInfo, h1, h3], by rw [← hT]; rfl⟩
  | ar n e' es z =>
   obtain ⟨i, j, h1, _, _, h3, _⟩ := aGb hti
   rw [hti] at hT
   simp only [zeroV, Option.some.injEq] at hT
   exact ⟨.agg z.toArray, by simp [zeroValue, typeInfo, h1, h3], by rw [← hT]; rfl⟩
  | sl a b c z => rw [hti] at hsl; cases hsl
  | no => rw [hti] at hT; cases hT
 subst hzl
 have hrun : (execOp a.eval ⟨some d, .alloc e, T, p, af, g⟩).run Tryz.prog w = .ok (.value (.pointer (some ⟨w.heap.size, 0, none⟩))) (w.alloc (.cells z.cells e)) := by
  simp [execOp, Instr.alloc, hz, newVar, newRow]
 unfold Oper.wp
 rw [hrun, Oper.upon_value]
 have := h.newbox hd hno (T := e) (cs := z.cells.toList) (by simp) (aJk _) (aOb _ d)
 simp only [Array.toArray_toList] at this
 exact hK _ _ this
theorem bR {v : V} {l : List V} {e : TypeId} (hx : ev sl x = v) (hu : v ≠ .und) (hl : cellsV v = l) (hd : d < E.n) (hno : noneOf d sl ob = true) (hfree : V.hasL d l = false) : Step E ⟨some d, .box e x, T, p, af, g⟩ sl ob ((d, .box d 0) :: sl) ((d, .box e l) :: ob) := by
 subst hl
 rintro a w ⟨Pr, β, κ, h⟩ K Q hK
 have hr := bO h x
 rw [hx] at hr
 obtain ⟨h1, h2⟩ := zJ hr hu
 have hrun : (execOp a.eval ⟨some d, .box e x, T, p, af, g⟩).run Tryz.prog w = .ok (.value (.pointer (some ⟨w.heap.size, 0, none⟩))) (w.alloc (.cells (a.eval x).cells e)) := by
  simp [execOp, Instr.box, newVar, newRow]
 unfold Oper.wp
 rw [hrun, Oper.upon_value]
 have := h.newbox hd hno (T := e) (cs := (a.eval x).cells.toList) h1 h2 hfree
 simp only [Array.toArray_toList] at this
 exact hK _ _ this
end
end
section
open Go.RowKit
section
variable {E : Entry} {sl : Slots} {ob : Objs} {a : Act} {w : World} {Pr : Prot} {β : Nat → Value} {κ : Nat → Nat}
theorem Good.setobj (h : Good E sl ob a w Pr β κ) {i b : Nat} {o o' : O} (hf : find ob i = some o) (hb : β i = .pointer (some ⟨b, 0, none⟩)) {cs : Array Value} {T : TypeId} (hno : ∀ q, ¬ Pr b q) (hold : ∃ c0, w.heap[b]? = some (.cells c0 T (0, 0)))
  (ho : (∀ (v : Value) (x : V), RepV w Pr β κ v x → RepV (w.setRow b cs) Pr β κ v x) → RepO (w.setRow b cs) Pr 0 β κ i o') : Good E sl ((i, o') :: ob) a (w.setRow b cs) Pr β κ := by
 obtain ⟨c0, hold⟩ := hold
 have hs : Stays Pr w (w.setRow b cs) := fun b' q hq => World.cell?_of_block (a := ⟨b', q, none⟩) (setRow_other w b b' cs (by rintro rfl; exact hno q hq))
 have hE := h.below.size
 have hbo := h.own i o b hf (by rw [hb]; rfl)
 have hx : Under (fun g => g = b) w (w.setRow b cs) := ⟨rfl, rfl, rfl, by simp [World.setRow], fun k _ hn => setRow_other w b k cs hn⟩
 refine ⟨h.below.then hx (fun g hg => hg ▸ hbo), fun b' q hq => (hs b' q (h.pr0 b' q hq)).trans (h.st0 b' q hq), h.pr0, h.prn, fun b' q hq => by have := h.prl b' q hq; simpa [World.setRow] using this, h.size, h.defers, fun j => (h.slots j).keep hs (fun _ _ h => h), fun j oj hj => ?_, fun j k oj ok g hj hk => ?_, fun j oj g hj hg => ?_, h.keeps, h.fresh⟩
 rotate_right 1
 ·by_cases hji : j = i
  ·subst hji
   exact h.own j o g hf hg
  ·exact h.own j oj g (cS hji hj) hg
 ·by_cases hji : j = i
  ·subst hji
   rw [cN] at hj
   cases hj
   exact ho (fun v x hv => hv.keep hs (fun _ _ h => h))
  ·have hj' := cS hji hj
   refine (h.objs j oj hj').keep hs (fun _ _ h => h) (fun _ _ h => .inl h) (fun g hg => setRow_other w b g cs ?_)
   rintro rfl
   exact hji (h.apart j i oj o _ hj' hf hg (by rw [hb]; rfl))
 ·have key : ∀ m om, find ((i, o') :: ob) m = some om → ∃ om', find ob m = some om' := by
   intro m om hm
   by_cases hmi : m = i
   ·exact ⟨o, hmi ▸ hf⟩
   ·exact ⟨om, cS hmi hm⟩
  obtain ⟨oj', hj'⟩ := key j oj hj
  obtain ⟨ok', hk'⟩ := key k ok hk
  exact h.apart j k oj' ok' g hj' hk'
def put (l : List V) (o : Nat) (n : List V) : List V := l.take o ++ n ++ l.drop (o + n.length)
variable {d : Nat} {t T T' ty : TypeId} {p : String} {af : Array Edge} {g : Option (Nat × Bool)} {x y c : Operand}
theorem aAs (h : Good E sl ob a w Pr β κ) {i o k : Nat} {l l' n : List V} {v : V} (hx : ev sl x = .box i o) (hf : find ob i = some (.box T' l)) (hv : ev sl y = v) (hu : v ≠ .und) (hn : cellsV v = n) (h1 : ∀ z ∈ n, z.one = true) (hT : (isOne (ti t) = true ∧ k = 1) ∨ aggK (ti t) = some k) (hk : n.length = k) (hl : o + n.length ≤ l.length) (hr : put l o n = l') :
  ∃ (b : Nat) (cs : Array Value), (execOp a.eval ⟨none, .store t x y, T, p, af, g⟩).run Tryz.prog w = .ok .skip (w.setRow b cs) ∧ β i = .pointer (some ⟨b, 0, none⟩) ∧ (∀ q, ¬ Pr b q) ∧ Good E sl ((i, .box T' l') :: ob) a (w.setRow b cs) Pr β κ := by
 subst hr
 obtain ⟨b, cs, hav, hb, hh, hcl, hcv, _⟩ := tM h hx hf
 obtain ⟨b', cs', hb', hB, _, _, _, hno⟩ := h.objs i _ hf
 rw [hb] at hb'
 simp only [Value.pointer.injEq, Option.some.injEq, Addr.mk.injEq, and_true] at hb'
 subst hb'
 have hrep := bO h y
 rw [hv] at hrep
 obtain ⟨c1, c2⟩ := zJ hrep hu
 rw [hn] at c1 c2
 have hone : ∀ u ∈ (a.eval y).cells.toList, u.oneCell' = true := by
  intro u hu'
  obtain ⟨j, hj, rfl⟩ := List.getElem_of_mem hu'
  have hj2 : n[j]? = some (n[j]'zb) := List.getElem?_eq_getElem zb
  exact sJ (c2 j _ _ (List.getElem?_eq_getElem hj) hj2) (h1 _ (List.getElem_mem _))
 have hsz : (sizeOf t).run Tryz.prog w = .ok k w := by
  rcases hT with ⟨h2, rfl⟩ | h2
  ·exact mA w h2
  ·exact (nG w h2).2
 have hsz2 : (a.eval y).cells.size = k := by
  have : (a.eval y).cells.toList.length = k := by omega
  simpa using this
 have hst := run_storeCells_at Tryz.prog b o T' (a.eval y).cells.toList 0 cs.toArray w hh jv hone
 have hrun : (execOp a.eval ⟨none, .store t x y, T, p, af, g⟩).run Tryz.prog w = .ok .skip (w.setRow b (cs.take o ++ (a.eval y).cells.toList ++ cs.drop (o + (a.eval y).cells.toList.length)).toArray) := by
  simp only [Nat.add_zero] at hst
  simp [execOp, hav, Instr.storeAt, Instr.sureAddr, storeVar, hsz, hsz2, hst]
 have hgood : Good E sl ((i, .box T' (put l o n)) :: ob) a (w.setRow b (cs.take o ++ (a.eval y).cells.toList ++ cs.drop (o + (a.eval y).cells.toList.length)).toArray) Pr β κ := by
  refine h.setobj (T := T') hf hb hno ⟨_, hh⟩ (fun hkeep => ?_)
  refine ⟨b, cs.take o ++ (a.eval y).cells.toList ++ cs.drop (o + (a.eval y).cells.toList.length), hb, hB, setRow_heap w b _ _ _ _ hh, by simp [put]; omega, fun j u z h2 h3 => hkeep u z ?_, hno⟩
  simp only [put] at h3
  rw [List.append_assoc] at h2 h3
  by_cases hj1 : j < o
  ·rw [List.getElem?_append_left jv, List.getElem?_take, if_pos hj1] at h2 h3
   exact hcv j u z h2 h3
  ·rw [List.getElem?_append_right jv] at h2 h3
   have e1 : (cs.take o).length = o := by simp; omega
   have e2 : (l.take o).length = o := by simp; omega
   rw [e1] at h2
   rw [e2] at h3
   by_cases hj2 : j - o < n.length
   ·rw [List.getElem?_append_left zb] at h2 h3
    exact c2 _ u z h2 h3
   ·rw [List.getElem?_append_right zb, List.getElem?_drop] at h2 h3
    rw [c1] at h2
    exact hcv _ u z h2 h3
 exact ⟨b, _, hrun, hb, hno, hgood⟩
theorem aN {i o k : Nat} {l l' n : List V} {v : V} (hx : ev sl x = .box i o) (hf : find ob i = some (.box T' l)) (hv : ev sl y = v) (hu : v ≠ .und) (hn : cellsV v = n) (h1 : ∀ z ∈ n, z.one = true) (hT : (isOne (ti t) = true ∧ k = 1) ∨ aggK (ti t) = some k) (hk : n.length = k) (hl : o + n.length ≤ l.length) (hr : put l o n = l') :
  Step E ⟨none, .store t x y, T, p, af, g⟩ sl ob sl ((i, .box T' l') :: ob) := by
 rintro a w ⟨Pr, β, κ, h⟩ K Q hK
 obtain ⟨b, cs, hrun, _, _, hG⟩ := aAs (T := T) (p := p) (af := af) (g := g) h hx hf hv hu hn h1 hT hk hl hr
 unfold Oper.wp
 rw [hrun, Oper.upon_skip]
 exact hK _ _ ⟨Pr, β, κ, hG⟩
end
end
section
open Go.RowKit
def Off (v : Value) (w : World) (v' : Value) : Prop := ∀ k, k < w.heap.size → v.ownBlock ≠ some k → v'.ownBlock ≠ some k
def Apart (v r : Value) : Prop := ∀ k, v.ownBlock = some k → r.ownBlock ≠ some k
theorem Apart.nil (n c : Nat) (r : Value) : Apart (.slice none n c) r := fun k h => by simp [Value.ownBlock] at h
theorem Apart.off {w : World} {base s n : Nat} {e : TypeId} {v v' r : Value} {xs : List Value} (h : Apart v r) (hr : w.ownsRow base e s r n xs) (ho : Off v w v') : Apart v' r :=
 fun k h1 h2 => ho k (hr.lt k h2).2 (fun h3 => h k h3 h2) h1
theorem Apart.own {w w' : World} {base s n : Nat} {e : TypeId} {v r : Value} {xs : List Value} (h : Apart v r) (hr : w.ownsRow base e s r n xs) (hg : w.grownBy w' v.ownBlock) : w'.ownsRow base e s r n xs := by
 refine hr.kept hg ?_
 cases hb : r.ownBlock with
 | none => exact .inl rfl
 | some k => exact .inr (fun e => h k e.symm hb)
theorem wN {P : Program} (w : World) (base : Nat) (t ty e : TypeId) (i : TypeInfo) (z : Value) (size bytes : Nat) (ht : P.underlying t = some (.slice e)) (hi : P.info? e = some i) (hz : i.zero = some z)
  (hsize : i.size = size) (hby : i.bytes = bytes)
  (v : Value) (n : Nat) (xs : List Value) (hown : w.ownsRow base e size v n xs)
  (a : Addr) (m c : Nat) (news : List Value) (hl : news.length = m * size) (hsz : 0 < size) (hnews : ∀ j u, news[j]? = some u → w.cell? (a.add j) = some u) (h1 : ∀ u ∈ news, u.oneCell' = true)
  (h63 : n + m ≤ maxLen) (hbytes : (n + m) * bytes ≤ 140737488355328) {v' : Value} {w' : World}
  (h : (Builtin.append_ #[t, t] ty #[v, .slice (some a) m c]).run P w = .ok v' w') : Off v w v' := by
 intro k hk hv
 subst hsize
 subst hby
 simp only [maxLen] at h63
 rcases hown.2 with ⟨rfl, rfl⟩ | ⟨g, cap, cur, rfl, hbg, hg, hnc, hcm, hcs, htake⟩
 ·by_cases hm : m = 0
  ·subst hm
   have hn : news = [] := List.eq_nil_of_length_eq_zero (by simpa using hl)
   subst hn
   have hr : (Builtin.append_ #[t, t] ty #[.slice none 0 0, .slice (some a) 0 c]).run P w = .ok (.slice none 0 0) w := by
    simp [Builtin.append_, run_underlying ht, sizeOf, typeInfo, hi, Builtin.lenOf, Builtin.firstCells, loadCells, loadCellsFrom]
   rw [hr] at h
   cases h
   exact hv
  ·have hr := run_append_nil (P := P) w t ty e i z ht hi hz a m c news hl hnews zb zb (by have hb := hbytes; simp only [Nat.zero_add] at hb; omega)
   rw [hr] at h
   cases h
   simp [Value.ownBlock]
   omega
 ·by_cases hroom : n + m ≤ cap
  ·have hfit : n * i.size + news.length ≤ cur.size := by rw [hl, hcs, ← Nat.add_mul]; exact Nat.mul_le_mul_right _ hroom
   have hr := run_append_room (P := P) w t ty e i ht hi g n cap cur hg a m c news hl hnews h1 hroom hfit
   rw [hr] at h
   cases h
   simpa [Value.ownBlock] using hv
  ·have holds : ∀ j u, xs[j]? = some u → w.cell? ((⟨g, 0, none⟩ : Addr).add j) = some u := hown.cells (g := g) rfl
   have hr := run_append_grow (P := P) w t ty e i z ht hi hz ⟨g, 0, none⟩ n cap xs hown.1 holds a m c news hl hnews zb zb (growslice_fits zb hbytes)
   rw [hr] at h
   cases h
   simp [Value.ownBlock]
   omega
end
end Go.Proofs.YtaodngiigdbgeaaGreatDoor
