/-
  Conditions: none.
-/
import Derived.Maps.RangeRun
import Derived.Maps.Keyed
import Derived.Lib.SliceRun
import Derived.Laws.Cover3
import Derived.Lib.BufferWrite
import Derived.Test.YtaodngiigdbgeaaGreatDoorMaa
import Derived.Test.YtaodngiigdbgeaaGreatDoorMai
set_option maxHeartbeats 16000000
set_option maxRecDepth 20000
set_option linter.unusedSimpArgs false
set_option linter.unusedVariables false
namespace Go.Proofs.YtaodngiigdbgeaaGreatDoor
section
open Go.RowKit Go.ChangeMaps
def keyL : List D → Option (List Value)
 | [] => some []
 | .val v :: l => (keyL l).map (v :: ·)
 | _ :: _ => none
def keyV : V → Option Value
 | .d (.val v) => some v
 | .d (.agg l) => (keyL l).map fun cs => .agg cs.toArray
 | _ => none
def keyD : Value → D
 | .agg cs => .agg (cs.toList.map D.val)
 | v => .val v
structure MapT (t kt et : TypeId) (z : D) (zv : Value) : Prop where
 u : Tryz.prog.underlying t = some (.map kt et)
 K : Maps.Keyed Tryz.prog kt
 zero : ∀ w, (zeroValue et).run Tryz.prog w = .ok zv w
 zr : ∀ w Pr, RepD w Pr zv z
abbrev ME := Nat × Value × D
inductive Hit (l : List ME) (k : Value) (z : D) : D → Bool → Prop where
 | yes (j n : Nat) (d : D) (h : l[j]? = some (n, k, d)) : Hit l k z d true
 | no (h : ∀ q ∈ l, q.2.1 ≠ k) : Hit l k z z false
inductive Put (c : Nat) (l : List ME) (k : Value) (d : D) : Nat → List ME → Prop where
 | old (j n : Nat) (d0 : D) (h : l[j]? = some (n, k, d0)) : Put c l k d c (l.set j (n, k, d))
 | new (h : ∀ q ∈ l, q.2.1 ≠ k) : Put c l k d (c + 1) (l ++ [(c, k, d)])
inductive Del (l : List ME) (k : Value) : List ME → Prop where
 | old (j n : Nat) (d0 : D) (h : l[j]? = some (n, k, d0)) : Del l k (l.eraseIdx j)
 | no (h : ∀ q ∈ l, q.2.1 ≠ k) : Del l k l
def Ents (es : List MapEntry) (l : List ME) : Prop := es.map (fun x => (x.born, x.key)) = l.map (fun q => (q.1, q.2.1))
theorem Ents.len {es : List MapEntry} {l : List ME} (h : Ents es l) : es.length = l.length := by have := congrArg List.length h; simpa using this
theorem Ents.get {es : List MapEntry} {l : List ME} (h : Ents es l) {j : Nat} {q : ME} (hj : l[j]? = some q) : ∃ x, es[j]? = some x ∧ x.born = q.1 ∧ x.key = q.2.1 := by
 have h1 : (es.map (fun x => (x.born, x.key)))[j]? = some (q.1, q.2.1) := by rw [h, List.getElem?_map, hj]; rfl
 rw [List.getElem?_map, Option.map_eq_some_iff] at h1
 obtain ⟨x, hx, e⟩ := h1
 simp only [Prod.mk.injEq] at e
 exact ⟨x, hx, e.1, e.2⟩
theorem Ents.put {es : List MapEntry} {l : List ME} (h : Ents es l) {j : Nat} {x : MapEntry} (hj : es[j]? = some x) : ∃ q, l[j]? = some q ∧ x.born = q.1 ∧ x.key = q.2.1 := by
 have h1 : (l.map (fun q => (q.1, q.2.1)))[j]? = some (x.born, x.key) := by rw [← h, List.getElem?_map, hj]; rfl
 rw [List.getElem?_map, Option.map_eq_some_iff] at h1
 obtain ⟨q, hq, e⟩ := h1
 simp only [Prod.mk.injEq] at e
 exact ⟨q, hq, e.1.symm, e.2.symm⟩
section
variable {t kt et : TypeId} {z : D} {zv : Value}
theorem KeyOk.lit (M : MapT t kt et z zv) {k : Value} (h : KeyOk t k) : ∃ lit, keyOf Tryz.prog kt k = some lit := by
 obtain ⟨kt', et', lit, h1, h2⟩ := h
 rw [M.u] at h1
 cases h1
 exact ⟨lit, h2⟩
theorem KeyOk.of (M : MapT t kt et z zv) {k : Value} {lit : Lit} (h : keyOf Tryz.prog kt k = some lit) : KeyOk t k := ⟨kt, et, lit, M.u, h⟩
variable {E : Entry} {sl : Slots} {ob : Objs} {a : Act} {w : World} {Pr : Prot} {β : Nat → Value} {κ : Nat → Nat}
variable {d : Nat} {dd : Option Nat} {T ty : TypeId} {p : String} {af : Array Edge} {g : Option (Nat × Bool)} {x y c : Operand}
theorem aAe {α β : Type} {f : α → β} {l : List α} {j : Nat} {q r : α} (hj : l[j]? = some q) (e : f r = f q) : (l.set j r).map f = l.map f := by
 rw [List.map_set]
 refine List.ext_getElem? fun i => ?_
 rw [List.getElem?_set]
 split
 ·rename_i h
  subst h
  have hlt := (List.getElem?_eq_some_iff.1 hj).1
  rw [List.length_map, if_pos hlt, List.getElem?_map, hj, Option.map_some, e]
 ·rfl
theorem MapOk.put {clock c' : Nat} {l l' : List ME} {k : Value} {dv : D} (h : MapOk t clock l) (hk : KeyOk t k) (hp : Put clock l k dv c' l') : MapOk t c' l' := by
 cases hp with
 | old j n d0 hj =>
  refine ⟨by rw [aAe (f := fun q : ME => q.1) (r := (n, k, dv)) hj rfl]; exact h.nodup, fun q hq => ?_, by rw [aAe (f := fun q : ME => q.2.1) (r := (n, k, dv)) hj rfl]; exact h.keys, fun q hq => ?_⟩
  ·rcases List.mem_or_eq_of_mem_set hq with hq | rfl
   ·exact h.lt q hq
   ·exact h.lt (n, k, d0) (List.mem_of_getElem? hj)
  ·rcases List.mem_or_eq_of_mem_set hq with hq | rfl
   ·exact h.ok q hq
   ·exact hk
 | new hn =>
  refine ⟨?_, fun q hq => ?_, ?_, fun q hq => ?_⟩
  ·rw [List.map_append, List.nodup_append]
   refine ⟨h.nodup, by simp, fun a ha b hb => ?_⟩
   obtain ⟨q, hq, rfl⟩ := List.mem_map.1 ha
   simp at hb
   have := h.lt q hq
   omega
  ·rcases List.mem_append.1 hq with hq | hq
   ·have := h.lt q hq
    omega
   ·simp at hq
    subst hq
    exact Nat.lt_succ_self _
  ·rw [List.map_append, List.nodup_append]
   refine ⟨h.keys, by simp, fun a ha b hb => ?_⟩
   obtain ⟨q, hq, rfl⟩ := List.mem_map.1 ha
   simp at hb
   rw [hb]
   exact hn q hq
  ·rcases List.mem_append.1 hq with hq | hq
   ·exact h.ok q hq
   ·simp at hq
    subst hq
    exact hk
end
section
variable {E : Entry} {sl sl0 : Slots} {ob ob0 : Objs} {ops : List Oper} {pl : List (Nat × Bool × Oper)} {Q : Exit → Act → World → Prop} {tail : (World → Prop) → Act → World → Prop} {g : Option (Nat × Bool)} {p : String} {af : Array Edge} {T ty t : TypeId} {d n : Nat}
theorem kB {x y : Operand} {i k e es eb : Nat} {ez : Value} {l l2 : List (List D)} {A : Array TypeId} (hw : Want ops sl true g) (hx : ev sl x = .row i k) (hf : find ob i = some (.row e es k l)) (hk0 : find ob0 i = none) (hy : ToD ob (ev sl y) (.list es l2)) (hA : A = #[t, t]) (hT : ti t = .sl e es eb ez)
  (h1 : ∀ q ∈ l2, ∀ z ∈ q, D.one z = true) (hes : 0 < es) (hb : (l.length + l2.length) * eb ≤ 140737488355328) (hm : l.length + l2.length ≤ 140737488355328) (hd : d < E.n)
  (hK : AM E ops tail Q pl ((d, .und) :: sl0) ob0 ((d, .row i (k + 1)) :: sl) ((i, .row e es (k + 1) (l ++ l2)) :: ob)) :
  AM E ops tail Q ((n, false, ⟨some d, .call { callee := .builtin .append, args := #[x, y], argTypes := A }, T, p, af, g⟩) :: pl) sl0 ob0 sl ob := by
 subst hA
 refine ⟨fun a w0 w Pr Pr1 β β1 κ κ1 h0 h hnw => ?_⟩
 refine gU (hw.is h) (fun K hKK => ?_)
 obtain ⟨v', w', Pr', β', κ', hrun, hG, hp, hs, e3, e4, hlt, hbs, hgr⟩ := aIe (o := ⟨some d, .call { callee := .builtin .append, args := #[x, y], argTypes := #[t, t] }, T, p, af, g⟩) (l2 := l2) h hf hd (fun xs hown => by
  obtain ⟨hκ, _⟩ := h.objs i _ hf
  have hxv : a.eval x = β1 i := by
   have := bO h x
   rw [hx] at this
   exact this.row_inv hκ.symm
  have hyv := eZ h hy _ (bO h y)
  obtain ⟨v', w', news, hrun, hown', hgr, hoff, hkeep, hnl, hl2, hnr⟩ := aJl (T := T) (κ := κ1) h hown hyv hT h1 hes hb hm
  exact ⟨v', w', news, by simp [execOp, resolve, invoke, builtin, hxv, hrun], hown', hgr, hoff, hkeep, hnl, hl2, hnr⟩)
 unfold Oper.wp
 rw [hrun, Oper.upon_value]
 have hbb : blk (β1 i) = (β1 i).ownBlock := by obtain ⟨_, _, _, q⟩ := hbs; exact lD q
 have hne : ∀ j o, find ob0 j = some o → j ≠ i := fun j o hj q => by rw [q, hk0] at hj; cases hj
 have hkept : Kept Pr β ob0 w0 w' := hnw.kept.trans (Pr1 := Pr1) ⟨hs, fun j o g h2 h3 => by
  have h4 := hnw.sub j o h2
  have hlt := ((h.objs j o h4.1).blkLt g (by rw [h4.2]; exact h3)).2
  refine hgr.block g hlt (fun q => hne j o h2 ?_)
  exact h.apart j i o _ g h4.1 hf (by rw [h4.2]; exact h3) (by rw [hbb]; exact q.symm), hgr.size⟩ hnw.pr
 refine hKK.out _ _ hkept fun _ => ?_
 refine hK.run _ w0 _ Pr Pr' _ _ _ _ (h0.put hd (.und _)) hG ⟨hkept, fun b o ho => hp b o (hnw.pr b o ho), hnw.then_.trans (fun j => ?_), fun j o hj => ?_⟩
 ·by_cases hj : j = i
  ·subst hj
   exact .inr ⟨hlt, hbs⟩
  ·exact .inl ⟨e3 j hj, e4 j hj⟩
 ·have h4 := hnw.sub j o hj
  have hji := hne j o hj
  exact ⟨by rw [cE hji]; exact h4.1, (e3 j hji).trans h4.2⟩
end
theorem zP {place : Nat → Option (Nat × Nat)} : ∀ {dp : List (Nat × D)} {ds r : List D}, dfill place ds dp = some r → r.length = ds.length
 | [], ds, r, h => by simp only [dfill, Option.some.injEq] at h; rw [h]
 | (i, z) :: dp, ds, r, h => by
  simp only [dfill] at h
  split at h
  ·cases h
  ·split at h
   ·rename_i hc
    rw [zP h]
    simp [putD]
    omega
   ·cases h
section
variable {E : Entry} {sl : Slots} {ob : Objs} {a : Act} {w : World} {Pr : Prot} {β : Nat → Value} {κ : Nat → Nat}
variable {d : Nat} {t T ty : TypeId} {p : String} {af : Array Edge} {g : Option (Nat × Bool)} {x y c : Operand}
theorem aEs (h : Good E sl ob a w Pr β κ) {parts : List (Nat × Operand)} {dp : List (Nat × D)} {l : List D} {l2 : List (List D)} {e es eb n : Nat} {ez : Value} (hT : ti t = .sl e es eb ez) (hp : PartsD sl ob parts dp) (hl : dfill (fun i => some (i * es, es)) (zerosD es n ez) dp = some l) (hc2 : chunk es n l = l2) (hn : n * es ≤ 1000) (hn2 : n ≤ 1000) (hd : d < E.n) (hno : noneOf d sl ob = true) :
  ∃ v w' Pr', (execOp a.eval ⟨some d, .buildSlice t n parts.toArray, T, p, af, g⟩).run Tryz.prog w = .ok (.value v) w' ∧ Below w.heap.size w w' ∧ (∀ b o, Pr b o → Pr' b o) ∧
   Good E ((d, .row d 0) :: sl) ((d, .row e es 0 l2) :: ob) (a.put (some d) v) w' Pr' (updV β d v) (updN κ d 0) := by
 subst hc2
 obtain ⟨cs, hc, hr⟩ := aJn h hT hp hl hn
 have hrun : (execOp a.eval ⟨some d, .buildSlice t n parts.toArray, T, p, af, g⟩).run Tryz.prog w = .ok (.value (.slice (some ⟨w.heap.size, 0, none⟩) n n)) (w.alloc (.cells cs.toArray e)) := by
  simp only [execOp, aAn, Sem.run_bind, hr]
  rfl
 have hx : Below w.heap.size w (w.alloc (.cells cs.toArray e)) := (Below.refl _ _).alloc (Nat.le_refl _) _
 have hlen : l.length = n * es := by rw [zP hl]; simp [zerosD]
 have hcl : (chunk es n l).length = n := zM es n l
 refine ⟨_, _, fun b o => Pr b o ∨ (b = w.heap.size ∧ o < n * es), hrun, hx, fun _ _ h => .inl h, h.newobjG (v := .slice (some ⟨w.heap.size, 0, none⟩) n n) hd hno hx (fun _ _ h => .inl h) (fun b o ho => ho.imp id fun h1 => by simp [h1.1]) (fun g hg => by simp [blk] at hg; omega) (fun β' κ' e1 e2 e3 e4 => ?_) (fun β' κ' e1 e2 _ _ => .row d 0 _ ⟨_, _, _, rfl⟩ (Nat.zero_le _) (fun _ => e1.symm))⟩
 refine ⟨e2, cs, ?_, zL es n l hlen, fun q j x z h3 h4 => ?_, fun b hb o => ?_⟩
 ·rw [e1, hcl]
  refine ⟨by rw [hc.1, hlen], .inr ⟨w.heap.size, n, cs.toArray, rfl, Nat.zero_le _, heap_alloc_new w _, Nat.le_refl _, by unfold maxLen; omega, by simp; rw [hc.1, hlen], ?_⟩⟩
  show cs.take (n * es) = cs
  exact List.take_of_length_le (by rw [hc.1, hlen]; exact Nat.le_refl _)
 ·obtain ⟨hi, hj, hz⟩ := tO es n l q j x z h3 h4
  have hlt : q * es + j < cs.length := by rw [hc.1]; exact (List.getElem?_eq_some_iff.1 hz).1
  exact ⟨cs[q * es + j], List.getElem?_eq_getElem hlt, (hc.2 (q * es + j) _ z (List.getElem?_eq_getElem hlt) hz).keep (iH h hx) (fun _ _ h => .inl h)⟩
 ·rw [e1] at hb
  simp only [Value.ownBlock, Option.some.injEq] at hb
  subst hb
  rw [hcl]
  refine ⟨fun ho => ho.elim (fun h1 => ?_) (·.2), fun ho => .inr ⟨rfl, ho⟩⟩
  have := h.prl _ _ h1
  omega
theorem aUs {parts : List (Nat × Operand)} {dp : List (Nat × D)} {l : List D} {l2 : List (List D)} {e es eb n : Nat} {ez : Value} (hT : ti t = .sl e es eb ez) (hp : PartsD sl ob parts dp) (hl : dfill (fun i => some (i * es, es)) (zerosD es n ez) dp = some l) (hc2 : chunk es n l = l2) (hn : n * es ≤ 1000) (hn2 : n ≤ 1000) (hd : d < E.n) (hno : noneOf d sl ob = true) :
  Step E ⟨some d, .buildSlice t n parts.toArray, T, p, af, g⟩ sl ob ((d, .row d 0) :: sl) ((d, .row e es 0 l2) :: ob) := by
 rintro a w ⟨Pr, β, κ, h⟩ K Q hK
 obtain ⟨v, w', Pr', hrun, _, _, hG⟩ := aEs (d := d) (T := T) (p := p) (af := af) (g := g) h hT hp hl hc2 hn hn2 hd hno
 unfold Oper.wp
 rw [hrun, Oper.upon_value]
 exact hK _ _ ⟨_, _, _, hG⟩
theorem eA {e es eb : Nat} {ez : Value} (hT : ti t = .sl e es eb ez) (hd : d < E.n) (hno : noneOf d sl ob = true) :
  Step E ⟨some d, .buildSlice t 0 #[], T, p, af, g⟩ sl ob ((d, .row d 0) :: sl) ((d, .row e es 0 []) :: ob) :=
 aUs (parts := []) (dp := []) (l := []) (n := 0) hT .nil jr rfl (by simp) (by simp) hd hno
theorem kS {s : Nat} {l : List (List D)} {se : TypeId} {ops : Array Oper} {rest : List Oper} {Q : Exit → Act → World → Prop} (hx : ToD ob (ev sl x) (.list s l)) (ht : Tryz.prog.underlying t = some (.slice se)) (hd : d < E.n)
  (hK : ∀ b : Bool, (b = true → l = []) → AL E ops rest Q ((d, .d (.val (.bool b))) :: sl) ob) : AL E ops (⟨some d, .binOp .eql t x (.const (.slice none 0 0)) ty, T, p, af, none⟩ :: rest) Q sl ob := by
 refine ⟨fun a w hi => ?_⟩
 obtain ⟨Pr, β, κ, h⟩ := hi
 have hrep := eZ h hx _ (bO h x)
 obtain ⟨A, n, c, hv⟩ : ∃ A n c, a.eval x = .slice A n c := by
  obtain ⟨A, c, hv, _⟩ := qA hrep
  exact ⟨_, _, _, hv⟩
 rw [hv] at hrep
 have hc : a.eval (.const (.slice none 0 0)) = Value.slice none 0 0 := rfl
 have hrun : (execOp a.eval ⟨some d, .binOp .eql t x (.const (.slice none 0 0)) ty, T, p, af, none⟩).run Tryz.prog w = .ok (.value (.bool A.isNone)) w := by
  simp [execOp, hv, hc, eqGuard_at_slice, Lib.run_eql_slice_nil w t se A n c 0 0 ht]
 refine wpList_plain rfl fun K hKK => ?_
 unfold Oper.wp
 rw [hrun, Oper.upon_value]
 refine hKK _ _ ((hK A.isNone fun hb => ?_).run _ _ ⟨Pr, β, κ, h.put hd (.d _ _ (.val _))⟩)
 cases hrep with
 | nil => rfl
 | list => cases hb
def Yw (E : Entry) (o : Oper) (sl : Slots) (ob : Objs) (x : V) : Prop :=
 ∀ a w Pr β κ, Good E sl ob a w Pr β κ → ∃ v, RepV w Pr β κ v x ∧ ∀ w', (execOp a.eval o).run Tryz.prog w' = .ok (.value v) w'
theorem yw_y {o : Oper} {x : V} (h : Yw E o sl ob x) : Y E o sl ob x := fun a w Pr β κ hg => by
 obtain ⟨v, h1, h2⟩ := h a w Pr β κ hg
 exact ⟨v, h1, fun w' _ => h2 w'⟩
inductive PartsS (sl : Slots) (fs : List (Nat × Nat × Nat)) : List (Nat × Operand) → List (Nat × V) → Prop where
 | nil : PartsS sl fs [] []
 | cons {i off ft : Nat} {x : Operand} {xs : List (Nat × Operand)} {v : V} {vs : List (Nat × V)} (hf : fs[i]? = some (off, 1, ft)) (h : Cf (ev sl x) v) (h1 : v.one = true) (hr : PartsS sl fs xs vs) : PartsS sl fs ((i, x) :: xs) ((off, v) :: vs)
def sfill (l : List V) : List (Nat × V) → List V
 | [] => l
 | (o, v) :: r => sfill (l.set o v) r
theorem aLz (h : Good E sl ob a w Pr β κ) {fs : List (Nat × Nat × Nat)} : ∀ {parts : List (Nat × Operand)} {ps : List (Nat × V)}, PartsS sl fs parts ps → ∀ {cs : Array Value} {l : List V}, cs.toList.length = l.length → (∀ (j : Nat) (u : Value) (z : V), cs.toList[j]? = some u → l[j]? = some z → RepV w Pr β κ u z) →
  (∀ q ∈ ps, q.1 < l.length) →
  ∃ cs', Instr.fill (fun i => (fs[i]?).map fun q => (q.1, q.2.1)) cs (parts.map fun q => (q.1, a.eval q.2)) = some cs' ∧ cs'.toList.length = (sfill l ps).length ∧ ∀ (j : Nat) (u : Value) (z : V), cs'.toList[j]? = some u → (sfill l ps)[j]? = some z → RepV w Pr β κ u z := by
 intro parts ps hp
 induction hp with
 | nil => intro cs l hl hr _; exact ⟨cs, rfl, hl, hr⟩
 | @cons i off ft x xs v vs hf hc h1 _ ih =>
  intro cs l hl hr hb
  have hv : RepV w Pr β κ (a.eval x) v := hc.eq ▸ bO h x
  have hcell := aAk (sJ hv h1)
  have hoff : off < l.length := hb (off, v) (by simp)
  obtain ⟨cs', k1, k2, k3⟩ := ih (cs := cs.setIfInBounds off (a.eval x)) (l := l.set off v) (by simpa using hl) (fun j u z h3 h4 => by
   rw [Array.toList_setIfInBounds] at h3
   by_cases hj : off = j
   ·subst hj
    rw [List.getElem?_set_self zb] at h3
    rw [List.getElem?_set_self hoff] at h4
    cases h3
    cases h4
    exact hv
   ·rw [List.getElem?_set_ne hj] at h3 h4
    exact hr j u z h3 h4) (fun q hq => by simpa using hb q (by simp [hq]))
  refine ⟨cs', ?_, k2, k3⟩
  simp only [List.map_cons, Instr.fill, hf, Option.map_some, hcell]
  rw [if_neg (by simp at hl ⊢; omega)]
  exact k1
theorem aMn {dd : Option Nat} {z : List Value} {fs : List (Nat × Nat × Nat)} {parts : List (Nat × Operand)} {ps : List (Nat × V)} {l : List V} (hT : ti t = .st z fs) (hp : PartsS sl fs parts ps) (hb : (ps.all fun q => Nat.blt q.1 z.length) = true) (hl : sfill (z.map fun v => .d (.val v)) ps = l) :
  Yw E ⟨dd, .build t parts.toArray, T, p, af, g⟩ sl ob (.agg l) := fun a w Pr β κ h => by
 subst hl
 obtain ⟨i, F, h1, h2, h3, h4, h5⟩ := yI hT
 obtain ⟨cs, hf, k1, k2⟩ := aLz h hp (cs := z.toArray) (l := z.map fun v => .d (.val v)) (by simp) (fun j u y h6 h7 => by
  simp only [List.getElem?_map, Option.map_eq_some_iff] at h7
  obtain ⟨y', h8, rfl⟩ := h7
  have : u = y' := by simpa [h8] using h6.symm
  subst this
  exact .d _ _ (.val _)) (fun q hq => by have := List.all_eq_true.1 hb q hq; simpa [Nat.blt_eq] using this)
 refine ⟨.agg cs, ?_, fun w' => ?_⟩
 ·have := RepV.agg (w := w) (Pr := Pr) (β := β) (κ := κ) cs.toList _ k1 k2
  simpa using this
 ·have hpl : F.toList.mapM (fun f => (Tryz.prog.info? f.type).map fun i => (f.offset, i.size)) = some (fs.map fun q => (q.1, q.2.1)) := by
   have key : ∀ (F : List Field) (fs : List (Nat × Nat × Nat)), F.mapM (fun f => (Tryz.prog.info? f.type).map fun j => (f.offset, j.size, f.type)) = some fs → F.mapM (fun f => (Tryz.prog.info? f.type).map fun i => (f.offset, i.size)) = some (fs.map fun q => (q.1, q.2.1)) := by
    intro F
    induction F with
    | nil => intro fs h; simp at h; subst h; rfl
    | cons f F ih =>
     intro fs h
     rw [List.mapM_cons] at h ⊢
     cases hx : Tryz.prog.info? f.type with
     | none => rw [hx] at h; simp at h
     | some j =>
      rw [hx] at h
      cases hy : F.mapM (fun f => (Tryz.prog.info? f.type).map fun j => (f.offset, j.size, f.type)) with
      | none => rw [hy] at h; simp at h
      | some r =>
       rw [hy] at h
       simp at h
       subst h
       rw [ih r hy]
       simp
   exact key _ _ h5
  have hb : Tryz.prog.built t (parts.map fun q => (q.1, a.eval q.2)) = some cs := by
   simp only [Program.built, h1, h2, h4, hpl, Value.cells]
   rw [← hf]
   congr 1
   funext i
   simp
  have hr := run_build (P := Tryz.prog) w' t (parts.map fun q => (q.1, a.eval q.2)).toArray cs (by simpa using hb)
  have e : (parts.toArray.map fun x => (x.1, a.eval x.2)) = (parts.map fun q => (q.1, a.eval q.2)).toArray := by simp
  simp only [execOp, e, Sem.run_bind, hr]
  rfl
theorem aRp {dd : Option Nat} {z : List Value} {fs : List (Nat × Nat × Nat)} {parts : List (Nat × Operand)} {ps : List (Nat × V)} {l : List V} (hT : ti t = .st z fs) (hp : PartsS sl fs parts ps) (hb : (ps.all fun q => Nat.blt q.1 z.length) = true) (hl : sfill (z.map fun v => .d (.val v)) ps = l) :
  Y E ⟨dd, .build t parts.toArray, T, p, af, g⟩ sl ob (.agg l) := yw_y (aMn hT hp hb hl)
theorem rK {x : Exit} {Q : Exit → Act → World → Prop} (j r e s : Nat) (hx : look sl j = .d (.val (.slice none 0 0))) (hno : noneOf r sl ob = true) (hr : r < E.n) (h : AQ E x Q ((j, .row r 0) :: sl) ((r, .row e s 0 []) :: ob)) : AQ E x Q sl ob := by
 refine ⟨fun a w hi => ?_⟩
 obtain ⟨Pr, β, κ, hg⟩ := hi
 exact h.run a w (hg.adopt hx hno hr)
theorem oret3 {new : List Nat} {Post : V → Objs → Prop} {fn : Func} {r1 r2 r3 : ResultVar} {x1 x2 x3 : V} (ob' : Objs) (hr : fn.results = #[r1, r2, r3]) (h1 : ResV sl ob r1 x1) (h2 : ResV sl ob r2 x2) (h3 : ResV sl ob r3 x3) (hp : Post (.tup [x1, x2, x3]) ob') (ho : ∀ p ∈ ob', find ob p.1 = some p.2) (hw : okOut E.ob0 new (.tup [x1, x2, x3]) ob' = true) (hdf : E.df = [] := by rfl) : AQ E .ret (bodyPost Tryz.prog fn (PostO new E.w E.pr E.ob0 E.β0 E.κ0 Post)) sl ob := by
 refine ⟨fun a w ⟨Pr, β, κ, h⟩ => ?_⟩
 obtain ⟨v1, e1, k1⟩ := nW h h1
 obtain ⟨v2, e2, k2⟩ := nW h h2
 obtain ⟨v3, e3, k3⟩ := nW h h3
 refine bodyPost_ret (oK hr e1 e2 e3) (h.defers.trans hdf) ⟨_, _, ob', Pr, β, κ, rfl, hp, oT h (.tup [_, _, _] _ rfl (fun i v d h1 h2 => ?_)) ho hw⟩
 match i with
 | 0 => cases h1; cases h2; exact k1
 | 1 => cases h1; cases h2; exact k2
 | 2 => cases h1; cases h2; exact k3
end
section
variable {E : Entry} {sl sl0 : Slots} {ob ob0 : Objs} {ops : List Oper} {pl : List (Nat × Bool × Oper)} {Q : Exit → Act → World → Prop} {tail : (World → Prop) → Act → World → Prop} {g : Option (Nat × Bool)} {p : String} {af : Array Edge} {T ty t : TypeId} {d i : Nat}
theorem pU {parts : List (Nat × Operand)} {dp : List (Nat × D)} {l : List D} {l2 : List (List D)} {e es eb n : Nat} {ez : Value} (hw : Want ops sl true g) (hT : ti t = .sl e es eb ez) (hp : PartsD sl ob parts dp) (hl : dfill (fun i => some (i * es, es)) (zerosD es n ez) dp = some l) (hc2 : chunk es n l = l2) (hn : n * es ≤ 1000) (hn2 : n ≤ 1000) (hd : d < E.n) (hno : noneOf d sl ob = true) (hno0 : noneOf d sl0 ob0 = true) (hk0 : find ob0 d = none)
  (hK : AM E ops tail Q pl ((d, .und) :: sl0) ob0 ((d, .row d 0) :: sl) ((d, .row e es 0 l2) :: ob)) : AM E ops tail Q ((i, false, ⟨some d, .buildSlice t n parts.toArray, ty, p, af, g⟩) :: pl) sl0 ob0 sl ob := by
 refine ⟨fun a w0 w Pr Pr1 β β1 κ κ1 h0 h1 hn0 => ?_⟩
 refine gU (hw.is h1) (fun K hKK => ?_)
 obtain ⟨v, w', Pr', hrun, hx, hpp, hG⟩ := aEs (d := d) (T := ty) (p := p) (af := af) (g := g) h1 hT hp hl hc2 hn hn2 hd hno
 unfold Oper.wp
 rw [hrun, Oper.upon_value]
 have h0' := (h0.rename hd hno0 hk0 v 0).put hd (v := v) (.und _)
 have hn1 := hn0.grow (Pr2 := Pr') h1 hx hpp
 have hne : ∀ i o, find ob0 i = some o → i ≠ d := fun i o hi e => by rw [e, hk0] at hi; cases hi
 have hn2 : Now ob0 ((d, .row e es 0 l2) :: ob) w0 w' Pr Pr' (updV β d v) (updV β1 d v) (updN κ d 0) (updN κ1 d 0) := by
  refine ⟨by rw [kU hk0]; exact hn1.kept, hn1.pr, fun j => ?_, fun j o hj => ?_⟩
  ·by_cases hj : j = d
   ·subst hj
    exact .inl ⟨by rw [eL, eL], by rw [fA, fA]⟩
   ·rw [cL _ d _ j hj, cL _ d _ j hj, fM _ d _ j hj, fM _ d _ j hj]
    exact hn1.then_ j
  ·have hjd := hne j o hj
   rw [cL _ d _ j hjd, cL _ d _ j hjd, cE hjd]
   exact hn1.sub j o hj
 refine hKK.out _ _ hn1.kept fun _ => ?_
 have := hK.run _ w0 _ Pr Pr' _ _ _ _ h0' hG hn2
 rw [kU hk0] at this
 exact this
end
section
variable {E : Entry} {sl sl0 : Slots} {ob ob0 : Objs} {ops : List Oper} {pl : List (Nat × Bool × Oper)} {Q : Exit → Act → World → Prop} {tail : (World → Prop) → Act → World → Prop} {g : Option (Nat × Bool)} {p : String} {af : Array Edge} {T ty t : TypeId} {d i : Nat}
theorem aJz {f : FuncId} {args : List V} {ob1 : Objs} {n : Nat} {Post : V → Objs → Prop} {c : Operand} {xs : List Operand} {ats : Array TypeId} (l : List (Nat × Nat)) (hc : ObC f args ob1 [n] Post) (hw : Want ops sl true g) (hf : ev sl c = .d (.val (.func (.func f) #[] #[]))) (hE : Fine E) (hd : d < E.n) (ha : ArgsV l sl ob xs args)
  (hL : Lends E sl ob l ob1 [n]) (hfree : ((keys ob0).all fun j => !(mem ((keys ob1).map (rn l)) j)) = true) (hno0 : noneOf (rn l n) sl0 ob0 = true) (hk0 : find ob0 (rn l n) = none) (hnn : rn l n < E.n)
  (hK : ∀ x ob', Post x ob' → ∀ y ob2, x.ren l = y → renO l ob' ++ dropK ((keys ob1).map (rn l)) ob = ob2 → AM E ops tail Q pl ((d, .und) :: sl0) ob0 ((d, y) :: sl) ob2) : AM E ops tail Q ((i, false, ⟨some d, .call { callee := .value c, args := xs.toArray, argTypes := ats }, ty, p, af, g⟩) :: pl) sl0 ob0 sl ob := by
 refine ⟨fun a w0 w Pr Pr1 β β1 κ κ1 h0 h h2 => ?_⟩
 refine gU (hw.is h) (fun K hKK => ?_)
 obtain ⟨hlen, hr⟩ := ha.rep h
 have hfo := hL.find
 obtain ⟨ho, hl, hk, hk2, hn⟩ := hL
 have hcall := hc.2 w Pr1 (xs.map a.eval) _ _ h.prl (jQ hE h) hlen hr (fun i o hi => qF (h.objs _ _ (hfo i o hi))) (fun i j oi oj g hi hj hgi hgj => by
  have e := h.apart _ _ _ _ g (hfo i oi hi) (hfo j oj hj) hgi hgj
  have k1 := eT hl (cA.1 (List.all_eq_true.1 hk i (List.mem_append_left _ (cO hi))))
  have k2 := eT hl (cA.1 (List.all_eq_true.1 hk j (List.mem_append_left _ (cO hj))))
  rw [e, k2] at k1
  cases k1
  rfl)
 have hrun : (execOp a.eval ⟨some d, .call { callee := .value c, args := xs.toArray, argTypes := ats }, ty, p, af, g⟩).run Tryz.prog w = .ok (.enter f (xs.map a.eval).toArray) w := by
  simp [execOp, resolve, Deferred.ofValue, invoke, bT h hf, dZ hc.1]
 unfold Oper.wp
 rw [hrun, Oper.upon_enter]
 refine hcall.mono fun e w' ⟨v, x, ob', Pr', β', κ', he, hp, hA⟩ => ?_
 subst he
 obtain ⟨Pr2, β2, κ2, hG, e1, e2, e3⟩ := h.ocalled2' hd hA ho hl hk hk2 hn
 have hnot : ∀ i o, find ob0 i = some o → i ∉ (keys ob1).map (rn l) := by
  intro i o hi hm
  have := List.all_eq_true.1 hfree i (cO hi)
  rw [cA.2 hm] at this
  cases this
 have hne : ∀ i o, find ob0 i = some o → i ≠ rn l n := fun i o hi e => by rw [e, hk0] at hi; cases hi
 have hnot2 : ∀ i o, find ob0 i = some o → i ∉ (keys ob1 ++ [n]).map (rn l) := by
  intro i o hi hm
  rw [List.map_append] at hm
  rcases List.mem_append.1 hm with hm | hm
  ·exact hnot i o hi hm
  ·simp at hm
   exact hne i o hi hm
 have hkept : Kept Pr β ob0 w0 w' := h2.kept.trans (Pr1 := Pr1) ⟨by rw [e1] at *; exact hA.st, fun i o g h3 h4 => by
   obtain ⟨q1, q2⟩ := h2.sub i o h3
   have hlt := (h.objs i o q1).blkLt g (by rw [q2]; exact h4)
   refine hA.under.block g hlt.2 ?_
   rintro ⟨j, oj, h5, h6⟩
   have := h.apart i (rn l j) o _ g q1 (hfo j oj h5) (by rw [q2]; exact h4) h6
   exact hnot i o h3 (List.mem_map.2 ⟨j, cO h5, this.symm⟩), hA.under.size⟩ h2.pr
 have hnow : Now ob0 (renO l ob' ++ dropK ((keys ob1).map (rn l)) ob) w0 w' Pr Pr2 (updV β (rn l n) (β2 (rn l n))) β2 (updN κ (rn l n) (κ2 (rn l n))) κ2 := by
  refine ⟨by rw [kU hk0]; exact hkept, fun b o hb => by rw [e1]; exact hA.pr0 b o (h2.pr b o hb), fun j => ?_, fun i o hi => ?_⟩
  ·by_cases hj : j = rn l n
   ·subst hj
    exact .inl ⟨by rw [eL], by rw [fA]⟩
   ·rw [cL _ _ _ j hj, fM _ _ _ j hj]
    have hq1 := h2.then_ j
    have hq2 := e2 j (fun i hi => by simp at hi; subst hi; exact fun e => hj e.symm)
    rcases hq1 with ⟨k1, k2⟩ | ⟨k1, k2⟩
    ·rcases hq2 with ⟨q1, q2⟩ | ⟨q1, q2⟩
     ·exact .inl ⟨q1.trans k1, q2.trans k2⟩
     ·exact .inr ⟨by omega, by rw [← k1]; exact q2⟩
    ·rcases hq2 with ⟨q1, q2⟩ | ⟨q1, q2⟩
     ·exact .inr ⟨by omega, k2⟩
     ·exact .inr ⟨by omega, k2⟩
  ·obtain ⟨q1, q2⟩ := h2.sub i o hi
   have hnr : ∀ k ∈ keys ob', rn l k ≠ i := by
    intro k hk' e
    obtain ⟨o', ho'⟩ := eR hk'
    exact hnot2 i o hi (List.mem_map.2 ⟨k, (hA.wo k o' ho').1, e⟩)
   rw [cL _ _ _ i (hne i o hi)]
   refine ⟨wV hl (fun k hk' => ?_) hnr (hnot i o hi) q1, (e3 i (hnot2 i o hi)).1.trans q2⟩
   obtain ⟨o', ho'⟩ := eR hk'
   exact cA.1 (List.all_eq_true.1 hk k (hA.wo k o' ho').1)
 refine hKK.out _ _ hkept fun _ => ?_
 have h0' := (h0.rename hnn hno0 hk0 (β2 (rn l n)) (κ2 (rn l n))).put hd (v := v) (.und _)
 have := (hK x ob' hp _ _ rfl rfl).run _ w0 w' Pr Pr2 _ _ _ _ h0' hG hnow
 rw [kU hk0] at this
 exact this
end
end
section
open Go.RowKit
theorem rn1 (i j k : Nat) : rn [(i, j)] k = if k = i then j else k := by
 simp only [rn]
 by_cases h : k = i
 ·subst h
  rw [Nat.beq_refl, if_pos rfl]
  rfl
 ·rw [aBw h, if_neg h]
  rfl
def renS (l : List (Nat × Nat)) : Slots → Slots
 | [] => []
 | (k, v) :: r => (k, v.ren l) :: renS l r
theorem zZ (l : List (Nat × Nat)) : ∀ (sl : Slots) (k : Nat), look (renS l sl) k = (look sl k).ren l
 | [], _ => rfl
 | (n, v) :: r, k => by
  simp only [renS]
  by_cases h : k = n
  ·subst h
   rw [iK, iK]
  ·rw [jS h, jS h]
   exact zZ l r k
section
variable {w : World} {Pr : Prot} {β β' : Nat → Value} {κ κ' : Nat → Nat} {i j : Nat}
theorem nB {k : Nat} (h : Nat.beq j k = false) : k ≠ j := by
 rintro rfl
 rw [Nat.beq_refl] at h
 cases h
theorem RepV.ren1 {v : Value} {x : V} (h : RepV w Pr β κ v x) (hx : x.has j = false) (hb : ∀ k, k ≠ j → β' (rn [(i, j)] k) = β k) (hk : ∀ k, k ≠ j → κ' (rn [(i, j)] k) = κ k) : RepV w Pr β' κ' v (x.ren [(i, j)]) := by
 have sub : ∀ {cs : List Value} {xs : List V}, (∀ (m : Nat) (v : Value) (d : V), cs[m]? = some v → xs[m]? = some d → d.has j = false → RepV w Pr β' κ' v (d.ren [(i, j)])) → V.hasL j xs = false → ∀ (m : Nat) (v : Value) (d : V), cs[m]? = some v → (V.renL [(i, j)] xs)[m]? = some d → RepV w Pr β' κ' v d := by
  intro cs xs ih hw m v d h1 h2
  rw [lW, Option.map_eq_some_iff] at h2
  obtain ⟨y, h2, rfl⟩ := h2
  exact ih m v y h1 h2 (gJ hw h2)
 induction h with
 | und v => exact .und v
 | d v z h => exact .d v z h
 | ep b p o z u hr => exact .ep b p o z u hr
 | box m o g h => exact .box _ o g ((hb m (nB hx)).trans h)
 | sl m o n c g h hc hm hz => exact .sl _ o n c g ((hb m (nB hx)).trans h) hc hm (by rw [hk m (nB hx)]; exact hz)
 | mp m g h => exact .mp _ g ((hb m (nB hx)).trans h)
 | row m k v hs hk' h => exact .row _ k v hs (by rw [hk m (nB hx)]; exact hk') (by rw [hk m (nB hx), hb m (nB hx)]; exact h)
 | vp m k o v hs hk' h => exact .vp _ k o v hs (by rw [hk m (nB hx)]; exact hk') (by rw [hk m (nB hx), hb m (nB hx)]; exact h)
 | agg cs xs hl hd ih => exact .agg cs _ (by rw [hl, eU]) (sub ih hx)
 | clo f cs xs hl hd ih => exact .clo f cs _ (by rw [hl, eU]) (sub ih hx)
 | mv f cs xs hl hd ih => exact .mv f cs _ (by rw [hl, eU]) (sub ih hx)
 | tup cs xs hl hd ih => exact .tup cs _ (by rw [hl, eU]) (sub ih hx)
theorem RepO.ren1 {B k : Nat} {o : O} (h : RepO w Pr B β κ k o) (hk0 : k ≠ j) (ho : o.has j = false) (hb : ∀ k, k ≠ j → β' (rn [(i, j)] k) = β k) (hk : ∀ k, k ≠ j → κ' (rn [(i, j)] k) = κ k) : RepO w Pr B β' κ' (rn [(i, j)] k) (o.ren [(i, j)]) := by
 cases o with
 | box T xs =>
  obtain ⟨g, cs, h1, h2, h3, h4, h5, h6⟩ := h
  refine ⟨g, cs, (hb k hk0).trans h1, h2, h3, by rw [h4, eU], fun m v x hm hx => ?_, h6⟩
  rw [lW, Option.map_eq_some_iff] at hx
  obtain ⟨y, h7, rfl⟩ := hx
  exact (h5 m v y hm h7).ren1 (gJ ho h7) hb hk
 | row e s n r =>
  obtain ⟨h1, xs, h2, h3, h4, h5⟩ := h
  exact ⟨(hk k hk0).trans h1, xs, by rw [hb k hk0]; exact h2, h3, h4, by rw [hb k hk0]; exact h5⟩
 | vec e s n r =>
  obtain ⟨h1, xs, h2, h3, h4, h5⟩ := h
  exact ⟨(hk k hk0).trans h1, xs, by rw [hb k hk0]; exact h2, h3, h4, by rw [hb k hk0]; exact h5⟩
 | byt e n r =>
  obtain ⟨h1, g, cap, cur, fz, h2, h3⟩ := h
  exact ⟨(hk k hk0).trans h1, g, cap, cur, fz, (hb k hk0).trans h2, h3⟩
 | map T c r =>
  obtain ⟨g, es, h1, h2⟩ := h
  exact ⟨g, es, (hb k hk0).trans h1, h2⟩
 | iter v s n c =>
  obtain ⟨g, gm, h1, h2, h3, h4, h5⟩ := h
  exact ⟨g, gm, (hb k hk0).trans h1, h2, h3, h4.ren1 ho hb hk, h5⟩
end
theorem zR {i j : Nat} : ∀ {ob : Objs} {k : Nat} {o : O}, (∀ q ∈ ob, q.1 ≠ j) → find (renO [(i, j)] ob) k = some o → ∃ k' o', k' ≠ j ∧ k = rn [(i, j)] k' ∧ find ob k' = some o' ∧ o = o'.ren [(i, j)]
 | [], _, _, _, h => by cases h
 | (n, x) :: r, k, o, hne, h => by
  simp only [renO] at h
  by_cases hk : k = rn [(i, j)] n
  ·subst hk
   rw [cN] at h
   cases h
   exact ⟨n, x, hne (n, x) (by simp), rfl, cN n x r, rfl⟩
  ·rw [cE hk] at h
   obtain ⟨k', o', h1, h2, h3, h4⟩ := zR (fun q hq => hne q (by simp [hq])) h
   refine ⟨k', o', h1, h2, ?_, h4⟩
   rw [cE (fun e => hk (by rw [h2, e])), h3]
section
variable {E : Entry} {sl : Slots} {ob : Objs} {a : Act} {w : World} {Pr : Prot} {β : Nat → Value} {κ : Nat → Nat}
theorem Good.ren1 (h : Good E sl ob a w Pr β κ) {i j : Nat} (h0 : find E.ob0 j = none) (hno : noneOf j sl ob = true) : Inv E (renS [(i, j)] sl) (renO [(i, j)] (dropK [j] ob)) a w := by
 let β' : Nat → Value := fun k => if k = j then β i else β k
 let κ' : Nat → Nat := fun k => if k = j then κ i else κ k
 have hb : ∀ k, k ≠ j → β' (rn [(i, j)] k) = β k := fun k hk => by
  rw [rn1]
  by_cases hi : k = i
  ·rw [if_pos hi, hi]
   simp [β']
  ·rw [if_neg hi]
   simp [β', hk]
 have hk : ∀ k, k ≠ j → κ' (rn [(i, j)] k) = κ k := fun k hk => by
  rw [rn1]
  by_cases hi : k = i
  ·rw [if_pos hi, hi]
   simp [κ']
  ·rw [if_neg hi]
   simp [κ', hk]
 have hne : ∀ q ∈ dropK [j] ob, q.1 ≠ j := by
  have : ∀ (r : Objs), ∀ q ∈ dropK [j] r, q.1 ≠ j := by
   intro r
   induction r with
   | nil => intro q hq; cases hq
   | cons p r ih =>
    obtain ⟨n, x⟩ := p
    intro q hq
    simp only [dropK] at hq
    cases hm : mem [j] n with
    | true => rw [hm] at hq; exact ih q hq
    | false =>
     rw [hm] at hq
     simp only [cond_false, List.mem_cons] at hq
     rcases hq with rfl | hq
     ·intro e
      have e : n = j := e
      rw [e] at hm
      simp [mem] at hm
     ·exact ih q hq
  exact this ob
 have hfind : ∀ k o, find (renO [(i, j)] (dropK [j] ob)) k = some o → ∃ k' o', k' ≠ j ∧ k = rn [(i, j)] k' ∧ find ob k' = some o' ∧ o = o'.ren [(i, j)] := fun k o hko => by
  obtain ⟨k', o', h1, h2, h3, h4⟩ := zR hne hko
  exact ⟨k', o', h1, h2, (dN h3).2, h4⟩
 refine ⟨Pr, β', κ', h.below, h.st0, h.pr0, h.prn, h.prl, h.size, h.defers, fun k => ?_, fun k o hko => ?_, fun k m ok om g h1 h2 h3 h4 => ?_, fun k o g h1 h2 => ?_, fun k o h1 => ?_, h.fresh⟩
 ·rw [zZ]
  exact (h.slots k).ren1 (jM hno k) hb hk
 ·obtain ⟨k', o', q1, rfl, q3, rfl⟩ := hfind k o hko
  exact (h.objs k' o' q3).ren1 q1 (iE hno q3) hb hk
 ·obtain ⟨k', o1, q1, rfl, q3, _⟩ := hfind k ok h1
  obtain ⟨m', o2, q4, rfl, q6, _⟩ := hfind m om h2
  rw [hb k' q1] at h3
  rw [hb m' q4] at h4
  rw [h.apart k' m' o1 o2 g q3 q6 h3 h4]
 ·obtain ⟨k', o', q1, rfl, q3, _⟩ := hfind k o h1
  rw [hb k' q1] at h2
  exact h.own k' o' g q3 h2
 ·have hkj : k ≠ j := fun e => by rw [e, h0] at h1; cases h1
  have e1 : β' k = β k := by simp [β', hkj]
  have e2 : κ' k = κ k := by simp [κ', hkj]
  rw [e1, e2]
  exact h.keeps k o h1
theorem aBd {ops : Array Oper} {rest : List Oper} {Q : Exit → Act → World → Prop} (i j : Nat) (h0 : find E.ob0 j = none) (hno : noneOf j sl ob = true) (h : AL E ops rest Q (renS [(i, j)] sl) (renO [(i, j)] (dropK [j] ob))) : AL E ops rest Q sl ob := ⟨fun a w ⟨_, _, _, hg⟩ => h.run a w (hg.ren1 h0 hno)⟩
theorem cX {ops : Array Oper} {rest : List Oper} {Q : Exit → Act → World → Prop} {sl' : Slots} {ob' : Objs} (hs : ∀ p ∈ sl', look sl p.1 = p.2) (ho : ∀ p ∈ ob', find ob p.1 = some p.2) (h : AL E ops rest Q sl' ob') : AL E ops rest Q sl ob := ⟨fun a w hi => h.run a w (hi.less hs ho)⟩
theorem Good.nilcell (h : Good E sl ob a w Pr β κ) {i j s : Nat} {T : TypeId} {l : List V} (hf : find ob i = some (.box T l)) (hj : l[j]? = some (.d (.val (.slice none 0 0)))) : Good E sl ((i, .box T (l.set j (.d (.list s [])))) :: ob) a w Pr β κ := by
 have hcase : ∀ m om, find ((i, .box T (l.set j (.d (.list s [])))) :: ob) m = some om → (m = i ∧ om = .box T (l.set j (.d (.list s [])))) ∨ (m ≠ i ∧ find ob m = some om) := by
  intro m om hm
  by_cases hmi : m = i
  ·subst hmi
   rw [cN] at hm
   cases hm
   exact .inl ⟨rfl, rfl⟩
  ·rw [cE hmi] at hm
   exact .inr ⟨hmi, hm⟩
 have hkey : ∀ m om, find ((i, .box T (l.set j (.d (.list s [])))) :: ob) m = some om → ∃ om', find ob m = some om' := by
  intro m om hm
  rcases hcase m om hm with ⟨rfl, _⟩ | ⟨_, h1⟩
  ·exact ⟨_, hf⟩
  ·exact ⟨_, h1⟩
 refine ⟨h.below, h.st0, h.pr0, h.prn, h.prl, h.size, h.defers, h.slots, fun m om hm => ?_, fun m k om ok g h1 h2 => ?_, fun m om g h1 => ?_, h.keeps, h.fresh⟩
 ·rcases hcase m om hm with ⟨rfl, rfl⟩ | ⟨_, h1⟩
  ·obtain ⟨g, cs, q1, q2, q3, q4, q5, q6⟩ := h.objs m _ hf
   refine ⟨g, cs, q1, q2, q3, by simp [q4], fun n v x hn hx => ?_, q6⟩
   by_cases hnj : j = n
   ·subst hnj
    have hlt := (List.getElem?_eq_some_iff.1 hj).1
    rw [List.getElem?_set_self hlt] at hx
    cases hx
    have := (q5 j v _ hn hj).val_inv
    subst this
    exact .d _ _ (.nil none 0 s (Nat.zero_le _))
   ·rw [List.getElem?_set_ne hnj] at hx
    exact q5 n v x hn hx
  ·exact h.objs m om h1
 ·obtain ⟨o1, k1⟩ := hkey m om h1
  obtain ⟨o2, k2⟩ := hkey k ok h2
  exact h.apart m k o1 o2 g k1 k2
 ·obtain ⟨o1, k1⟩ := hkey m om h1
  exact h.own m o1 g k1
theorem dC {x : Exit} {Q : Exit → Act → World → Prop} (i j s : Nat) {T : TypeId} {l l' : List V} (hf : find ob i = some (.box T l)) (hj : l[j]? = some (.d (.val (.slice none 0 0)))) (hl : l.set j (.d (.list s [])) = l') (h : AQ E x Q sl ((i, .box T l') :: ob)) : AQ E x Q sl ob := by
 subst hl
 exact ⟨fun a w ⟨_, _, _, hg⟩ => h.run a w ⟨_, _, _, hg.nilcell hf hj⟩⟩
end
end
section
open Go.RowKit
section
variable {E : Entry} {sl : Slots} {ob : Objs} {a : Act} {w : World} {Pr : Prot} {β : Nat → Value} {κ : Nat → Nat}
variable {d : Nat} {dd : Option Nat} {t T ty : TypeId} {p : String} {af : Array Edge} {g : Option (Nat × Bool)} {x y c : Operand}
def byteV (s : ByteArray) : List V := s.data.toList.map fun u => .d (.val (.int .u8 u.toNat))
end
end
end Go.Proofs.YtaodngiigdbgeaaGreatDoor
