/-
  Conditions: none.
-/
import Derived.Laws.StructEq
import Derived.Lib.AppendStr
import Derived.Lib.UnsafeStr
import Derived.Test.YtaodngiigdbgeaaGreatDoorMaa
import Derived.Test.YtaodngiigdbgeaaGreatDoorMae
import Derived.Test.YtaodngiigdbgeaaGreatDoorMag
set_option maxHeartbeats 16000000
set_option maxRecDepth 20000
set_option linter.unusedSimpArgs false
set_option linter.unusedVariables false
namespace Go.Proofs.YtaodngiigdbgeaaGreatDoor
section
open Go.RowKit
theorem gZ : Tryz.prog.follows .mixedOrders = true := by kernel_rfl
theorem Kept.trans {Pr Pr1 : Prot} {β : Nat → Value} {ob : Objs} {w0 w1 w2 : World} (h : Kept Pr β ob w0 w1) (h' : Kept Pr1 β ob w1 w2) (hp : ∀ b o, Pr b o → Pr1 b o) : Kept Pr β ob w0 w2 :=
 ⟨fun b o ho => (h'.stays b o (hp b o ho)).trans (h.stays b o ho), fun i o g h1 h2 => (h'.objs i o g h1 h2).trans (h.objs i o g h1 h2), Nat.le_trans h.size h'.size⟩
def Then (β : Nat → Value) (κ : Nat → Nat) (β1 : Nat → Value) (κ1 : Nat → Nat) : Prop := ∀ i, (β1 i = β i ∧ κ1 i = κ i) ∨ (κ i < κ1 i ∧ ∃ A n c, β i = .slice A n c)
theorem Then.refl (β : Nat → Value) (κ : Nat → Nat) : Then β κ β κ := fun _ => .inl ⟨rfl, rfl⟩
theorem Then.trans {β β1 β2 : Nat → Value} {κ κ1 κ2 : Nat → Nat} (h : Then β κ β1 κ1) (h' : Then β1 κ1 β2 κ2) : Then β κ β2 κ2 := fun i => by
 rcases h i with ⟨k1, k2⟩ | ⟨k1, k2⟩
 ·rcases h' i with ⟨q1, q2⟩ | ⟨q1, q2⟩
  ·exact .inl ⟨q1.trans k1, q2.trans k2⟩
  ·exact .inr ⟨by omega, by rw [← k1]; exact q2⟩
 ·rcases h' i with ⟨q1, q2⟩ | ⟨q1, q2⟩
  ·exact .inr ⟨by omega, k2⟩
  ·exact .inr ⟨by omega, k2⟩
structure Now (ob0 ob : Objs) (w0 w : World) (Pr Pr1 : Prot) (β β1 : Nat → Value) (κ κ1 : Nat → Nat) : Prop where
 kept : Kept Pr β ob0 w0 w
 pr : ∀ b o, Pr b o → Pr1 b o
 then_ : Then β κ β1 κ1
 sub : ∀ i o, find ob0 i = some o → find ob i = some o ∧ β1 i = β i
structure AM (E : Entry) (ops : List Oper) (tail : (World → Prop) → Act → World → Prop) (Q : Exit → Act → World → Prop) (pl : List (Nat × Bool × Oper)) (sl0 : Slots) (ob0 : Objs) (sl : Slots) (ob : Objs) : Prop where
 run : ∀ a w0 w Pr Pr1 β β1 κ κ1, Good E sl0 ob0 a w0 Pr β κ → Good E sl ob a w Pr1 β1 κ1 → Now ob0 ob w0 w Pr Pr1 β β1 κ κ1 →
  wpMix Tryz.prog ops.toArray (Kept Pr β ob0 w0) Q (tail (Kept Pr β ob0 w0)) pl a w
def lastR (ops : List Oper) (tail : List Oper) (Q : Exit → Act → World → Prop) : (World → Prop) → Act → World → Prop := fun _ => wpList Tryz.prog ops.toArray Q tail
mutual
def D.plain : D → Bool
 | .val _ => true
 | .agg l => D.plainL l
 | .tup l => D.plainL l
 | .list .. => false
 | .err => false
 | .ifc .. => false
def D.plainL : List D → Bool
 | [] => true
 | x :: l => match x.plain with | true => D.plainL l | false => false
end
def flat : D → V
 | .val v => .d (.val v)
 | .agg l => match D.plainL l with | true => .d (.agg l) | false => .und
 | .tup l => match D.plainL l with | true => .d (.tup l) | false => .und
 | _ => .und
theorem rC : ∀ {l : List D} {i : Nat} {d : D}, D.plainL l = true → l[i]? = some d → d.plain = true
 | [], i, d, _, h => by simp at h
 | x :: l, 0, d, h, h2 => by
  simp at h2
  subst h2
  simp only [D.plainL] at h
  cases hx : x.plain with
  | true => rfl
  | false => rw [hx] at h; cases h
 | x :: l, i + 1, d, h, h2 => by
  simp only [D.plainL] at h
  cases hx : x.plain with
  | true => rw [hx] at h; exact rC h (by simpa using h2)
  | false => rw [hx] at h; cases h
theorem aAp {w w' : World} {Pr Pr' : Prot} {v : Value} {d : D} (h : RepD w Pr v d) (hp : d.plain = true) : RepD w' Pr' v d := by
 induction h with
 | val v => exact .val v
 | nil A c s hm => cases hp
 | list b o n c s l u hn hss hc hm hr hd ih => cases hp
 | agg cs l hl hd ih => exact .agg cs l hl (fun i v d h1 h2 => ih i v d h1 h2 (rC hp h2))
 | tup cs l hl hd ih => exact .tup cs l hl (fun i v d h1 h2 => ih i v d h1 h2 (rC hp h2))
 | err t u => cases hp
 | ifc t u x h ih => cases hp
theorem sT {w w' : World} {Pr Pr' : Prot} {β : Nat → Value} {κ : Nat → Nat} {v : Value} {d : D} (h : RepD w Pr v d) : RepV w' Pr' β κ v (flat d) := by
 cases d with
 | val u => cases h; exact .d _ _ (.val _)
 | list s l => exact .und _
 | err => exact .und _
 | ifc t x => exact .und _
 | agg l =>
  simp only [flat]
  cases hp : D.plainL l with
  | true => exact .d _ _ (aAp h hp)
  | false => exact .und _
 | tup l =>
  simp only [flat]
  cases hp : D.plainL l with
  | true => exact .d _ _ (aAp h hp)
  | false => exact .und _
section
variable {E : Entry} {sl sl0 : Slots} {ob ob0 : Objs} {ops : List Oper} {tail : (World → Prop) → Act → World → Prop} {pl : List (Nat × Bool × Oper)} {Q : Exit → Act → World → Prop} {i : Nat}
variable {d : Nat} {op : Op} {ty : TypeId} {p : String} {af : Array Edge} {dst : Option Nat}
def Want (ops : List Oper) (sl : Slots) (yes : Bool) : Option (Nat × Bool) → Prop
 | none => yes = true
 | some (j, want) => ∃ t, (ops.toArray[j]?).bind (·.dst) = some t ∧ ((∃ b, look sl t = .d (.val (.bool b)) ∧ (b == want) = yes) ∨ (yes = false ∧ look sl t = .d (.val undef)))
theorem cM : Want ops sl true none := rfl
theorem bL {j t : Nat} {want b : Bool} (hj : (ops.toArray[j]?).bind (·.dst) = some t) (hb : look sl t = .d (.val (.bool b))) (hw : b = want) : Want ops sl true (some (j, want)) := ⟨t, hj, .inl ⟨b, hb, by simp [hw]⟩⟩
theorem qM {j t : Nat} {b : Bool} (hj : (ops.toArray[j]?).bind (·.dst) = some t) (hb : look sl t = .d (.val (.bool b))) (hw : b = false) : Want ops sl false (some (j, true)) := ⟨t, hj, .inl ⟨b, hb, by simp [hw]⟩⟩
theorem qL {j t : Nat} {b : Bool} (hj : (ops.toArray[j]?).bind (·.dst) = some t) (hb : look sl t = .d (.val (.bool b))) (hw : b = true) : Want ops sl false (some (j, false)) := ⟨t, hj, .inl ⟨b, hb, by simp [hw]⟩⟩
theorem aAx {j t : Nat} {want : Bool} (hj : (ops.toArray[j]?).bind (·.dst) = some t) (hb : look sl t = .d (.val undef)) : Want ops sl false (some (j, want)) := ⟨t, hj, .inr ⟨rfl, hb⟩⟩
variable {g : Option (Nat × Bool)}
theorem Want.is {a : Act} {w : World} {Pr : Prot} {β : Nat → Value} {κ : Nat → Nat} {yes : Bool} (h : Want ops sl yes g) (hi : Good E sl ob a w Pr β κ) : Region.wanted ⟨dst, op, ty, p, af, g⟩ (yielded ops.toArray a.tmps) = yes := by
 cases g with
 | none => simp only [Want] at h; simp [Region.wanted, h]
 | some q =>
  obtain ⟨j, want⟩ := q
  obtain ⟨t, hj, ⟨b, hb, hw⟩ | ⟨rfl, hb⟩⟩ := h
  rotate_left
  ·have hs := hi.slots t
   rw [hb] at hs
   exact yJ hj hs.val_inv
  rw [← hw]
  exact uD (ops := ops.toArray) (o := ⟨dst, op, ty, p, af, some (j, want)⟩) ⟨Pr, β, κ, hi⟩ rfl hj hb
theorem Now.rep {w0 w : World} {Pr Pr1 : Prot} {β β1 : Nat → Value} {κ κ1 : Nat → Nat} (hn : Now ob0 ob w0 w Pr Pr1 β β1 κ κ1) {v : Value} {x : V} (h : RepV w0 Pr β κ v x) : RepV w Pr1 β1 κ1 v x := (h.keep hn.kept.stays hn.pr).chg (fun i _ => hn.then_ i)
theorem bS {x : V} (hw : Want ops sl true g) (h : Y E ⟨some d, op, ty, p, af, g⟩ sl0 ob0 x) (hd : d < E.n) (hK : AM E ops tail Q pl ((d, x) :: sl0) ob0 ((d, x) :: sl) ob) : AM E ops tail Q ((i, true, ⟨some d, op, ty, p, af, g⟩) :: pl) sl0 ob0 sl ob :=
 ⟨fun a w0 w Pr Pr1 β β1 κ κ1 h0 h1 hn => by
  obtain ⟨v, hv, hr⟩ := h a w0 Pr β κ h0
  exact aOw (hw.is h1) ⟨v, hr, hK.run _ w0 w Pr Pr1 β β1 κ κ1 (h0.put hd hv) (h1.put hd (hn.rep hv)) hn⟩⟩
theorem am_y' {x : V} (hw : Want ops sl true g) (h : Y E ⟨some d, op, ty, p, af, g⟩ sl0 ob0 x) (hd : d < E.n) (hK : AM E ops tail Q pl ((d, x) :: sl0) ob0 ((d, x) :: sl) ob) : AM E ops tail Q ((i, false, ⟨some d, op, ty, p, af, g⟩) :: pl) sl0 ob0 sl ob :=
 ⟨fun a w0 w Pr Pr1 β β1 κ κ1 h0 h1 hn => by
  obtain ⟨v, hv, hr⟩ := h a w0 Pr β κ h0
  refine gU (hw.is h1) (fun K hKK => ?_)
  unfold Oper.wp
  rw [hr w hn.kept, Oper.upon_value]
  exact hKK.out _ _ hn.kept fun _ => hK.run _ w0 w Pr Pr1 β β1 κ κ1 (h0.put hd hv) (h1.put hd (hn.rep hv)) hn⟩
theorem aSe (hw : Want ops sl false g) (hd : d < E.n) (hK : AM E ops tail Q pl ((d, .d (.val undef)) :: sl0) ob0 ((d, .d (.val undef)) :: sl) ob) : AM E ops tail Q ((i, true, ⟨some d, op, ty, p, af, g⟩) :: pl) sl0 ob0 sl ob :=
 ⟨fun _ w0 w Pr Pr1 β β1 κ κ1 h0 h1 hn => aOv (hw.is h1) (hK.run _ w0 w Pr Pr1 β β1 κ κ1 (h0.put hd (.d _ _ (.val _))) (h1.put hd (.d _ _ (.val _))) hn)⟩
theorem aMy (hw : Want ops sl false g) (hd : d < E.n) (hK : AM E ops tail Q pl ((d, .d (.val undef)) :: sl0) ob0 ((d, .d (.val undef)) :: sl) ob) : AM E ops tail Q ((i, false, ⟨some d, op, ty, p, af, g⟩) :: pl) sl0 ob0 sl ob :=
 ⟨fun _ w0 w Pr Pr1 β β1 κ κ1 h0 h1 hn => aOu hn.kept (hw.is h1) (hK.run _ w0 w Pr Pr1 β β1 κ κ1 (h0.put hd (.d _ _ (.val _))) (h1.put hd (.d _ _ (.val _))) hn)⟩
theorem aMz {s : Bool} {j t : Nat} {want b : Bool} (hj : (ops.toArray[j]?).bind (·.dst) = some t) (hb : look sl t = .d (.val (.bool b)))
  (h1 : b = true → AM E ops tail Q ((i, s, ⟨dst, op, ty, p, af, some (j, want)⟩) :: pl) sl0 ob0 sl ob) (h2 : b = false → AM E ops tail Q ((i, s, ⟨dst, op, ty, p, af, some (j, want)⟩) :: pl) sl0 ob0 sl ob) :
  AM E ops tail Q ((i, s, ⟨dst, op, ty, p, af, some (j, want)⟩) :: pl) sl0 ob0 sl ob := by
 have _ := hj
 have _ := hb
 cases b
 ·exact h2 rfl
 ·exact h1 rfl
theorem Now.grow {a : Act} {w0 w w' : World} {Pr Pr1 Pr2 : Prot} {β β1 : Nat → Value} {κ κ1 : Nat → Nat} (hn : Now ob0 ob w0 w Pr Pr1 β β1 κ κ1) (h1 : Good E sl ob a w Pr1 β1 κ1) (hx : Below w.heap.size w w') (hp : ∀ b o, Pr1 b o → Pr2 b o) : Now ob0 ob w0 w' Pr Pr2 β β1 κ κ1 :=
 ⟨hn.kept.trans (Pr1 := Pr1) ⟨iH h1 hx, fun i o g h3 h4 => hx.block g ((h1.objs i o (hn.sub i o h3).1).blkLt g (by rw [(hn.sub i o h3).2]; exact h4)).2, hx.size⟩ hn.pr, fun b o ho => hp b o (hn.pr b o ho), hn.then_, hn.sub⟩
theorem aSd {f : FuncId} {ds : List D} {Post : D → Prop} {c : Operand} {xs : List Operand} {ats : Array TypeId} (hc : PureC f ds Post) (hw : Want ops sl true g) (hf : ev sl c = .d (.val (.func (.func f) #[] #[]))) (hE : Fine E) (hd : d < E.n) (ha : ArgsD sl ob xs ds)
  (hK : ∀ r, Post r → AM E ops tail Q pl ((d, flat r) :: sl0) ob0 ((d, .d r) :: sl) ob) : AM E ops tail Q ((i, false, ⟨some d, .call { callee := .value c, args := xs.toArray, argTypes := ats }, ty, p, af, g⟩) :: pl) sl0 ob0 sl ob := by
 refine ⟨fun a w0 w Pr Pr1 β β1 κ κ1 h0 h1 hn => ?_⟩
 refine gU (hw.is h1) (fun K hKK => ?_)
 obtain ⟨hl, hr⟩ := ha.rep h1
 have hcall := hc.2 w Pr1 (xs.map a.eval) h1.prl (jQ hE h1) hl hr
 have hrun : (execOp a.eval ⟨some d, .call { callee := .value c, args := xs.toArray, argTypes := ats }, ty, p, af, g⟩).run Tryz.prog w = .ok (.enter f (xs.map a.eval).toArray) w := by
  simp [execOp, resolve, Deferred.ofValue, invoke, bT h1 hf, dZ hc.1]
 unfold Oper.wp
 rw [hrun, Oper.upon_enter]
 refine hcall.mono fun e w' ⟨v, r, he, hpo, hrep, hb⟩ => ?_
 subst he
 have hn2 := hn.grow (Pr2 := PrNew Pr1 w w') h1 hb (fun _ _ h => .inl h)
 refine hKK.out _ _ hn2.kept fun _ => (hK r hpo).run _ w0 w' Pr _ β β1 κ κ1 (h0.put hd ?_) (h1.called hb hrep hd) hn2
 exact sT hrep
theorem eQ {t : TypeId} {parts : List (Nat × Operand)} {dp : List (Nat × D)} {l : List D} {l2 : List (List D)} {e es eb n : Nat} {ez : Value} (hw : Want ops sl true g) (hT : ti t = .sl e es eb ez) (hp : PartsD sl ob parts dp) (hl : dfill (fun i => some (i * es, es)) (zerosD es n ez) dp = some l) (hc2 : chunk es n l = l2) (hn : n * es ≤ 1000) (hn2 : n ≤ 1000) (hd : d < E.n)
  (hK : AM E ops tail Q pl ((d, .und) :: sl0) ob0 ((d, .d (.list es l2)) :: sl) ob) : AM E ops tail Q ((i, false, ⟨some d, .buildSlice t n parts.toArray, ty, p, af, g⟩) :: pl) sl0 ob0 sl ob := by
 refine ⟨fun a w0 w Pr Pr1 β β1 κ κ1 h0 h1 hn0 => ?_⟩
 refine gU (hw.is h1) (fun K hKK => ?_)
 obtain ⟨v, w', hrun, hx, hr⟩ := aIs (d := d) (T := ty) (p := p) (af := af) (g := g) h1 hT hp hl hc2 hn hn2
 unfold Oper.wp
 rw [hrun, Oper.upon_value]
 have hn2 := hn0.grow (Pr2 := PrNew Pr1 w w') h1 hx (fun _ _ h => .inl h)
 exact hKK.out _ _ hn2.kept fun _ => hK.run _ w0 w' Pr _ β β1 κ κ1 (h0.put hd (.und _)) ((h1.grow hx (Pr' := PrNew Pr1 w w') (fun _ _ h => .inl h) (fun _ _ h => h)).put hd (.d _ _ hr)) hn2
theorem dK {t : TypeId} {x : Operand} {z : D} {c : List D} {e es eb : Nat} {ez : Value} (hw : Want ops sl true g) (hT : ti t = .sl e es eb ez) (hx : ToD ob (ev sl x) z) (hc : cellsD z = c) (hl : c.length = es) (hes : es ≤ 1000) (hd : d < E.n)
  (hK : AM E ops tail Q pl ((d, .und) :: sl0) ob0 ((d, .d (.list es [c])) :: sl) ob) : AM E ops tail Q ((i, false, ⟨some d, .buildSlice t 1 #[(0, x)], ty, p, af, g⟩) :: pl) sl0 ob0 sl ob := by
 subst hc
 have h0 : (zerosD es 1 ez).length = es := by simp [zerosD]
 have hp : PartsD sl ob [(0, x)] [(0, z)] := .cons hx .nil
 refine eQ (l := cellsD z) hw hT hp ?_ (by simp [chunk, hl, List.take_of_length_le]) zb zb hd hK
 have h2 : putD (zerosD es 1 ez) 0 (cellsD z) = cellsD z := by
  simp only [putD, List.take_zero, List.nil_append, Nat.zero_add]
  rw [List.drop_of_length_le zb, List.append_nil]
 simp only [dfill, Nat.zero_mul, h2]
 rw [if_pos ⟨hl, by omega⟩]
def flatV : V → V
 | .d x => flat x
 | _ => .und
theorem wV {l : List (Nat × Nat)} {ob1 ob' : Objs} {i : Nat} {o : O} (hl : okRen l = true) (hk : ∀ i ∈ keys ob', i ∈ l.map (·.1)) (h1 : ∀ k ∈ keys ob', rn l k ≠ i) (h2 : i ∉ (keys ob1).map (rn l)) (h : find ob i = some o) : find (renO l ob' ++ dropK ((keys ob1).map (rn l)) ob) i = some o := by
 have e1 : ∀ r : Objs, (∀ k ∈ keys r, rn l k ≠ i) → find (renO l r ++ dropK ((keys ob1).map (rn l)) ob) i = find (dropK ((keys ob1).map (rn l)) ob) i := by
  intro r
  induction r with
  | nil => intro _; rfl
  | cons p r ih =>
   obtain ⟨j, x⟩ := p
   intro hr
   simp only [renO, List.cons_append]
   rw [cE (fun e => hr j (by simp [keys]) e.symm)]
   exact ih (fun k hk => hr k (List.mem_cons_of_mem _ hk))
 rw [e1 ob' h1]
 clear e1
 induction ob with
 | nil => cases h
 | cons p r ih =>
  obtain ⟨j, x⟩ := p
  simp only [dropK]
  by_cases hij : i = j
  ·subst hij
   have hm : mem ((keys ob1).map (rn l)) i = false := by
    cases hm : mem ((keys ob1).map (rn l)) i with
    | false => rfl
    | true => exact absurd (cA.1 hm) h2
   rw [hm]
   simp only [cond_false]
   rw [cN] at h ⊢
   exact h
  ·rw [cE hij] at h
   cases hm : mem ((keys ob1).map (rn l)) j with
   | true => exact ih h
   | false =>
    simp only [cond_false]
    rw [cE hij]
    exact ih h
theorem aMw {f : FuncId} {args : List V} {ob1 : Objs} {Post : V → Objs → Prop} {c : Operand} {xs : List Operand} {ats : Array TypeId} (l : List (Nat × Nat)) (hc : ObC f args ob1 [] Post) (hw : Want ops sl true g) (hf : ev sl c = .d (.val (.func (.func f) #[] #[]))) (hE : Fine E) (hd : d < E.n) (ha : ArgsV l sl ob xs args)
  (hL : Lends E sl ob l ob1 []) (hfree : ((keys ob0).all fun j => !(mem ((keys ob1).map (rn l)) j)) = true)
  (hK : ∀ x ob', Post x ob' → ∀ y ob2, x.ren l = y → renO l ob' ++ dropK ((keys ob1).map (rn l)) ob = ob2 → AM E ops tail Q pl ((d, flatV y) :: sl0) ob0 ((d, y) :: sl) ob2) : AM E ops tail Q ((i, false, ⟨some d, .call { callee := .value c, args := xs.toArray, argTypes := ats }, ty, p, af, g⟩) :: pl) sl0 ob0 sl ob := by
 refine ⟨fun a w0 w Pr Pr1 β β1 κ κ1 h0 h h2 => ?_⟩
 refine gU (hw.is h) (fun K hKK => ?_)
 obtain ⟨hlen, hr⟩ := ha.rep h
 have hfo := hL.find
 obtain ⟨ho, hl, hk, hk2, hn⟩ := hL
 have hcall := hc.2 w Pr1 (xs.map a.eval) _ _ h.prl (jQ hE h) hlen hr (fun i o hi => qF (h.objs _ _ (hfo i o hi))) (fun i j oi oj g hi hj hgi hgj => by
  have e := h.apart _ _ _ _ g (hfo i oi hi) (hfo j oj hj) hgi hgj
  have k1 := eT hl (cA.1 (List.all_eq_true.1 hk i (List.mem_append_left _ (cO hi))))
  have k2 := eT hl (cA.1 (List.all_eq_true.1 hk j (List.mem_append_left _ (cO hj))))
  rw [e, k2] at k1
  cases k1
  rfl)
 have hrun : (execOp a.eval ⟨some d, .call { callee := .value c, args := xs.toArray, argTypes := ats }, ty, p, af, g⟩).run Tryz.prog w = .ok (.enter f (xs.map a.eval).toArray) w := by
  simp [execOp, resolve, Deferred.ofValue, invoke, bT h hf, dZ hc.1]
 unfold Oper.wp
 rw [hrun, Oper.upon_enter]
 refine hcall.mono fun e w' ⟨v, x, ob', Pr', β', κ', he, hp, hA⟩ => ?_
 subst he
 obtain ⟨Pr2, β2, κ2, hG, e1, e2, e3⟩ := h.ocalled2 hd hA ho hl hk hk2 hn
 have hnot : ∀ i o, find ob0 i = some o → i ∉ (keys ob1).map (rn l) := by
  intro i o hi hm
  have := List.all_eq_true.1 hfree i (cO hi)
  rw [cA.2 hm] at this
  cases this
 have hnow : Now ob0 (renO l ob' ++ dropK ((keys ob1).map (rn l)) ob) w0 w' Pr Pr2 β β2 κ κ2 := by
  refine ⟨h2.kept.trans (Pr1 := Pr1) ⟨by rw [e1] at *; exact hA.st, fun i o g h3 h4 => ?_, hA.under.size⟩ h2.pr, fun b o hb => by rw [e1]; exact hA.pr0 b o (h2.pr b o hb), h2.then_.trans (e2 rfl), fun i o hi => ?_⟩
  ·obtain ⟨q1, q2⟩ := h2.sub i o h3
   have hlt := (h.objs i o q1).blkLt g (by rw [q2]; exact h4)
   refine hA.under.block g hlt.2 ?_
   rintro ⟨j, oj, h5, h6⟩
   have := h.apart i (rn l j) o _ g q1 (hfo j oj h5) (by rw [q2]; exact h4) h6
   exact hnot i o h3 (List.mem_map.2 ⟨j, cO h5, this.symm⟩)
  ·obtain ⟨q1, q2⟩ := h2.sub i o hi
   have hnr : ∀ k ∈ keys ob', rn l k ≠ i := by
    intro k hk' e
    obtain ⟨o', ho'⟩ := eR hk'
    have := (hA.wo k o' ho').1
    rw [List.append_nil] at this
    exact hnot i o hi (List.mem_map.2 ⟨k, this, e⟩)
   refine ⟨wV hl (fun k hk' => ?_) hnr (hnot i o hi) q1, (e3 i (hnot i o hi)).trans q2⟩
   obtain ⟨o', ho'⟩ := eR hk'
   exact cA.1 (List.all_eq_true.1 hk k (hA.wo k o' ho').1)
 refine hKK.out _ _ hnow.kept fun _ => (hK x ob' hp _ _ rfl rfl).run _ w0 w' Pr Pr2 β β2 κ κ2 (h0.put hd ?_) hG hnow
 have hx := hA.val
 cases x with
 | d z =>
  exact sT hx.d_inv
 | _ => exact .und _
theorem aZ {tl : List Oper} (h : AL E ops.toArray tl Q sl ob) : AM E ops (lastR ops tl Q) Q [] sl0 ob0 sl ob := ⟨fun _ _ _ _ _ _ β κ _ _ h1 _ => aTp (h.run _ _ ⟨_, _, _, h1⟩)⟩
theorem dF {id : Nat} (plan : List (Nat × Bool)) (tail : List Nat) (hs : Region.noSelect ops.toArray = true) (hw : waitsAll ops.toArray tail = true) (hok : mixOk ops.toArray tail plan (Array.replicate ops.length false) = true) (hlen : plan.length + tail.length ≤ ops.length)
  (h : AM E ops (lastR ops (tailed ops tail) (NoPanic Q)) (NoPanic Q) (planned ops plan) sl ob sl ob) : AW E (.region id ops.toArray true) Q sl ob := by
 refine ⟨fun a w hi => ?_⟩
 obtain ⟨Pr, β, κ, hg⟩ := hi
 have hg2 : Good E sl ob a w.drew Pr β κ := hg.grow (Below.refl _ _).drew (fun _ _ h => h) (fun _ _ h => .inl h)
 exact qV plan tail (Kept Pr β ob w.drew) gZ hs hw hok hlen (Kept.refl _ _ _ _) (fun _ => h.run a w.drew w.drew Pr Pr β β κ κ hg2 hg2 ⟨Kept.refl _ _ _ _, fun _ _ h => h, .refl _ _, fun _ _ h => ⟨h, rfl⟩⟩)
theorem cC {id : Nat} (ob0 : Objs) (plan : List (Nat × Bool)) (tail : List Nat) (hs : Region.noSelect ops.toArray = true) (hw : waitsAll ops.toArray tail = true) (hok : mixOk ops.toArray tail plan (Array.replicate ops.length false) = true) (hlen : plan.length + tail.length ≤ ops.length)
  (ho : ∀ p ∈ ob0, find ob p.1 = some p.2) (h : AM E ops (lastR ops (tailed ops tail) (NoPanic Q)) (NoPanic Q) (planned ops plan) sl ob0 sl ob) : AW E (.region id ops.toArray true) Q sl ob := by
 refine ⟨fun a w hi => ?_⟩
 obtain ⟨Pr, β, κ, hg⟩ := hi
 have hg2 : Good E sl ob a w.drew Pr β κ := hg.grow (Below.refl _ _).drew (fun _ _ h => h) (fun _ _ h => .inl h)
 have hf : ∀ i x, find ob0 i = some x → find ob i = some x := by
  have : ∀ (r : Objs), (∀ p ∈ r, find ob p.1 = some p.2) → ∀ j x, find r j = some x → find ob j = some x := by
   intro r
   induction r with
   | nil => intro _ j x h; cases h
   | cons p r ih =>
    obtain ⟨k, y⟩ := p
    intro hr j x hj
    by_cases hjk : j = k
    ·subst hjk
     rw [cN] at hj
     cases hj
     exact hr (j, y) (by simp)
    ·rw [cE hjk] at hj
     exact ih (fun p hp => hr p (by simp [hp])) j x hj
  exact this _ ho
 have hg3 : Good E sl ob0 a w.drew Pr β κ := ⟨hg2.below, hg2.st0, hg2.pr0, hg2.prn, hg2.prl, hg2.size, hg2.defers, hg2.slots, fun i o hi => hg2.objs i o (hf i o hi), fun i j oi oj g h1 h2 => hg2.apart i j oi oj g (hf i oi h1) (hf j oj h2), fun i o g h1 => hg2.own i o g (hf i o h1), hg2.keeps, hg2.fresh⟩
 exact qV plan tail (Kept Pr β ob0 w.drew) gZ hs hw hok hlen (Kept.refl _ _ _ _) (fun _ => h.run a w.drew w.drew Pr Pr β β κ κ hg3 hg2 ⟨Kept.refl _ _ _ _, fun _ _ h => h, .refl _ _, fun i o h => ⟨hf i o h, rfl⟩⟩)
end
section
variable {E : Entry} {sl : Slots} {ob : Objs} {Q : Exit → Act → World → Prop} {y : Code} {K : Act → World → Prop}
theorem uH (h : AQ E .normal Q sl ob) : AQ E .normal (NoPanic Q) sl ob := ⟨fun a w hi => NoPanic.normal (h.run a w hi)⟩
theorem aR {ops : List Oper} {tail : (World → Prop) → Act → World → Prop} {pl : List (Nat × Bool × Oper)} {i : Nat} {s : Bool} {sl0 : Slots} {ob0 : Objs} (op : Op) {d : Option Nat} {t : TypeId} {p : String} {af : Array Edge} {g : Option (Nat × Bool)} (h : AM E ops tail Q ((i, s, ⟨d, op, t, p, af, g⟩) :: pl) sl0 ob0 sl ob) : AM E ops tail Q ((i, s, ⟨d, op, t, p, af, g⟩) :: pl) sl0 ob0 sl ob := h
end
end
section
open Go.RowKit
section
variable {E : Entry} {sl : Slots} {ob : Objs} {d : Option Nat} {t T ty : TypeId} {p : String} {af : Array Edge} {g : Option (Nat × Bool)} {x y : Operand} {b c : Bool}
theorem aRn (hx : ev sl x = .d (.val (.bool b))) (hy : ev sl y = .d (.val (.bool c))) (ht : Tryz.prog.underlying t = some .bool) : Y E ⟨d, .binOp .eql t x y ty, T, p, af, g⟩ sl ob (.d (.val (.bool (b == c)))) := iQ hx hy rfl fun w => by
 have h := run_equalIn_bool' w 9999 t b c ht
 simp only [binOp, Op.equal, Sem.run_bind]
 rw [show Op.maxDepth = 9999 + 1 from rfl, h]
 rfl
theorem aRo (hx : ev sl x = .d (.val (.bool b))) (hy : ev sl y = .d (.val (.bool c))) (ht : Tryz.prog.underlying t = some .bool) : Y E ⟨d, .binOp .neq t x y ty, T, p, af, g⟩ sl ob (.d (.val (.bool (b != c)))) := iQ hx hy rfl fun w => by
 have h := run_equalIn_bool' w 9999 t b c ht
 simp only [binOp, Op.equal, Sem.run_bind]
 rw [show Op.maxDepth = 9999 + 1 from rfl, h]
 rfl
end
end
section
open Go.RowKit
def bytesD (s : ByteArray) : List (List D) := s.data.toList.map fun c => [.val (.int .u8 c.toNat)]
theorem wP (s : ByteArray) : (bytesD s).length = s.size := by simp [bytesD]
section
variable {P : Program} (w : World)
theorem aBg (base : Nat) (t u ty e : TypeId) (i : TypeInfo) (ht : P.underlying t = some (.slice e)) (hu : P.underlying u = some .string) (hi : P.info? e = some i) (hz : i.zero = some (.int .u8 0)) (hsize : i.size = 1) (hby : i.bytes = 1)
  (v : Value) (n : Nat) (xs : List Value) (hown : w.ownsRow base e 1 v n xs) (s : ByteArray) (hb : n + s.size ≤ 140737488355328) {v' : Value} {w' : World} (h : (Builtin.append_ #[t, u] ty #[v, .string s]).run P w = .ok v' w') : Off v w v' := by
 intro k hk hv
 have hxl : xs.length = n := by simpa using hown.1
 rcases hown.2 with ⟨rfl, rfl⟩ | ⟨g, cap, cur, rfl, hbg, hg, hnc, hcm, hcs, htake⟩
 ·by_cases hm : s.size = 0
  ·have hf := Lib.run_firstCells_string (P := P) w 1 s
   rw [hm] at hf
   have hr : (Builtin.append_ #[t, u] ty #[.slice none 0 0, .string s]).run P w = .ok (.slice none 0 0) w := by
    simp [Builtin.append_, run_underlying ht, run_underlying hu, sizeOf, typeInfo, hi, hsize, Builtin.lenOf, hm, hf]
   rw [hr] at h
   cases h
   exact hv
  ·have hr := run_append_nil_string (P := P) w t u ty e i (.int .u8 0) ht hu hi hz s zb zb (by rw [hby]; omega)
   rw [hr] at h
   cases h
   simp [Value.ownBlock]
   omega
 ·by_cases hroom : n + s.size ≤ cap
  ·have hcs' : cur.size = cap := by simpa using hcs
   have hr := Lib.run_append_room_string (P := P) w t u ty e i ht hu hi hsize g n cap cur hg s hroom zb
   rw [hr] at h
   cases h
   simpa [Value.ownBlock] using hv
  ·have holds : ∀ j u, xs[j]? = some u → w.cell? ((⟨g, 0, none⟩ : Addr).add j) = some u := hown.cells (g := g) rfl
   have hr := Lib.run_append_grow_string (P := P) w t u ty e i (.int .u8 0) ht hu hi hz ⟨g, 0, none⟩ n cap xs (by rw [hsize]; simpa using hxl) holds s zb zb (by rw [hby]; exact growslice_fits zb zb)
   rw [hr] at h
   cases h
   simp [Value.ownBlock]
   omega
theorem wM (base : Nat) (t u ty e : TypeId) (i : TypeInfo) (ht : P.underlying t = some (.slice e)) (hu : P.underlying u = some .string) (hi : P.info? e = some i) (hz : i.zero = some (.int .u8 0)) (hsize : i.size = 1) (hby : i.bytes = 1)
  (v : Value) (n : Nat) (xs : List Value) (hown : w.ownsRow base e 1 v n xs) (s : ByteArray) (hb : n + s.size ≤ 140737488355328) {v' : Value} {w' : World} (h : (Builtin.append_ #[t, u] ty #[v, .string s]).run P w = .ok v' w') (hown' : w'.ownsRow base e 1 v' (n + s.size) (xs ++ Lib.strCells s)) :
  ∀ g, v.ownBlock = some g → ∀ j, j < n * 1 → w'.cell? ⟨g, j, none⟩ = w.cell? ⟨g, j, none⟩ := by
 intro g' hv j hj
 have hxl : xs.length = n := by simpa using hown.1
 have hown0 := hown
 rcases hown.2 with ⟨rfl, rfl⟩ | ⟨g, cap, cur, rfl, hbg, hg, hnc, hcm, hcs, htake⟩
 ·simp [Value.ownBlock] at hv
 ·simp only [Value.ownBlock, Option.some.injEq] at hv
  subst hv
  by_cases hroom : n + s.size ≤ cap
  ·have hcs' : cur.size = cap := by simpa using hcs
   have hr := Lib.run_append_room_string (P := P) w t u ty e i ht hu hi hsize g n cap cur hg s hroom zb
   rw [hr] at h
   cases h
   rw [hown'.cellAt j zb, hown0.cellAt j hj, List.getElem?_append_left zb]
  ·have holds : ∀ j u, xs[j]? = some u → w.cell? ((⟨g, 0, none⟩ : Addr).add j) = some u := hown.cells (g := g) rfl
   have hr := Lib.run_append_grow_string (P := P) w t u ty e i (.int .u8 0) ht hu hi hz ⟨g, 0, none⟩ n cap xs (by rw [hsize]; simpa using hxl) holds s zb zb (by rw [hby]; exact growslice_fits zb zb)
   rw [hr] at h
   cases h
   have hlt := (Array.getElem?_eq_some_iff.1 hg).1
   exact (uI (((Below.refl w.heap.size w).drew).alloc (by simp) _)).1 g j hlt
end
section
variable {E : Entry} {sl : Slots} {ob : Objs} {a : Act} {w : World} {Pr : Prot} {β : Nat → Value} {κ : Nat → Nat}
variable {d : Nat} {t u T ty : TypeId} {p : String} {af : Array Edge} {g : Option (Nat × Bool)} {x y c : Operand}
theorem uS {i k e : Nat} {l : List (List D)} {s : ByteArray} {A : Array TypeId} (hx : ev sl x = .row i k) (hf : find ob i = some (.row e 1 k l)) (hy : ev sl y = .d (.val (.string s))) (hA : A = #[t, u]) (hT : ti t = .sl e 1 1 (.int .u8 0)) (hu : Tryz.prog.underlying u = some .string)
  (hm : l.length + s.size ≤ 140737488355328) (hd : d < E.n) :
  Step E ⟨some d, .call { callee := .builtin .append, args := #[x, y], argTypes := A }, T, p, af, g⟩ sl ob ((d, .row i (k + 1)) :: sl) ((i, .row e 1 (k + 1) (l ++ bytesD s)) :: ob) := by
 subst hA
 refine aQt hf hd rfl (fun a w Pr β κ xs h hown => ?_)
 obtain ⟨hκ, _⟩ := h.objs i _ hf
 have hxv : a.eval x = β i := by
  have := bO h x
  rw [hx] at this
  exact this.row_inv hκ.symm
 have hyv := bT h hy
 obtain ⟨_, ie, _, hut, _, hj, hz, hs, hby, hzs⟩ := mV hT
 obtain ⟨v', w', hrun, h2, h3, _⟩ := Lib.run_append_own_string (P := Tryz.prog) w 0 t u T e ie hut hu hj hz hs hby (β i) l.length xs hown s (by unfold maxLen; omega) hm (Nat.zero_le _)
 refine ⟨v', w', Lib.strCells s, by simp [execOp, resolve, invoke, builtin, hxv, hyv, hrun], ?_⟩
 refine ⟨by rw [wP]; exact h2, h3, aBg w 0 t u T e ie hut hu hj hz hs hby (β i) l.length xs hown s hm hrun, wM w 0 t u T e ie hut hu hj hz hs hby (β i) l.length xs hown s hm hrun h2, by rw [Lib.strCells_length, wP, Nat.mul_one], fun q hq => ?_, fun m j q z h4 h5 => ?_⟩
 ·simp only [bytesD, List.mem_map] at hq
  obtain ⟨_, _, rfl⟩ := hq
  rfl
 ·simp only [bytesD, List.getElem?_map, Option.map_eq_some_iff] at h4
  obtain ⟨c, h4, rfl⟩ := h4
  cases j with
  | zero =>
   simp only [List.getElem?_cons_zero, Option.some.injEq] at h5
   subst h5
   exact ⟨.int .u8 c.toNat, by simp [Lib.strCells, h4], .val _⟩
  | succ j => simp at h5
theorem Good.adoptb (h : Good E sl ob a w Pr β κ) {i j r e s : Nat} {T : TypeId} {l : List V} (hf : find ob i = some (.box T l)) (hx : l[j]? = some (.d (.val (.slice none 0 0)))) (hno : noneOf r sl ob = true) (hr : r < E.n) (hir : i ≠ r) : Inv E sl ((i, .box T (l.set j (.row r 0))) :: (r, .row e s 0 []) :: ob) a w := by
 let β' : Nat → Value := fun i => if i = r then .slice none 0 0 else β i
 let κ' : Nat → Nat := fun i => if i = r then 0 else κ i
 have e1 : β' r = .slice none 0 0 := by simp [β']
 have e2 : κ' r = 0 := by simp [κ']
 have e3 : ∀ j, j ≠ r → β' j = β j := fun j hj => by simp [β', hj]
 have e4 : ∀ j, j ≠ r → κ' j = κ j := fun j hj => by simp [κ', hj]
 have hfr : ∀ i o, find E.ob0 i = some o → i ≠ r := fun i o hi e => by have := h.fresh i o hi; omega
 have hcase : ∀ m om, find ((i, .box T (l.set j (.row r 0))) :: (r, .row e s 0 []) :: ob) m = some om → (m = i ∧ om = .box T (l.set j (.row r 0))) ∨ (m = r ∧ om = .row e s 0 []) ∨ (m ≠ i ∧ m ≠ r ∧ find ob m = some om) := by
  intro m om hm
  by_cases hmi : m = i
  ·subst hmi
   rw [cN] at hm
   cases hm
   exact .inl ⟨rfl, rfl⟩
  ·rw [cE hmi] at hm
   by_cases hmr : m = r
   ·subst hmr
    rw [cN] at hm
    cases hm
    exact .inr (.inl ⟨rfl, rfl⟩)
   ·rw [cE hmr] at hm
    exact .inr (.inr ⟨hmi, hmr, hm⟩)
 have hblk : ∀ m om g, find ((i, .box T (l.set j (.row r 0))) :: (r, .row e s 0 []) :: ob) m = some om → blk (β' m) = some g → m ≠ r ∧ blk (β m) = some g ∧ ∃ om', find ob m = some om' := by
  intro m om g hm hg
  rcases hcase m om hm with ⟨rfl, _⟩ | ⟨rfl, _⟩ | ⟨_, h2, h3⟩
  ·rw [e3 _ hir] at hg; exact ⟨hir, hg, _, hf⟩
  ·rw [e1] at hg; simp [blk] at hg
  ·rw [e3 _ h2] at hg; exact ⟨h2, hg, _, h3⟩
 refine ⟨Pr, β', κ', h.below, h.st0, h.pr0, h.prn, h.prl, h.size, h.defers, fun m => (h.slots m).other (jM hno m) e3 e4, fun m om hm => ?_, fun m k om ok g hm hk hgm hgk => ?_, fun m om g hm hg => ?_, fun m o hm => ?_, h.fresh⟩
 ·rcases hcase m om hm with ⟨rfl, rfl⟩ | ⟨rfl, rfl⟩ | ⟨_, h2, h3⟩
  ·obtain ⟨g, cs, q1, q2, q3, q4, q5, q6⟩ := h.objs m _ hf
   refine ⟨g, cs, (e3 m hir).trans q1, q2, q3, by simp [q4], fun n v z hn hz => ?_, q6⟩
   by_cases hnj : n = j
   ·subst hnj
    have hv := q5 n v _ hn hx
    have hlt := (List.getElem?_eq_some_iff.1 hx).1
    rw [List.getElem?_set_self hlt] at hz
    cases hz
    have hv2 := hv.val_inv
    exact .row r 0 _ ⟨none, 0, 0, hv2⟩ (Nat.zero_le _) (fun _ => by rw [hv2, e1])
   ·rw [List.getElem?_set_ne (Ne.symm hnj)] at hz
    exact (q5 n v z hn hz).other (gJ (iE hno hf) hz) e3 e4
  ·refine ⟨e2, [], ?_, by simp, fun p j x d h1 => by simp at h1, fun g hg => ?_⟩
   ·rw [e1]; exact World.ownsRow_nil _ _ _ _
   ·rw [e1] at hg; simp [Value.ownBlock] at hg
  ·exact (h.objs m om h3).other (iE hno h3) h2 e3 e4
 ·obtain ⟨_, k1, om', k2⟩ := hblk m om g hm hgm
  obtain ⟨_, k3, ok', k4⟩ := hblk k ok g hk hgk
  exact h.apart m k om' ok' g k2 k4 k1 k3
 ·obtain ⟨_, k1, om', k2⟩ := hblk m om g hm hg
  exact h.own m om' g k2 k1
 ·rw [e3 m (hfr m o hm), e4 m (hfr m o hm)]
  exact h.keeps m o hm
theorem aKe {z : Code} {Q : Exit → Act → World → Prop} (i j r e s : Nat) {T : TypeId} {l l' : List V} (hf : find ob i = some (.box T l)) (hx : l[j]? = some (.d (.val (.slice none 0 0)))) (hno : noneOf r sl ob = true) (hr : r < E.n) (hir : Nat.beq i r = false) (hl : l.set j (.row r 0) = l')
  (h : AW E z Q sl ((i, .box T l') :: (r, .row e s 0 []) :: ob)) : AW E z Q sl ob := by
 subst hl
 refine ⟨fun a w hi => ?_⟩
 obtain ⟨Pr, β, κ, hg⟩ := hi
 exact h.run a w (hg.adoptb hf hx hno hr (fun e => by rw [e, Nat.beq_refl] at hir; cases hir))
theorem eV {ops : Array Oper} {rest : List Oper} {Q : Exit → Act → World → Prop} (i j r e s : Nat) {T : TypeId} {l l' : List V} (hf : find ob i = some (.box T l)) (hx : l[j]? = some (.d (.val (.slice none 0 0)))) (hno : noneOf r sl ob = true) (hr : r < E.n) (hir : Nat.beq i r = false) (hl : l.set j (.row r 0) = l')
  (h : AL E ops rest Q sl ((i, .box T l') :: (r, .row e s 0 []) :: ob)) : AL E ops rest Q sl ob := by
 subst hl
 refine ⟨fun a w hi => ?_⟩
 obtain ⟨Pr, β, κ, hg⟩ := hi
 exact h.run a w (hg.adoptb hf hx hno hr (fun e => by rw [e, Nat.beq_refl] at hir; cases hir))
end
end
end Go.Proofs.YtaodngiigdbgeaaGreatDoor
