/-
  Conditions: none.
-/
import Derived.Lib.AppendStr
import Derived.Lib.UnsafeStr
import Derived.Laws.StructEq
import Derived.ChangeKeysEq
import Derived.Laws.OwnMore
import Derived.Laws.BytesArg
import Derived.Laws.Slices
import Derived.Test.YtedoeogopmenpaaGreatDoorMae
set_option maxHeartbeats 16000000
set_option maxRecDepth 20000
namespace Go.Proofs.YtedoeogopmenpaaGreatDoor
section
open Go.RowKit
theorem follows_mixed : Tryz.prog.follows .mixedOrders = true := by kernel_rfl
theorem Kept.trans {Pr Pr1 : Prot} {β : Nat → Value} {ob : Objs} {w0 w1 w2 : World} (h : Kept Pr β ob w0 w1) (h' : Kept Pr1 β ob w1 w2) (hp : ∀ b o, Pr b o → Pr1 b o) : Kept Pr β ob w0 w2 :=
 ⟨fun b o ho => (h'.stays b o (hp b o ho)).trans (h.stays b o ho), fun i o g h1 h2 => (h'.objs i o g h1 h2).trans (h.objs i o g h1 h2), Nat.le_trans h.size h'.size⟩
def Then (β : Nat → Value) (κ : Nat → Nat) (β1 : Nat → Value) (κ1 : Nat → Nat) : Prop := ∀ i, (β1 i = β i ∧ κ1 i = κ i) ∨ (κ i < κ1 i ∧ ∃ A n c, β i = .slice A n c)
theorem Then.refl (β : Nat → Value) (κ : Nat → Nat) : Then β κ β κ := fun _ => .inl ⟨rfl, rfl⟩
theorem Then.trans {β β1 β2 : Nat → Value} {κ κ1 κ2 : Nat → Nat} (h : Then β κ β1 κ1) (h' : Then β1 κ1 β2 κ2) : Then β κ β2 κ2 := fun i => by
 rcases h i with ⟨k1, k2⟩ | ⟨k1, k2⟩
 ·rcases h' i with ⟨q1, q2⟩ | ⟨q1, q2⟩
  ·exact .inl ⟨q1.trans k1, q2.trans k2⟩
  ·exact .inr ⟨by omega, by rw [← k1]; exact q2⟩
 ·rcases h' i with ⟨q1, q2⟩ | ⟨q1, q2⟩
  ·exact .inr ⟨by omega, k2⟩
  ·exact .inr ⟨by omega, k2⟩
structure Now (ob0 ob : Objs) (w0 w : World) (Pr Pr1 : Prot) (β β1 : Nat → Value) (κ κ1 : Nat → Nat) : Prop where
 kept : Kept Pr β ob0 w0 w
 pr : ∀ b o, Pr b o → Pr1 b o
 then_ : Then β κ β1 κ1
 sub : ∀ i o, find ob0 i = some o → find ob i = some o ∧ β1 i = β i
structure AM (E : Entry) (ops : List Oper) (tail : (World → Prop) → Act → World → Prop) (Q : Exit → Act → World → Prop) (pl : List (Nat × Bool × Oper)) (sl0 : Slots) (ob0 : Objs) (sl : Slots) (ob : Objs) : Prop where
 run : ∀ a w0 w Pr Pr1 β β1 κ κ1, Good E sl0 ob0 a w0 Pr β κ → Good E sl ob a w Pr1 β1 κ1 → Now ob0 ob w0 w Pr Pr1 β β1 κ κ1 →
  wpMix Tryz.prog ops.toArray (Kept Pr β ob0 w0) Q (tail (Kept Pr β ob0 w0)) pl a w
def lastR (ops : List Oper) (tail : List Oper) (Q : Exit → Act → World → Prop) : (World → Prop) → Act → World → Prop := fun _ => wpList Tryz.prog ops.toArray Q tail
mutual
def D.plain : D → Bool
 | .val _ => true
 | .agg l => D.plainL l
 | .tup l => D.plainL l
 | .list .. => false
 | .err => false
def D.plainL : List D → Bool
 | [] => true
 | x :: l => match x.plain with | true => D.plainL l | false => false
end
def flat : D → V
 | .val v => .d (.val v)
 | .agg l => match D.plainL l with | true => .d (.agg l) | false => .und
 | .tup l => match D.plainL l with | true => .d (.tup l) | false => .und
 | _ => .und
theorem plainL_mem : ∀ {l : List D} {i : Nat} {d : D}, D.plainL l = true → l[i]? = some d → d.plain = true
 | [], i, d, _, h => by simp at h
 | x :: l, 0, d, h, h2 => by
  simp at h2
  subst h2
  simp only [D.plainL] at h
  cases hx : x.plain with
  | true => rfl
  | false => rw [hx] at h; cases h
 | x :: l, i + 1, d, h, h2 => by
  simp only [D.plainL] at h
  cases hx : x.plain with
  | true => rw [hx] at h; exact plainL_mem h (by simpa using h2)
  | false => rw [hx] at h; cases h
theorem rep_plain {w w' : World} {Pr Pr' : Prot} {v : Value} {d : D} (h : RepD w Pr v d) (hp : d.plain = true) : RepD w' Pr' v d := by
 induction h with
 | val v => exact .val v
 | nil A c s hm => cases hp
 | list b o n c s l u hn hss hc hm hr hd ih => cases hp
 | agg cs l hl hd ih => exact .agg cs l hl (fun i v d h1 h2 => ih i v d h1 h2 (plainL_mem hp h2))
 | tup cs l hl hd ih => exact .tup cs l hl (fun i v d h1 h2 => ih i v d h1 h2 (plainL_mem hp h2))
 | err t u => cases hp
theorem rep_flat {w w' : World} {Pr Pr' : Prot} {β : Nat → Value} {κ : Nat → Nat} {v : Value} {d : D} (h : RepD w Pr v d) : RepV w' Pr' β κ v (flat d) := by
 cases d with
 | val u => cases h; exact .d _ _ (.val _)
 | list s l => exact .und _
 | err => exact .und _
 | agg l =>
  simp only [flat]
  cases hp : D.plainL l with
  | true => exact .d _ _ (rep_plain h hp)
  | false => exact .und _
 | tup l =>
  simp only [flat]
  cases hp : D.plainL l with
  | true => exact .d _ _ (rep_plain h hp)
  | false => exact .und _
section
variable {E : Entry} {sl sl0 : Slots} {ob ob0 : Objs} {ops : List Oper} {tail : (World → Prop) → Act → World → Prop} {pl : List (Nat × Bool × Oper)} {Q : Exit → Act → World → Prop} {i : Nat}
variable {d : Nat} {op : Op} {ty : TypeId} {p : String} {af : Array Edge} {dst : Option Nat}
def Want (ops : List Oper) (sl : Slots) (yes : Bool) : Option (Nat × Bool) → Prop
 | none => yes = true
 | some (j, want) => ∃ t, (ops.toArray[j]?).bind (·.dst) = some t ∧ ((∃ b, look sl t = .d (.val (.bool b)) ∧ (b == want) = yes) ∨ (yes = false ∧ look sl t = .d (.val undef)))
theorem want_none : Want ops sl true none := rfl
theorem want_yes {j t : Nat} {want b : Bool} (hj : (ops.toArray[j]?).bind (·.dst) = some t) (hb : look sl t = .d (.val (.bool b))) (hw : b = want) : Want ops sl true (some (j, want)) := ⟨t, hj, .inl ⟨b, hb, by simp [hw]⟩⟩
theorem want_no_t {j t : Nat} {b : Bool} (hj : (ops.toArray[j]?).bind (·.dst) = some t) (hb : look sl t = .d (.val (.bool b))) (hw : b = false) : Want ops sl false (some (j, true)) := ⟨t, hj, .inl ⟨b, hb, by simp [hw]⟩⟩
theorem want_no_f {j t : Nat} {b : Bool} (hj : (ops.toArray[j]?).bind (·.dst) = some t) (hb : look sl t = .d (.val (.bool b))) (hw : b = true) : Want ops sl false (some (j, false)) := ⟨t, hj, .inl ⟨b, hb, by simp [hw]⟩⟩
theorem want_no_u {j t : Nat} {want : Bool} (hj : (ops.toArray[j]?).bind (·.dst) = some t) (hb : look sl t = .d (.val undef)) : Want ops sl false (some (j, want)) := ⟨t, hj, .inr ⟨rfl, hb⟩⟩
variable {g : Option (Nat × Bool)}
theorem Want.is {a : Act} {w : World} {Pr : Prot} {β : Nat → Value} {κ : Nat → Nat} {yes : Bool} (h : Want ops sl yes g) (hi : Good E sl ob a w Pr β κ) : Region.wanted ⟨dst, op, ty, p, af, g⟩ (yielded ops.toArray a.tmps) = yes := by
 cases g with
 | none => simp only [Want] at h; simp [Region.wanted, h]
 | some q =>
  obtain ⟨j, want⟩ := q
  obtain ⟨t, hj, ⟨b, hb, hw⟩ | ⟨rfl, hb⟩⟩ := h
  rotate_left
  ·have hs := hi.slots t
   rw [hb] at hs
   exact unwanted_u hj hs.val_inv
  rw [← hw]
  exact wanted_of (ops := ops.toArray) (o := ⟨dst, op, ty, p, af, some (j, want)⟩) ⟨Pr, β, κ, hi⟩ rfl hj hb
theorem Now.rep {w0 w : World} {Pr Pr1 : Prot} {β β1 : Nat → Value} {κ κ1 : Nat → Nat} (hn : Now ob0 ob w0 w Pr Pr1 β β1 κ κ1) {v : Value} {x : V} (h : RepV w0 Pr β κ v x) : RepV w Pr1 β1 κ1 v x := (h.keep hn.kept.stays hn.pr).chg (fun i _ => hn.then_ i)
theorem am_y {x : V} (hw : Want ops sl true g) (h : Y E ⟨some d, op, ty, p, af, g⟩ sl0 ob0 x) (hd : d < E.n) (hK : AM E ops tail Q pl ((d, x) :: sl0) ob0 ((d, x) :: sl) ob) : AM E ops tail Q ((i, true, ⟨some d, op, ty, p, af, g⟩) :: pl) sl0 ob0 sl ob :=
 ⟨fun a w0 w Pr Pr1 β β1 κ κ1 h0 h1 hn => by
  obtain ⟨v, hv, hr⟩ := h a w0 Pr β κ h0
  exact mix_take (hw.is h1) ⟨v, hr, hK.run _ w0 w Pr Pr1 β β1 κ κ1 (h0.put hd hv) (h1.put hd (hn.rep hv)) hn⟩⟩
theorem am_y' {x : V} (hw : Want ops sl true g) (h : Y E ⟨some d, op, ty, p, af, g⟩ sl0 ob0 x) (hd : d < E.n) (hK : AM E ops tail Q pl ((d, x) :: sl0) ob0 ((d, x) :: sl) ob) : AM E ops tail Q ((i, false, ⟨some d, op, ty, p, af, g⟩) :: pl) sl0 ob0 sl ob :=
 ⟨fun a w0 w Pr Pr1 β β1 κ κ1 h0 h1 hn => by
  obtain ⟨v, hv, hr⟩ := h a w0 Pr β κ h0
  refine mix_move (hw.is h1) (fun K hKK => ?_)
  unfold Oper.wp
  rw [hr w hn.kept, Oper.upon_value]
  exact hKK.out _ _ hn.kept fun _ => hK.run _ w0 w Pr Pr1 β β1 κ κ1 (h0.put hd hv) (h1.put hd (hn.rep hv)) hn⟩
theorem am_skip (hw : Want ops sl false g) (hd : d < E.n) (hK : AM E ops tail Q pl ((d, .d (.val undef)) :: sl0) ob0 ((d, .d (.val undef)) :: sl) ob) : AM E ops tail Q ((i, true, ⟨some d, op, ty, p, af, g⟩) :: pl) sl0 ob0 sl ob :=
 ⟨fun _ w0 w Pr Pr1 β β1 κ κ1 h0 h1 hn => mix_skip (hw.is h1) (hK.run _ w0 w Pr Pr1 β β1 κ κ1 (h0.put hd (.d _ _ (.val _))) (h1.put hd (.d _ _ (.val _))) hn)⟩
theorem am_skip' (hw : Want ops sl false g) (hd : d < E.n) (hK : AM E ops tail Q pl ((d, .d (.val undef)) :: sl0) ob0 ((d, .d (.val undef)) :: sl) ob) : AM E ops tail Q ((i, false, ⟨some d, op, ty, p, af, g⟩) :: pl) sl0 ob0 sl ob :=
 ⟨fun _ w0 w Pr Pr1 β β1 κ κ1 h0 h1 hn => mix_pass hn.kept (hw.is h1) (hK.run _ w0 w Pr Pr1 β β1 κ κ1 (h0.put hd (.d _ _ (.val _))) (h1.put hd (.d _ _ (.val _))) hn)⟩
theorem am_split {s : Bool} {j t : Nat} {want b : Bool} (hj : (ops.toArray[j]?).bind (·.dst) = some t) (hb : look sl t = .d (.val (.bool b)))
  (h1 : b = true → AM E ops tail Q ((i, s, ⟨dst, op, ty, p, af, some (j, want)⟩) :: pl) sl0 ob0 sl ob) (h2 : b = false → AM E ops tail Q ((i, s, ⟨dst, op, ty, p, af, some (j, want)⟩) :: pl) sl0 ob0 sl ob) :
  AM E ops tail Q ((i, s, ⟨dst, op, ty, p, af, some (j, want)⟩) :: pl) sl0 ob0 sl ob := by
 have _ := hj
 have _ := hb
 cases b
 ·exact h2 rfl
 ·exact h1 rfl
theorem Now.grow {a : Act} {w0 w w' : World} {Pr Pr1 Pr2 : Prot} {β β1 : Nat → Value} {κ κ1 : Nat → Nat} (hn : Now ob0 ob w0 w Pr Pr1 β β1 κ κ1) (h1 : Good E sl ob a w Pr1 β1 κ1) (hx : Below w.heap.size w w') (hp : ∀ b o, Pr1 b o → Pr2 b o) : Now ob0 ob w0 w' Pr Pr2 β β1 κ κ1 :=
 ⟨hn.kept.trans (Pr1 := Pr1) ⟨stays_below h1 hx, fun i o g h3 h4 => hx.block g ((h1.objs i o (hn.sub i o h3).1).blkLt g (by rw [(hn.sub i o h3).2]; exact h4)).2, hx.size⟩ hn.pr, fun b o ho => hp b o (hn.pr b o ho), hn.then_, hn.sub⟩
theorem am_call {f : FuncId} {ds : List D} {Post : D → Prop} {c : Operand} {xs : List Operand} {ats : Array TypeId} (hc : PureC f ds Post) (hw : Want ops sl true g) (hf : ev sl c = .d (.val (.func (.func f) #[] #[]))) (hE : Fine E) (hd : d < E.n) (ha : ArgsD sl ob xs ds)
  (hK : ∀ r, Post r → AM E ops tail Q pl ((d, flat r) :: sl0) ob0 ((d, .d r) :: sl) ob) : AM E ops tail Q ((i, false, ⟨some d, .call { callee := .value c, args := xs.toArray, argTypes := ats }, ty, p, af, g⟩) :: pl) sl0 ob0 sl ob := by
 refine ⟨fun a w0 w Pr Pr1 β β1 κ κ1 h0 h1 hn => ?_⟩
 refine mix_move (hw.is h1) (fun K hKK => ?_)
 obtain ⟨hl, hr⟩ := ha.rep h1
 have hcall := hc.2 w Pr1 (xs.map a.eval) h1.prl (env_now hE h1) hl hr
 have hrun : (execOp a.eval ⟨some d, .call { callee := .value c, args := xs.toArray, argTypes := ats }, ty, p, af, g⟩).run Tryz.prog w = .ok (.enter f (xs.map a.eval).toArray) w := by
  simp [execOp, resolve, Deferred.ofValue, invoke, good_val h1 hf, run_callFunc hc.1]
 unfold Oper.wp
 rw [hrun, Oper.upon_enter]
 refine hcall.mono fun e w' ⟨v, r, he, hpo, hrep, hb⟩ => ?_
 subst he
 have hn2 := hn.grow (Pr2 := PrNew Pr1 w w') h1 hb (fun _ _ h => .inl h)
 refine hKK.out _ _ hn2.kept fun _ => (hK r hpo).run _ w0 w' Pr _ β β1 κ κ1 (h0.put hd ?_) (h1.called hb hrep hd) hn2
 exact rep_flat hrep
theorem am_lit {t : TypeId} {parts : List (Nat × Operand)} {dp : List (Nat × D)} {l : List D} {l2 : List (List D)} {e es eb n : Nat} {ez : Value} (hw : Want ops sl true g) (hT : ti t = .sl e es eb ez) (hp : PartsD sl ob parts dp) (hl : dfill (fun i => some (i * es, es)) (zerosD es n ez) dp = some l) (hc2 : chunk es n l = l2) (hn : n * es ≤ 1000) (hn2 : n ≤ 1000) (hd : d < E.n)
  (hK : AM E ops tail Q pl ((d, .und) :: sl0) ob0 ((d, .d (.list es l2)) :: sl) ob) : AM E ops tail Q ((i, false, ⟨some d, .buildSlice t n parts.toArray, ty, p, af, g⟩) :: pl) sl0 ob0 sl ob := by
 refine ⟨fun a w0 w Pr Pr1 β β1 κ κ1 h0 h1 hn0 => ?_⟩
 refine mix_move (hw.is h1) (fun K hKK => ?_)
 obtain ⟨v, w', hrun, hx, hr⟩ := lit_now (d := d) (T := ty) (p := p) (af := af) (g := g) h1 hT hp hl hc2 hn hn2
 unfold Oper.wp
 rw [hrun, Oper.upon_value]
 have hn2 := hn0.grow (Pr2 := PrNew Pr1 w w') h1 hx (fun _ _ h => .inl h)
 exact hKK.out _ _ hn2.kept fun _ => hK.run _ w0 w' Pr _ β β1 κ κ1 (h0.put hd (.und _)) ((h1.grow hx (Pr' := PrNew Pr1 w w') (fun _ _ h => .inl h) (fun _ _ h => h)).put hd (.d _ _ hr)) hn2
theorem am_lit1 {t : TypeId} {x : Operand} {z : D} {c : List D} {e es eb : Nat} {ez : Value} (hw : Want ops sl true g) (hT : ti t = .sl e es eb ez) (hx : ToD ob (ev sl x) z) (hc : cellsD z = c) (hl : c.length = es) (hes : es ≤ 1000) (hd : d < E.n)
  (hK : AM E ops tail Q pl ((d, .und) :: sl0) ob0 ((d, .d (.list es [c])) :: sl) ob) : AM E ops tail Q ((i, false, ⟨some d, .buildSlice t 1 #[(0, x)], ty, p, af, g⟩) :: pl) sl0 ob0 sl ob := by
 subst hc
 have h0 : (zerosD es 1 ez).length = es := by simp [zerosD]
 have hp : PartsD sl ob [(0, x)] [(0, z)] := .cons hx .nil
 refine am_lit (l := cellsD z) hw hT hp ?_ (by simp [chunk, hl, List.take_of_length_le]) (by omega) (by omega) hd hK
 have h2 : putD (zerosD es 1 ez) 0 (cellsD z) = cellsD z := by
  simp only [putD, List.take_zero, List.nil_append, Nat.zero_add]
  rw [List.drop_of_length_le (by omega), List.append_nil]
 simp only [dfill, Nat.zero_mul, h2]
 rw [if_pos ⟨hl, by omega⟩]
def flatV : V → V
 | .d x => flat x
 | _ => .und
theorem find_new {l : List (Nat × Nat)} {ob1 ob' : Objs} {i : Nat} {o : O} (hl : okRen l = true) (hk : ∀ i ∈ keys ob', i ∈ l.map (·.1)) (h1 : ∀ k ∈ keys ob', rn l k ≠ i) (h2 : i ∉ (keys ob1).map (rn l)) (h : find ob i = some o) : find (renO l ob' ++ dropK ((keys ob1).map (rn l)) ob) i = some o := by
 have e1 : ∀ r : Objs, (∀ k ∈ keys r, rn l k ≠ i) → find (renO l r ++ dropK ((keys ob1).map (rn l)) ob) i = find (dropK ((keys ob1).map (rn l)) ob) i := by
  intro r
  induction r with
  | nil => intro _; rfl
  | cons p r ih =>
   obtain ⟨j, x⟩ := p
   intro hr
   simp only [renO, List.cons_append]
   rw [find_ne (fun e => hr j (by simp [keys]) e.symm)]
   exact ih (fun k hk => hr k (List.mem_cons_of_mem _ hk))
 rw [e1 ob' h1]
 clear e1
 induction ob with
 | nil => cases h
 | cons p r ih =>
  obtain ⟨j, x⟩ := p
  simp only [dropK]
  by_cases hij : i = j
  ·subst hij
   have hm : mem ((keys ob1).map (rn l)) i = false := by
    cases hm : mem ((keys ob1).map (rn l)) i with
    | false => rfl
    | true => exact absurd (mem_iff.1 hm) h2
   rw [hm]
   simp only [cond_false]
   rw [find_eq] at h ⊢
   exact h
  ·rw [find_ne hij] at h
   cases hm : mem ((keys ob1).map (rn l)) j with
   | true => exact ih h
   | false =>
    simp only [cond_false]
    rw [find_ne hij]
    exact ih h
theorem am_ocall {f : FuncId} {args : List V} {ob1 : Objs} {Post : V → Objs → Prop} {c : Operand} {xs : List Operand} {ats : Array TypeId} (l : List (Nat × Nat)) (hc : ObC f args ob1 [] Post) (hw : Want ops sl true g) (hf : ev sl c = .d (.val (.func (.func f) #[] #[]))) (hE : Fine E) (hd : d < E.n) (ha : ArgsV l sl ob xs args)
  (hL : Lends E sl ob l ob1 []) (hfree : ((keys ob0).all fun j => !(mem ((keys ob1).map (rn l)) j)) = true)
  (hK : ∀ x ob', Post x ob' → ∀ y ob2, x.ren l = y → renO l ob' ++ dropK ((keys ob1).map (rn l)) ob = ob2 → AM E ops tail Q pl ((d, flatV y) :: sl0) ob0 ((d, y) :: sl) ob2) : AM E ops tail Q ((i, false, ⟨some d, .call { callee := .value c, args := xs.toArray, argTypes := ats }, ty, p, af, g⟩) :: pl) sl0 ob0 sl ob := by
 refine ⟨fun a w0 w Pr Pr1 β β1 κ κ1 h0 h h2 => ?_⟩
 refine mix_move (hw.is h) (fun K hKK => ?_)
 obtain ⟨hlen, hr⟩ := ha.rep h
 have hfo := hL.find
 obtain ⟨ho, hl, hk, hk2, hn⟩ := hL
 have hcall := hc.2 w Pr1 (xs.map a.eval) _ _ h.prl (env_now hE h) hlen hr (fun i o hi => repO_in (h.objs _ _ (hfo i o hi))) (fun i j oi oj g hi hj hgi hgj => by
  have e := h.apart _ _ _ _ g (hfo i oi hi) (hfo j oj hj) hgi hgj
  have k1 := okRen_at hl (mem_iff.1 (List.all_eq_true.1 hk i (List.mem_append_left _ (find_mem hi))))
  have k2 := okRen_at hl (mem_iff.1 (List.all_eq_true.1 hk j (List.mem_append_left _ (find_mem hj))))
  rw [e, k2] at k1
  cases k1
  rfl)
 have hrun : (execOp a.eval ⟨some d, .call { callee := .value c, args := xs.toArray, argTypes := ats }, ty, p, af, g⟩).run Tryz.prog w = .ok (.enter f (xs.map a.eval).toArray) w := by
  simp [execOp, resolve, Deferred.ofValue, invoke, good_val h hf, run_callFunc hc.1]
 unfold Oper.wp
 rw [hrun, Oper.upon_enter]
 refine hcall.mono fun e w' ⟨v, x, ob', Pr', β', κ', he, hp, hA⟩ => ?_
 subst he
 obtain ⟨Pr2, β2, κ2, hG, e1, e2, e3⟩ := h.ocalled2 hd hA ho hl hk hk2 hn
 have hnot : ∀ i o, find ob0 i = some o → i ∉ (keys ob1).map (rn l) := by
  intro i o hi hm
  have := List.all_eq_true.1 hfree i (find_mem hi)
  rw [mem_iff.2 hm] at this
  cases this
 have hnow : Now ob0 (renO l ob' ++ dropK ((keys ob1).map (rn l)) ob) w0 w' Pr Pr2 β β2 κ κ2 := by
  refine ⟨h2.kept.trans (Pr1 := Pr1) ⟨by rw [e1] at *; exact hA.st, fun i o g h3 h4 => ?_, hA.under.size⟩ h2.pr, fun b o hb => by rw [e1]; exact hA.pr0 b o (h2.pr b o hb), h2.then_.trans (e2 rfl), fun i o hi => ?_⟩
  ·obtain ⟨q1, q2⟩ := h2.sub i o h3
   have hlt := (h.objs i o q1).blkLt g (by rw [q2]; exact h4)
   refine hA.under.block g hlt.2 ?_
   rintro ⟨j, oj, h5, h6⟩
   have := h.apart i (rn l j) o _ g q1 (hfo j oj h5) (by rw [q2]; exact h4) h6
   exact hnot i o h3 (List.mem_map.2 ⟨j, find_mem h5, this.symm⟩)
  ·obtain ⟨q1, q2⟩ := h2.sub i o hi
   have hnr : ∀ k ∈ keys ob', rn l k ≠ i := by
    intro k hk' e
    obtain ⟨o', ho'⟩ := find_of_mem hk'
    have := (hA.wo k o' ho').1
    rw [List.append_nil] at this
    exact hnot i o hi (List.mem_map.2 ⟨k, this, e⟩)
   refine ⟨find_new hl (fun k hk' => ?_) hnr (hnot i o hi) q1, (e3 i (hnot i o hi)).trans q2⟩
   obtain ⟨o', ho'⟩ := find_of_mem hk'
   exact mem_iff.1 (List.all_eq_true.1 hk k (hA.wo k o' ho').1)
 refine hKK.out _ _ hnow.kept fun _ => (hK x ob' hp _ _ rfl rfl).run _ w0 w' Pr Pr2 β β2 κ κ2 (h0.put hd ?_) hG hnow
 have hx := hA.val
 cases x with
 | d z =>
  exact rep_flat hx.d_inv
 | _ => exact .und _
theorem am_nil {tl : List Oper} (h : AL E ops.toArray tl Q sl ob) : AM E ops (lastR ops tl Q) Q [] sl0 ob0 sl ob := ⟨fun _ _ _ _ _ _ β κ _ _ h1 _ => mix_nil (h.run _ _ ⟨_, _, _, h1⟩)⟩
theorem aw_mixo {id : Nat} (ob0 : Objs) (plan : List (Nat × Bool)) (tail : List Nat) (hs : Region.noSelect ops.toArray = true) (hw : waitsAll ops.toArray tail = true) (hok : mixOk ops.toArray tail plan (Array.replicate ops.length false) = true) (hlen : plan.length + tail.length ≤ ops.length)
  (ho : ∀ p ∈ ob0, find ob p.1 = some p.2) (h : AM E ops (lastR ops (tailed ops tail) (NoPanic Q)) (NoPanic Q) (planned ops plan) sl ob0 sl ob) : AW E (.region id ops.toArray true) Q sl ob := by
 refine ⟨fun a w hi => ?_⟩
 obtain ⟨Pr, β, κ, hg⟩ := hi
 have hg2 : Good E sl ob a w.drew Pr β κ := hg.grow (Below.refl _ _).drew (fun _ _ h => h) (fun _ _ h => .inl h)
 have hf : ∀ i x, find ob0 i = some x → find ob i = some x := by
  have : ∀ (r : Objs), (∀ p ∈ r, find ob p.1 = some p.2) → ∀ j x, find r j = some x → find ob j = some x := by
   intro r
   induction r with
   | nil => intro _ j x h; cases h
   | cons p r ih =>
    obtain ⟨k, y⟩ := p
    intro hr j x hj
    by_cases hjk : j = k
    ·subst hjk
     rw [find_eq] at hj
     cases hj
     exact hr (j, y) (by simp)
    ·rw [find_ne hjk] at hj
     exact ih (fun p hp => hr p (by simp [hp])) j x hj
  exact this _ ho
 have hg3 : Good E sl ob0 a w.drew Pr β κ := ⟨hg2.below, hg2.st0, hg2.pr0, hg2.prn, hg2.prl, hg2.size, hg2.defers, hg2.slots, fun i o hi => hg2.objs i o (hf i o hi), fun i j oi oj g h1 h2 => hg2.apart i j oi oj g (hf i oi h1) (hf j oj h2), fun i o g h1 => hg2.own i o g (hf i o h1), hg2.keeps, hg2.fresh⟩
 exact wp_region_mix plan tail (Kept Pr β ob0 w.drew) follows_mixed hs hw hok hlen (Kept.refl _ _ _ _) (fun _ => h.run a w.drew w.drew Pr Pr β β κ κ hg3 hg2 ⟨Kept.refl _ _ _ _, fun _ _ h => h, .refl _ _, fun i o h => ⟨hf i o h, rfl⟩⟩)
end
section
variable {E : Entry} {sl : Slots} {ob : Objs} {Q : Exit → Act → World → Prop} {y : Code} {K : Act → World → Prop}
theorem aq_np (h : AQ E .normal Q sl ob) : AQ E .normal (NoPanic Q) sl ob := ⟨fun a w hi => NoPanic.normal (h.run a w hi)⟩
theorem at_am {ops : List Oper} {tail : (World → Prop) → Act → World → Prop} {pl : List (Nat × Bool × Oper)} {i : Nat} {s : Bool} {sl0 : Slots} {ob0 : Objs} (op : Op) {d : Option Nat} {t : TypeId} {p : String} {af : Array Edge} {g : Option (Nat × Bool)} (h : AM E ops tail Q ((i, s, ⟨d, op, t, p, af, g⟩) :: pl) sl0 ob0 sl ob) : AM E ops tail Q ((i, s, ⟨d, op, t, p, af, g⟩) :: pl) sl0 ob0 sl ob := h
end
end
section
open Go.RowKit
def bytesD (s : ByteArray) : List (List D) := s.data.toList.map fun c => [.val (.int .u8 c.toNat)]
theorem bytesD_len (s : ByteArray) : (bytesD s).length = s.size := by simp [bytesD]
section
variable {P : Program} (w : World)
theorem append_off_s (base : Nat) (t u ty e : TypeId) (i : TypeInfo) (ht : P.underlying t = some (.slice e)) (hu : P.underlying u = some .string) (hi : P.info? e = some i) (hz : i.zero = some (.int .u8 0)) (hsize : i.size = 1) (hby : i.bytes = 1)
  (v : Value) (n : Nat) (xs : List Value) (hown : w.ownsRow base e 1 v n xs) (s : ByteArray) (hb : n + s.size ≤ 140737488355328) {v' : Value} {w' : World} (h : (Builtin.append_ #[t, u] ty #[v, .string s]).run P w = .ok v' w') : Off v w v' := by
 intro k hk hv
 have hxl : xs.length = n := by simpa using hown.1
 rcases hown.2 with ⟨rfl, rfl⟩ | ⟨g, cap, cur, rfl, hbg, hg, hnc, hcm, hcs, htake⟩
 ·by_cases hm : s.size = 0
  ·have hf := Lib.run_firstCells_string (P := P) w 1 s
   rw [hm] at hf
   have hr : (Builtin.append_ #[t, u] ty #[.slice none 0 0, .string s]).run P w = .ok (.slice none 0 0) w := by
    simp [Builtin.append_, run_underlying ht, run_underlying hu, sizeOf, typeInfo, hi, hsize, Builtin.lenOf, hm, hf]
   rw [hr] at h
   cases h
   exact hv
  ·have hr := run_append_nil_string (P := P) w t u ty e i (.int .u8 0) ht hu hi hz s (by omega) (by omega) (by rw [hby]; omega)
   rw [hr] at h
   cases h
   simp [Value.ownBlock]
   omega
 ·by_cases hroom : n + s.size ≤ cap
  ·have hcs' : cur.size = cap := by simpa using hcs
   have hr := Lib.run_append_room_string (P := P) w t u ty e i ht hu hi hsize g n cap cur hg s hroom (by omega)
   rw [hr] at h
   cases h
   simpa [Value.ownBlock] using hv
  ·have holds : ∀ j u, xs[j]? = some u → w.cell? ((⟨g, 0, none⟩ : Addr).add j) = some u := hown.cells (g := g) rfl
   have hr := Lib.run_append_grow_string (P := P) w t u ty e i (.int .u8 0) ht hu hi hz ⟨g, 0, none⟩ n cap xs (by rw [hsize]; simpa using hxl) holds s (by omega) (by omega) (by rw [hby]; exact growslice_fits (by omega) (by omega))
   rw [hr] at h
   cases h
   simp [Value.ownBlock]
   omega
theorem append_keeps_s (base : Nat) (t u ty e : TypeId) (i : TypeInfo) (ht : P.underlying t = some (.slice e)) (hu : P.underlying u = some .string) (hi : P.info? e = some i) (hz : i.zero = some (.int .u8 0)) (hsize : i.size = 1) (hby : i.bytes = 1)
  (v : Value) (n : Nat) (xs : List Value) (hown : w.ownsRow base e 1 v n xs) (s : ByteArray) (hb : n + s.size ≤ 140737488355328) {v' : Value} {w' : World} (h : (Builtin.append_ #[t, u] ty #[v, .string s]).run P w = .ok v' w') (hown' : w'.ownsRow base e 1 v' (n + s.size) (xs ++ Lib.strCells s)) :
  ∀ g, v.ownBlock = some g → ∀ j, j < n * 1 → w'.cell? ⟨g, j, none⟩ = w.cell? ⟨g, j, none⟩ := by
 intro g' hv j hj
 have hxl : xs.length = n := by simpa using hown.1
 have hown0 := hown
 rcases hown.2 with ⟨rfl, rfl⟩ | ⟨g, cap, cur, rfl, hbg, hg, hnc, hcm, hcs, htake⟩
 ·simp [Value.ownBlock] at hv
 ·simp only [Value.ownBlock, Option.some.injEq] at hv
  subst hv
  by_cases hroom : n + s.size ≤ cap
  ·have hcs' : cur.size = cap := by simpa using hcs
   have hr := Lib.run_append_room_string (P := P) w t u ty e i ht hu hi hsize g n cap cur hg s hroom (by omega)
   rw [hr] at h
   cases h
   rw [hown'.cellAt j (by omega), hown0.cellAt j hj, List.getElem?_append_left (by omega)]
  ·have holds : ∀ j u, xs[j]? = some u → w.cell? ((⟨g, 0, none⟩ : Addr).add j) = some u := hown.cells (g := g) rfl
   have hr := Lib.run_append_grow_string (P := P) w t u ty e i (.int .u8 0) ht hu hi hz ⟨g, 0, none⟩ n cap xs (by rw [hsize]; simpa using hxl) holds s (by omega) (by omega) (by rw [hby]; exact growslice_fits (by omega) (by omega))
   rw [hr] at h
   cases h
   have hlt := (Array.getElem?_eq_some_iff.1 hg).1
   exact (bcell (((Below.refl w.heap.size w).drew).alloc (by simp) _)).1 g j hlt
end
section
variable {E : Entry} {sl : Slots} {ob : Objs} {a : Act} {w : World} {Pr : Prot} {β : Nat → Value} {κ : Nat → Nat}
variable {d : Nat} {t u T ty : TypeId} {p : String} {af : Array Edge} {g : Option (Nat × Bool)} {x y c : Operand}
theorem st_append_s {i k e : Nat} {l : List (List D)} {s : ByteArray} {A : Array TypeId} (hx : ev sl x = .row i k) (hf : find ob i = some (.row e 1 k l)) (hy : ev sl y = .d (.val (.string s))) (hA : A = #[t, u]) (hT : ti t = .sl e 1 1 (.int .u8 0)) (hu : Tryz.prog.underlying u = some .string)
  (hm : l.length + s.size ≤ 140737488355328) (hd : d < E.n) :
  Step E ⟨some d, .call { callee := .builtin .append, args := #[x, y], argTypes := A }, T, p, af, g⟩ sl ob ((d, .row i (k + 1)) :: sl) ((i, .row e 1 (k + 1) (l ++ bytesD s)) :: ob) := by
 subst hA
 refine st_app hf hd rfl (fun a w Pr β κ xs h hown => ?_)
 obtain ⟨hκ, _⟩ := h.objs i _ hf
 have hxv : a.eval x = β i := by
  have := good_ev h x
  rw [hx] at this
  exact this.row_inv hκ.symm
 have hyv := good_val h hy
 obtain ⟨_, ie, _, hut, _, hj, hz, hs, hby, hzs⟩ := ti_sl hT
 obtain ⟨v', w', hrun, h2, h3, _⟩ := Lib.run_append_own_string (P := Tryz.prog) w 0 t u T e ie hut hu hj hz hs hby (β i) l.length xs hown s (by unfold maxLen; omega) hm (Nat.zero_le _)
 refine ⟨v', w', Lib.strCells s, by simp [execOp, resolve, invoke, builtin, hxv, hyv, hrun], ?_⟩
 refine ⟨by rw [bytesD_len]; exact h2, h3, append_off_s w 0 t u T e ie hut hu hj hz hs hby (β i) l.length xs hown s hm hrun, append_keeps_s w 0 t u T e ie hut hu hj hz hs hby (β i) l.length xs hown s hm hrun h2, by rw [Lib.strCells_length, bytesD_len, Nat.mul_one], fun q hq => ?_, fun m j q z h4 h5 => ?_⟩
 ·simp only [bytesD, List.mem_map] at hq
  obtain ⟨_, _, rfl⟩ := hq
  rfl
 ·simp only [bytesD, List.getElem?_map, Option.map_eq_some_iff] at h4
  obtain ⟨c, h4, rfl⟩ := h4
  cases j with
  | zero =>
   simp only [List.getElem?_cons_zero, Option.some.injEq] at h5
   subst h5
   exact ⟨.int .u8 c.toNat, by simp [Lib.strCells, h4], .val _⟩
  | succ j => simp at h5
theorem Good.adoptb (h : Good E sl ob a w Pr β κ) {i j r e s : Nat} {T : TypeId} {l : List V} (hf : find ob i = some (.box T l)) (hx : l[j]? = some (.d (.val (.slice none 0 0)))) (hno : noneOf r sl ob = true) (hr : r < E.n) (hir : i ≠ r) : Inv E sl ((i, .box T (l.set j (.row r 0))) :: (r, .row e s 0 []) :: ob) a w := by
 let β' : Nat → Value := fun i => if i = r then .slice none 0 0 else β i
 let κ' : Nat → Nat := fun i => if i = r then 0 else κ i
 have e1 : β' r = .slice none 0 0 := by simp [β']
 have e2 : κ' r = 0 := by simp [κ']
 have e3 : ∀ j, j ≠ r → β' j = β j := fun j hj => by simp [β', hj]
 have e4 : ∀ j, j ≠ r → κ' j = κ j := fun j hj => by simp [κ', hj]
 have hfr : ∀ i o, find E.ob0 i = some o → i ≠ r := fun i o hi e => by have := h.fresh i o hi; omega
 have hcase : ∀ m om, find ((i, .box T (l.set j (.row r 0))) :: (r, .row e s 0 []) :: ob) m = some om → (m = i ∧ om = .box T (l.set j (.row r 0))) ∨ (m = r ∧ om = .row e s 0 []) ∨ (m ≠ i ∧ m ≠ r ∧ find ob m = some om) := by
  intro m om hm
  by_cases hmi : m = i
  ·subst hmi
   rw [find_eq] at hm
   cases hm
   exact .inl ⟨rfl, rfl⟩
  ·rw [find_ne hmi] at hm
   by_cases hmr : m = r
   ·subst hmr
    rw [find_eq] at hm
    cases hm
    exact .inr (.inl ⟨rfl, rfl⟩)
   ·rw [find_ne hmr] at hm
    exact .inr (.inr ⟨hmi, hmr, hm⟩)
 have hblk : ∀ m om g, find ((i, .box T (l.set j (.row r 0))) :: (r, .row e s 0 []) :: ob) m = some om → blk (β' m) = some g → m ≠ r ∧ blk (β m) = some g ∧ ∃ om', find ob m = some om' := by
  intro m om g hm hg
  rcases hcase m om hm with ⟨rfl, _⟩ | ⟨rfl, _⟩ | ⟨_, h2, h3⟩
  ·rw [e3 _ hir] at hg; exact ⟨hir, hg, _, hf⟩
  ·rw [e1] at hg; simp [blk] at hg
  ·rw [e3 _ h2] at hg; exact ⟨h2, hg, _, h3⟩
 refine ⟨Pr, β', κ', h.below, h.st0, h.pr0, h.prn, h.prl, h.size, h.defers, fun m => (h.slots m).other (noneOf_slot hno m) e3 e4, fun m om hm => ?_, fun m k om ok g hm hk hgm hgk => ?_, fun m om g hm hg => ?_, fun m o hm => ?_, h.fresh⟩
 ·rcases hcase m om hm with ⟨rfl, rfl⟩ | ⟨rfl, rfl⟩ | ⟨_, h2, h3⟩
  ·obtain ⟨g, cs, q1, q2, q3, q4, q5, q6⟩ := h.objs m _ hf
   refine ⟨g, cs, (e3 m hir).trans q1, q2, q3, by simp [q4], fun n v z hn hz => ?_, q6⟩
   by_cases hnj : n = j
   ·subst hnj
    have hv := q5 n v _ hn hx
    have hlt := (List.getElem?_eq_some_iff.1 hx).1
    rw [List.getElem?_set_self hlt] at hz
    cases hz
    have hv2 := hv.val_inv
    exact .row r 0 _ ⟨none, 0, 0, hv2⟩ (Nat.zero_le _) (fun _ => by rw [hv2, e1])
   ·rw [List.getElem?_set_ne (Ne.symm hnj)] at hz
    exact (q5 n v z hn hz).other (hasL_mem (noneOf_obj hno hf) hz) e3 e4
  ·refine ⟨e2, [], ?_, by simp, fun p j x d h1 => by simp at h1, fun g hg => ?_⟩
   ·rw [e1]; exact World.ownsRow_nil _ _ _ _
   ·rw [e1] at hg; simp [Value.ownBlock] at hg
  ·exact (h.objs m om h3).other (noneOf_obj hno h3) h2 e3 e4
 ·obtain ⟨_, k1, om', k2⟩ := hblk m om g hm hgm
  obtain ⟨_, k3, ok', k4⟩ := hblk k ok g hk hgk
  exact h.apart m k om' ok' g k2 k4 k1 k3
 ·obtain ⟨_, k1, om', k2⟩ := hblk m om g hm hg
  exact h.own m om' g k2 k1
 ·rw [e3 m (hfr m o hm), e4 m (hfr m o hm)]
  exact h.keeps m o hm
theorem al_adoptb {ops : Array Oper} {rest : List Oper} {Q : Exit → Act → World → Prop} (i j r e s : Nat) {T : TypeId} {l l' : List V} (hf : find ob i = some (.box T l)) (hx : l[j]? = some (.d (.val (.slice none 0 0)))) (hno : noneOf r sl ob = true) (hr : r < E.n) (hir : Nat.beq i r = false) (hl : l.set j (.row r 0) = l')
  (h : AL E ops rest Q sl ((i, .box T l') :: (r, .row e s 0 []) :: ob)) : AL E ops rest Q sl ob := by
 subst hl
 refine ⟨fun a w hi => ?_⟩
 obtain ⟨Pr, β, κ, hg⟩ := hi
 exact h.run a w (hg.adoptb hf hx hno hr (fun e => by rw [e, Nat.beq_refl] at hir; cases hir))
end
end
section
open Go.RowKit
inductive KD where
 | i (k : IntKind)
 | s
 | b
 | no
def kindsD : List D → List KD
 | [] => []
 | .val (.int k _) :: l => .i k :: kindsD l
 | .val (.string _) :: l => .s :: kindsD l
 | .val (.bool _) :: l => .b :: kindsD l
 | _ :: l => .no :: kindsD l
def valsD : List D → List Value
 | .val v :: l => v :: valsD l
 | _ => []
def eqL : List D → List D → Bool
 | .val (.int _ a) :: l, .val (.int _ b) :: m => decide (a = b) && eqL l m
 | .val (.string a) :: l, .val (.string b) :: m => decide (a = b) && eqL l m
 | .val (.bool a) :: l, .val (.bool b) :: m => (a == b) && eqL l m
 | _, _ => true
noncomputable def fieldOk (i : Nat) (f : Field) : KD → Bool
 | .i _ => f.offset == i && f.name != "_" && Tryz.prog.plainKey f.type && (match Tryz.prog.underlying f.type with | some (.int _) => true | _ => false)
 | .s => f.offset == i && f.name != "_" && Tryz.prog.plainKey f.type && (match Tryz.prog.underlying f.type with | some .string => true | _ => false)
 | .b => f.offset == i && f.name != "_" && Tryz.prog.plainKey f.type && (match Tryz.prog.underlying f.type with | some .bool => true | _ => false)
 | .no => false
noncomputable def fieldsOk : Nat → List Field → List KD → Bool
 | _, [], [] => true
 | i, f :: fs, k :: ks => fieldOk i f k && fieldsOk (i + 1) fs ks
 | _, _, _ => false
noncomputable def eqTy (t : TypeId) (ks : List KD) : Bool :=
 (match Tryz.prog.underlying t with | some (.struct _) => true | _ => false) && !Tryz.prog.stoodInHeld t && !Tryz.prog.eqGuardType Tryz.prog.depth t && fieldsOk 0 (Tryz.prog.fieldsOf t).toList ks
theorem rep_vals {w : World} {Pr : Prot} : ∀ (l : List D) (cs : List Value), cs.length = l.length → (∀ (i : Nat) (v : Value) (d : D), cs[i]? = some v → l[i]? = some d → RepD w Pr v d) → (∀ k ∈ kindsD l, k ≠ .no) → cs = valsD l
 | [], [], _, _, _ => rfl
 | d :: l, v :: cs, hl, hd, hk => by
  have h0 := hd 0 v d rfl rfl
  have ih : (∀ k ∈ kindsD l, k ≠ .no) → cs = valsD l := rep_vals l cs (by simpa using hl) (fun i v d h1 h2 => hd (i + 1) v d h1 h2)
  match d, h0, hk with
  | .val u, h0, hk =>
   cases h0
   simp only [valsD]
   refine congrArg _ (ih fun k hm => hk k ?_)
   cases v <;> exact List.mem_cons_of_mem _ hm
  | .list .., _, hk => exact absurd rfl (hk .no (by simp [kindsD]))
  | .agg .., _, hk => exact absurd rfl (hk .no (by simp [kindsD]))
  | .tup .., _, hk => exact absurd rfl (hk .no (by simp [kindsD]))
  | .err, _, hk => exact absurd rfl (hk .no (by simp [kindsD]))
theorem fieldsOk_no : ∀ {i : Nat} {fs : List Field} {ks : List KD}, fieldsOk i fs ks = true → ∀ k ∈ ks, k ≠ .no
 | _, [], [], _, _, hm => by cases hm
 | i, f :: fs, k :: ks, h, k', hm => by
  simp only [fieldsOk, Bool.and_eq_true] at h
  rcases List.mem_cons.1 hm with rfl | hm
  ·rintro rfl
   exact absurd h.1 (by simp [fieldOk])
  ·exact fieldsOk_no h.2 k' hm
 | _, [], _ :: _, h, _, _ => by simp [fieldsOk] at h
 | _, _ :: _, [], h, _, _ => by simp [fieldsOk] at h
theorem kind_shape (d : D) (l : List D) : (∃ k a, d = .val (.int k a)) ∨ (∃ s, d = .val (.string s)) ∨ (∃ b, d = .val (.bool b)) ∨ kindsD (d :: l) = .no :: kindsD l := by
 cases d with
 | val u => cases u <;> simp [kindsD]
 | list s l => simp [kindsD]
 | agg l => simp [kindsD]
 | tup l => simp [kindsD]
 | err => simp [kindsD]
theorem run_eqf (n : Nat) (w : World) : ∀ (fs : List Field) (l m : List D) (px py : List Value), px.length = py.length → kindsD l = kindsD m → fieldsOk px.length fs (kindsD l) = true →
  (Op.eqFields (n + 1) (px ++ valsD l).toArray (py ++ valsD m).toArray fs).run Tryz.prog w = .ok (eqL l m) w
 | [], [], [], px, py, _, _, _ => by simp [Op.eqFields, eqL, Sem.run_pure]
 | [], [], d :: m, px, py, _, hk, h => by
  have := congrArg List.length hk
  match d with
  | .val u => cases u <;> simp [kindsD] at this
  | .list .. | .agg .. | .tup .. | .err => simp [kindsD] at this
 | [], d :: l, m, px, py, _, _, h => by
  match d with
  | .val u => cases u <;> simp [kindsD, fieldsOk] at h
  | .list .. | .agg .. | .tup .. | .err => simp [kindsD, fieldsOk] at h
 | f :: fs, [], m, px, py, _, _, h => by simp [kindsD, fieldsOk] at h
 | f :: fs, d :: l, [], px, py, _, hk, h => by
  have := congrArg List.length hk
  match d with
  | .val u => cases u <;> simp [kindsD] at this
  | .list .. | .agg .. | .tup .. | .err => simp [kindsD] at this
 | f :: fs, d :: l, e :: m, px, py, hp, hk, h => by
  have hx : ∀ (u : Value) (r : List Value), (px ++ u :: r).toArray[px.length]? = some u := fun u r => by simp
  have hy : ∀ (u : Value) (r : List Value), (py ++ u :: r).toArray[px.length]? = some u := fun u r => by rw [hp]; simp
  have push : ∀ (p : List Value) (u : Value) (r : List Value), p ++ u :: r = (p ++ [u]) ++ r := fun p u r => by simp
  have fin : ∀ {u v : Value} (b : Bool), valsD (d :: l) = u :: valsD l → valsD (e :: m) = v :: valsD m → kindsD l = kindsD m → fieldsOk (px.length + 1) fs (kindsD l) = true → f.name ≠ "_" → Tryz.prog.plainKey f.type = true → f.offset = px.length → (∀ w, (Op.equalIn (n + 1) f.type u v).run Tryz.prog w = .ok b w) → eqL (d :: l) (e :: m) = (b && eqL l m) →
    (Op.eqFields (n + 1) (px ++ valsD (d :: l)).toArray (py ++ valsD (e :: m)).toArray (f :: fs)).run Tryz.prog w = .ok (eqL (d :: l) (e :: m)) w := by
   intro u v b e1 e2 hk2 hf hn hpl ho hr he
   rw [e1, e2, he]
   simp only [Op.eqFields, if_pos hn, Sem.run_bind, run_part_plain w hpl (show (px ++ u :: valsD l).toArray[f.offset]? = some u by rw [ho]; exact hx u _), run_part_plain w hpl (show (py ++ v :: valsD m).toArray[f.offset]? = some v by rw [ho]; exact hy v _), Result.andThen_ok, hr w, Sem.run_ite]
   cases b
   ·simp [Sem.run_pure]
   ·simp only [Bool.not_true, Bool.false_eq_true, if_false, Bool.true_and]
    rw [push px, push py]
    exact run_eqf n w fs l m (px ++ [u]) (py ++ [v]) (by simp [hp]) hk2 (by simpa using hf)
  rcases kind_shape d l with ⟨k, a, rfl⟩ | ⟨a, rfl⟩ | ⟨a, rfl⟩ | hd
  ·rcases kind_shape e m with ⟨k', b, rfl⟩ | ⟨b, rfl⟩ | ⟨b, rfl⟩ | he
   ·simp only [kindsD, List.cons.injEq, KD.i.injEq] at hk
    obtain ⟨rfl, hk⟩ := hk
    simp only [kindsD, fieldsOk, fieldOk, Bool.and_eq_true, beq_iff_eq, bne_iff_ne, ne_eq] at h
    obtain ⟨⟨⟨⟨h1, h2⟩, h3⟩, h4⟩, h5⟩ := h
    cases hu : Tryz.prog.underlying f.type with
    | none => rw [hu] at h4; cases h4
    | some td =>
     rw [hu] at h4
     cases td <;> simp at h4
     refine fin (decide (a = b)) rfl rfl hk h5 h2 h3 h1 (fun w => ?_) rfl
     rw [run_equalIn_int w n f.type k _ a b hu]
     rfl
   ·simp [kindsD] at hk
   ·simp [kindsD] at hk
   ·rw [he] at hk
    simp [kindsD] at hk
  ·rcases kind_shape e m with ⟨k', b, rfl⟩ | ⟨b, rfl⟩ | ⟨b, rfl⟩ | he
   ·simp [kindsD] at hk
   ·simp only [kindsD, List.cons.injEq, true_and] at hk
    simp only [kindsD, fieldsOk, fieldOk, Bool.and_eq_true, beq_iff_eq, bne_iff_ne, ne_eq] at h
    obtain ⟨⟨⟨⟨h1, h2⟩, h3⟩, h4⟩, h5⟩ := h
    cases hu : Tryz.prog.underlying f.type with
    | none => rw [hu] at h4; cases h4
    | some td =>
     rw [hu] at h4
     cases td <;> simp at h4
     refine fin (decide (a = b)) rfl rfl hk h5 h2 h3 h1 (fun w => ?_) rfl
     rw [run_equalIn_string w n f.type a b hu, bytes_beq]
   ·simp [kindsD] at hk
   ·rw [he] at hk
    simp [kindsD] at hk
  ·rcases kind_shape e m with ⟨k', b, rfl⟩ | ⟨b, rfl⟩ | ⟨b, rfl⟩ | he
   ·simp [kindsD] at hk
   ·simp [kindsD] at hk
   ·simp only [kindsD, List.cons.injEq, true_and] at hk
    simp only [kindsD, fieldsOk, fieldOk, Bool.and_eq_true, beq_iff_eq, bne_iff_ne, ne_eq] at h
    obtain ⟨⟨⟨⟨h1, h2⟩, h3⟩, h4⟩, h5⟩ := h
    cases hu : Tryz.prog.underlying f.type with
    | none => rw [hu] at h4; cases h4
    | some td =>
     rw [hu] at h4
     cases td <;> simp at h4
     exact fin (a == b) rfl rfl hk h5 h2 h3 h1 (fun w => run_equalIn_bool' w n f.type a b hu) rfl
   ·rw [he] at hk
    simp [kindsD] at hk
  ·rw [hd] at h
   exact absurd rfl (fieldsOk_no h .no (List.mem_cons_self ..))
section
variable {E : Entry} {sl : Slots} {ob : Objs} {a : Act} {w : World} {Pr : Prot} {β : Nat → Value} {κ : Nat → Nat}
variable {d : Option Nat} {t T ty : TypeId} {p : String} {af : Array Edge} {g : Option (Nat × Bool)} {x y c : Operand}
theorem eqTy_parts {ks : List KD} (h : eqTy t ks = true) : Tryz.prog.underlying t = some (.struct (Tryz.prog.fieldsOf t)) ∧ Tryz.prog.stoodInHeld t = false ∧ Tryz.prog.eqGuardType Tryz.prog.depth t = false ∧ fieldsOk 0 (Tryz.prog.fieldsOf t).toList ks = true := by
 simp only [eqTy, Bool.and_eq_true, Bool.not_eq_true'] at h
 obtain ⟨⟨⟨h1, h2⟩, h3⟩, h4⟩ := h
 refine ⟨?_, h2, h3, h4⟩
 unfold Program.fieldsOf
 cases hu : Tryz.prog.underlying t with
 | none => rw [hu] at h1; cases h1
 | some td => rw [hu] at h1; cases td <;> first | rfl | cases h1
theorem agg_vals {v : Value} {l : List D} (h : RepD w Pr v (.agg l)) (hk : ∀ k ∈ kindsD l, k ≠ .no) : v = .agg (valsD l).toArray := by
 cases h with
 | agg cs _ hl hd => rw [rep_vals l cs hl hd hk]
theorem run_eqs {l m : List D} {ks : List KD} (hk : kindsD l = ks) (hk' : kindsD m = ks) (hT : eqTy t ks = true) : (Op.equalIn 10000 t (.agg (valsD l).toArray) (.agg (valsD m).toArray)).run Tryz.prog w = .ok (eqL l m) w := by
 obtain ⟨h1, h2, _, h4⟩ := eqTy_parts hT
 rw [run_equalIn_agg w 9999 t _ _ h1 h2]
 have := run_eqf 9998 w (Tryz.prog.fieldsOf t).toList l m [] [] rfl (hk.trans hk'.symm) (by rw [hk]; exact h4)
 simpa using this
theorem y_eqs {l m : List D} {ks : List KD} {r : Bool} (hx : ev sl x = .d (.agg l)) (hy : ev sl y = .d (.agg m)) (hk : kindsD l = ks) (hk' : kindsD m = ks) (hT : eqTy t ks = true) (hr : eqL l m = r) :
  Y E ⟨d, .binOp .eql t x y ty, T, p, af, g⟩ sl ob (.d (.val (.bool r))) := fun ac w Pr β κ h => by
 subst hr
 have hno := fieldsOk_no (eqTy_parts hT).2.2.2
 have h1 := agg_vals (good_rep h hx) (by rw [hk]; exact hno)
 have h2 := agg_vals (good_rep h hy) (by rw [hk']; exact hno)
 refine ⟨_, .d _ _ (.val _), fun w' _ => ?_⟩
 simp only [execOp, h1, h2]
 rw [Sem.run_bind, Sem.run_bind, run_eqGuard_agg w' .eql t x y _ _ (eqTy_parts hT).2.2.1]
 simp only [Result.andThen]
 rw [run_eql_struct, run_eqs hk hk' hT]
 simp [Result.andThen, Sem.run_pure]
theorem y_neqs {l m : List D} {ks : List KD} {r : Bool} (hx : ev sl x = .d (.agg l)) (hy : ev sl y = .d (.agg m)) (hk : kindsD l = ks) (hk' : kindsD m = ks) (hT : eqTy t ks = true) (hr : (!eqL l m) = r) :
  Y E ⟨d, .binOp .neq t x y ty, T, p, af, g⟩ sl ob (.d (.val (.bool r))) := fun ac w Pr β κ h => by
 subst hr
 have hno := fieldsOk_no (eqTy_parts hT).2.2.2
 have h1 := agg_vals (good_rep h hx) (by rw [hk]; exact hno)
 have h2 := agg_vals (good_rep h hy) (by rw [hk']; exact hno)
 refine ⟨_, .d _ _ (.val _), fun w' _ => ?_⟩
 simp only [execOp, h1, h2]
 rw [Sem.run_bind, Sem.run_bind, run_eqGuard_agg w' .neq t x y _ _ (eqTy_parts hT).2.2.1]
 simp only [Result.andThen]
 rw [run_neq_struct, run_eqs hk hk' hT]
 simp [Result.andThen, Sem.run_pure]
end
section
variable {E : Entry} {sl : Slots} {ob : Objs} {a : Act} {w : World} {Pr : Prot} {β : Nat → Value} {κ : Nat → Nat}
variable {d : Nat} {dd : Option Nat} {t T ty : TypeId} {p : String} {af : Array Edge} {g : Option (Nat × Bool)} {x y c : Operand} {m m' : Int}
theorem y_slix {i o n q : Nat} {e es eb : Nat} {ez : Value} {kk : IntKind} {r : Nat} (hx : ev sl x = .sl i o n) (hy : ev sl y = .d (.val (.int kk m))) (hT : ti t = .sl e es eb ez) (hi : m = (q : Int)) (hq : q < n) (hr : o + q * es = r) :
  Y E ⟨dd, .indexAddr t x y, T, p, af, g⟩ sl ob (.box i r) := fun a w Pr β κ h => by
 subst hi hr
 obtain ⟨_, j, _, hu, _, hj, _, hs, _⟩ := ti_sl hT
 have hv := good_ev h x
 rw [hx] at hv
 generalize hav : a.eval x = v at hv
 cases hv with
 | sl _ _ _ c gg hb hc hm hz =>
  refine ⟨.pointer (some ⟨gg, o + q * es, none⟩), .box i _ gg hb, fun w' _ => ?_⟩
  have hsz : (sizeOf e).run Tryz.prog w' = .ok es w' := by simp [sizeOf, typeInfo, hj, hs]
  simp [execOp, hav, good_val h hy, Instr.indexAt, asIntOf, run_underlying hu, hsz, hq, Addr.add_lit]
theorem y_sllen {i o n : Nat} {t0 : TypeId} {A : Array TypeId} (hx : ev sl x = .sl i o n) (hA : A = #[t0]) (hT : ∃ e es eb ez, ti t0 = .sl e es eb ez) :
  Y E ⟨dd, .call { callee := .builtin .len, args := #[x], argTypes := A }, T, p, af, g⟩ sl ob (.d (.val (.int .i64 n))) := fun a w Pr β κ h => by
 subst hA
 obtain ⟨e, es, eb, ez, hT⟩ := hT
 obtain ⟨_, _, _, hu, _⟩ := ti_sl hT
 have hv := good_ev h x
 rw [hx] at hv
 generalize hav : a.eval x = v at hv
 cases hv with
 | sl _ _ _ c gg hb hc hm hz => exact ⟨_, .d _ _ (.val _), fun w' _ => by simp [execOp, hav, resolve, invoke, builtin, Builtin.len_, run_underlying hu, goInt]⟩
def natsD : List (List D) → List Int
 | [.val (.int _ n)] :: l => n :: natsD l
 | _ => []
theorem rep_sub {A : Option Addr} {n c s : Nat} {l : List (List D)} {lo hi : Nat} (h : RepD w Pr (.slice A n c) (.list s l)) (h1 : lo ≤ hi) (h2 : hi ≤ l.length) : RepD w Pr (sliced A lo hi c s) (.list s ((l.take hi).drop lo)) := by
 cases h with
 | nil _ _ _ hm =>
  have e1 : hi = 0 := by simpa using h2
  subst e1
  have e2 : lo = 0 := by omega
  subst e2
  exact .nil _ _ _ (by omega)
 | list b o _ _ _ _ u hn hs hc hm hr hd =>
  subst hn
  by_cases he : hi - lo = 0
  ·have e0 : (l.take hi).drop lo = [] := by rw [List.drop_eq_nil_iff, List.length_take]; omega
   rw [e0]
   unfold sliced
   rw [he]
   exact .nil _ _ _ (by omega)
  ·have hne : c ≠ lo := by omega
   unfold sliced
   rw [if_neg hne]
   simp only [Option.map_some, Addr.add_lit]
   have hget : ∀ (i : Nat) (e : List D), ((l.take hi).drop lo)[i]? = some e → l[lo + i]? = some e := by
    intro i e h3
    rw [List.getElem?_drop, List.getElem?_take] at h3
    split at h3
    ·exact h3
    ·cases h3
   refine .list b (o + lo * s) (hi - lo) (c - lo) s _ (fun i j => u (lo + i) j) (by simp; omega) (fun e he' => hs e (List.mem_of_mem_take (List.mem_of_mem_drop he'))) (by omega) (by omega) (fun i j e z h3 h4 => ?_) (fun i j e z h3 h4 => ?_)
   ·have := hr (lo + i) j e z (hget i e h3) h4
    rw [show o + lo * s + i * s + j = o + (lo + i) * s + j by rw [Nat.add_mul]; omega]
    exact this
   ·exact hd (lo + i) j e z (hget i e h3) h4
theorem y_sub_l {l r : List (List D)} {lo hi : Option Operand} {l1 h1 e s eb : Nat} {ez : Value} (hx : ToD ob (ev sl x) (.list s l)) (hT : ti t = .sl e s eb ez) (hl : lowAt sl lo l1) (hh : highAt sl hi l.length h1) (k1 : l1 ≤ h1) (k2 : h1 ≤ l.length) (hr : (l.take h1).drop l1 = r) :
  Y E ⟨dd, .slice t x lo hi none, T, p, af, g⟩ sl ob (.d (.list s r)) := fun a w Pr β κ h => by
 subst hr
 obtain ⟨_, j, _, hu, _, hj, _, hs, _⟩ := ti_sl hT
 have hrep := toD_rep h hx _ (good_ev h x)
 obtain ⟨A, c, hv, hc, hm⟩ := list_form hrep
 rw [hv] at hrep
 refine ⟨_, .d _ _ (rep_sub hrep k1 k2), fun w' _ => ?_⟩
 have hsz : (sizeOf e).run Tryz.prog w' = .ok s w' := by simp [sizeOf, typeInfo, hj, hs]
 simp [execOp, hv, Instr.sliceAt, Instr.slice, run_underlying hu, run_bounds h hl hh k1 k2 hc, hsz, sliced]
theorem Good.freeze (h : Good E sl ob a w Pr β κ) {i j n : Nat} {e : TypeId} {ds : List D} (hf : find ob i = some (.box e (ds.map V.d))) (hj : look sl j = .sl i 0 n) (hn : ds.length = n) : Inv E ((j, .d (.list 1 (ds.map fun z => [z]))) :: sl) (dropK [i] ob) a w := by
 subst hn
 obtain ⟨g, cs, hb, hB, hh, hl, hv, hno⟩ := h.objs i _ hf
 have hg : blk (β i) = some g := by rw [hb]; rfl
 have hlt := ((h.objs i _ hf).blkLt g hg).2
 have hown := h.own i _ g hf hg
 let Pr' : Prot := fun b o => Pr b o ∨ (b = g ∧ o < cs.length)
 have hs : Stays Pr w w := fun _ _ _ => rfl
 have hp : ∀ b o, Pr b o → Pr' b o := fun _ _ h => .inl h
 have hcell : ∀ (q : Nat) (u : Value), cs[q]? = some u → w.cell? ⟨g, q, none⟩ = some u := fun q u hq => by
  rw [cell_of_row w g q _ _ (0, 0) hh]
  simpa using hq
 have hdr : ∀ (q : Nat) (x : D) (u : Value), ds[q]? = some x → cs[q]? = some u → RepD w Pr' u x := fun q x u h1 h2 => by
  have := hv q u (.d x) h2 (by simp [h1])
  exact this.d_inv.keep hs hp
 refine ⟨Pr', β, κ, h.below, h.st0, fun b o ho => hp b o (h.pr0 b o ho), fun b o ho => ?_, fun b o ho => ?_, h.size, h.defers, fun q => ?_, fun q o ho => ?_, fun q r oq or gg hq hr => ?_, fun q o gg hq => ?_, h.keeps, h.fresh⟩
 ·rcases ho with ho | ⟨rfl, _⟩
  ·exact h.prn b o ho
  ·exact .inr (hown.elim .inr .inl)
 ·rcases ho with ho | ⟨rfl, _⟩
  ·exact h.prl b o ho
  ·exact hlt
 ·by_cases hq : q = j
  ·subst hq
   rw [look_eq]
   have hsl := h.slots q
   rw [hj] at hsl
   generalize a.tmps.getD q undef = v at hsl
   cases hsl with
   | sl _ _ _ c gg hb' hc hm hz =>
    rw [hb] at hb'
    simp only [Value.pointer.injEq, Option.some.injEq, Addr.mk.injEq, and_true] at hb'
    subst hb'
    have hcl : cs.length = ds.length := by simpa using hl
    refine .d _ _ (.list g 0 ds.length c 1 _ (fun p _ => cs.getD p undef) (by simp) (fun x hx => ?_) hc hm (fun p r x z h1 h2 => ?_) (fun p r x z h1 h2 => ?_))
    ·obtain ⟨y, _, rfl⟩ := List.mem_map.1 hx
     rfl
    ·simp only [List.getElem?_map, Option.map_eq_some_iff] at h1
     obtain ⟨y, hy, rfl⟩ := h1
     have hr : r = 0 := by have := (List.getElem?_eq_some_iff.1 h2).1; simp at this; exact this
     subst hr
     have hp1 : p < cs.length := by rw [hcl]; exact (List.getElem?_eq_some_iff.1 hy).1
     rw [Nat.zero_add, Nat.mul_one, Nat.add_zero]
     exact ⟨hcell p _ (by simp [hp1]), .inr ⟨rfl, hp1⟩⟩
    ·simp only [List.getElem?_map, Option.map_eq_some_iff] at h1
     obtain ⟨y, hy, rfl⟩ := h1
     have hr : r = 0 := by have := (List.getElem?_eq_some_iff.1 h2).1; simp at this; exact this
     subst hr
     cases h2
     have hp1 : p < cs.length := by rw [hcl]; exact (List.getElem?_eq_some_iff.1 hy).1
     exact hdr p _ _ hy (by simp [hp1])
  ·rw [look_ne hq]
   exact (h.slots q).keep hs hp
 ·obtain ⟨h1, h2⟩ := find_dropK ho
  refine (h.objs q o h2).keep2 hs hp (fun gg hgg r hr => ?_) (fun _ _ => rfl)
  rcases hr with hr | ⟨rfl, _⟩
  ·exact hr
  ·exact absurd (h.apart q i _ _ _ h2 hf hgg hg) (fun e => h1 (by simp [e]))
 ·exact h.apart q r oq or gg (find_dropK hq).2 (find_dropK hr).2
 ·exact h.own q o gg (find_dropK hq).2
inductive PartsV (sl : Slots) : Nat → List (Nat × Operand) → List V → Prop where
 | nil (i : Nat) : PartsV sl i [] []
 | cons {i : Nat} {x : Operand} {xs : List (Nat × Operand)} {v : V} {vs : List V} (h : Cf (ev sl x) v) (h1 : v.one = true) (hr : PartsV sl (i + 1) xs vs) : PartsV sl i ((i, x) :: xs) (v :: vs)
def numb : Nat → List Value → List (Nat × Value)
 | _, [] => []
 | i, v :: vs => (i, v) :: numb (i + 1) vs
theorem one_cells {v : Value} (h : v.oneCell' = true) : v.cells = #[v] := by cases v <;> first | rfl | cases h
theorem fill_row : ∀ (vs q cs : List Value), (∀ v ∈ vs, v.oneCell' = true) → cs.length = vs.length → Instr.fill (fun k => some (k * 1, 1)) (q ++ cs).toArray (numb q.length vs) = some (q ++ vs).toArray
 | [], q, [], _, _ => rfl
 | [], q, _ :: _, _, h => by simp at h
 | _ :: _, q, [], _, h => by simp at h
 | v :: vs, q, c :: cs, h1, h => by
  have hc := one_cells (h1 v (by simp))
  have ih := fill_row vs (q ++ [v]) cs (fun u hu => h1 u (by simp [hu])) (by simpa using h)
  rw [List.length_append, List.length_singleton, List.append_assoc, List.append_assoc, List.singleton_append, List.singleton_append] at ih
  simp only [numb, Instr.fill, hc]
  have hz : (#[v] : Array Value).zipIdx.foldl (fun (cs : Array Value) (p : Value × Nat) => cs.setIfInBounds (q.length * 1 + p.2) p.1) (q ++ c :: cs).toArray = (q ++ v :: cs).toArray := by
   simp [List.setIfInBounds_toArray, List.set_append]
  split
  ·rename_i hh
   exact absurd hh (by simp)
  ·exact (congrArg (fun z => Instr.fill (fun k => some (k * 1, 1)) z (numb (q.length + 1) vs)) hz).trans ih
theorem PartsV.rep (h : Good E sl ob a w Pr β κ) {i : Nat} {xs : List (Nat × Operand)} {vs : List V} (hp : PartsV sl i xs vs) : ∃ us : List Value, xs.map (fun q => (q.1, a.eval q.2)) = numb i us ∧ us.length = vs.length ∧ xs.length = us.length ∧ (∀ u ∈ us, u.oneCell' = true) ∧ ∀ (j : Nat) (u : Value) (v : V), us[j]? = some u → vs[j]? = some v → RepV w Pr β κ u v := by
 induction hp with
 | nil i => exact ⟨[], rfl, rfl, rfl, by simp, by simp⟩
 | @cons i x xs v vs hc h1 hr ih =>
  obtain ⟨us, e1, e2, e4, e5, e3⟩ := ih
  have hv : RepV w Pr β κ (a.eval x) v := hc.eq ▸ good_ev h x
  refine ⟨a.eval x :: us, by simp [numb, e1], by simp [e2], by simp [e4], fun u hu => ?_, fun j u z h2 h3 => ?_⟩
  ·rcases List.mem_cons.1 hu with rfl | hu
   ·exact one_cell hv h1
   ·exact e5 u hu
  ·cases j with
   | zero => simp at h2 h3; subst h2 h3; exact hv
   | succ j => exact e3 j u z (by simpa using h2) (by simpa using h3)
theorem run_buildA (w : World) {n e : Nat} {z : List Value} {us : List Value} (hT : ti t = .ar n e 1 z) (h1 : ∀ u ∈ us, u.oneCell' = true) (hl : z.length = us.length) : (Instr.build t (numb 0 us).toArray).run Tryz.prog w = .ok (.agg us.toArray) w := by
 obtain ⟨i, j, k1, k2, _, k4, k5, k6⟩ := ti_ar hT
 refine run_build (P := Tryz.prog) w t _ us.toArray ?_
 simp only [Program.built, k1, k2, k4, k5, k6, Value.cells]
 exact fill_row us [] z h1 hl
theorem y_buildV {parts : List (Nat × Operand)} {n e : Nat} {z : List Value} {l : List V} (hT : ti t = .ar n e 1 z) (hp : PartsV sl 0 parts l) (hl : parts.length = z.length) : Y E ⟨dd, .build t parts.toArray, T, p, af, g⟩ sl ob (.agg l) := fun a w Pr β κ h => by
 obtain ⟨us, e1, e2, e4, e5, e3⟩ := hp.rep h
 refine ⟨.agg us.toArray, .agg us l e2 e3, fun w' _ => ?_⟩
 have hr := run_buildA (t := t) w' hT e5 (by omega)
 have e : (parts.toArray.map fun x => (x.1, a.eval x.2)) = (numb 0 us).toArray := by rw [← e1]; simp
 simp only [execOp, e, Sem.run_bind, hr]
 rfl
def vDs : List V → Option (List D)
 | [] => some []
 | .d x :: l => (vDs l).map (x :: ·)
 | _ :: _ => none
theorem vDs_map : ∀ {l : List V} {r : List D}, vDs l = some r → l = r.map V.d
 | [], r, h => by cases h; rfl
 | .d x :: l, r, h => by
  simp only [vDs, Option.map_eq_some_iff] at h
  obtain ⟨q, h1, rfl⟩ := h
  rw [vDs_map h1]
  rfl
 | .und :: _, _, h | .ep .. :: _, _, h | .box .. :: _, _, h | .sl .. :: _, _, h | .mp .. :: _, _, h | .row .. :: _, _, h | .agg .. :: _, _, h | .clo .. :: _, _, h | .mv .. :: _, _, h | .tup .. :: _, _, h => by cases h
theorem y_buildA {parts : List (Nat × Operand)} {n e : Nat} {z : List Value} {l : List V} {r : List D} (hT : ti t = .ar n e 1 z) (hp : PartsV sl 0 parts l) (hl : parts.length = z.length) (hr : vDs l = some r) : Y E ⟨dd, .build t parts.toArray, T, p, af, g⟩ sl ob (.d (.agg r)) := fun a w Pr β κ h => by
 have hv := vDs_map hr
 obtain ⟨us, e1, e2, e4, e5, e3⟩ := hp.rep h
 refine ⟨.agg us.toArray, .d _ _ (.agg us r (by rw [e2, hv]; simp) fun j u x h1 h2 => ?_), fun w' _ => ?_⟩
 ·exact (e3 j u (.d x) h1 (by rw [hv]; simp [h2])).d_inv
 ·have hr := run_buildA (t := t) w' hT e5 (by omega)
  have e : (parts.toArray.map fun x => (x.1, a.eval x.2)) = (numb 0 us).toArray := by rw [← e1]; simp
  simp only [execOp, e, Sem.run_bind, hr]
  rfl
end
end
section
open Go.RowKit
inductive Tree where
 | tail | stop
 | free (i : Nat) (t : Tree)
 | only (i : Nat) (t : Tree)
 | fork (u : Tree)
 | alt (i : Nat) (t u : Tree)
def Tree.heads : Tree → List Nat
 | .alt i _ u => i :: u.heads
 | _ => []
def Tree.isAlt : Tree → Bool
 | .alt .. | .stop => true
 | _ => false
def Tree.height : Tree → Nat
 | .free _ t | .only _ t => t.height + 1
 | .fork u => u.height
 | .alt _ t u => max (t.height + 1) u.height
 | _ => 0
def treeOk (ops : Array Oper) (tail : List Nat) : Tree → Array Bool → Bool
 | .tail, listed => tailOk ops tail tail listed
 | .stop, _ => true
 | .free i t, listed => !tail.contains i && (Region.ready .any ops listed).contains i && Region.free .any ops listed i && !t.isAlt && treeOk ops tail t (listed.setIfInBounds i true)
 | .only i t, listed => !tail.contains i && (Region.ready .any ops listed == [i]) && !t.isAlt && treeOk ops tail t (listed.setIfInBounds i true)
 | .fork u, listed => u.isAlt && (Region.ready .any ops listed == u.heads) && !u.heads.isEmpty && treeOk ops tail u listed
 | .alt i t u, listed => !t.isAlt && u.isAlt && treeOk ops tail t (listed.setIfInBounds i true) && treeOk ops tail u listed
def wpTree (P : Program) (ops : List Oper) (S : World → Prop) (Q : Exit → Act → World → Prop) (R : Act → World → Prop) : Tree → Act → World → Prop
 | .tail, a, w => R a w
 | .stop, _, _ => True
 | .free i t, a, w => match ops[i]? with | none => False | some o => ∃ v, YieldsIf P ops.toArray S o v a ∧ wpTree P ops S Q R t (a.put o.dst v) w
 | .only i t, a, w => wpOp P ops.toArray Q i (fun a' w' => S w' ∧ (S w' → wpTree P ops S Q R t a' w')) a w
 | .fork u, a, w => wpTree P ops S Q R u a w
 | .alt i t u, a, w => wpOp P ops.toArray Q i (fun a' w' => S w' ∧ (S w' → wpTree P ops S Q R t a' w')) a w ∧ wpTree P ops S Q R u a w
section
variable {P : Program} {S : World → Prop} {Q : Exit → Act → World → Prop} {tail : List Nat}
variable {R : Act → World → Prop}
variable {ops : List Oper} {a : Act} {w : World} {i : Nat} {o : Oper} {t u : Tree}
end
theorem SB.turned {base B : Nat} {we w0 w1 w2 : World} {row : Option Nat} (h : SB base we B row w0 w1) (hx : Below base w1 w2) (hB : B ≤ base) : SB base we B row w0 w2 :=
 ⟨fun b o hb hr => ((bcell hx).1 b o (Nat.lt_of_lt_of_le hb hB)).trans (h.cell b o hb hr), fun b o hb hr => ((bcell hx).2 b o (Nat.lt_of_lt_of_le hb hB)).trans (h.frozen b o hb hr), Nat.le_trans h.size hx.size, h.below.trans hx⟩
end
end Go.Proofs.YtedoeogopmenpaaGreatDoor
