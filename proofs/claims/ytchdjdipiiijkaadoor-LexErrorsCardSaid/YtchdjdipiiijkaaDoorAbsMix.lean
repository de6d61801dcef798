/-
  Statements that leave their order open, over abstract states: one walk along a plan. Conditions: the plan is checked by a Bool.
-/
import Derived.Test.YtchdjdipiiijkaaDoorAbsRet
import Derived.Test.YtchdjdipiiijkaaDoorMix
namespace Go.Proofs.YtchdjdipiiijkaaDoor
open Go.RowKit

theorem follows_mixed : Tryd.prog.follows .mixedOrders = true := by kernel_rfl
theorem Kept.trans {Pr Pr1 : Prot} {β : Nat → Value} {ob : Objs} {w0 w1 w2 : World} (h : Kept Pr β ob w0 w1) (h' : Kept Pr1 β ob w1 w2) (hp : ∀ b o, Pr b o → Pr1 b o) : Kept Pr β ob w0 w2 :=
  ⟨fun b o ho => (h'.stays b o (hp b o ho)).trans (h.stays b o ho), fun i o g h1 h2 => (h'.objs i o g h1 h2).trans (h.objs i o g h1 h2), Nat.le_trans h.size h'.size⟩
/-- sl0: what the slots show by what was there when the statement began; sl: what they show now. -/
structure AM (E : Entry) (ops : List Oper) (tail : List Oper) (Q : Exit → Act → World → Prop) (pl : List (Nat × Bool × Oper)) (sl0 sl : Slots) (ob : Objs) : Prop where
  run : ∀ a w0 w Pr Pr1 β κ, Good E sl0 ob a w0 Pr β κ → Good E sl ob a w Pr1 β κ → Kept Pr β ob w0 w → (∀ b o, Pr b o → Pr1 b o) →
    wpMix Tryd.prog ops.toArray (Kept Pr β ob w0) (NoPanic Q) (wpList Tryd.prog ops.toArray (NoPanic Q) tail) pl a w
/-- the value is said without memory -/
def flat : D → V
  | .val v => .d (.val v)
  | _ => .und
section
variable {E : Entry} {sl sl0 : Slots} {ob : Objs} {ops tail : List Oper} {pl : List (Nat × Bool × Oper)} {Q : Exit → Act → World → Prop} {i : Nat}
variable {d : Nat} {op : Op} {ty : TypeId} {p : String} {af : Array Edge} {dst : Option Nat}
theorem kept_grow {a : Act} {w0 w w' : World} {Pr Pr1 : Prot} {β : Nat → Value} {κ : Nat → Nat} (h1 : Good E sl ob a w Pr1 β κ) (hk : Kept Pr β ob w0 w) (hp : ∀ b o, Pr b o → Pr1 b o) (hx : Below w.heap.size w w') : Kept Pr β ob w0 w' :=
  hk.trans (Pr1 := Pr1) ⟨stays_below h1 hx, fun i o g h3 h4 => hx.block g ((h1.objs i o h3).blkLt g h4).2, hx.size⟩ hp
/-- the guard says yes; it says no -/
def Want (ops : List Oper) (sl : Slots) (yes : Bool) : Option (Nat × Bool) → Prop
  | none => yes = true
  | some (j, want) => ∃ t, (ops.toArray[j]?).bind (·.dst) = some t ∧ ((∃ b, look sl t = .d (.val (.bool b)) ∧ (b == want) = yes) ∨ (yes = false ∧ look sl t = .d (.val undef)))
theorem want_none : Want ops sl true none := rfl
theorem want_yes {j t : Nat} {want b : Bool} (hj : (ops.toArray[j]?).bind (·.dst) = some t) (hb : look sl t = .d (.val (.bool b))) (hw : b = want) : Want ops sl true (some (j, want)) := ⟨t, hj, .inl ⟨b, hb, by simp [hw]⟩⟩
theorem want_no_t {j t : Nat} {b : Bool} (hj : (ops.toArray[j]?).bind (·.dst) = some t) (hb : look sl t = .d (.val (.bool b))) (hw : b = false) : Want ops sl false (some (j, true)) := ⟨t, hj, .inl ⟨b, hb, by simp [hw]⟩⟩
theorem want_no_f {j t : Nat} {b : Bool} (hj : (ops.toArray[j]?).bind (·.dst) = some t) (hb : look sl t = .d (.val (.bool b))) (hw : b = true) : Want ops sl false (some (j, false)) := ⟨t, hj, .inl ⟨b, hb, by simp [hw]⟩⟩
theorem want_no_u {j t : Nat} {want : Bool} (hj : (ops.toArray[j]?).bind (·.dst) = some t) (hb : look sl t = .d (.val undef)) : Want ops sl false (some (j, want)) := ⟨t, hj, .inr ⟨rfl, hb⟩⟩
variable {g : Option (Nat × Bool)}
theorem Want.is {a : Act} {w : World} {Pr : Prot} {β : Nat → Value} {κ : Nat → Nat} {yes : Bool} (h : Want ops sl yes g) (hi : Good E sl ob a w Pr β κ) : Region.wanted ⟨dst, op, ty, p, af, g⟩ (yielded ops.toArray a.tmps) = yes := by
  cases g with
  | none => simp only [Want] at h; simp [Region.wanted, h]
  | some q =>
    obtain ⟨j, want⟩ := q
    obtain ⟨t, hj, ⟨b, hb, hw⟩ | ⟨rfl, hb⟩⟩ := h
    rotate_left
    · have hs := hi.slots t
      rw [hb] at hs
      exact unwanted_u hj hs.val_inv
    rw [← hw]
    exact wanted_of (ops := ops.toArray) (o := ⟨dst, op, ty, p, af, some (j, want)⟩) ⟨Pr, β, κ, hi⟩ rfl hj hb
theorem am_y {x : V} (hw : Want ops sl true g) (h : Y E ⟨some d, op, ty, p, af, g⟩ sl0 ob x) (hd : d < E.n) (hK : AM E ops tail Q pl ((d, x) :: sl0) ((d, x) :: sl) ob) : AM E ops tail Q ((i, true, ⟨some d, op, ty, p, af, g⟩) :: pl) sl0 sl ob :=
  ⟨fun a w0 w Pr Pr1 β κ h0 h1 hk hp => by
    obtain ⟨v, hv, hr⟩ := h a w0 Pr β κ h0
    exact mix_take (hw.is h1) ⟨v, hr, hK.run _ w0 w Pr Pr1 β κ (h0.put hd hv) (h1.put hd (hv.keep hk.stays hp)) hk hp⟩⟩
theorem am_y' {x : V} (hw : Want ops sl true g) (h : Y E ⟨some d, op, ty, p, af, g⟩ sl0 ob x) (hd : d < E.n) (hK : AM E ops tail Q pl ((d, x) :: sl0) ((d, x) :: sl) ob) : AM E ops tail Q ((i, false, ⟨some d, op, ty, p, af, g⟩) :: pl) sl0 sl ob :=
  ⟨fun a w0 w Pr Pr1 β κ h0 h1 hk hp => by
    obtain ⟨v, hv, hr⟩ := h a w0 Pr β κ h0
    refine mix_move (hw.is h1) (fun K hKK => ?_)
    unfold Oper.wp
    rw [hr w hk, Oper.upon_value]
    exact hKK.out _ _ hk fun _ => hK.run _ w0 w Pr Pr1 β κ (h0.put hd hv) (h1.put hd (hv.keep hk.stays hp)) hk hp⟩
theorem am_skip (hw : Want ops sl false g) (hd : d < E.n) (hK : AM E ops tail Q pl ((d, .d (.val undef)) :: sl0) ((d, .d (.val undef)) :: sl) ob) : AM E ops tail Q ((i, true, ⟨some d, op, ty, p, af, g⟩) :: pl) sl0 sl ob :=
  ⟨fun _ w0 w Pr Pr1 β κ h0 h1 hk hp => mix_skip (hw.is h1) (hK.run _ w0 w Pr Pr1 β κ (h0.put hd (.d _ _ (.val _))) (h1.put hd (.d _ _ (.val _))) hk hp)⟩
theorem am_skip' (hw : Want ops sl false g) (hd : d < E.n) (hK : AM E ops tail Q pl ((d, .d (.val undef)) :: sl0) ((d, .d (.val undef)) :: sl) ob) : AM E ops tail Q ((i, false, ⟨some d, op, ty, p, af, g⟩) :: pl) sl0 sl ob :=
  ⟨fun _ w0 w Pr Pr1 β κ h0 h1 hk hp => mix_pass hk (hw.is h1) (hK.run _ w0 w Pr Pr1 β κ (h0.put hd (.d _ _ (.val _))) (h1.put hd (.d _ _ (.val _))) hk hp)⟩
theorem am_split {s : Bool} {j t : Nat} {want b : Bool} (hj : (ops.toArray[j]?).bind (·.dst) = some t) (hb : look sl t = .d (.val (.bool b)))
    (h1 : b = true → AM E ops tail Q ((i, s, ⟨dst, op, ty, p, af, some (j, want)⟩) :: pl) sl0 sl ob) (h2 : b = false → AM E ops tail Q ((i, s, ⟨dst, op, ty, p, af, some (j, want)⟩) :: pl) sl0 sl ob) :
    AM E ops tail Q ((i, s, ⟨dst, op, ty, p, af, some (j, want)⟩) :: pl) sl0 sl ob := by
  have _ := hj
  have _ := hb
  cases b
  · exact h2 rfl
  · exact h1 rfl
theorem am_call {f : FuncId} {ds : List D} {Post : D → Prop} {c : Operand} {xs : List Operand} {ats : Array TypeId} (hc : PureC f ds Post) (hw : Want ops sl true g) (hf : ev sl c = .d (.val (.func (.func f) #[] #[]))) (hE : Fine E) (hd : d < E.n) (ha : ArgsD sl ob xs ds)
    (hK : ∀ r, Post r → AM E ops tail Q pl ((d, flat r) :: sl0) ((d, .d r) :: sl) ob) : AM E ops tail Q ((i, false, ⟨some d, .call { callee := .value c, args := xs.toArray, argTypes := ats }, ty, p, af, g⟩) :: pl) sl0 sl ob := by
  refine ⟨fun a w0 w Pr Pr1 β κ h0 h1 hk hp => ?_⟩
  refine mix_move (hw.is h1) (fun K hKK => ?_)
  obtain ⟨hl, hr⟩ := ha.rep h1
  have hcall := hc.2 w Pr1 (xs.map a.eval) h1.prl (env_now hE h1) hl hr
  have hrun : (execOp a.eval ⟨some d, .call { callee := .value c, args := xs.toArray, argTypes := ats }, ty, p, af, g⟩).run Tryd.prog w = .ok (.enter f (xs.map a.eval).toArray) w := by
    simp [execOp, resolve, Deferred.ofValue, invoke, good_val h1 hf, run_callFunc hc.1]
  unfold Oper.wp
  rw [hrun, Oper.upon_enter]
  refine hcall.mono fun e w' ⟨v, r, he, hpo, hrep, hb⟩ => ?_
  subst he
  refine hKK.out _ _ (kept_grow h1 hk hp hb) fun _ => (hK r hpo).run _ w0 w' Pr _ β κ (h0.put hd ?_) (h1.called hb hrep hd) (kept_grow h1 hk hp hb) (fun b o ho => .inl (hp b o ho))
  cases hrep with
  | val v => exact .d _ _ (.val v)
  | _ => exact .und _
theorem am_nil (h : AL E ops.toArray tail (NoPanic Q) sl ob) : AM E ops tail Q [] sl0 sl ob := ⟨fun _ _ _ _ _ β κ _ h1 _ _ => mix_nil (h.run _ _ ⟨_, β, κ, h1⟩)⟩
/-- The statement. -/
theorem aw_mix {id : Nat} (plan : List (Nat × Bool)) (tail : List Nat) (hs : Region.noSelect ops.toArray = true) (hw : waitsAll ops.toArray tail = true) (hok : mixOk ops.toArray tail plan (Array.replicate ops.length false) = true) (hlen : plan.length + tail.length ≤ ops.length)
    (h : AM E ops (tailed ops tail) Q (planned ops plan) sl sl ob) : AW E (.region id ops.toArray true) Q sl ob := by
  refine ⟨fun a w hi => ?_⟩
  obtain ⟨Pr, β, κ, hg⟩ := hi
  have hg2 : Good E sl ob a w.drew Pr β κ := hg.grow (Below.refl _ _).drew (fun _ _ h => h) (fun _ _ h => .inl h)
  exact wp_region_mix plan tail (Kept Pr β ob w.drew) follows_mixed hs hw hok hlen (Kept.refl _ _ _ _) (fun _ => h.run a w.drew w.drew Pr Pr β κ hg2 hg2 (Kept.refl _ _ _ _) (fun _ _ h => h))
end
section
variable {E : Entry} {sl : Slots} {ob : Objs} {Q : Exit → Act → World → Prop} {y : Code} {K : Act → World → Prop}
theorem aq_np (h : AQ E .normal Q sl ob) : AQ E .normal (NoPanic Q) sl ob := ⟨fun a w hi => NoPanic.normal (h.run a w hi)⟩
theorem at_am {ops tail : List Oper} {pl : List (Nat × Bool × Oper)} {i : Nat} {s : Bool} {sl0 : Slots} (op : Op) {d : Option Nat} {t : TypeId} {p : String} {af : Array Edge} {g : Option (Nat × Bool)} (h : AM E ops tail Q ((i, s, ⟨d, op, t, p, af, g⟩) :: pl) sl0 sl ob) : AM E ops tail Q ((i, s, ⟨d, op, t, p, af, g⟩) :: pl) sl0 sl ob := h
end
end Go.Proofs.YtchdjdipiiijkaaDoor
