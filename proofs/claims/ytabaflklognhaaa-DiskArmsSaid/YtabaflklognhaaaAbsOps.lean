/-
  Operations over abstract states. Conditions: none.
-/
import Derived.Test.YtabaflklognhaaaAbs
namespace Go.Proofs.Ytabaflklognhaaa
open Go.RowKit

def ev (sl : Slots) : Operand → V
  | .tmp t => look sl t
  | .const v => .d (.val v)
  | .func f => .d (.val (.func (.func f) #[] #[]))
  | .global g => .d (.val (.pointer (some ⟨g, 0, none⟩)))

/-- What a statement's other operations leave as it is. -/
structure Kept (Pr : Prot) (β : Nat → Value) (ob : Objs) (w w' : World) : Prop where
  stays : Stays Pr w w'
  objs : ∀ i o g, find ob i = some o → blk (β i) = some g → w'.heap[g]? = w.heap[g]?
  size : w.heap.size ≤ w'.heap.size
theorem Kept.refl (Pr : Prot) (β : Nat → Value) (ob : Objs) (w : World) : Kept Pr β ob w w := ⟨fun _ _ _ => rfl, fun _ _ _ _ _ => rfl, Nat.le_refl _⟩

/-- The operation hands back a value that shows x, and turns nothing. -/
def Y (E : Entry) (o : Oper) (sl : Slots) (ob : Objs) (x : V) : Prop :=
  ∀ a w Pr β κ, Good E sl ob a w Pr β κ → ∃ v, RepV w Pr β κ v x ∧ ∀ w', Kept Pr β ob w w' → (execOp a.eval o).run Try.prog w' = .ok (.value v) w'
/-- The operation leads from a state to another one. -/
def Step (E : Entry) (o : Oper) (sl : Slots) (ob : Objs) (sl' : Slots) (ob' : Objs) : Prop :=
  ∀ a w, Inv E sl ob a w → ∀ (K : Act → World → Prop) (Q : Exit → Act → World → Prop), (∀ a' w', Inv E sl' ob' a' w' → K a' w') → o.wp Try.prog a w K Q
/-- The rest of a region. -/
structure AL (E : Entry) (ops : Array Oper) (rest : List Oper) (Q : Exit → Act → World → Prop) (sl : Slots) (ob : Objs) : Prop where
  run : ∀ a w, Inv E sl ob a w → wpList Try.prog ops Q rest a w
structure AW (E : Entry) (c : Code) (Q : Exit → Act → World → Prop) (sl : Slots) (ob : Objs) : Prop where
  run : ∀ a w, Inv E sl ob a w → c.wp Try.prog Q a w
structure AQ (E : Entry) (e : Exit) (Q : Exit → Act → World → Prop) (sl : Slots) (ob : Objs) : Prop where
  run : ∀ a w, Inv E sl ob a w → Q e a w

section
variable {E : Entry} {sl sl' : Slots} {ob ob' : Objs} {ops : Array Oper} {rest : List Oper} {Q : Exit → Act → World → Prop} {o : Oper}
theorem Y.step {x : V} {d : Nat} (h : Y E o sl ob x) (ho : o.dst = some d) (hd : d < E.n) : Step E o sl ob ((d, x) :: sl) ob := by
  rintro a w ⟨Pr, β, κ, hg⟩ K Q hK
  obtain ⟨v, hv, hr⟩ := h a w Pr β κ hg
  unfold Oper.wp
  rw [hr w (.refl Pr β ob w), Oper.upon_value, ho]
  exact hK _ _ ⟨Pr, β, κ, hg.put hd hv⟩
theorem al_step (h : Step E o sl ob sl' ob') (hg : o.guard = none) (hK : AL E ops rest Q sl' ob') : AL E ops (o :: rest) Q sl ob :=
  ⟨fun a w hi => wpList_plain hg fun K hKK => h a w hi K Q fun a' w' hi' => hKK _ _ (hK.run a' w' hi')⟩
theorem al_y {x : V} {d : Nat} {op : Op} {t : TypeId} {p : String} {af : Array Edge} (h : Y E ⟨some d, op, t, p, af, none⟩ sl ob x) (hd : d < E.n) (hK : AL E ops rest Q ((d, x) :: sl) ob) :
    AL E ops (⟨some d, op, t, p, af, none⟩ :: rest) Q sl ob := al_step (h.step rfl hd) rfl hK
theorem wanted_of {a : Act} {w : World} {o : Oper} {j t : Nat} {want b : Bool} (hi : Inv E sl ob a w) (hg : o.guard = some (j, want)) (hj : (ops[j]?).bind (·.dst) = some t) (hb : look sl t = .d (.val (.bool b))) :
    Region.wanted o (yielded ops a.tmps) = (b == want) := by
  obtain ⟨Pr, β, κ, hgd⟩ := hi
  have h := hgd.slots t
  rw [hb] at h
  have hv : a.tmps.getD t undef = .bool b := h.val_inv
  have hget : a.tmps[t]? = some (.bool b) := by
    rw [Array.getD_eq_getD_getElem?] at hv
    cases hx : a.tmps[t]? with
    | none => rw [hx] at hv; simp [undef] at hv
    | some y => rw [hx] at hv; simpa using hv
  simp [Region.wanted, hg, yielded, hj, hget]
theorem unwanted_u {a : Act} {op : Op} {dd : Option Nat} {ty : TypeId} {p : String} {af : Array Edge} {j t : Nat} {want : Bool} (hj : (ops[j]?).bind (·.dst) = some t) (hv : a.tmps.getD t undef = undef) : Region.wanted ⟨dd, op, ty, p, af, some (j, want)⟩ (yielded ops a.tmps) = false := by
  rw [Array.getD_eq_getD_getElem?] at hv
  cases hx : a.tmps[t]? with
  | none => simp [Region.wanted, yielded, hj, hx]
  | some y =>
    rw [hx] at hv
    simp only [Option.getD_some] at hv
    subst hv
    simp [Region.wanted, yielded, hj, hx, undef]
theorem al_go {op : Op} {d : Option Nat} {ty : TypeId} {p : String} {af : Array Edge} {j t : Nat} {want b : Bool} (hj : (ops[j]?).bind (·.dst) = some t) (hb : look sl t = .d (.val (.bool b))) (hw : b = want)
    (h : AL E ops (⟨d, op, ty, p, af, none⟩ :: rest) Q sl ob) : AL E ops (⟨d, op, ty, p, af, some (j, want)⟩ :: rest) Q sl ob := by
  refine ⟨fun a w hi => ?_⟩
  have h1 := h.run a w hi
  have hwa := wanted_of (ops := ops) (o := ⟨d, op, ty, p, af, some (j, want)⟩) hi rfl hj hb
  unfold wpList at h1 ⊢
  rw [hwa, hw]
  simpa [Region.wanted, Oper.wp, Oper.asks, execOp, Oper.upon] using h1
theorem al_not {op : Op} {d : Nat} {ty : TypeId} {p : String} {af : Array Edge} {j t : Nat} {want b : Bool} (hj : (ops[j]?).bind (·.dst) = some t) (hb : look sl t = .d (.val (.bool b))) (hw : b ≠ want) (hd : d < E.n)
    (h : AL E ops rest Q ((d, .d (.val undef)) :: sl) ob) : AL E ops (⟨some d, op, ty, p, af, some (j, want)⟩ :: rest) Q sl ob := by
  refine ⟨fun a w hi => ?_⟩
  have hwa := wanted_of (ops := ops) (o := ⟨some d, op, ty, p, af, some (j, want)⟩) hi rfl hj hb
  obtain ⟨Pr, β, κ, hg⟩ := hi
  unfold wpList
  rw [hwa, if_neg (by simpa using hw)]
  exact h.run _ _ ⟨Pr, β, κ, hg.put hd (.d _ _ (.val _))⟩
theorem al_not_u {op : Op} {d : Nat} {ty : TypeId} {p : String} {af : Array Edge} {j t : Nat} {want : Bool} (hj : (ops[j]?).bind (·.dst) = some t) (hb : look sl t = .d (.val undef)) (hd : d < E.n)
    (h : AL E ops rest Q ((d, .d (.val undef)) :: sl) ob) : AL E ops (⟨some d, op, ty, p, af, some (j, want)⟩ :: rest) Q sl ob := by
  refine ⟨fun a w hi => ?_⟩
  obtain ⟨Pr, β, κ, hg⟩ := hi
  have hs := hg.slots t
  rw [hb] at hs
  have hwa : Region.wanted ⟨some d, op, ty, p, af, some (j, want)⟩ (yielded ops a.tmps) = false := unwanted_u hj hs.val_inv
  unfold wpList
  rw [hwa, if_neg (by simp)]
  exact h.run _ _ ⟨Pr, β, κ, hg.put hd (.d _ _ (.val _))⟩
theorem al_not_t {op : Op} {d : Nat} {ty : TypeId} {p : String} {af : Array Edge} {j t : Nat} {b : Bool} (hj : (ops[j]?).bind (·.dst) = some t) (hb : look sl t = .d (.val (.bool b))) (hw : b = false) (hd : d < E.n)
    (h : AL E ops rest Q ((d, .d (.val undef)) :: sl) ob) : AL E ops (⟨some d, op, ty, p, af, some (j, true)⟩ :: rest) Q sl ob := al_not hj hb (by simp [hw]) hd h
theorem al_not_f {op : Op} {d : Nat} {ty : TypeId} {p : String} {af : Array Edge} {j t : Nat} {b : Bool} (hj : (ops[j]?).bind (·.dst) = some t) (hb : look sl t = .d (.val (.bool b))) (hw : b = true) (hd : d < E.n)
    (h : AL E ops rest Q ((d, .d (.val undef)) :: sl) ob) : AL E ops (⟨some d, op, ty, p, af, some (j, false)⟩ :: rest) Q sl ob := al_not hj hb (by simp [hw]) hd h
theorem al_split_t {op : Op} {d : Nat} {ty : TypeId} {p : String} {af : Array Edge} {j t : Nat} {b : Bool} (hj : (ops[j]?).bind (·.dst) = some t) (hb : look sl t = .d (.val (.bool b))) (hd : d < E.n)
    (h1 : b = true → AL E ops (⟨some d, op, ty, p, af, none⟩ :: rest) Q sl ob) (h2 : b = false → AL E ops rest Q ((d, .d (.val undef)) :: sl) ob) : AL E ops (⟨some d, op, ty, p, af, some (j, true)⟩ :: rest) Q sl ob := by
  cases b
  · exact al_not_t hj hb rfl hd (h2 rfl)
  · exact al_go hj hb rfl (h1 rfl)
theorem al_split_f {op : Op} {d : Nat} {ty : TypeId} {p : String} {af : Array Edge} {j t : Nat} {b : Bool} (hj : (ops[j]?).bind (·.dst) = some t) (hb : look sl t = .d (.val (.bool b))) (hd : d < E.n)
    (h1 : b = true → AL E ops rest Q ((d, .d (.val undef)) :: sl) ob) (h2 : b = false → AL E ops (⟨some d, op, ty, p, af, none⟩ :: rest) Q sl ob) : AL E ops (⟨some d, op, ty, p, af, some (j, false)⟩ :: rest) Q sl ob := by
  cases b
  · exact al_go hj hb rfl (h2 rfl)
  · exact al_not_f hj hb rfl hd (h1 rfl)
theorem al_nil (h : AQ E .normal Q sl ob) : AL E ops [] Q sl ob := ⟨fun a w hi => h.run a w hi⟩
end

section
variable {E : Entry} {sl : Slots} {ob : Objs} {a : Act} {w : World} {Pr : Prot} {β : Nat → Value} {κ : Nat → Nat}
theorem good_ev (h : Good E sl ob a w Pr β κ) (x : Operand) : RepV w Pr β κ (a.eval x) (ev sl x) := by
  cases x with
  | tmp t => exact h.slots t
  | const v => exact .d _ _ (.val v)
  | global g => exact .d _ _ (.val _)
  | func f => exact .d _ _ (.val _)
theorem good_val (h : Good E sl ob a w Pr β κ) {x : Operand} {v : Value} (hx : ev sl x = .d (.val v)) : a.eval x = v := by
  have := good_ev h x
  rw [hx] at this
  exact this.val_inv
theorem good_rep (h : Good E sl ob a w Pr β κ) {x : Operand} {d : D} (hx : ev sl x = .d d) : RepD w Pr (a.eval x) d := by
  have := good_ev h x
  rw [hx] at this
  exact this.d_inv

variable {d : Option Nat} {t ty : TypeId} {p : String} {af : Array Edge} {g : Option (Nat × Bool)} {x y c : Operand}
/-- what a slot holds, in a constructor's form -/
inductive Cf : V → V → Prop where
  | d (x : D) : Cf (.d x) (.d x)
  | box (i o : Nat) : Cf (.box i o) (.box i o)
  | row (i k : Nat) : Cf (.row i k) (.row i k)
  | ep (l : List D) (o : Nat) : Cf (.ep l o) (.ep l o)
  | sl (i o n : Nat) : Cf (.sl i o n) (.sl i o n)
  | mp (i : Nat) : Cf (.mp i) (.mp i)
  | agg (l : List V) : Cf (.agg l) (.agg l)
  | clo (f : Fn) (l : List V) : Cf (.clo f l) (.clo f l)
  | mv (f : Fn) (l : List V) : Cf (.mv f l) (.mv f l)
  | tup (l : List V) : Cf (.tup l) (.tup l)
  | und : Cf .und .und
theorem Cf.eq {u v : V} (h : Cf u v) : u = v := by cases h <;> rfl
theorem y_moveC {v : V} (hv : Cf (ev sl x) v) : Y E ⟨d, .move x, t, p, af, g⟩ sl ob v := fun a w Pr β κ h => ⟨a.eval x, hv.eq ▸ good_ev h x, fun w' _ => by simp [execOp]⟩
theorem y_assignC {v : V} (hv : Cf (ev sl x) v) : Y E ⟨d, .assign x, t, p, af, g⟩ sl ob v := fun a w Pr β κ h => ⟨a.eval x, hv.eq ▸ good_ev h x, fun w' _ => by simp [execOp]⟩
theorem y_move {v : V} (hv : ev sl x = v) : Y E ⟨d, .move x, t, p, af, g⟩ sl ob v := fun a w Pr β κ h => ⟨a.eval x, hv ▸ good_ev h x, fun w' _ => by simp [execOp]⟩
theorem y_assign {v : V} (hv : ev sl x = v) : Y E ⟨d, .assign x, t, p, af, g⟩ sl ob v := fun a w Pr β κ h => ⟨a.eval x, hv ▸ good_ev h x, fun w' _ => by simp [execOp]⟩
theorem ev_d {z : D} (h : ev sl x = .d z) : ev sl x = .d z := h
theorem ev_box {i o : Nat} (h : ev sl x = .box i o) : ev sl x = .box i o := h
theorem ev_row {i o : Nat} (h : ev sl x = .row i o) : ev sl x = .row i o := h
theorem ev_ep {l : List D} {o : Nat} (h : ev sl x = .ep l o) : ev sl x = .ep l o := h
theorem ev_agg {l : List V} (h : ev sl x = .agg l) : ev sl x = .agg l := h
theorem ev_clo {f : Fn} {l : List V} (h : ev sl x = .clo f l) : ev sl x = .clo f l := h
theorem ev_und (h : ev sl x = .und) : ev sl x = .und := h
theorem y_pick_t {b : Bool} {v : V} (hc : ev sl c = .d (.val (.bool b))) (hb : b = true) (hv : ev sl x = v) : Y E ⟨d, .pick c x y, t, p, af, g⟩ sl ob v := fun a w Pr β κ h =>
  ⟨a.eval x, hv ▸ good_ev h x, fun w' _ => by have := good_val h hc; simp [execOp, this, asBool, hb]⟩
theorem y_pick_f {b : Bool} {v : V} (hc : ev sl c = .d (.val (.bool b))) (hb : b = false) (hv : ev sl y = v) : Y E ⟨d, .pick c x y, t, p, af, g⟩ sl ob v := fun a w Pr β κ h =>
  ⟨a.eval y, hv ▸ good_ev h y, fun w' _ => by have := good_val h hc; simp [execOp, this, asBool, hb]⟩
theorem y_bin {op : BinOp} {u v r : Value} (hx : ev sl x = .d (.val u)) (hy : ev sl y = .d (.val v)) (hr : ∀ w, (do eqGuard op t x y u v; binOp op t u v : Sem Value).run Try.prog w = .ok r w) :
    Y E ⟨d, .binOp op t x y ty, t, p, af, g⟩ sl ob (.d (.val r)) := fun a w Pr β κ h =>
  ⟨r, .d _ _ (.val r), fun w' _ => by
    have h1 := good_val h hx
    have h2 := good_val h hy
    have h3 := hr w'
    simp only [execOp, h1, h2]
    rw [Sem.run_bind, h3]
    rfl⟩
end
end Go.Proofs.Ytabaflklognhaaa
