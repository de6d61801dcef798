/-
  Conditions: none.
-/
import Derived.Test.YtaodngiigdbgeaaGreatDoorMaa
import Derived.Test.YtaodngiigdbgeaaGreatDoorMaf
set_option maxHeartbeats 16000000
set_option maxRecDepth 20000
set_option linter.unusedSimpArgs false
set_option linter.unusedVariables false
namespace Go.Proofs.YtaodngiigdbgeaaGreatDoor
open Go.RowKit
def rn : List (Nat × Nat) → Nat → Nat
 | [], i => i
 | (a, b) :: r, i => bif Nat.beq i a then b else rn r i
def ri : List (Nat × Nat) → Nat → Option Nat
 | [], _ => none
 | (a, b) :: r, j => bif Nat.beq j b then some a else ri r j
def okRen (l : List (Nat × Nat)) : Bool := l.all fun p => Nat.beq (rn l p.1) p.2 && (match ri l p.2 with | some a => Nat.beq a p.1 | none => false)
mutual
def V.ren (l : List (Nat × Nat)) : V → V
 | .box i o => .box (rn l i) o
 | .sl i o n => .sl (rn l i) o n
 | .mp i => .mp (rn l i)
 | .row i k => .row (rn l i) k
 | .vp i k o => .vp (rn l i) k o
 | .agg xs => .agg (V.renL l xs)
 | .clo f xs => .clo f (V.renL l xs)
 | .mv f xs => .mv f (V.renL l xs)
 | .tup xs => .tup (V.renL l xs)
 | .und => .und
 | .d x => .d x
 | .ep x o => .ep x o
def V.renL (l : List (Nat × Nat)) : List V → List V
 | [] => []
 | v :: r => v.ren l :: V.renL l r
end
def O.ren (l : List (Nat × Nat)) : O → O
 | .box T xs => .box T (V.renL l xs)
 | .row e s k r => .row e s k r
 | .map T c r => .map T c r
 | .vec e s k r => .vec e s k r
 | .byt e k r => .byt e k r
 | .iter v s n c => .iter (v.ren l) s n c
def renO (l : List (Nat × Nat)) : Objs → Objs
 | [] => []
 | (i, o) :: r => (rn l i, o.ren l) :: renO l r
def mem (ks : List Nat) (i : Nat) : Bool := ks.any fun k => Nat.beq i k
mutual
def V.within (ks : List Nat) : V → Bool
 | .box i _ => mem ks i
 | .sl i _ _ => mem ks i
 | .mp i => mem ks i
 | .row i _ => mem ks i
 | .vp i _ _ => mem ks i
 | .agg xs => V.withinL ks xs
 | .clo _ xs => V.withinL ks xs
 | .mv _ xs => V.withinL ks xs
 | .tup xs => V.withinL ks xs
 | _ => true
def V.withinL (ks : List Nat) : List V → Bool
 | [] => true
 | v :: r => v.within ks && V.withinL ks r
end
def O.within (ks : List Nat) : O → Bool
 | .box _ xs => V.withinL ks xs
 | .row .. => true
 | .map .. => true
 | .vec .. => true
 | .byt .. => true
 | .iter v _ _ _ => v.within ks
def keys (ob : Objs) : List Nat := ob.map (·.1)
def dropK (ks : List Nat) : Objs → Objs
 | [] => []
 | (i, o) :: r => bif mem ks i then dropK ks r else (i, o) :: dropK ks r
theorem cA {ks : List Nat} {i : Nat} : mem ks i = true ↔ i ∈ ks := by
 simp only [mem, List.any_eq_true]
 constructor
 ·rintro ⟨k, hk, h⟩
  rw [Nat.eq_of_beq_eq_true h]
  exact hk
 ·exact fun h => ⟨i, h, Nat.beq_refl i⟩
theorem lW {l : List (Nat × Nat)} : ∀ {xs : List V} {j : Nat}, (V.renL l xs)[j]? = (xs[j]?).map (V.ren l) := by
 intro xs
 induction xs with
 | nil => simp [V.renL]
 | cons x xs ih =>
  intro j
  cases j with
  | zero => simp [V.renL]
  | succ j => simpa [V.renL] using ih
theorem eU {l : List (Nat × Nat)} : ∀ (xs : List V), (V.renL l xs).length = xs.length
 | [] => rfl
 | _ :: r => by simp [V.renL, eU r]
theorem uT {ks : List Nat} {l : List V} {j : Nat} {x : V} (h : V.withinL ks l = true) (hx : l[j]? = some x) : x.within ks = true := by
 induction l generalizing j with
 | nil => simp at hx
 | cons y l ih =>
  simp only [V.withinL, Bool.and_eq_true] at h
  cases j with
  | zero => simp at hx; exact hx ▸ h.1
  | succ j => exact ih h.2 (by simpa using hx)
theorem eT {l : List (Nat × Nat)} (h : okRen l = true) {i : Nat} (hi : i ∈ l.map (·.1)) : ri l (rn l i) = some i := by
 obtain ⟨p, hp, rfl⟩ := List.mem_map.1 hi
 have := List.all_eq_true.1 h p hp
 simp only [Bool.and_eq_true] at this
 obtain ⟨h1, h2⟩ := this
 rw [Nat.eq_of_beq_eq_true h1]
 cases hr : ri l p.2 with
 | none => rw [hr] at h2; cases h2
 | some a => rw [hr] at h2; rw [Nat.eq_of_beq_eq_true h2]
theorem aCs {l : List (Nat × Nat)} (h : okRen l = true) {i j : Nat} (hr : ri l j = some i) : i ∈ l.map (·.1) ∧ rn l i = j := by
 have : ∀ r : List (Nat × Nat), ri r j = some i → (i, j) ∈ r := by
  intro r
  induction r with
  | nil => intro h; cases h
  | cons p r ih =>
   obtain ⟨a, b⟩ := p
   intro h
   simp only [ri] at h
   cases hb : Nat.beq j b with
   | true =>
    rw [hb] at h
    cases h
    rw [Nat.eq_of_beq_eq_true hb]
    simp
   | false =>
    rw [hb] at h
    exact List.mem_cons_of_mem _ (ih h)
 have hm := this l hr
 refine ⟨List.mem_map.2 ⟨_, hm, rfl⟩, ?_⟩
 have h1 := List.all_eq_true.1 h _ hm
 simp only [Bool.and_eq_true] at h1
 exact Nat.eq_of_beq_eq_true h1.1
section
variable {w : World} {Pr : Prot} {β : Nat → Value} {κ : Nat → Nat} {l : List (Nat × Nat)}
theorem yA {v : Value} {y : V} (h : RepV w Pr β κ v y) : ∀ x : V, y = x.ren l → RepV w Pr (fun i => β (rn l i)) (fun i => κ (rn l i)) v x := by
 have sub : ∀ {cs : List Value} {ys xs : List V}, (∀ (i : Nat) (v : Value) (d : V), cs[i]? = some v → ys[i]? = some d → ∀ x : V, d = x.ren l → RepV w Pr (fun i => β (rn l i)) (fun i => κ (rn l i)) v x) → ys = V.renL l xs → ∀ (i : Nat) (v : Value) (d : V), cs[i]? = some v → xs[i]? = some d → RepV w Pr (fun i => β (rn l i)) (fun i => κ (rn l i)) v d := by
  intro cs ys xs ih e i v d h1 h2
  subst e
  exact ih i v _ h1 (by rw [lW, h2]; rfl) d rfl
 induction h with
 | und v =>
  intro x e
  cases x <;> simp only [V.ren, reduceCtorEq] at e
  exact .und v
 | d v z h =>
  intro x e
  cases x <;> simp only [V.ren, reduceCtorEq, V.d.injEq] at e
  subst e
  exact .d v _ h
 | ep b p o z u hr =>
  intro x e
  cases x <;> simp only [V.ren, reduceCtorEq, V.ep.injEq] at e
  obtain ⟨rfl, rfl⟩ := e
  exact .ep b p _ _ u hr
 | box i o g h =>
  intro x e
  cases x <;> simp only [V.ren, reduceCtorEq, V.box.injEq] at e
  obtain ⟨rfl, rfl⟩ := e
  exact .box _ _ g h
 | sl i o n c g h hc hm hz =>
  intro x e
  cases x <;> simp only [V.ren, reduceCtorEq, V.sl.injEq] at e
  obtain ⟨rfl, rfl, rfl⟩ := e
  exact .sl _ _ _ c g h hc hm hz
 | mp i g h =>
  intro x e
  cases x <;> simp only [V.ren, reduceCtorEq, V.mp.injEq] at e
  subst e
  exact .mp _ g h
 | row i k v hs hk h =>
  intro x e
  cases x <;> simp only [V.ren, reduceCtorEq, V.row.injEq] at e
  obtain ⟨rfl, rfl⟩ := e
  exact .row _ _ v hs hk h
 | vp i k o v hs hk h =>
  intro x e
  cases x <;> simp only [V.ren, reduceCtorEq, V.vp.injEq] at e
  obtain ⟨rfl, rfl, rfl⟩ := e
  exact .vp _ _ _ v hs hk h
 | agg cs ys hl hd ih =>
  intro x e
  cases x <;> simp only [V.ren, reduceCtorEq, V.agg.injEq] at e
  exact .agg cs _ (by rw [hl, e, eU]) (sub ih e)
 | clo f cs ys hl hd ih =>
  intro x e
  cases x <;> simp only [V.ren, reduceCtorEq, V.clo.injEq] at e
  obtain ⟨rfl, e⟩ := e
  exact .clo _ cs _ (by rw [hl, e, eU]) (sub ih e)
 | mv f cs ys hl hd ih =>
  intro x e
  cases x <;> simp only [V.ren, reduceCtorEq, V.mv.injEq] at e
  obtain ⟨rfl, e⟩ := e
  exact .mv _ cs _ (by rw [hl, e, eU]) (sub ih e)
 | tup cs ys hl hd ih =>
  intro x e
  cases x <;> simp only [V.ren, reduceCtorEq, V.tup.injEq] at e
  exact .tup cs _ (by rw [hl, e, eU]) (sub ih e)
theorem aCq {ks : List Nat} {β' : Nat → Value} {κ' : Nat → Nat} {v : Value} {x : V} (h : RepV w Pr β κ v x) (hb : ∀ i ∈ ks, β' (rn l i) = β i) (hk : ∀ i ∈ ks, κ' (rn l i) = κ i) (hx : x.within ks = true) : RepV w Pr β' κ' v (x.ren l) := by
 have sub : ∀ {cs : List Value} {xs : List V}, (∀ (i : Nat) (v : Value) (d : V), cs[i]? = some v → xs[i]? = some d → d.within ks = true → RepV w Pr β' κ' v (d.ren l)) → V.withinL ks xs = true → ∀ (i : Nat) (v : Value) (d : V), cs[i]? = some v → (V.renL l xs)[i]? = some d → RepV w Pr β' κ' v d := by
  intro cs xs ih hw i v d h1 h2
  rw [lW, Option.map_eq_some_iff] at h2
  obtain ⟨y, h2, rfl⟩ := h2
  exact ih i v y h1 h2 (uT hw h2)
 induction h with
 | und v => exact .und v
 | d v z h => exact .d v z h
 | ep b p o z u hr => exact .ep b p o z u hr
 | box i o g h => exact .box _ o g ((hb i (cA.1 hx)).trans h)
 | sl i o n c g h hc hm hz => exact .sl _ o n c g ((hb i (cA.1 hx)).trans h) hc hm (by rw [hk i (cA.1 hx)]; exact hz)
 | mp i g h => exact .mp _ g ((hb i (cA.1 hx)).trans h)
 | row i k v hs hk' h => exact .row _ k v hs (by rw [hk i (cA.1 hx)]; exact hk') (by rw [hk i (cA.1 hx), hb i (cA.1 hx)]; exact h)
 | vp i k o v hs hk' h => exact .vp _ k o v hs (by rw [hk i (cA.1 hx)]; exact hk') (by rw [hk i (cA.1 hx), hb i (cA.1 hx)]; exact h)
 | agg cs xs hl hd ih => exact .agg cs _ (by rw [hl, eU]) (sub ih hx)
 | clo f cs xs hl hd ih => exact .clo f cs _ (by rw [hl, eU]) (sub ih hx)
 | mv f cs xs hl hd ih => exact .mv f cs _ (by rw [hl, eU]) (sub ih hx)
 | tup cs xs hl hd ih => exact .tup cs _ (by rw [hl, eU]) (sub ih hx)
theorem qF {B i : Nat} {o : O} (h : RepO w Pr B β κ (rn l i) (o.ren l)) : RepO w Pr B (fun i => β (rn l i)) (fun i => κ (rn l i)) i o := by
 cases o with
 | box T xs =>
  obtain ⟨g, cs, h1, h2, h3, h4, h5, h6⟩ := h
  refine ⟨g, cs, h1, h2, h3, by rw [h4, eU], fun j v x hj hx => ?_, h6⟩
  exact yA (h5 j v _ hj (by rw [lW, hx]; rfl)) x rfl
 | row e s k r => exact h
 | map T c r => exact h
 | vec e s k r => exact h
 | byt e k r => exact h
 | iter v s n c =>
  obtain ⟨g, gm, h1, h2, h3, h4, h5⟩ := h
  exact ⟨g, gm, h1, h2, h3, yA h4 v rfl, h5⟩
theorem aQb {ks : List Nat} {β' : Nat → Value} {κ' : Nat → Nat} {B i : Nat} {o : O} (h : RepO w Pr B β κ i o) (hb : ∀ i ∈ ks, β' (rn l i) = β i) (hk : ∀ i ∈ ks, κ' (rn l i) = κ i) (hi : i ∈ ks) (hx : o.within ks = true) : RepO w Pr B β' κ' (rn l i) (o.ren l) := by
 cases o with
 | box T xs =>
  obtain ⟨g, cs, h1, h2, h3, h4, h5, h6⟩ := h
  refine ⟨g, cs, (hb i hi).trans h1, h2, h3, by rw [h4, eU], fun j v x hj hxj => ?_, h6⟩
  rw [lW, Option.map_eq_some_iff] at hxj
  obtain ⟨y, h7, rfl⟩ := hxj
  exact aCq (h5 j v y hj h7) hb hk (uT hx h7)
 | row e s k r =>
  obtain ⟨h1, xs, h2, h3, h4, h5⟩ := h
  exact ⟨(hk i hi).trans h1, xs, by rw [hb i hi]; exact h2, h3, h4, by rw [hb i hi]; exact h5⟩
 | vec e s k r =>
  obtain ⟨h1, xs, h2, h3, h4, h5⟩ := h
  exact ⟨(hk i hi).trans h1, xs, by rw [hb i hi]; exact h2, h3, h4, by rw [hb i hi]; exact h5⟩
 | byt e k r =>
  obtain ⟨h1, g, cap, cur, fz, h2, h3⟩ := h
  exact ⟨(hk i hi).trans h1, g, cap, cur, fz, (hb i hi).trans h2, h3⟩
 | map T c r =>
  obtain ⟨g, es, h1, h2⟩ := h
  exact ⟨g, es, (hb i hi).trans h1, h2⟩
 | iter v s n c =>
  obtain ⟨g, gm, h1, h2, h3, h4, h5⟩ := h
  exact ⟨g, gm, (hb i hi).trans h1, h2, h3, aCq h4 hb hk hx, h5⟩
end
theorem cO {ob : Objs} {i : Nat} {o : O} (h : find ob i = some o) : i ∈ keys ob := by
 induction ob with
 | nil => cases h
 | cons p ob ih =>
  obtain ⟨j, x⟩ := p
  by_cases hi : i = j
  ·simp [keys, hi]
  ·rw [cE hi] at h
   exact List.mem_cons_of_mem _ (ih h)
theorem eR {ob : Objs} {i : Nat} (h : i ∈ keys ob) : ∃ o, find ob i = some o := by
 induction ob with
 | nil => cases h
 | cons p ob ih =>
  obtain ⟨j, x⟩ := p
  by_cases hi : i = j
  ·exact ⟨x, hi ▸ cN i x ob⟩
  ·rw [cE hi]
   exact ih ((List.mem_cons.1 h).resolve_left hi)
theorem aKs {l : List (Nat × Nat)} (hl : okRen l = true) {ob : Objs} (hk : ∀ i ∈ keys ob, i ∈ l.map (·.1)) {j : Nat} {o : O} (h : find (renO l ob) j = some o) : ∃ i o', i ∈ keys ob ∧ j = rn l i ∧ find ob i = some o' ∧ o = o'.ren l := by
 induction ob with
 | nil => cases h
 | cons p ob ih =>
  obtain ⟨i, x⟩ := p
  simp only [renO] at h
  by_cases hj : j = rn l i
  ·subst hj
   rw [cN] at h
   cases h
   exact ⟨i, x, by simp [keys], rfl, cN i x ob, rfl⟩
  ·rw [cE hj] at h
   obtain ⟨i', o', h1, h2, h3, h4⟩ := ih (fun k hk' => hk k (List.mem_cons_of_mem _ hk')) h
   refine ⟨i', o', List.mem_cons_of_mem _ h1, h2, ?_, h4⟩
   rw [cE (fun e => hj (by rw [h2, e])), h3]
theorem aEa {l : List (Nat × Nat)} (hl : okRen l = true) {ob : Objs} (hk : ∀ i ∈ keys ob, i ∈ l.map (·.1)) {i : Nat} {o : O} (h : find ob i = some o) : find (renO l ob) (rn l i) = some (o.ren l) := by
 induction ob with
 | nil => cases h
 | cons p ob ih =>
  obtain ⟨j, x⟩ := p
  simp only [renO]
  by_cases hi : i = j
  ·subst hi
   rw [cN] at h
   cases h
   exact cN _ _ _
  ·rw [cE hi] at h
   have hne : rn l i ≠ rn l j := by
    intro e
    have h1 := eT hl (hk j (by simp [keys]))
    have h2 := eT hl (hk i (List.mem_cons_of_mem _ (cO h)))
    rw [e, h1] at h2
    cases h2
    exact hi rfl
   rw [cE hne]
   exact ih (fun k hk' => hk k (List.mem_cons_of_mem _ hk')) h
theorem aNz {a b : Objs} {i : Nat} {o : O} (h : find (a ++ b) i = some o) : find a i = some o ∨ ((∀ o', find a i ≠ some o') ∧ find b i = some o) := by
 induction a with
 | nil => exact .inr ⟨fun _ h => by simp [find] at h, h⟩
 | cons p a ih =>
  obtain ⟨j, x⟩ := p
  rw [List.cons_append] at h
  by_cases hi : i = j
  ·subst hi
   rw [cN] at h ⊢
   exact .inl h
  ·rw [cE hi] at h
   rw [cE hi]
   exact ih h
theorem dN {ks : List Nat} {ob : Objs} {i : Nat} {o : O} (h : find (dropK ks ob) i = some o) : i ∉ ks ∧ find ob i = some o := by
 induction ob with
 | nil => cases h
 | cons p ob ih =>
  obtain ⟨j, x⟩ := p
  simp only [dropK] at h
  cases hm : mem ks j with
  | true =>
   rw [hm] at h
   obtain ⟨h1, h2⟩ := ih h
   have hij : i ≠ j := by
    rintro rfl
    exact h1 (cA.1 hm)
   exact ⟨h1, by rw [cE hij]; exact h2⟩
  | false =>
   rw [hm] at h
   simp only [cond_false] at h
   by_cases hi : i = j
   ·subst hi
    rw [cN] at h ⊢
    refine ⟨fun hk => ?_, h⟩
    rw [cA.2 hk] at hm
    cases hm
   ·rw [cE hi] at h ⊢
    exact ih h
structure After (ob : Objs) (new : List Nat) (w : World) (Pr : Prot) (β : Nat → Value) (κ : Nat → Nat) (w' : World) (v : Value) (x : V) (ob' : Objs) (Pr' : Prot) (β' : Nat → Value) (κ' : Nat → Nat) : Prop where
 under : Under (Lent ob β) w w'
 st : Stays Pr w w'
 pr0 : ∀ b o, Pr b o → Pr' b o
 prn : ∀ b o, Pr' b o → Pr b o ∨ w.heap.size ≤ b ∨ Lent ob β b
 prl : ∀ b o, Pr' b o → b < w'.heap.size
 val : RepV w' Pr' β' κ' v x
 objs : ∀ i o, find ob' i = some o → RepO w' Pr' 0 β' κ' i o
 apart : ∀ i j oi oj g, find ob' i = some oi → find ob' j = some oj → blk (β' i) = some g → blk (β' j) = some g → i = j
 own : ∀ i o g, find ob' i = some o → blk (β' i) = some g → Lent ob β g ∨ w.heap.size ≤ g
 keeps : ∀ i o, find ob i = some o → (β' i = β i ∧ κ' i = κ i) ∨ (κ i < κ' i ∧ ∃ A n c, β i = .slice A n c)
 wx : x.within (keys ob ++ new) = true
 wo : ∀ i o, find ob' i = some o → i ∈ keys ob ++ new ∧ o.within (keys ob ++ new) = true
def PostO (new : List Nat) (w : World) (Pr : Prot) (ob : Objs) (β : Nat → Value) (κ : Nat → Nat) (Post : V → Objs → Prop) : Ending → World → Prop := fun e w' =>
 ∃ v x ob' Pr' β' κ', e = .returned v ∧ Post x ob' ∧ After ob new w Pr β κ w' v x ob' Pr' β' κ'
def ObC (f : FuncId) (args : List V) (ob : Objs) (new : List Nat) (Post : V → Objs → Prop) : Prop :=
 FnOk f ∧ ∀ (w : World) (Pr : Prot) (vs : List Value) (β : Nat → Value) (κ : Nat → Nat), (∀ b o, Pr b o → b < w.heap.size) → EnvOk w Pr → vs.length = args.length →
  (∀ (i : Nat) (v : Value) (x : V), vs[i]? = some v → args[i]? = some x → RepV w Pr β κ v x) → (∀ i o, find ob i = some o → RepO w Pr 0 β κ i o) →
  (∀ i j oi oj g, find ob i = some oi → find ob j = some oj → blk (β i) = some g → blk (β j) = some g → i = j) → Calls Tryz.prog f vs.toArray w (PostO new w Pr ob β κ Post)
theorem ObC.mono {f : FuncId} {args : List V} {ob : Objs} {new : List Nat} {P Q : V → Objs → Prop} (h : ObC f args ob new P) (hq : ∀ x o, P x o → Q x o) : ObC f args ob new Q :=
 ⟨h.1, fun w Pr vs β κ h1 h2 h3 h4 h5 h6 => (h.2 w Pr vs β κ h1 h2 h3 h4 h5 h6).mono fun _ _ ⟨v, x, o, Pr', β', κ', e1, e2, e3⟩ => ⟨v, x, o, Pr', β', κ', e1, hq x o e2, e3⟩⟩
def slotsV : Nat → List V → Slots
 | _, [] => []
 | i, d :: ds => (i, d) :: slotsV (i + 1) ds
theorem pG (ds : List V) (i k : Nat) : look (slotsV k ds) i = if k ≤ i then (match ds[i - k]? with | some d => d | none => .und) else .und := by
 induction ds generalizing k with
 | nil => simp [slotsV, look]
 | cons d ds ih =>
  simp only [slotsV]
  by_cases h : i = k
  ·subst h
   rw [iK]
   simp
  ·rw [jS h, ih]
   by_cases h2 : k ≤ i
   ·have h3 : k + 1 ≤ i := by omega
    rw [if_pos h2, if_pos h3, show i - k = (i - (k + 1)) + 1 by omega]
    simp
   ·rw [if_neg h2, if_neg zb]
theorem aI {f : FuncId} {fn : Func} {c : Code} {args : List V} {ob : Objs} {new : List Nat} {Post : V → Objs → Prop} (hf : Tryz.prog.funcs[f]? = some fn) (hb : fn.body = some c) (hn : (fn.name == "runtime.NumGoroutine") = false) (N : Nat) (hN : fn.ntmps = N) (hl : args.length ≤ N)
  (hfr : ((keys ob).all fun i => Nat.ble N i) = true)
  (h : ∀ w Pr β κ, Fine ⟨w, Pr, N, ob, β, κ, []⟩ → AW ⟨w, Pr, N, ob, β, κ, []⟩ c (bodyPost Tryz.prog fn (PostO new w Pr ob β κ Post)) (slotsV 0 args) ob) : ObC f args ob new Post := by
 refine ⟨⟨fn, hf, hn, by simp [hb]⟩, fun w Pr vs β κ h1 h2 h3 h4 h5 h6 => calls_of_wp hf hb ?_⟩
 subst hN
 refine (h w Pr β κ ⟨h2, h1⟩).run _ _ ⟨Pr, β, κ, Under.refl _ _, fun _ _ _ => rfl, fun _ _ h => h, fun _ _ h => .inl h, h1, ?_, rfl, fun i => ?_, h5, h6, fun i o g ho hg => .inl ⟨i, o, ho, hg⟩, fun i o ho => .inl ⟨rfl, rfl⟩, fun i o ho => ?_⟩
 ·simp [h3]; omega
 ·rw [pG]
  simp only [Nat.zero_le, if_true, Nat.sub_zero]
  cases hd : args[i]? with
  | none => exact .und _
  | some d =>
   have hi : i < vs.length := by rw [h3]; exact (List.getElem?_eq_some_iff.1 hd).1
   have hv : vs[i]? = some vs[i] := List.getElem?_eq_getElem hi
   have : (vs.toArray ++ Array.replicate (fn.ntmps - vs.toArray.size) undef).getD i undef = vs[i] := by
    rw [Array.getD_eq_getD_getElem?, Array.getElem?_append_left (by simpa using hi)]
    simp [hi]
   rw [this]
   exact h4 i _ d hv hd
 ·exact Nat.le_of_ble_eq_true (List.all_eq_true.1 hfr i (cO ho))
section
variable {E : Entry} {sl : Slots} {ob : Objs} {a : Act} {w : World} {Pr : Prot} {β : Nat → Value} {κ : Nat → Nat}
inductive ArgV (l : List (Nat × Nat)) (ob : Objs) : V → V → Prop where
 | same (y x : V) (h : y = x.ren l) : ArgV l ob y x
 | toD (y : V) (d : D) (h : ToD ob y d) : ArgV l ob y (.d d)
inductive ArgsV (l : List (Nat × Nat)) (sl : Slots) (ob : Objs) : List Operand → List V → Prop where
 | nil : ArgsV l sl ob [] []
 | cons {x : Operand} {xs : List Operand} {d : V} {ds : List V} (h : ArgV l ob (ev sl x) d) (hr : ArgsV l sl ob xs ds) : ArgsV l sl ob (x :: xs) (d :: ds)
theorem ArgsV.rep (h : Good E sl ob a w Pr β κ) {l : List (Nat × Nat)} {xs : List Operand} {ds : List V} (hd : ArgsV l sl ob xs ds) : (xs.map a.eval).length = ds.length ∧ ∀ (i : Nat) (v : Value) (d : V), (xs.map a.eval)[i]? = some v → ds[i]? = some d → RepV w Pr (fun i => β (rn l i)) (fun i => κ (rn l i)) v d := by
 induction hd with
 | nil => simp
 | @cons x xs d ds hx hr ih =>
  refine ⟨by simpa using ih.1, fun i v d' h1 h2 => ?_⟩
  cases i with
  | zero =>
   simp at h1 h2
   subst h1 h2
   cases hx with
   | same _ e => exact yA (bO h x) _ e
   | toD z e => exact .d _ _ (eZ h e _ (bO h x))
  | succ i => exact ih.2 i v d' (by simpa using h1) (by simpa using h2)
theorem Good.ocalled2' (h : Good E sl ob a w Pr β κ) {l : List (Nat × Nat)} {ob1 : Objs} {new : List Nat} {w' : World} {v : Value} {x : V} {ob' : Objs} {Pr' : Prot} {β' : Nat → Value} {κ' : Nat → Nat} {d : Nat} (hd : d < E.n)
  (hA : After ob1 new w Pr (fun i => β (rn l i)) (fun i => κ (rn l i)) w' v x ob' Pr' β' κ')
  (ho : ∀ p ∈ renO l ob1, find ob p.1 = some p.2) (hl : okRen l = true) (hk : ((keys ob1 ++ new).all fun i => mem (l.map (·.1)) i) = true) (hk2 : ((l.map (·.1)).all fun i => mem (keys ob1 ++ new) i) = true)
  (hn : (new.all fun i => noneOf (rn l i) sl ob && Nat.blt (rn l i) E.n && !(mem (keys ob) (rn l i))) = true) :
  ∃ Pr2 β2 κ2, Good E ((d, x.ren l) :: sl) (renO l ob' ++ dropK ((keys ob1).map (rn l)) ob) (a.put (some d) v) w' Pr2 β2 κ2 ∧ Pr2 = Pr' ∧ (∀ j, (∀ i ∈ new, rn l i ≠ j) → (β2 j = β j ∧ κ2 j = κ j) ∨ (κ j < κ2 j ∧ ∃ A n c, β j = .slice A n c)) ∧ (∀ j, j ∉ (keys ob1 ++ new).map (rn l) → β2 j = β j ∧ κ2 j = κ j) := by
 have hks : ∀ i, i ∈ keys ob1 ++ new ↔ i ∈ l.map (·.1) := fun i => ⟨fun hi => cA.1 (List.all_eq_true.1 hk i hi), fun hi => cA.1 (List.all_eq_true.1 hk2 i hi)⟩
 have hfo : ∀ i o, find ob1 i = some o → find ob (rn l i) = some (o.ren l) := by
  intro i o hi
  have h1 := aEa hl (fun k hk' => (hks k).1 (List.mem_append_left _ hk')) hi
  have : ∀ (r : Objs), (∀ p ∈ r, find ob p.1 = some p.2) → ∀ j x, find r j = some x → find ob j = some x := by
   intro r
   induction r with
   | nil => intro _ j x h; cases h
   | cons p r ih =>
    obtain ⟨k, y⟩ := p
    intro hr j x hj
    by_cases hjk : j = k
    ·subst hjk
     rw [cN] at hj
     cases hj
     exact hr (j, y) (by simp)
    ·rw [cE hjk] at hj
     exact ih (fun p hp => hr p (by simp [hp])) j x hj
  exact this _ ho _ _ h1
 have hnew : ∀ i ∈ new, noneOf (rn l i) sl ob = true ∧ rn l i < E.n ∧ rn l i ∉ keys ob := by
  intro i hi
  have := List.all_eq_true.1 hn i hi
  simp only [Bool.and_eq_true, Bool.not_eq_true'] at this
  exact ⟨this.1.1, by simpa [Nat.blt_eq] using this.1.2, fun hm => by rw [cA.2 hm] at this; cases this.2⟩
 let β2 : Nat → Value := fun j => match ri l j with | some i => β' i | none => β j
 let κ2 : Nat → Nat := fun j => match ri l j with | some i => κ' i | none => κ j
 have eb : ∀ i ∈ keys ob1 ++ new, β2 (rn l i) = β' i := fun i hi => by simp only [β2, eT hl ((hks i).1 hi)]
 have ek : ∀ i ∈ keys ob1 ++ new, κ2 (rn l i) = κ' i := fun i hi => by simp only [κ2, eT hl ((hks i).1 hi)]
 have eo : ∀ j, ri l j = none → β2 j = β j ∧ κ2 j = κ j := fun j hj => by simp only [β2, κ2, hj]; exact ⟨trivial, trivial⟩
 -- what a name means now
 have hch : ∀ j, (∀ i ∈ new, rn l i ≠ j) → (β2 j = β j ∧ κ2 j = κ j) ∨ (κ j < κ2 j ∧ ∃ A n c, β j = .slice A n c) := by
  intro j hj
  cases hr : ri l j with
  | none => exact .inl (eo j hr)
  | some i =>
   obtain ⟨h1, h2⟩ := aCs hl hr
   subst h2
   have hi := (hks i).2 h1
   rw [eb i hi, ek i hi]
   rcases List.mem_append.1 hi with h3 | h3
   ·obtain ⟨o, ho'⟩ := eR h3
    exact hA.keeps i o ho'
   ·exact absurd rfl (hj i h3)
 have hlent : ∀ g, Lent ob1 (fun i => β (rn l i)) g → Lent E.ob0 E.β0 g ∨ E.w.heap.size ≤ g := by
  rintro g ⟨i, o, h1, h2⟩
  exact h.own _ _ g (hfo i o h1) h2
 have hE := h.below.size
 have hch2 : ∀ (v : Value) (z : V), RepV w Pr β κ v z → (∀ i ∈ new, z.has (rn l i) = false) → RepV w' Pr' β2 κ2 v z := fun v z hz hno =>
  (hz.keep hA.st hA.pr0).chg (fun i hi => hch i (fun k hk' e => by rw [← e, hno k hk'] at hi; cases hi))
 have hrk : ∀ i ∈ keys ob1, ∃ o, find ob (rn l i) = some o ∧ find ob1 i = some o ∨ ∃ o, find ob1 i = some o ∧ find ob (rn l i) = some (o.ren l) := by
  intro i hi
  obtain ⟨o, ho'⟩ := eR hi
  exact ⟨o, .inr ⟨o, ho', hfo i o ho'⟩⟩
 have hcase : ∀ j o, find (renO l ob' ++ dropK ((keys ob1).map (rn l)) ob) j = some o → (∃ i o', j = rn l i ∧ i ∈ keys ob1 ++ new ∧ find ob' i = some o' ∧ o = o'.ren l) ∨ (ri l j = none ∧ find ob j = some o) := by
  intro j o hj
  rcases aNz hj with h1 | ⟨_, h2⟩
  ·obtain ⟨i, o', h2, h3, h4, h5⟩ := aKs hl (fun k hk' => by obtain ⟨o'', h6⟩ := eR hk'; exact (hks k).1 (hA.wo k o'' h6).1) h1
   exact .inl ⟨i, o', h3, (hA.wo i o' h4).1, h4, h5⟩
  ·obtain ⟨h3, h4⟩ := dN h2
   refine .inr ⟨?_, h4⟩
   cases hr : ri l j with
   | none => rfl
   | some i =>
    obtain ⟨h5, rfl⟩ := aCs hl hr
    rcases List.mem_append.1 ((hks i).2 h5) with h6 | h6
    ·exact absurd (List.mem_map.2 ⟨i, h6, rfl⟩) h3
    ·exact absurd (cO h4) (hnew i h6).2.2
 -- an old object that was not lent
 have hfar : ∀ j o g, ri l j = none → find ob j = some o → blk (β j) = some g → ¬ Lent ob1 (fun i => β (rn l i)) g := by
  rintro j o g hr hj hg ⟨i, o', h1, h2⟩
  have := h.apart j (rn l i) o _ g hj (hfo i o' h1) hg h2
  subst this
  rw [eT hl ((hks i).1 (List.mem_append_left _ (cO h1)))] at hr
  cases hr
 refine ⟨Pr', β2, κ2, ?_, rfl, hch, fun j hj => ?_⟩
 rotate_left 1
 ·refine eo j ?_
  cases hr : ri l j with
  | none => rfl
  | some i =>
   obtain ⟨h1, h2⟩ := aCs hl hr
   exact absurd (List.mem_map.2 ⟨i, (hks i).2 h1, h2⟩) hj
 refine Good.put ⟨h.below.then hA.under hlent, fun b o hb => (hA.st b o (h.pr0 b o hb)).trans (h.st0 b o hb), fun b o hb => hA.pr0 b o (h.pr0 b o hb), fun b o hb => ?_, hA.prl, h.size, h.defers, fun i => hch2 _ _ (h.slots i) (fun k hk' => jM (hnew k hk').1 i), fun j o hj => ?_, fun i j oi oj g hi hj hgi hgj => ?_, fun j o g hj hg => ?_, fun j o hj => ?_, h.fresh⟩ hd (aCq hA.val eb ek hA.wx)
 ·rcases hA.prn b o hb with h1 | h1 | h1
  ·exact h.prn b o h1
  ·exact .inr (.inl zb)
  ·exact .inr ((hlent b h1).elim .inr .inl)
 ·rcases hcase j o hj with ⟨i, o', rfl, h1, h2, rfl⟩ | ⟨h1, h2⟩
  ·exact aQb (hA.objs i o' h2) eb ek h1 (hA.wo i o' h2).2
  ·have hlt := (h.objs j o h2).blkLt
   have hk2' := (h.objs j o h2).keep2 hA.st hA.pr0 (fun g hg q hq => by
    rcases hA.prn g q hq with h3 | h3 | h3
    ·exact h3
    ·have := (hlt g hg).2; omega
    ·exact absurd h3 (hfar j o g h1 h2 hg)) (fun g hg => hA.under.block g (hlt g hg).2 (hfar j o g h1 h2 hg))
   obtain ⟨e1, e2⟩ := eo j h1
   cases o with
   | box T xs =>
    obtain ⟨g, cs, q1, q2, q3, q4, q5, q6⟩ := hk2'
    refine ⟨g, cs, e1.trans q1, q2, q3, q4, fun m u z hu hz => (q5 m u z hu hz).chg (fun i hi => hch i (fun k hk' e => ?_)), q6⟩
    have := iE (hnew k hk').1 h2
    rw [O.has] at this
    rw [← e, gJ this hz] at hi
    cases hi
   | row e s k r =>
    obtain ⟨q1, xs, q2, q3, q4, q5⟩ := hk2'
    exact ⟨e2.trans q1, xs, by rw [e1]; exact q2, q3, q4, by rw [e1]; exact q5⟩
   | vec e s k r =>
    obtain ⟨q1, xs, q2, q3, q4, q5⟩ := hk2'
    exact ⟨e2.trans q1, xs, by rw [e1]; exact q2, q3, q4, by rw [e1]; exact q5⟩
   | byt e k r =>
    obtain ⟨q1, g, cap, cur, fz, q2, q3⟩ := hk2'
    exact ⟨e2.trans q1, g, cap, cur, fz, e1.trans q2, q3⟩
   | map T c r =>
    obtain ⟨g, es, q1, q2⟩ := hk2'
    exact ⟨g, es, e1.trans q1, q2⟩
   | iter v s n c =>
    obtain ⟨g, gm, q1, q2, q3, q4, q5⟩ := hk2'
    refine ⟨g, gm, e1.trans q1, q2, q3, q4.chg (fun i hi => hch i (fun k hk' e => ?_)), q5⟩
    have := iE (hnew k hk').1 h2
    rw [O.has] at this
    rw [← e, this] at hi
    cases hi
 ·rcases hcase i oi hi with ⟨i', oi', rfl, h1, h2, rfl⟩ | ⟨h1, h2⟩
  ·rw [eb i' h1] at hgi
   rcases hcase j oj hj with ⟨j', oj', rfl, h3, h4, rfl⟩ | ⟨h3, h4⟩
   ·rw [eb j' h3] at hgj
    rw [hA.apart i' j' oi' oj' g h2 h4 hgi hgj]
   ·rw [(eo j h3).1] at hgj
    rcases hA.own i' oi' g h2 hgi with h5 | h5
    ·exact absurd h5 (hfar j oj g h3 h4 hgj)
    ·have := ((h.objs j oj h4).blkLt g hgj).2
     omega
  ·rw [(eo i h1).1] at hgi
   rcases hcase j oj hj with ⟨j', oj', rfl, h3, h4, rfl⟩ | ⟨h3, h4⟩
   ·rw [eb j' h3] at hgj
    rcases hA.own j' oj' g h4 hgj with h5 | h5
    ·exact absurd h5 (hfar i oi g h1 h2 hgi)
    ·have := ((h.objs i oi h2).blkLt g hgi).2
     omega
   ·rw [(eo j h3).1] at hgj
    exact h.apart i j oi oj g h2 h4 hgi hgj
 ·rcases hcase j o hj with ⟨i, o', rfl, h1, h2, rfl⟩ | ⟨h1, h2⟩
  ·rw [eb i h1] at hg
   rcases hA.own i o' g h2 hg with h3 | h3
   ·exact hlent g h3
   ·exact .inr zb
  ·rw [(eo j h1).1] at hg
   exact h.own j o g h2 hg
 ·have hne : ∀ i ∈ new, rn l i ≠ j := fun i hi e => by
   have h1 := (hnew i hi).2.1
   have h2 := h.fresh j o hj
   omega
  rcases h.keeps j o hj with ⟨k1, k2⟩ | ⟨k1, k2⟩
  ·rcases hch j hne with ⟨q1, q2⟩ | ⟨q1, q2⟩
   ·exact .inl ⟨q1.trans k1, q2.trans k2⟩
   ·exact .inr ⟨by omega, by rw [← k1]; exact q2⟩
  ·rcases hch j hne with ⟨q1, q2⟩ | ⟨q1, q2⟩
   ·exact .inr ⟨by omega, k2⟩
   ·exact .inr ⟨by omega, k2⟩
theorem Good.ocalled (h : Good E sl ob a w Pr β κ) {l : List (Nat × Nat)} {ob1 : Objs} {new : List Nat} {w' : World} {v : Value} {x : V} {ob' : Objs} {Pr' : Prot} {β' : Nat → Value} {κ' : Nat → Nat} {d : Nat} (hd : d < E.n)
  (hA : After ob1 new w Pr (fun i => β (rn l i)) (fun i => κ (rn l i)) w' v x ob' Pr' β' κ')
  (ho : ∀ p ∈ renO l ob1, find ob p.1 = some p.2) (hl : okRen l = true) (hk : ((keys ob1 ++ new).all fun i => mem (l.map (·.1)) i) = true) (hk2 : ((l.map (·.1)).all fun i => mem (keys ob1 ++ new) i) = true)
  (hn : (new.all fun i => noneOf (rn l i) sl ob && Nat.blt (rn l i) E.n && !(mem (keys ob) (rn l i))) = true) :
  Inv E ((d, x.ren l) :: sl) (renO l ob' ++ dropK ((keys ob1).map (rn l)) ob) (a.put (some d) v) w' :=
 let ⟨Pr2, β2, κ2, h1, _⟩ := h.ocalled2' hd hA ho hl hk hk2 hn
 ⟨Pr2, β2, κ2, h1⟩
theorem Good.ocalled2 (h : Good E sl ob a w Pr β κ) {l : List (Nat × Nat)} {ob1 : Objs} {w' : World} {v : Value} {x : V} {ob' : Objs} {Pr' : Prot} {β' : Nat → Value} {κ' : Nat → Nat} {d : Nat} (hd : d < E.n)
  (hA : After ob1 [] w Pr (fun i => β (rn l i)) (fun i => κ (rn l i)) w' v x ob' Pr' β' κ')
  (ho : ∀ p ∈ renO l ob1, find ob p.1 = some p.2) (hl : okRen l = true) (hk : ((keys ob1 ++ ([] : List Nat)).all fun i => mem (l.map fun p : Nat × Nat => p.1) i) = true) (hk2 : ((l.map fun p : Nat × Nat => p.1).all fun i => mem (keys ob1 ++ ([] : List Nat)) i) = true)
  (hn : (([] : List Nat).all fun i => noneOf (rn l i) sl ob && Nat.blt (rn l i) E.n && !(mem (keys ob) (rn l i))) = true) :
  ∃ Pr2 β2 κ2, Good E ((d, x.ren l) :: sl) (renO l ob' ++ dropK ((keys ob1).map (rn l)) ob) (a.put (some d) v) w' Pr2 β2 κ2 ∧ Pr2 = Pr' ∧ (([] : List Nat) = [] → ∀ j, (β2 j = β j ∧ κ2 j = κ j) ∨ (κ j < κ2 j ∧ ∃ A n c, β j = .slice A n c)) ∧ (∀ j, j ∉ (keys ob1).map (rn l) → β2 j = β j) := by
 obtain ⟨Pr2, β2, κ2, h1, h2, h3, h4⟩ := h.ocalled2' hd hA ho hl hk hk2 hn
 exact ⟨Pr2, β2, κ2, h1, h2, fun _ j => h3 j (fun i hi => by cases hi), fun j hj => (h4 j (by rw [List.append_nil]; exact hj)).1⟩
variable {ops : Array Oper} {rest : List Oper} {Q : Exit → Act → World → Prop} {d : Nat} {ty : TypeId} {p : String} {af : Array Edge}
theorem iD (n m : Nat) : Nat.beq n m = (n == m) := by
 cases h : Nat.beq n m with
 | true => rw [Nat.eq_of_beq_eq_true h]; simp
 | false =>
  have : n ≠ m := by
   rintro rfl
   rw [Nat.beq_refl] at h
   cases h
  simp [this]
structure Lends (E : Entry) (sl : Slots) (ob : Objs) (l : List (Nat × Nat)) (ob1 : Objs) (new : List Nat) : Prop where
 ho : ∀ p ∈ renO l ob1, find ob p.1 = some p.2
 hl : okRen l = true
 hk : ((keys ob1 ++ new).all fun i => mem (l.map (·.1)) i) = true
 hk2 : ((l.map (·.1)).all fun i => mem (keys ob1 ++ new) i) = true
 hn : (new.all fun i => noneOf (rn l i) sl ob && Nat.blt (rn l i) E.n && !(mem (keys ob) (rn l i))) = true
theorem Lends.find {l : List (Nat × Nat)} {ob1 : Objs} {new : List Nat} (h : Lends E sl ob l ob1 new) (i : Nat) (o : O) (hi : Go.Proofs.YtaodngiigdbgeaaGreatDoor.find ob1 i = some o) : Go.Proofs.YtaodngiigdbgeaaGreatDoor.find ob (rn l i) = some (o.ren l) := by
 have h1 := aEa h.hl (fun k hk' => cA.1 (List.all_eq_true.1 h.hk k (List.mem_append_left _ hk'))) hi
 have : ∀ (r : Objs), (∀ p ∈ r, Go.Proofs.YtaodngiigdbgeaaGreatDoor.find ob p.1 = some p.2) → ∀ j x, Go.Proofs.YtaodngiigdbgeaaGreatDoor.find r j = some x → Go.Proofs.YtaodngiigdbgeaaGreatDoor.find ob j = some x := by
  intro r
  induction r with
  | nil => intro _ j x h; cases h
  | cons p r ih =>
   obtain ⟨k, y⟩ := p
   intro hr j x hj
   by_cases hjk : j = k
   ·subst hjk
    rw [cN] at hj
    cases hj
    exact hr (j, y) (by simp)
   ·rw [cE hjk] at hj
    exact ih (fun p hp => hr p (by simp [hp])) j x hj
 exact this _ h.ho _ _ h1
theorem rA {f : FuncId} {args : List V} {ob1 : Objs} {new : List Nat} {Post : V → Objs → Prop} {l : List (Nat × Nat)} {op : Op} (hc : ObC f args ob1 new Post) (hE : Fine E) (hd : d < E.n) (hL : Lends E sl ob l ob1 new)
  (hx : ∀ a w Pr β κ, Good E sl ob a w Pr β κ → ∃ vs : List Value, vs.length = args.length ∧ (∀ (i : Nat) (v : Value) (x : V), vs[i]? = some v → args[i]? = some x → RepV w Pr (fun i => β (rn l i)) (fun i => κ (rn l i)) v x) ∧ (execOp a.eval ⟨some d, op, ty, p, af, none⟩).run Tryz.prog w = .ok (.enter f vs.toArray) w)
  (hK : ∀ x ob', Post x ob' → ∀ y ob2, x.ren l = y → renO l ob' ++ dropK ((keys ob1).map (rn l)) ob = ob2 → AL E ops rest Q ((d, y) :: sl) ob2) : AL E ops (⟨some d, op, ty, p, af, none⟩ :: rest) Q sl ob := by
 refine ⟨fun a w hi => ?_⟩
 obtain ⟨Pr, β, κ, h⟩ := hi
 refine wpList_plain rfl fun K hKK => ?_
 obtain ⟨vs, hlen, hr, hrun⟩ := hx a w Pr β κ h
 have hfo := hL.find
 obtain ⟨ho, hl, hk, hk2, hn⟩ := hL
 have hcall := hc.2 w Pr vs _ _ h.prl (jQ hE h) hlen hr (fun i o hi => qF (h.objs _ _ (hfo i o hi))) (fun i j oi oj g hi hj hgi hgj => by
  have e := h.apart _ _ _ _ g (hfo i oi hi) (hfo j oj hj) hgi hgj
  have k1 := eT hl (cA.1 (List.all_eq_true.1 hk i (List.mem_append_left _ (cO hi))))
  have k2 := eT hl (cA.1 (List.all_eq_true.1 hk j (List.mem_append_left _ (cO hj))))
  rw [e, k2] at k1
  cases k1
  rfl)
 unfold Oper.wp
 rw [hrun, Oper.upon_enter]
 refine hcall.mono fun e w' ⟨v, x, ob', Pr', β', κ', he, hp, hA⟩ => ?_
 subst he
 exact hKK _ _ ((hK x ob' hp _ _ rfl rfl).run _ _ (h.ocalled hd hA ho hl hk hk2 hn))
theorem nJ {f : FuncId} {args : List V} {ob1 : Objs} {new : List Nat} {Post : V → Objs → Prop} {c : Operand} {xs : List Operand} {ats : Array TypeId} (l : List (Nat × Nat)) (hc : ObC f args ob1 new Post) (hf : ev sl c = .d (.val (.func (.func f) #[] #[]))) (hE : Fine E) (hd : d < E.n) (ha : ArgsV l sl ob xs args)
  (hL : Lends E sl ob l ob1 new)
  (hK : ∀ x ob', Post x ob' → ∀ y ob2, x.ren l = y → renO l ob' ++ dropK ((keys ob1).map (rn l)) ob = ob2 → AL E ops rest Q ((d, y) :: sl) ob2) : AL E ops (⟨some d, .call { callee := .value c, args := xs.toArray, argTypes := ats }, ty, p, af, none⟩ :: rest) Q sl ob := by
 refine rA hc hE hd hL (fun a w Pr β κ h => ?_) hK
 obtain ⟨hlen, hr⟩ := ha.rep h
 exact ⟨xs.map a.eval, hlen, hr, by simp [execOp, resolve, Deferred.ofValue, invoke, bT h hf, dZ hc.1]⟩
theorem aMq {f : FuncId} {a1 : V} {args : List V} {ob1 : Objs} {new : List Nat} {Post : V → Objs → Prop} {c : Operand} {z : V} {xs : List Operand} {ats : Array TypeId} (l : List (Nat × Nat)) (hc : ObC f (a1 :: args) ob1 new Post) (hf : ev sl c = .mv (.func f) [z]) (hz : z = a1.ren l) (hE : Fine E) (hd : d < E.n) (ha : ArgsV l sl ob xs args)
  (hL : Lends E sl ob l ob1 new)
  (hK : ∀ x ob', Post x ob' → ∀ y ob2, x.ren l = y → renO l ob' ++ dropK ((keys ob1).map (rn l)) ob = ob2 → AL E ops rest Q ((d, y) :: sl) ob2) : AL E ops (⟨some d, .call { callee := .value c, args := xs.toArray, argTypes := ats }, ty, p, af, none⟩ :: rest) Q sl ob := by
 refine rA hc hE hd hL (fun a w Pr β κ h => ?_) hK
 obtain ⟨hlen, hr⟩ := ha.rep h
 have hv := bO h c
 rw [hf] at hv
 generalize hcv : a.eval c = v at hv
 cases hv with
 | mv _ cs _ hl hd =>
  match cs, hl with
  | [u], _ =>
   refine ⟨u :: xs.map a.eval, by simp [← hlen], fun i v x h1 h2 => ?_, ?_⟩
   ·cases i with
    | zero =>
     simp at h1 h2
     subst h1 h2
     exact yA (hd 0 u z rfl rfl) _ hz
    | succ i => exact hr i v x (by simpa using h1) (by simpa using h2)
   ·simp [execOp, resolve, Deferred.ofValue, invoke, hcv, dZ hc.1]
inductive ResV (sl : Slots) (ob : Objs) : ResultVar → V → Prop where
 | tmp (t : Nat) (x : V) (h : look sl t = x) : ResV sl ob (.tmp t) x
 | x (r : ResultVar) (d : D) (h : ResX sl ob r d) : ResV sl ob r (.d d)
 | cell (t ty i : Nat) (x : V) (hx : look sl t = .box i 0) (hy : ∀ E, Y E ⟨some 0, .load ty (.tmp t), 0, "", #[], none⟩ sl ob x) : ResV sl ob (.cell t ty) x
theorem nW (h : Good E sl ob a w Pr β κ) {rv : ResultVar} {x : V} (hr : ResV sl ob rv x) : ∃ v, (resRun a.tmps rv).run Tryz.prog w = .ok v w ∧ RepV w Pr β κ v x := by
 cases hr with
 | tmp t x h1 => exact ⟨_, rfl, h1 ▸ h.slots t⟩
 | x _ d h1 =>
  obtain ⟨v, h2, h3⟩ := kN h h1
  exact ⟨v, h2, .d _ _ h3⟩
 | cell t ty i x hx hy =>
  obtain ⟨v, hv, hrun⟩ := hy E a w Pr β κ h
  have hr := hrun w (.refl _ _ _ _)
  have hb := h.slots t
  rw [hx] at hb
  obtain ⟨b, e⟩ : ∃ b, a.tmps.getD t undef = .pointer (some ⟨b, 0, none⟩) := by
   generalize a.tmps.getD t undef = u at hb
   cases hb with
   | box _ _ g _ => exact ⟨g, rfl⟩
  refine ⟨v, ?_, hv⟩
  simp only [execOp, Sem.run_bind] at hr
  have e2 : (Instr.loadAt ty (a.eval (.tmp t))).run Tryz.prog w = .ok v w := by
   cases hq : (Instr.loadAt ty (a.eval (.tmp t))).run Tryz.prog w with
   | ok q w2 => rw [hq] at hr; simp [Result.andThen] at hr; rw [hr.1, hr.2]
   | halt q w2 => rw [hq] at hr; simp [Result.andThen] at hr
  rw [show a.eval (.tmp t) = _ from e] at e2
  simp only [resRun, e, asAddr, Sem.run_bind]
  simpa [Instr.loadAt, Instr.sureAddr] using e2
def okOut (ob0 : Objs) (new : List Nat) (x : V) (ob' : Objs) : Bool := x.within (keys ob0 ++ new) && ob'.all fun p => mem (keys ob0 ++ new) p.1 && p.2.within (keys ob0 ++ new)
theorem oT (h : Good E sl ob a w Pr β κ) {new : List Nat} {v : Value} {x : V} {ob' : Objs} (hv : RepV w Pr β κ v x) (ho : ∀ p ∈ ob', find ob p.1 = some p.2) (hw : okOut E.ob0 new x ob' = true) : After E.ob0 new E.w E.pr E.β0 E.κ0 w v x ob' Pr β κ := by
 have hf : ∀ (r : Objs), (∀ p ∈ r, find ob p.1 = some p.2) → ∀ j x, find r j = some x → find ob j = some x := by
  intro r
  induction r with
  | nil => intro _ j x h; cases h
  | cons p r ih =>
   obtain ⟨k, y⟩ := p
   intro hr j x hj
   by_cases hjk : j = k
   ·subst hjk
    rw [cN] at hj
    cases hj
    exact hr (j, y) (by simp)
   ·rw [cE hjk] at hj
    exact ih (fun p hp => hr p (by simp [hp])) j x hj
 have hfm : ∀ (r : Objs) j x, find r j = some x → (j, x) ∈ r := by
  intro r
  induction r with
  | nil => intro j x h; cases h
  | cons p r ih =>
   obtain ⟨k, y⟩ := p
   intro j x hj
   by_cases hjk : j = k
   ·subst hjk
    rw [cN] at hj
    cases hj
    simp
   ·rw [cE hjk] at hj
    exact List.mem_cons_of_mem _ (ih j x hj)
 simp only [okOut, Bool.and_eq_true] at hw
 refine ⟨h.below, h.st0, h.pr0, h.prn, h.prl, hv, fun i o hi => h.objs i o (hf ob' ho i o hi), fun i j oi oj g hi hj => h.apart i j oi oj g (hf ob' ho i oi hi) (hf ob' ho j oj hj), fun i o g hi => h.own i o g (hf ob' ho i o hi), h.keeps, hw.1, fun i o hi => ?_⟩
 have := List.all_eq_true.1 hw.2 _ (hfm ob' i o hi)
 simp only [Bool.and_eq_true] at this
 exact ⟨cA.1 this.1, this.2⟩
variable {new : List Nat} {Post : V → Objs → Prop} {fn : Func}
theorem qW {R : Ending → World → Prop} (h : AQ E .ret (bodyPost Tryz.prog fn R) sl ob) : AQ E .normal (bodyPost Tryz.prog fn R) sl ob := ⟨h.run⟩
theorem xP (ob' : Objs) (hr : fn.results = #[]) (hp : Post (.tup []) ob') (ho : ∀ p ∈ ob', find ob p.1 = some p.2) (hw : okOut E.ob0 new (.tup []) ob' = true) (hdf : E.df = [] := by rfl) : AQ E .ret (bodyPost Tryz.prog fn (PostO new E.w E.pr E.ob0 E.β0 E.κ0 Post)) sl ob := by
 refine ⟨fun a w ⟨Pr, β, κ, h⟩ => ?_⟩
 have hrun : (results fn a.tmps).run Tryz.prog w = .ok (.tuple #[]) w := by
  rw [lX, hr]
  simp
 exact bodyPost_ret hrun (h.defers.trans hdf) ⟨_, _, ob', Pr, β, κ, rfl, hp, oT h (.tup [] [] rfl (by simp)) ho hw⟩
theorem aP {r1 : ResultVar} {x1 : V} (ob' : Objs) (hr : fn.results = #[r1]) (h1 : ResV sl ob r1 x1) (hp : Post x1 ob') (ho : ∀ p ∈ ob', find ob p.1 = some p.2) (hw : okOut E.ob0 new x1 ob' = true) (hdf : E.df = [] := by rfl) : AQ E .ret (bodyPost Tryz.prog fn (PostO new E.w E.pr E.ob0 E.β0 E.κ0 Post)) sl ob := by
 refine ⟨fun a w ⟨Pr, β, κ, h⟩ => ?_⟩
 obtain ⟨v1, e1, k1⟩ := nW h h1
 exact bodyPost_ret (sV hr e1) (h.defers.trans hdf) ⟨_, x1, ob', Pr, β, κ, rfl, hp, oT h k1 ho hw⟩
theorem uO {r1 r2 : ResultVar} {x1 x2 : V} (ob' : Objs) (hr : fn.results = #[r1, r2]) (h1 : ResV sl ob r1 x1) (h2 : ResV sl ob r2 x2) (hp : Post (.tup [x1, x2]) ob') (ho : ∀ p ∈ ob', find ob p.1 = some p.2) (hw : okOut E.ob0 new (.tup [x1, x2]) ob' = true) (hdf : E.df = [] := by rfl) : AQ E .ret (bodyPost Tryz.prog fn (PostO new E.w E.pr E.ob0 E.β0 E.κ0 Post)) sl ob := by
 refine ⟨fun a w ⟨Pr, β, κ, h⟩ => ?_⟩
 obtain ⟨v1, e1, k1⟩ := nW h h1
 obtain ⟨v2, e2, k2⟩ := nW h h2
 refine bodyPost_ret (sW hr e1 e2) (h.defers.trans hdf) ⟨_, _, ob', Pr, β, κ, rfl, hp, oT h (.tup [_, _] _ rfl (fun i v d h1 h2 => ?_)) ho hw⟩
 match i with
 | 0 => cases h1; cases h2; exact k1
 | 1 => cases h1; cases h2; exact k2
theorem aIc {dd : Option Nat} {T : TypeId} {p : String} {af : Array Edge} {g : Option (Nat × Bool)} {x : Operand} {l : List V} {ix : Nat} {z : V} (hx : ev sl x = .tup l) (hz : l[ix]? = some z) : Y E ⟨dd, .extract x ix, T, p, af, g⟩ sl ob z := fun a w Pr β κ hg => by
 have hv := bO hg x
 rw [hx] at hv
 generalize hav : a.eval x = v at hv
 cases hv with
 | tup cs _ hl hd =>
  have ho : ix < cs.length := by rw [hl]; exact (List.getElem?_eq_some_iff.1 hz).1
  have hco : cs[ix]? = some cs[ix] := List.getElem?_eq_getElem ho
  exact ⟨cs[ix], hd _ _ _ hco hz, fun w' _ => by simp [execOp, hav, Instr.extract, ho]⟩
theorem y_mv {dd : Option Nat} {T : TypeId} {p : String} {af : Array Edge} {g : Option (Nat × Bool)} {x : Operand} {f : FuncId} {z : V} (hx : ev sl x = z) : Y E ⟨dd, .makeFunc (.func f) #[x] #[], T, p, af, g⟩ sl ob (.mv (.func f) [z]) := fun a w Pr β κ hg => by
 have hv := bO hg x
 rw [hx] at hv
 refine ⟨.func (.func f) #[a.eval x] #[], .mv _ [_] [_] rfl (fun i v d h1 h2 => ?_), fun w' _ => by simp [execOp, Instr.makeFunc]⟩
 match i with
 | 0 => cases h1; cases h2; exact hv
end
end Go.Proofs.YtaodngiigdbgeaaGreatDoor
