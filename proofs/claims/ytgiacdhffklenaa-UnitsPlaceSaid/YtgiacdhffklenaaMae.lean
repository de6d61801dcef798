/-
  Conditions: none.
-/
import Derived.Lib.AppendStr
import Derived.Lib.UnsafeStr
import Derived.Test.YtgiacdhffklenaaMad
set_option maxHeartbeats 16000000
set_option maxRecDepth 20000
namespace Go.Proofs.Ytgiacdhffklenaa
section
open Go.RowKit
def rn : List (Nat × Nat) → Nat → Nat
 | [], i => i
 | (a, b) :: r, i => bif Nat.beq i a then b else rn r i
def ri : List (Nat × Nat) → Nat → Option Nat
 | [], _ => none
 | (a, b) :: r, j => bif Nat.beq j b then some a else ri r j
def okRen (l : List (Nat × Nat)) : Bool := l.all fun p => Nat.beq (rn l p.1) p.2 && (match ri l p.2 with | some a => Nat.beq a p.1 | none => false)
mutual
def V.ren (l : List (Nat × Nat)) : V → V
 | .box i o => .box (rn l i) o
 | .sl i o n => .sl (rn l i) o n
 | .mp i => .mp (rn l i)
 | .row i k => .row (rn l i) k
 | .agg xs => .agg (V.renL l xs)
 | .clo f xs => .clo f (V.renL l xs)
 | .mv f xs => .mv f (V.renL l xs)
 | .tup xs => .tup (V.renL l xs)
 | .und => .und
 | .d x => .d x
 | .ep x o => .ep x o
def V.renL (l : List (Nat × Nat)) : List V → List V
 | [] => []
 | v :: r => v.ren l :: V.renL l r
end
def O.ren (l : List (Nat × Nat)) : O → O
 | .box T xs => .box T (V.renL l xs)
 | .row e s k r => .row e s k r
 | .map T c r => .map T c r
 | .vec e s k r => .vec e s k r
 | .byt e k r => .byt e k r
 | .iter v s n c => .iter (v.ren l) s n c
def renO (l : List (Nat × Nat)) : Objs → Objs
 | [] => []
 | (i, o) :: r => (rn l i, o.ren l) :: renO l r
def mem (ks : List Nat) (i : Nat) : Bool := ks.any fun k => Nat.beq i k
mutual
def V.within (ks : List Nat) : V → Bool
 | .box i _ => mem ks i
 | .sl i _ _ => mem ks i
 | .mp i => mem ks i
 | .row i _ => mem ks i
 | .agg xs => V.withinL ks xs
 | .clo _ xs => V.withinL ks xs
 | .mv _ xs => V.withinL ks xs
 | .tup xs => V.withinL ks xs
 | _ => true
def V.withinL (ks : List Nat) : List V → Bool
 | [] => true
 | v :: r => v.within ks && V.withinL ks r
end
def O.within (ks : List Nat) : O → Bool
 | .box _ xs => V.withinL ks xs
 | .row .. => true
 | .map .. => true
 | .vec .. => true
 | .byt .. => true
 | .iter v _ _ _ => v.within ks
def keys (ob : Objs) : List Nat := ob.map (·.1)
def dropK (ks : List Nat) : Objs → Objs
 | [] => []
 | (i, o) :: r => bif mem ks i then dropK ks r else (i, o) :: dropK ks r
theorem mem_iff {ks : List Nat} {i : Nat} : mem ks i = true ↔ i ∈ ks := by
 simp only [mem, List.any_eq_true]
 constructor
 ·rintro ⟨k, hk, h⟩
  rw [Nat.eq_of_beq_eq_true h]
  exact hk
 ·exact fun h => ⟨i, h, Nat.beq_refl i⟩
theorem renL_get {l : List (Nat × Nat)} : ∀ {xs : List V} {j : Nat}, (V.renL l xs)[j]? = (xs[j]?).map (V.ren l) := by
 intro xs
 induction xs with
 | nil => simp [V.renL]
 | cons x xs ih =>
  intro j
  cases j with
  | zero => simp [V.renL]
  | succ j => simpa [V.renL] using ih
theorem renL_len {l : List (Nat × Nat)} : ∀ (xs : List V), (V.renL l xs).length = xs.length
 | [] => rfl
 | _ :: r => by simp [V.renL, renL_len r]
theorem withinL_mem {ks : List Nat} {l : List V} {j : Nat} {x : V} (h : V.withinL ks l = true) (hx : l[j]? = some x) : x.within ks = true := by
 induction l generalizing j with
 | nil => simp at hx
 | cons y l ih =>
  simp only [V.withinL, Bool.and_eq_true] at h
  cases j with
  | zero => simp at hx; exact hx ▸ h.1
  | succ j => exact ih h.2 (by simpa using hx)
theorem okRen_at {l : List (Nat × Nat)} (h : okRen l = true) {i : Nat} (hi : i ∈ l.map (·.1)) : ri l (rn l i) = some i := by
 obtain ⟨p, hp, rfl⟩ := List.mem_map.1 hi
 have := List.all_eq_true.1 h p hp
 simp only [Bool.and_eq_true] at this
 obtain ⟨h1, h2⟩ := this
 rw [Nat.eq_of_beq_eq_true h1]
 cases hr : ri l p.2 with
 | none => rw [hr] at h2; cases h2
 | some a => rw [hr] at h2; rw [Nat.eq_of_beq_eq_true h2]
theorem ri_some {l : List (Nat × Nat)} (h : okRen l = true) {i j : Nat} (hr : ri l j = some i) : i ∈ l.map (·.1) ∧ rn l i = j := by
 have : ∀ r : List (Nat × Nat), ri r j = some i → (i, j) ∈ r := by
  intro r
  induction r with
  | nil => intro h; cases h
  | cons p r ih =>
   obtain ⟨a, b⟩ := p
   intro h
   simp only [ri] at h
   cases hb : Nat.beq j b with
   | true =>
    rw [hb] at h
    cases h
    rw [Nat.eq_of_beq_eq_true hb]
    simp
   | false =>
    rw [hb] at h
    exact List.mem_cons_of_mem _ (ih h)
 have hm := this l hr
 refine ⟨List.mem_map.2 ⟨_, hm, rfl⟩, ?_⟩
 have h1 := List.all_eq_true.1 h _ hm
 simp only [Bool.and_eq_true] at h1
 exact Nat.eq_of_beq_eq_true h1.1
section
variable {w : World} {Pr : Prot} {β : Nat → Value} {κ : Nat → Nat} {l : List (Nat × Nat)}
theorem rep_in {v : Value} {y : V} (h : RepV w Pr β κ v y) : ∀ x : V, y = x.ren l → RepV w Pr (fun i => β (rn l i)) (fun i => κ (rn l i)) v x := by
 have sub : ∀ {cs : List Value} {ys xs : List V}, (∀ (i : Nat) (v : Value) (d : V), cs[i]? = some v → ys[i]? = some d → ∀ x : V, d = x.ren l → RepV w Pr (fun i => β (rn l i)) (fun i => κ (rn l i)) v x) → ys = V.renL l xs → ∀ (i : Nat) (v : Value) (d : V), cs[i]? = some v → xs[i]? = some d → RepV w Pr (fun i => β (rn l i)) (fun i => κ (rn l i)) v d := by
  intro cs ys xs ih e i v d h1 h2
  subst e
  exact ih i v _ h1 (by rw [renL_get, h2]; rfl) d rfl
 induction h with
 | und v =>
  intro x e
  cases x <;> simp only [V.ren, reduceCtorEq] at e
  exact .und v
 | d v z h =>
  intro x e
  cases x <;> simp only [V.ren, reduceCtorEq, V.d.injEq] at e
  subst e
  exact .d v _ h
 | ep b p o z u hr =>
  intro x e
  cases x <;> simp only [V.ren, reduceCtorEq, V.ep.injEq] at e
  obtain ⟨rfl, rfl⟩ := e
  exact .ep b p _ _ u hr
 | box i o g h =>
  intro x e
  cases x <;> simp only [V.ren, reduceCtorEq, V.box.injEq] at e
  obtain ⟨rfl, rfl⟩ := e
  exact .box _ _ g h
 | sl i o n c g h hc hm hz =>
  intro x e
  cases x <;> simp only [V.ren, reduceCtorEq, V.sl.injEq] at e
  obtain ⟨rfl, rfl, rfl⟩ := e
  exact .sl _ _ _ c g h hc hm hz
 | mp i g h =>
  intro x e
  cases x <;> simp only [V.ren, reduceCtorEq, V.mp.injEq] at e
  subst e
  exact .mp _ g h
 | row i k v hs hk h =>
  intro x e
  cases x <;> simp only [V.ren, reduceCtorEq, V.row.injEq] at e
  obtain ⟨rfl, rfl⟩ := e
  exact .row _ _ v hs hk h
 | agg cs ys hl hd ih =>
  intro x e
  cases x <;> simp only [V.ren, reduceCtorEq, V.agg.injEq] at e
  exact .agg cs _ (by rw [hl, e, renL_len]) (sub ih e)
 | clo f cs ys hl hd ih =>
  intro x e
  cases x <;> simp only [V.ren, reduceCtorEq, V.clo.injEq] at e
  obtain ⟨rfl, e⟩ := e
  exact .clo _ cs _ (by rw [hl, e, renL_len]) (sub ih e)
 | mv f cs ys hl hd ih =>
  intro x e
  cases x <;> simp only [V.ren, reduceCtorEq, V.mv.injEq] at e
  obtain ⟨rfl, e⟩ := e
  exact .mv _ cs _ (by rw [hl, e, renL_len]) (sub ih e)
 | tup cs ys hl hd ih =>
  intro x e
  cases x <;> simp only [V.ren, reduceCtorEq, V.tup.injEq] at e
  exact .tup cs _ (by rw [hl, e, renL_len]) (sub ih e)
theorem rep_out {ks : List Nat} {β' : Nat → Value} {κ' : Nat → Nat} {v : Value} {x : V} (h : RepV w Pr β κ v x) (hb : ∀ i ∈ ks, β' (rn l i) = β i) (hk : ∀ i ∈ ks, κ' (rn l i) = κ i) (hx : x.within ks = true) : RepV w Pr β' κ' v (x.ren l) := by
 have sub : ∀ {cs : List Value} {xs : List V}, (∀ (i : Nat) (v : Value) (d : V), cs[i]? = some v → xs[i]? = some d → d.within ks = true → RepV w Pr β' κ' v (d.ren l)) → V.withinL ks xs = true → ∀ (i : Nat) (v : Value) (d : V), cs[i]? = some v → (V.renL l xs)[i]? = some d → RepV w Pr β' κ' v d := by
  intro cs xs ih hw i v d h1 h2
  rw [renL_get, Option.map_eq_some_iff] at h2
  obtain ⟨y, h2, rfl⟩ := h2
  exact ih i v y h1 h2 (withinL_mem hw h2)
 induction h with
 | und v => exact .und v
 | d v z h => exact .d v z h
 | ep b p o z u hr => exact .ep b p o z u hr
 | box i o g h => exact .box _ o g ((hb i (mem_iff.1 hx)).trans h)
 | sl i o n c g h hc hm hz => exact .sl _ o n c g ((hb i (mem_iff.1 hx)).trans h) hc hm (by rw [hk i (mem_iff.1 hx)]; exact hz)
 | mp i g h => exact .mp _ g ((hb i (mem_iff.1 hx)).trans h)
 | row i k v hs hk' h => exact .row _ k v hs (by rw [hk i (mem_iff.1 hx)]; exact hk') (by rw [hk i (mem_iff.1 hx), hb i (mem_iff.1 hx)]; exact h)
 | agg cs xs hl hd ih => exact .agg cs _ (by rw [hl, renL_len]) (sub ih hx)
 | clo f cs xs hl hd ih => exact .clo f cs _ (by rw [hl, renL_len]) (sub ih hx)
 | mv f cs xs hl hd ih => exact .mv f cs _ (by rw [hl, renL_len]) (sub ih hx)
 | tup cs xs hl hd ih => exact .tup cs _ (by rw [hl, renL_len]) (sub ih hx)
theorem repO_in {B i : Nat} {o : O} (h : RepO w Pr B β κ (rn l i) (o.ren l)) : RepO w Pr B (fun i => β (rn l i)) (fun i => κ (rn l i)) i o := by
 cases o with
 | box T xs =>
  obtain ⟨g, cs, h1, h2, h3, h4, h5, h6⟩ := h
  refine ⟨g, cs, h1, h2, h3, by rw [h4, renL_len], fun j v x hj hx => ?_, h6⟩
  exact rep_in (h5 j v _ hj (by rw [renL_get, hx]; rfl)) x rfl
 | row e s k r => exact h
 | map T c r => exact h
 | vec e s k r => exact h
 | byt e k r => exact h
 | iter v s n c =>
  obtain ⟨g, gm, h1, h2, h3, h4, h5⟩ := h
  exact ⟨g, gm, h1, h2, h3, rep_in h4 v rfl, h5⟩
theorem repO_out {ks : List Nat} {β' : Nat → Value} {κ' : Nat → Nat} {B i : Nat} {o : O} (h : RepO w Pr B β κ i o) (hb : ∀ i ∈ ks, β' (rn l i) = β i) (hk : ∀ i ∈ ks, κ' (rn l i) = κ i) (hi : i ∈ ks) (hx : o.within ks = true) : RepO w Pr B β' κ' (rn l i) (o.ren l) := by
 cases o with
 | box T xs =>
  obtain ⟨g, cs, h1, h2, h3, h4, h5, h6⟩ := h
  refine ⟨g, cs, (hb i hi).trans h1, h2, h3, by rw [h4, renL_len], fun j v x hj hxj => ?_, h6⟩
  rw [renL_get, Option.map_eq_some_iff] at hxj
  obtain ⟨y, h7, rfl⟩ := hxj
  exact rep_out (h5 j v y hj h7) hb hk (withinL_mem hx h7)
 | row e s k r =>
  obtain ⟨h1, xs, h2, h3, h4, h5⟩ := h
  exact ⟨(hk i hi).trans h1, xs, by rw [hb i hi]; exact h2, h3, h4, by rw [hb i hi]; exact h5⟩
 | vec e s k r =>
  obtain ⟨h1, xs, h2, h3, h4, h5⟩ := h
  exact ⟨(hk i hi).trans h1, xs, by rw [hb i hi]; exact h2, h3, h4, by rw [hb i hi]; exact h5⟩
 | byt e k r =>
  obtain ⟨h1, g, cap, cur, fz, h2, h3⟩ := h
  exact ⟨(hk i hi).trans h1, g, cap, cur, fz, (hb i hi).trans h2, h3⟩
 | map T c r =>
  obtain ⟨g, es, h1, h2⟩ := h
  exact ⟨g, es, (hb i hi).trans h1, h2⟩
 | iter v s n c =>
  obtain ⟨g, gm, h1, h2, h3, h4, h5⟩ := h
  exact ⟨g, gm, (hb i hi).trans h1, h2, h3, rep_out h4 hb hk hx, h5⟩
end
theorem find_mem {ob : Objs} {i : Nat} {o : O} (h : find ob i = some o) : i ∈ keys ob := by
 induction ob with
 | nil => cases h
 | cons p ob ih =>
  obtain ⟨j, x⟩ := p
  by_cases hi : i = j
  ·simp [keys, hi]
  ·rw [find_ne hi] at h
   exact List.mem_cons_of_mem _ (ih h)
theorem find_of_mem {ob : Objs} {i : Nat} (h : i ∈ keys ob) : ∃ o, find ob i = some o := by
 induction ob with
 | nil => cases h
 | cons p ob ih =>
  obtain ⟨j, x⟩ := p
  by_cases hi : i = j
  ·exact ⟨x, hi ▸ find_eq i x ob⟩
  ·rw [find_ne hi]
   exact ih ((List.mem_cons.1 h).resolve_left hi)
theorem find_renO {l : List (Nat × Nat)} (hl : okRen l = true) {ob : Objs} (hk : ∀ i ∈ keys ob, i ∈ l.map (·.1)) {j : Nat} {o : O} (h : find (renO l ob) j = some o) : ∃ i o', i ∈ keys ob ∧ j = rn l i ∧ find ob i = some o' ∧ o = o'.ren l := by
 induction ob with
 | nil => cases h
 | cons p ob ih =>
  obtain ⟨i, x⟩ := p
  simp only [renO] at h
  by_cases hj : j = rn l i
  ·subst hj
   rw [find_eq] at h
   cases h
   exact ⟨i, x, by simp [keys], rfl, find_eq i x ob, rfl⟩
  ·rw [find_ne hj] at h
   obtain ⟨i', o', h1, h2, h3, h4⟩ := ih (fun k hk' => hk k (List.mem_cons_of_mem _ hk')) h
   refine ⟨i', o', List.mem_cons_of_mem _ h1, h2, ?_, h4⟩
   rw [find_ne (fun e => hj (by rw [h2, e])), h3]
theorem find_ren {l : List (Nat × Nat)} (hl : okRen l = true) {ob : Objs} (hk : ∀ i ∈ keys ob, i ∈ l.map (·.1)) {i : Nat} {o : O} (h : find ob i = some o) : find (renO l ob) (rn l i) = some (o.ren l) := by
 induction ob with
 | nil => cases h
 | cons p ob ih =>
  obtain ⟨j, x⟩ := p
  simp only [renO]
  by_cases hi : i = j
  ·subst hi
   rw [find_eq] at h
   cases h
   exact find_eq _ _ _
  ·rw [find_ne hi] at h
   have hne : rn l i ≠ rn l j := by
    intro e
    have h1 := okRen_at hl (hk j (by simp [keys]))
    have h2 := okRen_at hl (hk i (List.mem_cons_of_mem _ (find_mem h)))
    rw [e, h1] at h2
    cases h2
    exact hi rfl
   rw [find_ne hne]
   exact ih (fun k hk' => hk k (List.mem_cons_of_mem _ hk')) h
theorem find_app {a b : Objs} {i : Nat} {o : O} (h : find (a ++ b) i = some o) : find a i = some o ∨ ((∀ o', find a i ≠ some o') ∧ find b i = some o) := by
 induction a with
 | nil => exact .inr ⟨fun _ h => by simp [find] at h, h⟩
 | cons p a ih =>
  obtain ⟨j, x⟩ := p
  rw [List.cons_append] at h
  by_cases hi : i = j
  ·subst hi
   rw [find_eq] at h ⊢
   exact .inl h
  ·rw [find_ne hi] at h
   rw [find_ne hi]
   exact ih h
theorem find_dropK {ks : List Nat} {ob : Objs} {i : Nat} {o : O} (h : find (dropK ks ob) i = some o) : i ∉ ks ∧ find ob i = some o := by
 induction ob with
 | nil => cases h
 | cons p ob ih =>
  obtain ⟨j, x⟩ := p
  simp only [dropK] at h
  cases hm : mem ks j with
  | true =>
   rw [hm] at h
   obtain ⟨h1, h2⟩ := ih h
   have hij : i ≠ j := by
    rintro rfl
    exact h1 (mem_iff.1 hm)
   exact ⟨h1, by rw [find_ne hij]; exact h2⟩
  | false =>
   rw [hm] at h
   simp only [cond_false] at h
   by_cases hi : i = j
   ·subst hi
    rw [find_eq] at h ⊢
    refine ⟨fun hk => ?_, h⟩
    rw [mem_iff.2 hk] at hm
    cases hm
   ·rw [find_ne hi] at h ⊢
    exact ih h
structure After (ob : Objs) (new : List Nat) (w : World) (Pr : Prot) (β : Nat → Value) (κ : Nat → Nat) (w' : World) (v : Value) (x : V) (ob' : Objs) (Pr' : Prot) (β' : Nat → Value) (κ' : Nat → Nat) : Prop where
 under : Under (Lent ob β) w w'
 st : Stays Pr w w'
 pr0 : ∀ b o, Pr b o → Pr' b o
 prn : ∀ b o, Pr' b o → Pr b o ∨ w.heap.size ≤ b ∨ Lent ob β b
 prl : ∀ b o, Pr' b o → b < w'.heap.size
 val : RepV w' Pr' β' κ' v x
 objs : ∀ i o, find ob' i = some o → RepO w' Pr' 0 β' κ' i o
 apart : ∀ i j oi oj g, find ob' i = some oi → find ob' j = some oj → blk (β' i) = some g → blk (β' j) = some g → i = j
 own : ∀ i o g, find ob' i = some o → blk (β' i) = some g → Lent ob β g ∨ w.heap.size ≤ g
 keeps : ∀ i o, find ob i = some o → (β' i = β i ∧ κ' i = κ i) ∨ (κ i < κ' i ∧ ∃ A n c, β i = .slice A n c)
 wx : x.within (keys ob ++ new) = true
 wo : ∀ i o, find ob' i = some o → i ∈ keys ob ++ new ∧ o.within (keys ob ++ new) = true
def PostO (new : List Nat) (w : World) (Pr : Prot) (ob : Objs) (β : Nat → Value) (κ : Nat → Nat) (Post : V → Objs → Prop) : Ending → World → Prop := fun e w' =>
 ∃ v x ob' Pr' β' κ', e = .returned v ∧ Post x ob' ∧ After ob new w Pr β κ w' v x ob' Pr' β' κ'
def ObC (f : FuncId) (args : List V) (ob : Objs) (new : List Nat) (Post : V → Objs → Prop) : Prop :=
 FnOk f ∧ ∀ (w : World) (Pr : Prot) (vs : List Value) (β : Nat → Value) (κ : Nat → Nat), (∀ b o, Pr b o → b < w.heap.size) → EnvOk w Pr → vs.length = args.length →
  (∀ (i : Nat) (v : Value) (x : V), vs[i]? = some v → args[i]? = some x → RepV w Pr β κ v x) → (∀ i o, find ob i = some o → RepO w Pr 0 β κ i o) →
  (∀ i j oi oj g, find ob i = some oi → find ob j = some oj → blk (β i) = some g → blk (β j) = some g → i = j) → Calls Try.prog f vs.toArray w (PostO new w Pr ob β κ Post)
theorem ObC.mono {f : FuncId} {args : List V} {ob : Objs} {new : List Nat} {P Q : V → Objs → Prop} (h : ObC f args ob new P) (hq : ∀ x o, P x o → Q x o) : ObC f args ob new Q :=
 ⟨h.1, fun w Pr vs β κ h1 h2 h3 h4 h5 h6 => (h.2 w Pr vs β κ h1 h2 h3 h4 h5 h6).mono fun _ _ ⟨v, x, o, Pr', β', κ', e1, e2, e3⟩ => ⟨v, x, o, Pr', β', κ', e1, hq x o e2, e3⟩⟩
def slotsV : Nat → List V → Slots
 | _, [] => []
 | i, d :: ds => (i, d) :: slotsV (i + 1) ds
theorem look_slotsV (ds : List V) (i k : Nat) : look (slotsV k ds) i = if k ≤ i then (match ds[i - k]? with | some d => d | none => .und) else .und := by
 induction ds generalizing k with
 | nil => simp [slotsV, look]
 | cons d ds ih =>
  simp only [slotsV]
  by_cases h : i = k
  ·subst h
   rw [look_eq]
   simp
  ·rw [look_ne h, ih]
   by_cases h2 : k ≤ i
   ·have h3 : k + 1 ≤ i := by omega
    rw [if_pos h2, if_pos h3, show i - k = (i - (k + 1)) + 1 by omega]
    simp
   ·rw [if_neg h2, if_neg (by omega)]
theorem ob_enter {f : FuncId} {fn : Func} {c : Code} {args : List V} {ob : Objs} {new : List Nat} {Post : V → Objs → Prop} (hf : Try.prog.funcs[f]? = some fn) (hb : fn.body = some c) (hn : (fn.name == "runtime.NumGoroutine") = false) (N : Nat) (hN : fn.ntmps = N) (hl : args.length ≤ N)
  (hfr : ((keys ob).all fun i => Nat.ble N i) = true)
  (h : ∀ w Pr β κ, Fine ⟨w, Pr, N, ob, β, κ, []⟩ → AW ⟨w, Pr, N, ob, β, κ, []⟩ c (bodyPost Try.prog fn (PostO new w Pr ob β κ Post)) (slotsV 0 args) ob) : ObC f args ob new Post := by
 refine ⟨⟨fn, hf, hn, by simp [hb]⟩, fun w Pr vs β κ h1 h2 h3 h4 h5 h6 => calls_of_wp hf hb ?_⟩
 subst hN
 refine (h w Pr β κ ⟨h2, h1⟩).run _ _ ⟨Pr, β, κ, Under.refl _ _, fun _ _ _ => rfl, fun _ _ h => h, fun _ _ h => .inl h, h1, ?_, rfl, fun i => ?_, h5, h6, fun i o g ho hg => .inl ⟨i, o, ho, hg⟩, fun i o ho => .inl ⟨rfl, rfl⟩, fun i o ho => ?_⟩
 ·simp [h3]; omega
 ·rw [look_slotsV]
  simp only [Nat.zero_le, if_true, Nat.sub_zero]
  cases hd : args[i]? with
  | none => exact .und _
  | some d =>
   have hi : i < vs.length := by rw [h3]; exact (List.getElem?_eq_some_iff.1 hd).1
   have hv : vs[i]? = some vs[i] := List.getElem?_eq_getElem hi
   have : (vs.toArray ++ Array.replicate (fn.ntmps - vs.toArray.size) undef).getD i undef = vs[i] := by
    rw [Array.getD_eq_getD_getElem?, Array.getElem?_append_left (by simpa using hi)]
    simp [hi]
   rw [this]
   exact h4 i _ d hv hd
 ·exact Nat.le_of_ble_eq_true (List.all_eq_true.1 hfr i (find_mem ho))
section
variable {E : Entry} {sl : Slots} {ob : Objs} {a : Act} {w : World} {Pr : Prot} {β : Nat → Value} {κ : Nat → Nat}
inductive ArgV (l : List (Nat × Nat)) (ob : Objs) : V → V → Prop where
 | same (y x : V) (h : y = x.ren l) : ArgV l ob y x
 | toD (y : V) (d : D) (h : ToD ob y d) : ArgV l ob y (.d d)
inductive ArgsV (l : List (Nat × Nat)) (sl : Slots) (ob : Objs) : List Operand → List V → Prop where
 | nil : ArgsV l sl ob [] []
 | cons {x : Operand} {xs : List Operand} {d : V} {ds : List V} (h : ArgV l ob (ev sl x) d) (hr : ArgsV l sl ob xs ds) : ArgsV l sl ob (x :: xs) (d :: ds)
theorem ArgsV.rep (h : Good E sl ob a w Pr β κ) {l : List (Nat × Nat)} {xs : List Operand} {ds : List V} (hd : ArgsV l sl ob xs ds) : (xs.map a.eval).length = ds.length ∧ ∀ (i : Nat) (v : Value) (d : V), (xs.map a.eval)[i]? = some v → ds[i]? = some d → RepV w Pr (fun i => β (rn l i)) (fun i => κ (rn l i)) v d := by
 induction hd with
 | nil => simp
 | @cons x xs d ds hx hr ih =>
  refine ⟨by simpa using ih.1, fun i v d' h1 h2 => ?_⟩
  cases i with
  | zero =>
   simp at h1 h2
   subst h1 h2
   cases hx with
   | same _ e => exact rep_in (good_ev h x) _ e
   | toD z e => exact .d _ _ (toD_rep h e _ (good_ev h x))
  | succ i => exact ih.2 i v d' (by simpa using h1) (by simpa using h2)
theorem Good.ocalled2' (h : Good E sl ob a w Pr β κ) {l : List (Nat × Nat)} {ob1 : Objs} {new : List Nat} {w' : World} {v : Value} {x : V} {ob' : Objs} {Pr' : Prot} {β' : Nat → Value} {κ' : Nat → Nat} {d : Nat} (hd : d < E.n)
  (hA : After ob1 new w Pr (fun i => β (rn l i)) (fun i => κ (rn l i)) w' v x ob' Pr' β' κ')
  (ho : ∀ p ∈ renO l ob1, find ob p.1 = some p.2) (hl : okRen l = true) (hk : ((keys ob1 ++ new).all fun i => mem (l.map (·.1)) i) = true) (hk2 : ((l.map (·.1)).all fun i => mem (keys ob1 ++ new) i) = true)
  (hn : (new.all fun i => noneOf (rn l i) sl ob && Nat.blt (rn l i) E.n && !(mem (keys ob) (rn l i))) = true) :
  ∃ Pr2 β2 κ2, Good E ((d, x.ren l) :: sl) (renO l ob' ++ dropK ((keys ob1).map (rn l)) ob) (a.put (some d) v) w' Pr2 β2 κ2 ∧ Pr2 = Pr' ∧ (∀ j, (∀ i ∈ new, rn l i ≠ j) → (β2 j = β j ∧ κ2 j = κ j) ∨ (κ j < κ2 j ∧ ∃ A n c, β j = .slice A n c)) ∧ (∀ j, j ∉ (keys ob1 ++ new).map (rn l) → β2 j = β j ∧ κ2 j = κ j) := by
 have hks : ∀ i, i ∈ keys ob1 ++ new ↔ i ∈ l.map (·.1) := fun i => ⟨fun hi => mem_iff.1 (List.all_eq_true.1 hk i hi), fun hi => mem_iff.1 (List.all_eq_true.1 hk2 i hi)⟩
 have hfo : ∀ i o, find ob1 i = some o → find ob (rn l i) = some (o.ren l) := by
  intro i o hi
  have h1 := find_ren hl (fun k hk' => (hks k).1 (List.mem_append_left _ hk')) hi
  have : ∀ (r : Objs), (∀ p ∈ r, find ob p.1 = some p.2) → ∀ j x, find r j = some x → find ob j = some x := by
   intro r
   induction r with
   | nil => intro _ j x h; cases h
   | cons p r ih =>
    obtain ⟨k, y⟩ := p
    intro hr j x hj
    by_cases hjk : j = k
    ·subst hjk
     rw [find_eq] at hj
     cases hj
     exact hr (j, y) (by simp)
    ·rw [find_ne hjk] at hj
     exact ih (fun p hp => hr p (by simp [hp])) j x hj
  exact this _ ho _ _ h1
 have hnew : ∀ i ∈ new, noneOf (rn l i) sl ob = true ∧ rn l i < E.n ∧ rn l i ∉ keys ob := by
  intro i hi
  have := List.all_eq_true.1 hn i hi
  simp only [Bool.and_eq_true, Bool.not_eq_true'] at this
  exact ⟨this.1.1, by simpa [Nat.blt_eq] using this.1.2, fun hm => by rw [mem_iff.2 hm] at this; cases this.2⟩
 let β2 : Nat → Value := fun j => match ri l j with | some i => β' i | none => β j
 let κ2 : Nat → Nat := fun j => match ri l j with | some i => κ' i | none => κ j
 have eb : ∀ i ∈ keys ob1 ++ new, β2 (rn l i) = β' i := fun i hi => by simp only [β2, okRen_at hl ((hks i).1 hi)]
 have ek : ∀ i ∈ keys ob1 ++ new, κ2 (rn l i) = κ' i := fun i hi => by simp only [κ2, okRen_at hl ((hks i).1 hi)]
 have eo : ∀ j, ri l j = none → β2 j = β j ∧ κ2 j = κ j := fun j hj => by simp only [β2, κ2, hj]; exact ⟨trivial, trivial⟩
 -- what a name means now
 have hch : ∀ j, (∀ i ∈ new, rn l i ≠ j) → (β2 j = β j ∧ κ2 j = κ j) ∨ (κ j < κ2 j ∧ ∃ A n c, β j = .slice A n c) := by
  intro j hj
  cases hr : ri l j with
  | none => exact .inl (eo j hr)
  | some i =>
   obtain ⟨h1, h2⟩ := ri_some hl hr
   subst h2
   have hi := (hks i).2 h1
   rw [eb i hi, ek i hi]
   rcases List.mem_append.1 hi with h3 | h3
   ·obtain ⟨o, ho'⟩ := find_of_mem h3
    exact hA.keeps i o ho'
   ·exact absurd rfl (hj i h3)
 have hlent : ∀ g, Lent ob1 (fun i => β (rn l i)) g → Lent E.ob0 E.β0 g ∨ E.w.heap.size ≤ g := by
  rintro g ⟨i, o, h1, h2⟩
  exact h.own _ _ g (hfo i o h1) h2
 have hE := h.below.size
 have hch2 : ∀ (v : Value) (z : V), RepV w Pr β κ v z → (∀ i ∈ new, z.has (rn l i) = false) → RepV w' Pr' β2 κ2 v z := fun v z hz hno =>
  (hz.keep hA.st hA.pr0).chg (fun i hi => hch i (fun k hk' e => by rw [← e, hno k hk'] at hi; cases hi))
 have hrk : ∀ i ∈ keys ob1, ∃ o, find ob (rn l i) = some o ∧ find ob1 i = some o ∨ ∃ o, find ob1 i = some o ∧ find ob (rn l i) = some (o.ren l) := by
  intro i hi
  obtain ⟨o, ho'⟩ := find_of_mem hi
  exact ⟨o, .inr ⟨o, ho', hfo i o ho'⟩⟩
 have hcase : ∀ j o, find (renO l ob' ++ dropK ((keys ob1).map (rn l)) ob) j = some o → (∃ i o', j = rn l i ∧ i ∈ keys ob1 ++ new ∧ find ob' i = some o' ∧ o = o'.ren l) ∨ (ri l j = none ∧ find ob j = some o) := by
  intro j o hj
  rcases find_app hj with h1 | ⟨_, h2⟩
  ·obtain ⟨i, o', h2, h3, h4, h5⟩ := find_renO hl (fun k hk' => by obtain ⟨o'', h6⟩ := find_of_mem hk'; exact (hks k).1 (hA.wo k o'' h6).1) h1
   exact .inl ⟨i, o', h3, (hA.wo i o' h4).1, h4, h5⟩
  ·obtain ⟨h3, h4⟩ := find_dropK h2
   refine .inr ⟨?_, h4⟩
   cases hr : ri l j with
   | none => rfl
   | some i =>
    obtain ⟨h5, rfl⟩ := ri_some hl hr
    rcases List.mem_append.1 ((hks i).2 h5) with h6 | h6
    ·exact absurd (List.mem_map.2 ⟨i, h6, rfl⟩) h3
    ·exact absurd (find_mem h4) (hnew i h6).2.2
 -- an old object that was not lent
 have hfar : ∀ j o g, ri l j = none → find ob j = some o → blk (β j) = some g → ¬ Lent ob1 (fun i => β (rn l i)) g := by
  rintro j o g hr hj hg ⟨i, o', h1, h2⟩
  have := h.apart j (rn l i) o _ g hj (hfo i o' h1) hg h2
  subst this
  rw [okRen_at hl ((hks i).1 (List.mem_append_left _ (find_mem h1)))] at hr
  cases hr
 refine ⟨Pr', β2, κ2, ?_, rfl, hch, fun j hj => ?_⟩
 rotate_left 1
 ·refine eo j ?_
  cases hr : ri l j with
  | none => rfl
  | some i =>
   obtain ⟨h1, h2⟩ := ri_some hl hr
   exact absurd (List.mem_map.2 ⟨i, (hks i).2 h1, h2⟩) hj
 refine Good.put ⟨h.below.then hA.under hlent, fun b o hb => (hA.st b o (h.pr0 b o hb)).trans (h.st0 b o hb), fun b o hb => hA.pr0 b o (h.pr0 b o hb), fun b o hb => ?_, hA.prl, h.size, h.defers, fun i => hch2 _ _ (h.slots i) (fun k hk' => noneOf_slot (hnew k hk').1 i), fun j o hj => ?_, fun i j oi oj g hi hj hgi hgj => ?_, fun j o g hj hg => ?_, fun j o hj => ?_, h.fresh⟩ hd (rep_out hA.val eb ek hA.wx)
 ·rcases hA.prn b o hb with h1 | h1 | h1
  ·exact h.prn b o h1
  ·exact .inr (.inl (by omega))
  ·exact .inr ((hlent b h1).elim .inr .inl)
 ·rcases hcase j o hj with ⟨i, o', rfl, h1, h2, rfl⟩ | ⟨h1, h2⟩
  ·exact repO_out (hA.objs i o' h2) eb ek h1 (hA.wo i o' h2).2
  ·have hlt := (h.objs j o h2).blkLt
   have hk2' := (h.objs j o h2).keep2 hA.st hA.pr0 (fun g hg q hq => by
    rcases hA.prn g q hq with h3 | h3 | h3
    ·exact h3
    ·have := (hlt g hg).2; omega
    ·exact absurd h3 (hfar j o g h1 h2 hg)) (fun g hg => hA.under.block g (hlt g hg).2 (hfar j o g h1 h2 hg))
   obtain ⟨e1, e2⟩ := eo j h1
   cases o with
   | box T xs =>
    obtain ⟨g, cs, q1, q2, q3, q4, q5, q6⟩ := hk2'
    refine ⟨g, cs, e1.trans q1, q2, q3, q4, fun m u z hu hz => (q5 m u z hu hz).chg (fun i hi => hch i (fun k hk' e => ?_)), q6⟩
    have := noneOf_obj (hnew k hk').1 h2
    rw [O.has] at this
    rw [← e, hasL_mem this hz] at hi
    cases hi
   | row e s k r =>
    obtain ⟨q1, xs, q2, q3, q4, q5⟩ := hk2'
    exact ⟨e2.trans q1, xs, by rw [e1]; exact q2, q3, q4, by rw [e1]; exact q5⟩
   | vec e s k r =>
    obtain ⟨q1, xs, q2, q3, q4, q5⟩ := hk2'
    exact ⟨e2.trans q1, xs, by rw [e1]; exact q2, q3, q4, by rw [e1]; exact q5⟩
   | byt e k r =>
    obtain ⟨q1, g, cap, cur, fz, q2, q3⟩ := hk2'
    exact ⟨e2.trans q1, g, cap, cur, fz, e1.trans q2, q3⟩
   | map T c r =>
    obtain ⟨g, es, q1, q2⟩ := hk2'
    exact ⟨g, es, e1.trans q1, q2⟩
   | iter v s n c =>
    obtain ⟨g, gm, q1, q2, q3, q4, q5⟩ := hk2'
    refine ⟨g, gm, e1.trans q1, q2, q3, q4.chg (fun i hi => hch i (fun k hk' e => ?_)), q5⟩
    have := noneOf_obj (hnew k hk').1 h2
    rw [O.has] at this
    rw [← e, this] at hi
    cases hi
 ·rcases hcase i oi hi with ⟨i', oi', rfl, h1, h2, rfl⟩ | ⟨h1, h2⟩
  ·rw [eb i' h1] at hgi
   rcases hcase j oj hj with ⟨j', oj', rfl, h3, h4, rfl⟩ | ⟨h3, h4⟩
   ·rw [eb j' h3] at hgj
    rw [hA.apart i' j' oi' oj' g h2 h4 hgi hgj]
   ·rw [(eo j h3).1] at hgj
    rcases hA.own i' oi' g h2 hgi with h5 | h5
    ·exact absurd h5 (hfar j oj g h3 h4 hgj)
    ·have := ((h.objs j oj h4).blkLt g hgj).2
     omega
  ·rw [(eo i h1).1] at hgi
   rcases hcase j oj hj with ⟨j', oj', rfl, h3, h4, rfl⟩ | ⟨h3, h4⟩
   ·rw [eb j' h3] at hgj
    rcases hA.own j' oj' g h4 hgj with h5 | h5
    ·exact absurd h5 (hfar i oi g h1 h2 hgi)
    ·have := ((h.objs i oi h2).blkLt g hgi).2
     omega
   ·rw [(eo j h3).1] at hgj
    exact h.apart i j oi oj g h2 h4 hgi hgj
 ·rcases hcase j o hj with ⟨i, o', rfl, h1, h2, rfl⟩ | ⟨h1, h2⟩
  ·rw [eb i h1] at hg
   rcases hA.own i o' g h2 hg with h3 | h3
   ·exact hlent g h3
   ·exact .inr (by omega)
  ·rw [(eo j h1).1] at hg
   exact h.own j o g h2 hg
 ·have hne : ∀ i ∈ new, rn l i ≠ j := fun i hi e => by
   have h1 := (hnew i hi).2.1
   have h2 := h.fresh j o hj
   omega
  rcases h.keeps j o hj with ⟨k1, k2⟩ | ⟨k1, k2⟩
  ·rcases hch j hne with ⟨q1, q2⟩ | ⟨q1, q2⟩
   ·exact .inl ⟨q1.trans k1, q2.trans k2⟩
   ·exact .inr ⟨by omega, by rw [← k1]; exact q2⟩
  ·rcases hch j hne with ⟨q1, q2⟩ | ⟨q1, q2⟩
   ·exact .inr ⟨by omega, k2⟩
   ·exact .inr ⟨by omega, k2⟩
theorem Good.ocalled (h : Good E sl ob a w Pr β κ) {l : List (Nat × Nat)} {ob1 : Objs} {new : List Nat} {w' : World} {v : Value} {x : V} {ob' : Objs} {Pr' : Prot} {β' : Nat → Value} {κ' : Nat → Nat} {d : Nat} (hd : d < E.n)
  (hA : After ob1 new w Pr (fun i => β (rn l i)) (fun i => κ (rn l i)) w' v x ob' Pr' β' κ')
  (ho : ∀ p ∈ renO l ob1, find ob p.1 = some p.2) (hl : okRen l = true) (hk : ((keys ob1 ++ new).all fun i => mem (l.map (·.1)) i) = true) (hk2 : ((l.map (·.1)).all fun i => mem (keys ob1 ++ new) i) = true)
  (hn : (new.all fun i => noneOf (rn l i) sl ob && Nat.blt (rn l i) E.n && !(mem (keys ob) (rn l i))) = true) :
  Inv E ((d, x.ren l) :: sl) (renO l ob' ++ dropK ((keys ob1).map (rn l)) ob) (a.put (some d) v) w' :=
 let ⟨Pr2, β2, κ2, h1, _⟩ := h.ocalled2' hd hA ho hl hk hk2 hn
 ⟨Pr2, β2, κ2, h1⟩
variable {ops : Array Oper} {rest : List Oper} {Q : Exit → Act → World → Prop} {d : Nat} {ty : TypeId} {p : String} {af : Array Edge}
theorem nbeq_def (n m : Nat) : Nat.beq n m = (n == m) := by
 cases h : Nat.beq n m with
 | true => rw [Nat.eq_of_beq_eq_true h]; simp
 | false =>
  have : n ≠ m := by
   rintro rfl
   rw [Nat.beq_refl] at h
   cases h
  simp [this]
structure Lends (E : Entry) (sl : Slots) (ob : Objs) (l : List (Nat × Nat)) (ob1 : Objs) (new : List Nat) : Prop where
 ho : ∀ p ∈ renO l ob1, find ob p.1 = some p.2
 hl : okRen l = true
 hk : ((keys ob1 ++ new).all fun i => mem (l.map (·.1)) i) = true
 hk2 : ((l.map (·.1)).all fun i => mem (keys ob1 ++ new) i) = true
 hn : (new.all fun i => noneOf (rn l i) sl ob && Nat.blt (rn l i) E.n && !(mem (keys ob) (rn l i))) = true
theorem Lends.find {l : List (Nat × Nat)} {ob1 : Objs} {new : List Nat} (h : Lends E sl ob l ob1 new) (i : Nat) (o : O) (hi : Go.Proofs.Ytgiacdhffklenaa.find ob1 i = some o) : Go.Proofs.Ytgiacdhffklenaa.find ob (rn l i) = some (o.ren l) := by
 have h1 := find_ren h.hl (fun k hk' => mem_iff.1 (List.all_eq_true.1 h.hk k (List.mem_append_left _ hk'))) hi
 have : ∀ (r : Objs), (∀ p ∈ r, Go.Proofs.Ytgiacdhffklenaa.find ob p.1 = some p.2) → ∀ j x, Go.Proofs.Ytgiacdhffklenaa.find r j = some x → Go.Proofs.Ytgiacdhffklenaa.find ob j = some x := by
  intro r
  induction r with
  | nil => intro _ j x h; cases h
  | cons p r ih =>
   obtain ⟨k, y⟩ := p
   intro hr j x hj
   by_cases hjk : j = k
   ·subst hjk
    rw [find_eq] at hj
    cases hj
    exact hr (j, y) (by simp)
   ·rw [find_ne hjk] at hj
    exact ih (fun p hp => hr p (by simp [hp])) j x hj
 exact this _ h.ho _ _ h1
theorem ocall_core {f : FuncId} {args : List V} {ob1 : Objs} {new : List Nat} {Post : V → Objs → Prop} {l : List (Nat × Nat)} {op : Op} (hc : ObC f args ob1 new Post) (hE : Fine E) (hd : d < E.n) (hL : Lends E sl ob l ob1 new)
  (hx : ∀ a w Pr β κ, Good E sl ob a w Pr β κ → ∃ vs : List Value, vs.length = args.length ∧ (∀ (i : Nat) (v : Value) (x : V), vs[i]? = some v → args[i]? = some x → RepV w Pr (fun i => β (rn l i)) (fun i => κ (rn l i)) v x) ∧ (execOp a.eval ⟨some d, op, ty, p, af, none⟩).run Try.prog w = .ok (.enter f vs.toArray) w)
  (hK : ∀ x ob', Post x ob' → ∀ y ob2, x.ren l = y → renO l ob' ++ dropK ((keys ob1).map (rn l)) ob = ob2 → AL E ops rest Q ((d, y) :: sl) ob2) : AL E ops (⟨some d, op, ty, p, af, none⟩ :: rest) Q sl ob := by
 refine ⟨fun a w hi => ?_⟩
 obtain ⟨Pr, β, κ, h⟩ := hi
 refine wpList_plain rfl fun K hKK => ?_
 obtain ⟨vs, hlen, hr, hrun⟩ := hx a w Pr β κ h
 have hfo := hL.find
 obtain ⟨ho, hl, hk, hk2, hn⟩ := hL
 have hcall := hc.2 w Pr vs _ _ h.prl (env_now hE h) hlen hr (fun i o hi => repO_in (h.objs _ _ (hfo i o hi))) (fun i j oi oj g hi hj hgi hgj => by
  have e := h.apart _ _ _ _ g (hfo i oi hi) (hfo j oj hj) hgi hgj
  have k1 := okRen_at hl (mem_iff.1 (List.all_eq_true.1 hk i (List.mem_append_left _ (find_mem hi))))
  have k2 := okRen_at hl (mem_iff.1 (List.all_eq_true.1 hk j (List.mem_append_left _ (find_mem hj))))
  rw [e, k2] at k1
  cases k1
  rfl)
 unfold Oper.wp
 rw [hrun, Oper.upon_enter]
 refine hcall.mono fun e w' ⟨v, x, ob', Pr', β', κ', he, hp, hA⟩ => ?_
 subst he
 exact hKK _ _ ((hK x ob' hp _ _ rfl rfl).run _ _ (h.ocalled hd hA ho hl hk hk2 hn))
theorem al_ocall {f : FuncId} {args : List V} {ob1 : Objs} {new : List Nat} {Post : V → Objs → Prop} {c : Operand} {xs : List Operand} {ats : Array TypeId} (l : List (Nat × Nat)) (hc : ObC f args ob1 new Post) (hf : ev sl c = .d (.val (.func (.func f) #[] #[]))) (hE : Fine E) (hd : d < E.n) (ha : ArgsV l sl ob xs args)
  (hL : Lends E sl ob l ob1 new)
  (hK : ∀ x ob', Post x ob' → ∀ y ob2, x.ren l = y → renO l ob' ++ dropK ((keys ob1).map (rn l)) ob = ob2 → AL E ops rest Q ((d, y) :: sl) ob2) : AL E ops (⟨some d, .call { callee := .value c, args := xs.toArray, argTypes := ats }, ty, p, af, none⟩ :: rest) Q sl ob := by
 refine ocall_core hc hE hd hL (fun a w Pr β κ h => ?_) hK
 obtain ⟨hlen, hr⟩ := ha.rep h
 exact ⟨xs.map a.eval, hlen, hr, by simp [execOp, resolve, Deferred.ofValue, invoke, good_val h hf, run_callFunc hc.1]⟩
inductive ResV (sl : Slots) (ob : Objs) : ResultVar → V → Prop where
 | tmp (t : Nat) (x : V) (h : look sl t = x) : ResV sl ob (.tmp t) x
 | x (r : ResultVar) (d : D) (h : ResX sl ob r d) : ResV sl ob r (.d d)
theorem resV_run (h : Good E sl ob a w Pr β κ) {rv : ResultVar} {x : V} (hr : ResV sl ob rv x) : ∃ v, (resRun a.tmps rv).run Try.prog w = .ok v w ∧ RepV w Pr β κ v x := by
 cases hr with
 | tmp t x h1 => exact ⟨_, rfl, h1 ▸ h.slots t⟩
 | x _ d h1 =>
  obtain ⟨v, h2, h3⟩ := res_run h h1
  exact ⟨v, h2, .d _ _ h3⟩
def okOut (ob0 : Objs) (new : List Nat) (x : V) (ob' : Objs) : Bool := x.within (keys ob0 ++ new) && ob'.all fun p => mem (keys ob0 ++ new) p.1 && p.2.within (keys ob0 ++ new)
theorem after_of (h : Good E sl ob a w Pr β κ) {new : List Nat} {v : Value} {x : V} {ob' : Objs} (hv : RepV w Pr β κ v x) (ho : ∀ p ∈ ob', find ob p.1 = some p.2) (hw : okOut E.ob0 new x ob' = true) : After E.ob0 new E.w E.pr E.β0 E.κ0 w v x ob' Pr β κ := by
 have hf : ∀ (r : Objs), (∀ p ∈ r, find ob p.1 = some p.2) → ∀ j x, find r j = some x → find ob j = some x := by
  intro r
  induction r with
  | nil => intro _ j x h; cases h
  | cons p r ih =>
   obtain ⟨k, y⟩ := p
   intro hr j x hj
   by_cases hjk : j = k
   ·subst hjk
    rw [find_eq] at hj
    cases hj
    exact hr (j, y) (by simp)
   ·rw [find_ne hjk] at hj
    exact ih (fun p hp => hr p (by simp [hp])) j x hj
 have hfm : ∀ (r : Objs) j x, find r j = some x → (j, x) ∈ r := by
  intro r
  induction r with
  | nil => intro j x h; cases h
  | cons p r ih =>
   obtain ⟨k, y⟩ := p
   intro j x hj
   by_cases hjk : j = k
   ·subst hjk
    rw [find_eq] at hj
    cases hj
    simp
   ·rw [find_ne hjk] at hj
    exact List.mem_cons_of_mem _ (ih j x hj)
 simp only [okOut, Bool.and_eq_true] at hw
 refine ⟨h.below, h.st0, h.pr0, h.prn, h.prl, hv, fun i o hi => h.objs i o (hf ob' ho i o hi), fun i j oi oj g hi hj => h.apart i j oi oj g (hf ob' ho i oi hi) (hf ob' ho j oj hj), fun i o g hi => h.own i o g (hf ob' ho i o hi), h.keeps, hw.1, fun i o hi => ?_⟩
 have := List.all_eq_true.1 hw.2 _ (hfm ob' i o hi)
 simp only [Bool.and_eq_true] at this
 exact ⟨mem_iff.1 this.1, this.2⟩
variable {new : List Nat} {Post : V → Objs → Prop} {fn : Func}
theorem oret1 {r1 : ResultVar} {x1 : V} (ob' : Objs) (hr : fn.results = #[r1]) (h1 : ResV sl ob r1 x1) (hp : Post x1 ob') (ho : ∀ p ∈ ob', find ob p.1 = some p.2) (hw : okOut E.ob0 new x1 ob' = true) (hdf : E.df = [] := by rfl) : AQ E .ret (bodyPost Try.prog fn (PostO new E.w E.pr E.ob0 E.β0 E.κ0 Post)) sl ob := by
 refine ⟨fun a w ⟨Pr, β, κ, h⟩ => ?_⟩
 obtain ⟨v1, e1, k1⟩ := resV_run h h1
 exact bodyPost_ret (results_run1 hr e1) (h.defers.trans hdf) ⟨_, x1, ob', Pr, β, κ, rfl, hp, after_of h k1 ho hw⟩
theorem y_vextract {dd : Option Nat} {T : TypeId} {p : String} {af : Array Edge} {g : Option (Nat × Bool)} {x : Operand} {l : List V} {ix : Nat} {z : V} (hx : ev sl x = .tup l) (hz : l[ix]? = some z) : Y E ⟨dd, .extract x ix, T, p, af, g⟩ sl ob z := fun a w Pr β κ hg => by
 have hv := good_ev hg x
 rw [hx] at hv
 generalize hav : a.eval x = v at hv
 cases hv with
 | tup cs _ hl hd =>
  have ho : ix < cs.length := by rw [hl]; exact (List.getElem?_eq_some_iff.1 hz).1
  have hco : cs[ix]? = some cs[ix] := List.getElem?_eq_getElem ho
  exact ⟨cs[ix], hd _ _ _ hco hz, fun w' _ => by simp [execOp, hav, Instr.extract, ho]⟩
theorem y_mv {dd : Option Nat} {T : TypeId} {p : String} {af : Array Edge} {g : Option (Nat × Bool)} {x : Operand} {f : FuncId} {z : V} (hx : ev sl x = z) : Y E ⟨dd, .makeFunc (.func f) #[x] #[], T, p, af, g⟩ sl ob (.mv (.func f) [z]) := fun a w Pr β κ hg => by
 have hv := good_ev hg x
 rw [hx] at hv
 refine ⟨.func (.func f) #[a.eval x] #[], .mv _ [_] [_] rfl (fun i v d h1 h2 => ?_), fun w' _ => by simp [execOp, Instr.makeFunc]⟩
 match i with
 | 0 => cases h1; cases h2; exact hv
end
end
section
open Go.RowKit
theorem follows_mixed : Try.prog.follows .mixedOrders = true := by kernel_rfl
theorem Kept.trans {Pr Pr1 : Prot} {β : Nat → Value} {ob : Objs} {w0 w1 w2 : World} (h : Kept Pr β ob w0 w1) (h' : Kept Pr1 β ob w1 w2) (hp : ∀ b o, Pr b o → Pr1 b o) : Kept Pr β ob w0 w2 :=
 ⟨fun b o ho => (h'.stays b o (hp b o ho)).trans (h.stays b o ho), fun i o g h1 h2 => (h'.objs i o g h1 h2).trans (h.objs i o g h1 h2), Nat.le_trans h.size h'.size⟩
def Then (β : Nat → Value) (κ : Nat → Nat) (β1 : Nat → Value) (κ1 : Nat → Nat) : Prop := ∀ i, (β1 i = β i ∧ κ1 i = κ i) ∨ (κ i < κ1 i ∧ ∃ A n c, β i = .slice A n c)
theorem Then.refl (β : Nat → Value) (κ : Nat → Nat) : Then β κ β κ := fun _ => .inl ⟨rfl, rfl⟩
theorem Then.trans {β β1 β2 : Nat → Value} {κ κ1 κ2 : Nat → Nat} (h : Then β κ β1 κ1) (h' : Then β1 κ1 β2 κ2) : Then β κ β2 κ2 := fun i => by
 rcases h i with ⟨k1, k2⟩ | ⟨k1, k2⟩
 ·rcases h' i with ⟨q1, q2⟩ | ⟨q1, q2⟩
  ·exact .inl ⟨q1.trans k1, q2.trans k2⟩
  ·exact .inr ⟨by omega, by rw [← k1]; exact q2⟩
 ·rcases h' i with ⟨q1, q2⟩ | ⟨q1, q2⟩
  ·exact .inr ⟨by omega, k2⟩
  ·exact .inr ⟨by omega, k2⟩
structure Now (ob0 ob : Objs) (w0 w : World) (Pr Pr1 : Prot) (β β1 : Nat → Value) (κ κ1 : Nat → Nat) : Prop where
 kept : Kept Pr β ob0 w0 w
 pr : ∀ b o, Pr b o → Pr1 b o
 then_ : Then β κ β1 κ1
 sub : ∀ i o, find ob0 i = some o → find ob i = some o ∧ β1 i = β i
structure AM (E : Entry) (ops : List Oper) (tail : (World → Prop) → Act → World → Prop) (Q : Exit → Act → World → Prop) (pl : List (Nat × Bool × Oper)) (sl0 : Slots) (ob0 : Objs) (sl : Slots) (ob : Objs) : Prop where
 run : ∀ a w0 w Pr Pr1 β β1 κ κ1, Good E sl0 ob0 a w0 Pr β κ → Good E sl ob a w Pr1 β1 κ1 → Now ob0 ob w0 w Pr Pr1 β β1 κ κ1 →
  wpMix Try.prog ops.toArray (Kept Pr β ob0 w0) Q (tail (Kept Pr β ob0 w0)) pl a w
def lastR (ops : List Oper) (tail : List Oper) (Q : Exit → Act → World → Prop) : (World → Prop) → Act → World → Prop := fun _ => wpList Try.prog ops.toArray Q tail
mutual
def D.plain : D → Bool
 | .val _ => true
 | .agg l => D.plainL l
 | .tup l => D.plainL l
 | .list .. => false
 | .err => false
 | .ifc .. => false
def D.plainL : List D → Bool
 | [] => true
 | x :: l => match x.plain with | true => D.plainL l | false => false
end
def flat : D → V
 | .val v => .d (.val v)
 | .agg l => match D.plainL l with | true => .d (.agg l) | false => .und
 | .tup l => match D.plainL l with | true => .d (.tup l) | false => .und
 | _ => .und
theorem plainL_mem : ∀ {l : List D} {i : Nat} {d : D}, D.plainL l = true → l[i]? = some d → d.plain = true
 | [], i, d, _, h => by simp at h
 | x :: l, 0, d, h, h2 => by
  simp at h2
  subst h2
  simp only [D.plainL] at h
  cases hx : x.plain with
  | true => rfl
  | false => rw [hx] at h; cases h
 | x :: l, i + 1, d, h, h2 => by
  simp only [D.plainL] at h
  cases hx : x.plain with
  | true => rw [hx] at h; exact plainL_mem h (by simpa using h2)
  | false => rw [hx] at h; cases h
theorem rep_plain {w w' : World} {Pr Pr' : Prot} {v : Value} {d : D} (h : RepD w Pr v d) (hp : d.plain = true) : RepD w' Pr' v d := by
 induction h with
 | val v => exact .val v
 | nil A c s hm => cases hp
 | list b o n c s l u hn hss hc hm hr hd ih => cases hp
 | agg cs l hl hd ih => exact .agg cs l hl (fun i v d h1 h2 => ih i v d h1 h2 (plainL_mem hp h2))
 | tup cs l hl hd ih => exact .tup cs l hl (fun i v d h1 h2 => ih i v d h1 h2 (plainL_mem hp h2))
 | err t u => cases hp
 | ifc t u x h ih => cases hp
theorem rep_flat {w w' : World} {Pr Pr' : Prot} {β : Nat → Value} {κ : Nat → Nat} {v : Value} {d : D} (h : RepD w Pr v d) : RepV w' Pr' β κ v (flat d) := by
 cases d with
 | val u => cases h; exact .d _ _ (.val _)
 | list s l => exact .und _
 | err => exact .und _
 | ifc t x => exact .und _
 | agg l =>
  simp only [flat]
  cases hp : D.plainL l with
  | true => exact .d _ _ (rep_plain h hp)
  | false => exact .und _
 | tup l =>
  simp only [flat]
  cases hp : D.plainL l with
  | true => exact .d _ _ (rep_plain h hp)
  | false => exact .und _
section
variable {E : Entry} {sl sl0 : Slots} {ob ob0 : Objs} {ops : List Oper} {tail : (World → Prop) → Act → World → Prop} {pl : List (Nat × Bool × Oper)} {Q : Exit → Act → World → Prop} {i : Nat}
variable {d : Nat} {op : Op} {ty : TypeId} {p : String} {af : Array Edge} {dst : Option Nat}
def Want (ops : List Oper) (sl : Slots) (yes : Bool) : Option (Nat × Bool) → Prop
 | none => yes = true
 | some (j, want) => ∃ t, (ops.toArray[j]?).bind (·.dst) = some t ∧ ((∃ b, look sl t = .d (.val (.bool b)) ∧ (b == want) = yes) ∨ (yes = false ∧ look sl t = .d (.val undef)))
theorem want_none : Want ops sl true none := rfl
theorem want_yes {j t : Nat} {want b : Bool} (hj : (ops.toArray[j]?).bind (·.dst) = some t) (hb : look sl t = .d (.val (.bool b))) (hw : b = want) : Want ops sl true (some (j, want)) := ⟨t, hj, .inl ⟨b, hb, by simp [hw]⟩⟩
theorem want_no_t {j t : Nat} {b : Bool} (hj : (ops.toArray[j]?).bind (·.dst) = some t) (hb : look sl t = .d (.val (.bool b))) (hw : b = false) : Want ops sl false (some (j, true)) := ⟨t, hj, .inl ⟨b, hb, by simp [hw]⟩⟩
theorem want_no_f {j t : Nat} {b : Bool} (hj : (ops.toArray[j]?).bind (·.dst) = some t) (hb : look sl t = .d (.val (.bool b))) (hw : b = true) : Want ops sl false (some (j, false)) := ⟨t, hj, .inl ⟨b, hb, by simp [hw]⟩⟩
theorem want_no_u {j t : Nat} {want : Bool} (hj : (ops.toArray[j]?).bind (·.dst) = some t) (hb : look sl t = .d (.val undef)) : Want ops sl false (some (j, want)) := ⟨t, hj, .inr ⟨rfl, hb⟩⟩
variable {g : Option (Nat × Bool)}
theorem Want.is {a : Act} {w : World} {Pr : Prot} {β : Nat → Value} {κ : Nat → Nat} {yes : Bool} (h : Want ops sl yes g) (hi : Good E sl ob a w Pr β κ) : Region.wanted ⟨dst, op, ty, p, af, g⟩ (yielded ops.toArray a.tmps) = yes := by
 cases g with
 | none => simp only [Want] at h; simp [Region.wanted, h]
 | some q =>
  obtain ⟨j, want⟩ := q
  obtain ⟨t, hj, ⟨b, hb, hw⟩ | ⟨rfl, hb⟩⟩ := h
  rotate_left
  ·have hs := hi.slots t
   rw [hb] at hs
   exact unwanted_u hj hs.val_inv
  rw [← hw]
  exact wanted_of (ops := ops.toArray) (o := ⟨dst, op, ty, p, af, some (j, want)⟩) ⟨Pr, β, κ, hi⟩ rfl hj hb
theorem Now.rep {w0 w : World} {Pr Pr1 : Prot} {β β1 : Nat → Value} {κ κ1 : Nat → Nat} (hn : Now ob0 ob w0 w Pr Pr1 β β1 κ κ1) {v : Value} {x : V} (h : RepV w0 Pr β κ v x) : RepV w Pr1 β1 κ1 v x := (h.keep hn.kept.stays hn.pr).chg (fun i _ => hn.then_ i)
theorem am_y {x : V} (hw : Want ops sl true g) (h : Y E ⟨some d, op, ty, p, af, g⟩ sl0 ob0 x) (hd : d < E.n) (hK : AM E ops tail Q pl ((d, x) :: sl0) ob0 ((d, x) :: sl) ob) : AM E ops tail Q ((i, true, ⟨some d, op, ty, p, af, g⟩) :: pl) sl0 ob0 sl ob :=
 ⟨fun a w0 w Pr Pr1 β β1 κ κ1 h0 h1 hn => by
  obtain ⟨v, hv, hr⟩ := h a w0 Pr β κ h0
  exact mix_take (hw.is h1) ⟨v, hr, hK.run _ w0 w Pr Pr1 β β1 κ κ1 (h0.put hd hv) (h1.put hd (hn.rep hv)) hn⟩⟩
theorem am_y' {x : V} (hw : Want ops sl true g) (h : Y E ⟨some d, op, ty, p, af, g⟩ sl0 ob0 x) (hd : d < E.n) (hK : AM E ops tail Q pl ((d, x) :: sl0) ob0 ((d, x) :: sl) ob) : AM E ops tail Q ((i, false, ⟨some d, op, ty, p, af, g⟩) :: pl) sl0 ob0 sl ob :=
 ⟨fun a w0 w Pr Pr1 β β1 κ κ1 h0 h1 hn => by
  obtain ⟨v, hv, hr⟩ := h a w0 Pr β κ h0
  refine mix_move (hw.is h1) (fun K hKK => ?_)
  unfold Oper.wp
  rw [hr w hn.kept, Oper.upon_value]
  exact hKK.out _ _ hn.kept fun _ => hK.run _ w0 w Pr Pr1 β β1 κ κ1 (h0.put hd hv) (h1.put hd (hn.rep hv)) hn⟩
theorem am_skip (hw : Want ops sl false g) (hd : d < E.n) (hK : AM E ops tail Q pl ((d, .d (.val undef)) :: sl0) ob0 ((d, .d (.val undef)) :: sl) ob) : AM E ops tail Q ((i, true, ⟨some d, op, ty, p, af, g⟩) :: pl) sl0 ob0 sl ob :=
 ⟨fun _ w0 w Pr Pr1 β β1 κ κ1 h0 h1 hn => mix_skip (hw.is h1) (hK.run _ w0 w Pr Pr1 β β1 κ κ1 (h0.put hd (.d _ _ (.val _))) (h1.put hd (.d _ _ (.val _))) hn)⟩
theorem am_skip' (hw : Want ops sl false g) (hd : d < E.n) (hK : AM E ops tail Q pl ((d, .d (.val undef)) :: sl0) ob0 ((d, .d (.val undef)) :: sl) ob) : AM E ops tail Q ((i, false, ⟨some d, op, ty, p, af, g⟩) :: pl) sl0 ob0 sl ob :=
 ⟨fun _ w0 w Pr Pr1 β β1 κ κ1 h0 h1 hn => mix_pass hn.kept (hw.is h1) (hK.run _ w0 w Pr Pr1 β β1 κ κ1 (h0.put hd (.d _ _ (.val _))) (h1.put hd (.d _ _ (.val _))) hn)⟩
theorem am_split {s : Bool} {j t : Nat} {want b : Bool} (hj : (ops.toArray[j]?).bind (·.dst) = some t) (hb : look sl t = .d (.val (.bool b)))
  (h1 : b = true → AM E ops tail Q ((i, s, ⟨dst, op, ty, p, af, some (j, want)⟩) :: pl) sl0 ob0 sl ob) (h2 : b = false → AM E ops tail Q ((i, s, ⟨dst, op, ty, p, af, some (j, want)⟩) :: pl) sl0 ob0 sl ob) :
  AM E ops tail Q ((i, s, ⟨dst, op, ty, p, af, some (j, want)⟩) :: pl) sl0 ob0 sl ob := by
 have _ := hj
 have _ := hb
 cases b
 ·exact h2 rfl
 ·exact h1 rfl
theorem Now.grow {a : Act} {w0 w w' : World} {Pr Pr1 Pr2 : Prot} {β β1 : Nat → Value} {κ κ1 : Nat → Nat} (hn : Now ob0 ob w0 w Pr Pr1 β β1 κ κ1) (h1 : Good E sl ob a w Pr1 β1 κ1) (hx : Below w.heap.size w w') (hp : ∀ b o, Pr1 b o → Pr2 b o) : Now ob0 ob w0 w' Pr Pr2 β β1 κ κ1 :=
 ⟨hn.kept.trans (Pr1 := Pr1) ⟨stays_below h1 hx, fun i o g h3 h4 => hx.block g ((h1.objs i o (hn.sub i o h3).1).blkLt g (by rw [(hn.sub i o h3).2]; exact h4)).2, hx.size⟩ hn.pr, fun b o ho => hp b o (hn.pr b o ho), hn.then_, hn.sub⟩
theorem am_call {f : FuncId} {ds : List D} {Post : D → Prop} {c : Operand} {xs : List Operand} {ats : Array TypeId} (hc : PureC f ds Post) (hw : Want ops sl true g) (hf : ev sl c = .d (.val (.func (.func f) #[] #[]))) (hE : Fine E) (hd : d < E.n) (ha : ArgsD sl ob xs ds)
  (hK : ∀ r, Post r → AM E ops tail Q pl ((d, flat r) :: sl0) ob0 ((d, .d r) :: sl) ob) : AM E ops tail Q ((i, false, ⟨some d, .call { callee := .value c, args := xs.toArray, argTypes := ats }, ty, p, af, g⟩) :: pl) sl0 ob0 sl ob := by
 refine ⟨fun a w0 w Pr Pr1 β β1 κ κ1 h0 h1 hn => ?_⟩
 refine mix_move (hw.is h1) (fun K hKK => ?_)
 obtain ⟨hl, hr⟩ := ha.rep h1
 have hcall := hc.2 w Pr1 (xs.map a.eval) h1.prl (env_now hE h1) hl hr
 have hrun : (execOp a.eval ⟨some d, .call { callee := .value c, args := xs.toArray, argTypes := ats }, ty, p, af, g⟩).run Try.prog w = .ok (.enter f (xs.map a.eval).toArray) w := by
  simp [execOp, resolve, Deferred.ofValue, invoke, good_val h1 hf, run_callFunc hc.1]
 unfold Oper.wp
 rw [hrun, Oper.upon_enter]
 refine hcall.mono fun e w' ⟨v, r, he, hpo, hrep, hb⟩ => ?_
 subst he
 have hn2 := hn.grow (Pr2 := PrNew Pr1 w w') h1 hb (fun _ _ h => .inl h)
 refine hKK.out _ _ hn2.kept fun _ => (hK r hpo).run _ w0 w' Pr _ β β1 κ κ1 (h0.put hd ?_) (h1.called hb hrep hd) hn2
 exact rep_flat hrep
theorem am_lit {t : TypeId} {parts : List (Nat × Operand)} {dp : List (Nat × D)} {l : List D} {l2 : List (List D)} {e es eb n : Nat} {ez : Value} (hw : Want ops sl true g) (hT : ti t = .sl e es eb ez) (hp : PartsD sl ob parts dp) (hl : dfill (fun i => some (i * es, es)) (zerosD es n ez) dp = some l) (hc2 : chunk es n l = l2) (hn : n * es ≤ 1000) (hn2 : n ≤ 1000) (hd : d < E.n)
  (hK : AM E ops tail Q pl ((d, .und) :: sl0) ob0 ((d, .d (.list es l2)) :: sl) ob) : AM E ops tail Q ((i, false, ⟨some d, .buildSlice t n parts.toArray, ty, p, af, g⟩) :: pl) sl0 ob0 sl ob := by
 refine ⟨fun a w0 w Pr Pr1 β β1 κ κ1 h0 h1 hn0 => ?_⟩
 refine mix_move (hw.is h1) (fun K hKK => ?_)
 obtain ⟨v, w', hrun, hx, hr⟩ := lit_now (d := d) (T := ty) (p := p) (af := af) (g := g) h1 hT hp hl hc2 hn hn2
 unfold Oper.wp
 rw [hrun, Oper.upon_value]
 have hn2 := hn0.grow (Pr2 := PrNew Pr1 w w') h1 hx (fun _ _ h => .inl h)
 exact hKK.out _ _ hn2.kept fun _ => hK.run _ w0 w' Pr _ β β1 κ κ1 (h0.put hd (.und _)) ((h1.grow hx (Pr' := PrNew Pr1 w w') (fun _ _ h => .inl h) (fun _ _ h => h)).put hd (.d _ _ hr)) hn2
theorem am_lit1 {t : TypeId} {x : Operand} {z : D} {c : List D} {e es eb : Nat} {ez : Value} (hw : Want ops sl true g) (hT : ti t = .sl e es eb ez) (hx : ToD ob (ev sl x) z) (hc : cellsD z = c) (hl : c.length = es) (hes : es ≤ 1000) (hd : d < E.n)
  (hK : AM E ops tail Q pl ((d, .und) :: sl0) ob0 ((d, .d (.list es [c])) :: sl) ob) : AM E ops tail Q ((i, false, ⟨some d, .buildSlice t 1 #[(0, x)], ty, p, af, g⟩) :: pl) sl0 ob0 sl ob := by
 subst hc
 have h0 : (zerosD es 1 ez).length = es := by simp [zerosD]
 have hp : PartsD sl ob [(0, x)] [(0, z)] := .cons hx .nil
 refine am_lit (l := cellsD z) hw hT hp ?_ (by simp [chunk, hl, List.take_of_length_le]) (by omega) (by omega) hd hK
 have h2 : putD (zerosD es 1 ez) 0 (cellsD z) = cellsD z := by
  simp only [putD, List.take_zero, List.nil_append, Nat.zero_add]
  rw [List.drop_of_length_le (by omega), List.append_nil]
 simp only [dfill, Nat.zero_mul, h2]
 rw [if_pos ⟨hl, by omega⟩]
def flatV : V → V
 | .d x => flat x
 | _ => .und
theorem find_new {l : List (Nat × Nat)} {ob1 ob' : Objs} {i : Nat} {o : O} (hl : okRen l = true) (hk : ∀ i ∈ keys ob', i ∈ l.map (·.1)) (h1 : ∀ k ∈ keys ob', rn l k ≠ i) (h2 : i ∉ (keys ob1).map (rn l)) (h : find ob i = some o) : find (renO l ob' ++ dropK ((keys ob1).map (rn l)) ob) i = some o := by
 have e1 : ∀ r : Objs, (∀ k ∈ keys r, rn l k ≠ i) → find (renO l r ++ dropK ((keys ob1).map (rn l)) ob) i = find (dropK ((keys ob1).map (rn l)) ob) i := by
  intro r
  induction r with
  | nil => intro _; rfl
  | cons p r ih =>
   obtain ⟨j, x⟩ := p
   intro hr
   simp only [renO, List.cons_append]
   rw [find_ne (fun e => hr j (by simp [keys]) e.symm)]
   exact ih (fun k hk => hr k (List.mem_cons_of_mem _ hk))
 rw [e1 ob' h1]
 clear e1
 induction ob with
 | nil => cases h
 | cons p r ih =>
  obtain ⟨j, x⟩ := p
  simp only [dropK]
  by_cases hij : i = j
  ·subst hij
   have hm : mem ((keys ob1).map (rn l)) i = false := by
    cases hm : mem ((keys ob1).map (rn l)) i with
    | false => rfl
    | true => exact absurd (mem_iff.1 hm) h2
   rw [hm]
   simp only [cond_false]
   rw [find_eq] at h ⊢
   exact h
  ·rw [find_ne hij] at h
   cases hm : mem ((keys ob1).map (rn l)) j with
   | true => exact ih h
   | false =>
    simp only [cond_false]
    rw [find_ne hij]
    exact ih h
theorem am_nil {tl : List Oper} (h : AL E ops.toArray tl Q sl ob) : AM E ops (lastR ops tl Q) Q [] sl0 ob0 sl ob := ⟨fun _ _ _ _ _ _ β κ _ _ h1 _ => mix_nil (h.run _ _ ⟨_, _, _, h1⟩)⟩
theorem aw_mixo {id : Nat} (ob0 : Objs) (plan : List (Nat × Bool)) (tail : List Nat) (hs : Region.noSelect ops.toArray = true) (hw : waitsAll ops.toArray tail = true) (hok : mixOk ops.toArray tail plan (Array.replicate ops.length false) = true) (hlen : plan.length + tail.length ≤ ops.length)
  (ho : ∀ p ∈ ob0, find ob p.1 = some p.2) (h : AM E ops (lastR ops (tailed ops tail) (NoPanic Q)) (NoPanic Q) (planned ops plan) sl ob0 sl ob) : AW E (.region id ops.toArray true) Q sl ob := by
 refine ⟨fun a w hi => ?_⟩
 obtain ⟨Pr, β, κ, hg⟩ := hi
 have hg2 : Good E sl ob a w.drew Pr β κ := hg.grow (Below.refl _ _).drew (fun _ _ h => h) (fun _ _ h => .inl h)
 have hf : ∀ i x, find ob0 i = some x → find ob i = some x := by
  have : ∀ (r : Objs), (∀ p ∈ r, find ob p.1 = some p.2) → ∀ j x, find r j = some x → find ob j = some x := by
   intro r
   induction r with
   | nil => intro _ j x h; cases h
   | cons p r ih =>
    obtain ⟨k, y⟩ := p
    intro hr j x hj
    by_cases hjk : j = k
    ·subst hjk
     rw [find_eq] at hj
     cases hj
     exact hr (j, y) (by simp)
    ·rw [find_ne hjk] at hj
     exact ih (fun p hp => hr p (by simp [hp])) j x hj
  exact this _ ho
 have hg3 : Good E sl ob0 a w.drew Pr β κ := ⟨hg2.below, hg2.st0, hg2.pr0, hg2.prn, hg2.prl, hg2.size, hg2.defers, hg2.slots, fun i o hi => hg2.objs i o (hf i o hi), fun i j oi oj g h1 h2 => hg2.apart i j oi oj g (hf i oi h1) (hf j oj h2), fun i o g h1 => hg2.own i o g (hf i o h1), hg2.keeps, hg2.fresh⟩
 exact wp_region_mix plan tail (Kept Pr β ob0 w.drew) follows_mixed hs hw hok hlen (Kept.refl _ _ _ _) (fun _ => h.run a w.drew w.drew Pr Pr β β κ κ hg3 hg2 ⟨Kept.refl _ _ _ _, fun _ _ h => h, .refl _ _, fun i o h => ⟨hf i o h, rfl⟩⟩)
end
section
variable {E : Entry} {sl : Slots} {ob : Objs} {Q : Exit → Act → World → Prop} {y : Code} {K : Act → World → Prop}
theorem aq_np (h : AQ E .normal Q sl ob) : AQ E .normal (NoPanic Q) sl ob := ⟨fun a w hi => NoPanic.normal (h.run a w hi)⟩
theorem at_am {ops : List Oper} {tail : (World → Prop) → Act → World → Prop} {pl : List (Nat × Bool × Oper)} {i : Nat} {s : Bool} {sl0 : Slots} {ob0 : Objs} (op : Op) {d : Option Nat} {t : TypeId} {p : String} {af : Array Edge} {g : Option (Nat × Bool)} (h : AM E ops tail Q ((i, s, ⟨d, op, t, p, af, g⟩) :: pl) sl0 ob0 sl ob) : AM E ops tail Q ((i, s, ⟨d, op, t, p, af, g⟩) :: pl) sl0 ob0 sl ob := h
end
end
section
open Go.RowKit
def bytesD (s : ByteArray) : List (List D) := s.data.toList.map fun c => [.val (.int .u8 c.toNat)]
section
variable {P : Program} (w : World)
end
section
variable {E : Entry} {sl : Slots} {ob : Objs} {a : Act} {w : World} {Pr : Prot} {β : Nat → Value} {κ : Nat → Nat}
variable {d : Nat} {t u T ty : TypeId} {p : String} {af : Array Edge} {g : Option (Nat × Bool)} {x y c : Operand}
theorem Good.adoptb (h : Good E sl ob a w Pr β κ) {i j r e s : Nat} {T : TypeId} {l : List V} (hf : find ob i = some (.box T l)) (hx : l[j]? = some (.d (.val (.slice none 0 0)))) (hno : noneOf r sl ob = true) (hr : r < E.n) (hir : i ≠ r) : Inv E sl ((i, .box T (l.set j (.row r 0))) :: (r, .row e s 0 []) :: ob) a w := by
 let β' : Nat → Value := fun i => if i = r then .slice none 0 0 else β i
 let κ' : Nat → Nat := fun i => if i = r then 0 else κ i
 have e1 : β' r = .slice none 0 0 := by simp [β']
 have e2 : κ' r = 0 := by simp [κ']
 have e3 : ∀ j, j ≠ r → β' j = β j := fun j hj => by simp [β', hj]
 have e4 : ∀ j, j ≠ r → κ' j = κ j := fun j hj => by simp [κ', hj]
 have hfr : ∀ i o, find E.ob0 i = some o → i ≠ r := fun i o hi e => by have := h.fresh i o hi; omega
 have hcase : ∀ m om, find ((i, .box T (l.set j (.row r 0))) :: (r, .row e s 0 []) :: ob) m = some om → (m = i ∧ om = .box T (l.set j (.row r 0))) ∨ (m = r ∧ om = .row e s 0 []) ∨ (m ≠ i ∧ m ≠ r ∧ find ob m = some om) := by
  intro m om hm
  by_cases hmi : m = i
  ·subst hmi
   rw [find_eq] at hm
   cases hm
   exact .inl ⟨rfl, rfl⟩
  ·rw [find_ne hmi] at hm
   by_cases hmr : m = r
   ·subst hmr
    rw [find_eq] at hm
    cases hm
    exact .inr (.inl ⟨rfl, rfl⟩)
   ·rw [find_ne hmr] at hm
    exact .inr (.inr ⟨hmi, hmr, hm⟩)
 have hblk : ∀ m om g, find ((i, .box T (l.set j (.row r 0))) :: (r, .row e s 0 []) :: ob) m = some om → blk (β' m) = some g → m ≠ r ∧ blk (β m) = some g ∧ ∃ om', find ob m = some om' := by
  intro m om g hm hg
  rcases hcase m om hm with ⟨rfl, _⟩ | ⟨rfl, _⟩ | ⟨_, h2, h3⟩
  ·rw [e3 _ hir] at hg; exact ⟨hir, hg, _, hf⟩
  ·rw [e1] at hg; simp [blk] at hg
  ·rw [e3 _ h2] at hg; exact ⟨h2, hg, _, h3⟩
 refine ⟨Pr, β', κ', h.below, h.st0, h.pr0, h.prn, h.prl, h.size, h.defers, fun m => (h.slots m).other (noneOf_slot hno m) e3 e4, fun m om hm => ?_, fun m k om ok g hm hk hgm hgk => ?_, fun m om g hm hg => ?_, fun m o hm => ?_, h.fresh⟩
 ·rcases hcase m om hm with ⟨rfl, rfl⟩ | ⟨rfl, rfl⟩ | ⟨_, h2, h3⟩
  ·obtain ⟨g, cs, q1, q2, q3, q4, q5, q6⟩ := h.objs m _ hf
   refine ⟨g, cs, (e3 m hir).trans q1, q2, q3, by simp [q4], fun n v z hn hz => ?_, q6⟩
   by_cases hnj : n = j
   ·subst hnj
    have hv := q5 n v _ hn hx
    have hlt := (List.getElem?_eq_some_iff.1 hx).1
    rw [List.getElem?_set_self hlt] at hz
    cases hz
    have hv2 := hv.val_inv
    exact .row r 0 _ ⟨none, 0, 0, hv2⟩ (Nat.zero_le _) (fun _ => by rw [hv2, e1])
   ·rw [List.getElem?_set_ne (Ne.symm hnj)] at hz
    exact (q5 n v z hn hz).other (hasL_mem (noneOf_obj hno hf) hz) e3 e4
  ·refine ⟨e2, [], ?_, by simp, fun p j x d h1 => by simp at h1, fun g hg => ?_⟩
   ·rw [e1]; exact World.ownsRow_nil _ _ _ _
   ·rw [e1] at hg; simp [Value.ownBlock] at hg
  ·exact (h.objs m om h3).other (noneOf_obj hno h3) h2 e3 e4
 ·obtain ⟨_, k1, om', k2⟩ := hblk m om g hm hgm
  obtain ⟨_, k3, ok', k4⟩ := hblk k ok g hk hgk
  exact h.apart m k om' ok' g k2 k4 k1 k3
 ·obtain ⟨_, k1, om', k2⟩ := hblk m om g hm hg
  exact h.own m om' g k2 k1
 ·rw [e3 m (hfr m o hm), e4 m (hfr m o hm)]
  exact h.keeps m o hm
theorem aw_adoptb {z : Code} {Q : Exit → Act → World → Prop} (i j r e s : Nat) {T : TypeId} {l l' : List V} (hf : find ob i = some (.box T l)) (hx : l[j]? = some (.d (.val (.slice none 0 0)))) (hno : noneOf r sl ob = true) (hr : r < E.n) (hir : Nat.beq i r = false) (hl : l.set j (.row r 0) = l')
  (h : AW E z Q sl ((i, .box T l') :: (r, .row e s 0 []) :: ob)) : AW E z Q sl ob := by
 subst hl
 refine ⟨fun a w hi => ?_⟩
 obtain ⟨Pr, β, κ, hg⟩ := hi
 exact h.run a w (hg.adoptb hf hx hno hr (fun e => by rw [e, Nat.beq_refl] at hir; cases hir))
end
end
end Go.Proofs.Ytgiacdhffklenaa
