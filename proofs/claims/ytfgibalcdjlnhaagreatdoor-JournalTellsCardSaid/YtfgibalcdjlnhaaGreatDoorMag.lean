/-
  A statement that leaves its order open, in which more than one operation that turns memory may come first: a walk along a tree: it forks there. Conditions: the tree is checked by a Bool.
  Statements that leave their order open, in which more than one operation that turns memory may come first, over abstract states: a tree of walks that all end in one state. Conditions: the tree is checked by a Bool.
-/
import Derived.Test.YtfgibalcdjlnhaaGreatDoorMaf
section
namespace Go.Proofs.YtfgibalcdjlnhaaGreatDoor
open Go.RowKit

inductive Tree where
  | tail | stop
  | free (i : Nat) (t : Tree)
  | only (i : Nat) (t : Tree)
  | fork (u : Tree)
  | alt (i : Nat) (t u : Tree)
def Tree.heads : Tree → List Nat
  | .alt i _ u => i :: u.heads
  | _ => []
def Tree.isAlt : Tree → Bool
  | .alt .. | .stop => true
  | _ => false
def Tree.height : Tree → Nat
  | .free _ t | .only _ t => t.height + 1
  | .fork u => u.height
  | .alt _ t u => max (t.height + 1) u.height
  | _ => 0
def treeOk (ops : Array Oper) (tail : List Nat) : Tree → Array Bool → Bool
  | .tail, listed => tailOk ops tail tail listed
  | .stop, _ => true
  | .free i t, listed => !tail.contains i && (Region.ready .any ops listed).contains i && Region.free .any ops listed i && !t.isAlt && treeOk ops tail t (listed.setIfInBounds i true)
  | .only i t, listed => !tail.contains i && (Region.ready .any ops listed == [i]) && !t.isAlt && treeOk ops tail t (listed.setIfInBounds i true)
  | .fork u, listed => u.isAlt && (Region.ready .any ops listed == u.heads) && !u.heads.isEmpty && treeOk ops tail u listed
  | .alt i t u, listed => !t.isAlt && u.isAlt && treeOk ops tail t (listed.setIfInBounds i true) && treeOk ops tail u listed

/-- The walk along a tree. -/
def wpTree (P : Program) (ops : List Oper) (S : World → Prop) (Q : Exit → Act → World → Prop) (R : Act → World → Prop) : Tree → Act → World → Prop
  | .tail, a, w => R a w
  | .stop, _, _ => True
  | .free i t, a, w => match ops[i]? with | none => False | some o => ∃ v, YieldsIf P ops.toArray S o v a ∧ wpTree P ops S Q R t (a.put o.dst v) w
  | .only i t, a, w => wpOp P ops.toArray Q i (fun a' w' => S w' ∧ (S w' → wpTree P ops S Q R t a' w')) a w
  | .fork u, a, w => wpTree P ops S Q R u a w
  | .alt i t u, a, w => wpOp P ops.toArray Q i (fun a' w' => S w' ∧ (S w' → wpTree P ops S Q R t a' w')) a w ∧ wpTree P ops S Q R u a w

section
variable {P : Program} {S : World → Prop} {Q : Exit → Act → World → Prop} {tail : List Nat}
theorem anyT_of_tree {ops : List Oper} (hs : Region.noSelect ops.toArray = true) (hw : waitsAll ops.toArray tail = true) (hQ : ∀ c a d v w, Q (.panic c) (Act.put a d v) w → Q (.panic c) a w) :
    ∀ (t : Tree) (fuel : Nat) (listed : Array Bool) (a : Act) (w : World), treeOk ops.toArray tail t listed = true → t.height + tail.length ≤ fuel → S w →
      wpTree P ops S Q (wpList P ops.toArray Q (tailed ops tail)) t a w →
      (t.isAlt = false → wpAnyT P ops.toArray Q S tail fuel listed a w) ∧
      (t.isAlt = true → ∀ f', fuel = f' + 1 → ∀ i ∈ t.heads, wpOp P ops.toArray Q i (fun a' w' => (i ∉ tail → S w') ∧ wpAnyT P ops.toArray Q S tail f' (listed.setIfInBounds i true) a' w') a w) := by
  intro t
  induction t with
  | tail => exact fun fuel listed a w hok hf _ h => ⟨fun _ => anyT_tail tail fuel listed a w hok (by simpa [Tree.height] using hf) (fun _ hi => hi) h, fun hc => (by cases hc)⟩
  | stop => exact fun fuel listed a w _ _ _ _ => ⟨fun hc => (by cases hc), fun _ f' _ i hi => by simp [Tree.heads] at hi⟩
  | free i t ih =>
    intro fuel listed a w hok hf hS h
    refine ⟨fun _ => ?_, fun hc => (by cases hc)⟩
    simp only [treeOk, Bool.and_eq_true, Bool.not_eq_true'] at hok
    obtain ⟨⟨⟨⟨ht, hr⟩, hk⟩, hna⟩, hok'⟩ := hok
    cases fuel with
    | zero => simp [Tree.height] at hf
    | succ fuel =>
      have hlen : t.height + tail.length ≤ fuel := by simp [Tree.height] at hf; omega
      have hri : i ∈ Region.ready .any ops.toArray listed := by simpa using hr
      obtain ⟨_, o, ho, _⟩ := mem_ready.1 hri
      have hl : ops[i]? = some o := by simpa using ho
      have hit : i ∉ tail := by simpa using ht
      simp only [wpTree, hl] at h
      obtain ⟨v, hy, h'⟩ := h
      exact anyT_take ho hs hw hit hQ fuel listed a w (Region.free_spec ho hk) hri hy hS ((ih fuel _ _ w hok' hlen hS h').1 hna)
  | only i t ih =>
    intro fuel listed a w hok hf hS h
    refine ⟨fun _ => ?_, fun hc => (by cases hc)⟩
    simp only [treeOk, Bool.and_eq_true, Bool.not_eq_true', beq_iff_eq] at hok
    obtain ⟨⟨⟨ht, he⟩, hna⟩, hok'⟩ := hok
    cases fuel with
    | zero => simp [Tree.height] at hf
    | succ fuel =>
      have hlen : t.height + tail.length ≤ fuel := by simp [Tree.height] at hf; omega
      exact anyT_only he (wpOp_mono (fun a' w' ⟨hS', hW⟩ => ⟨fun _ => hS', (ih fuel _ a' w' hok' hlen hS' (hW hS')).1 hna⟩) h)
  | fork u ih =>
    intro fuel listed a w hok hf hS h
    refine ⟨fun _ => ?_, fun hc => (by cases hc)⟩
    simp only [treeOk, Bool.and_eq_true, Bool.not_eq_true', beq_iff_eq] at hok
    obtain ⟨⟨⟨hna, he⟩, hem⟩, hok'⟩ := hok
    have hne : u.heads ≠ [] := by intro e; rw [e] at hem; simp at hem
    cases fuel with
    | zero =>
      exfalso
      simp only [Tree.height] at hf
      cases u with
      | alt i t u => simp [Tree.height] at hf
      | stop => exact hne rfl
      | _ => cases hna
    | succ fuel =>
      have hall := (ih (fuel + 1) listed a w hok' hf hS h).2 hna fuel rfl
      refine ⟨fun h0 => ?_, fun i hi => hall i (by rw [← he]; exact hi)⟩
      rw [he] at h0
      exact absurd h0 hne
  | alt i t u iht ihu =>
    intro fuel listed a w hok hf hS h
    refine ⟨fun hc => (by cases hc), fun _ f' hf' j hj => ?_⟩
    simp only [treeOk, Bool.and_eq_true, Bool.not_eq_true'] at hok
    obtain ⟨⟨⟨hna, hua⟩, hok'⟩, hoku⟩ := hok
    simp only [Tree.height] at hf
    simp only [Tree.heads, List.mem_cons] at hj
    rcases hj with rfl | hj
    · exact wpOp_mono (fun a' w' ⟨hS', hW⟩ => ⟨fun _ => hS', (iht f' _ a' w' hok' (by omega) hS' (hW hS')).1 hna⟩) h.1
    · exact (ihu fuel listed a w hoku (by omega) hS h.2).2 hua f' hf' j hj

/-- The beginning. -/
theorem wp_region_tree {id : Nat} {ops : List Oper} {a : Act} {w : World} (t : Tree) (tail : List Nat) (S : World → Prop) (hm : P.follows .mixedOrders = true) (hs : Region.noSelect ops.toArray = true)
    (hw : waitsAll ops.toArray tail = true) (hok : treeOk ops.toArray tail t (Array.replicate ops.length false) = true) (hna : t.isAlt = false) (hlen : t.height + tail.length ≤ ops.length) (hS : S w.drew)
    (h : S w.drew → wpTree P ops S (NoPanic Q) (wpList P ops.toArray (NoPanic Q) (tailed ops tail)) t a w.drew) : (Code.region id ops.toArray true).wp P Q a w := by
  refine wp_region_noPanic ?_
  refine wp_region_any hm (any_of_anyT (S := S) (tail := tail) _ _ _ _ ?_)
  have := (anyT_of_tree (P := P) (S := S) (Q := NoPanic Q) hs hw (fun _ _ _ _ _ h => h) t ops.length (Array.replicate ops.length false) a w.drew hok hlen hS (h hS)).1 hna
  simpa using this

variable {R : Act → World → Prop}
variable {ops : List Oper} {a : Act} {w : World} {i : Nat} {o : Oper} {t u : Tree}
end

/-- What has turned lies at or beyond base. -/
theorem SB.turned {base B : Nat} {we w0 w1 w2 : World} {row : Option Nat} (h : SB base we B row w0 w1) (hx : Below base w1 w2) (hB : B ≤ base) : SB base we B row w0 w2 :=
  ⟨fun b o hb hr => ((bcell hx).1 b o (Nat.lt_of_lt_of_le hb hB)).trans (h.cell b o hb hr), fun b o hb hr => ((bcell hx).2 b o (Nat.lt_of_lt_of_le hb hB)).trans (h.frozen b o hb hr), Nat.le_trans h.size hx.size, h.below.trans hx⟩
end Go.Proofs.YtfgibalcdjlnhaaGreatDoor
end
section
namespace Go.Proofs.YtfgibalcdjlnhaaGreatDoor
open Go.RowKit

section
variable {E : Entry} {sl sl0 sl' : Slots} {ob ob0 ob' : Objs} {ops : List Oper} {pl : List (Nat × Bool × Oper)} {Q : Exit → Act → World → Prop} {i : Nat}
/-- the rest is a tree -/
def treeR (ops : List Oper) (tl : List Oper) (Q : Exit → Act → World → Prop) (t : Tree) : (World → Prop) → Act → World → Prop := fun S => wpTree Tryz.prog ops S (NoPanic Q) (wpList Tryz.prog ops.toArray (NoPanic Q) tl) t
variable {tl : List Oper} {t u : Tree} {o : Oper}
theorem am_free (ho : ops[i]? = some o) (h : AM E ops (treeR ops tl Q t) Q [(i, true, o)] sl0 ob0 sl ob) : AM E ops (treeR ops tl Q (.free i t)) Q [] sl0 ob0 sl ob := ⟨fun a w0 w Pr Pr1 β β1 κ κ1 h0 h1 hn => by
  have := h.run a w0 w Pr Pr1 β β1 κ κ1 h0 h1 hn
  simp only [wpMix] at this ⊢
  obtain ⟨v, hv, hr⟩ := this (by simpa using ho)
  simp only [treeR, wpTree, ho]
  exact ⟨v, hv, hr⟩⟩
theorem am_only (ho : ops[i]? = some o) (h : AM E ops (treeR ops tl Q t) Q [(i, false, o)] sl0 ob0 sl ob) : AM E ops (treeR ops tl Q (.only i t)) Q [] sl0 ob0 sl ob := ⟨fun a w0 w Pr Pr1 β β1 κ κ1 h0 h1 hn => by
  have := h.run a w0 w Pr Pr1 β β1 κ κ1 h0 h1 hn
  simp only [wpMix] at this ⊢
  exact this (by simpa using ho)⟩
theorem am_fork (h : AM E ops (treeR ops tl Q u) Q [] sl0 ob0 sl ob) : AM E ops (treeR ops tl Q (.fork u)) Q [] sl0 ob0 sl ob := ⟨h.run⟩
theorem am_alt (h : AM E ops (treeR ops tl Q (.only i t)) Q [] sl0 ob0 sl ob) (h' : AM E ops (treeR ops tl Q u) Q [] sl0 ob0 sl ob) : AM E ops (treeR ops tl Q (.alt i t u)) Q [] sl0 ob0 sl ob :=
  ⟨fun a w0 w Pr Pr1 β β1 κ κ1 h0 h1 hn => ⟨h.run a w0 w Pr Pr1 β β1 κ κ1 h0 h1 hn, h'.run a w0 w Pr Pr1 β β1 κ κ1 h0 h1 hn⟩⟩
theorem am_stop : AM E ops (treeR ops tl Q .stop) Q [] sl0 ob0 sl ob := ⟨fun _ _ _ _ _ _ _ _ _ _ _ _ => trivial⟩
theorem am_leaf (h : AL E ops.toArray tl (NoPanic Q) sl' ob') (hs : ∀ p ∈ sl', look sl p.1 = p.2) (ho : ∀ p ∈ ob', find ob p.1 = some p.2) : AM E ops (treeR ops tl Q .tail) Q [] sl0 ob0 sl ob :=
  ⟨fun _ _ _ _ _ _ _ _ _ _ h1 _ => h.run _ _ (Inv.less ⟨_, _, _, h1⟩ hs ho)⟩
theorem mix_of {S : World → Prop} {R : Act → World → Prop} {a : Act} {w : World} (h : wpMix Tryz.prog ops.toArray S (NoPanic Q) R [] a w) : R a w := h
theorem find_sub {ob0 ob : Objs} (ho : ∀ p ∈ ob0, find ob p.1 = some p.2) : ∀ i x, find ob0 i = some x → find ob i = some x := by
  have : ∀ (r : Objs), (∀ p ∈ r, find ob p.1 = some p.2) → ∀ j x, find r j = some x → find ob j = some x := by
    intro r
    induction r with
    | nil => intro _ j x h; cases h
    | cons p r ih =>
      obtain ⟨k, y⟩ := p
      intro hr j x hj
      by_cases hjk : j = k
      · subst hjk
        rw [find_eq] at hj
        cases hj
        exact hr (j, y) (by simp)
      · rw [find_ne hjk] at hj
        exact ih (fun p hp => hr p (by simp [hp])) j x hj
  exact this _ ho
/-- The statement: all orders end in one state. -/
theorem aw_tree {id : Nat} (t : Tree) (tail : List Nat) (ob0 : Objs) (sl' : Slots) (ob' : Objs) (hs : Region.noSelect ops.toArray = true) (hw : waitsAll ops.toArray tail = true) (hok : treeOk ops.toArray tail t (Array.replicate ops.length false) = true) (hna : t.isAlt = false) (hlen : t.height + tail.length ≤ ops.length)
    (ho : ∀ p ∈ ob0, find ob p.1 = some p.2)
    (h : AL E ops.toArray (tailed ops tail) (NoPanic Q) sl' ob' → AM E ops (treeR ops (tailed ops tail) Q t) Q [] sl ob0 sl ob) (hrest : AL E ops.toArray (tailed ops tail) (NoPanic Q) sl' ob') : AW E (.region id ops.toArray true) Q sl ob := by
  have h := h hrest
  refine ⟨fun a w hi => ?_⟩
  obtain ⟨Pr, β, κ, hg⟩ := hi
  have hg2 : Good E sl ob a w.drew Pr β κ := hg.grow (Below.refl _ _).drew (fun _ _ h => h) (fun _ _ h => .inl h)
  have hf := find_sub ho
  have hg3 : Good E sl ob0 a w.drew Pr β κ := ⟨hg2.below, hg2.st0, hg2.pr0, hg2.prn, hg2.prl, hg2.size, hg2.defers, hg2.slots, fun i o hi => hg2.objs i o (hf i o hi), fun i j oi oj g h1 h2 => hg2.apart i j oi oj g (hf i oi h1) (hf j oj h2), fun i o g h1 => hg2.own i o g (hf i o h1), hg2.keeps, hg2.fresh⟩
  exact wp_region_tree t tail (Kept Pr β ob0 w.drew) follows_mixed hs hw hok hna hlen (Kept.refl _ _ _ _) (fun _ => mix_of (h.run a w.drew w.drew Pr Pr β β κ κ hg3 hg2 ⟨Kept.refl _ _ _ _, fun _ _ h => h, .refl _ _, fun i o h => ⟨hf i o h, rfl⟩⟩))
/-- Names that mean nothing yet may mean anything. -/
theorem Good.rename {a : Act} {w : World} {Pr : Prot} {β : Nat → Value} {κ : Nat → Nat} (h : Good E sl ob a w Pr β κ) {d : Nat} (hd : d < E.n) (hno : noneOf d sl ob = true) (hk : find ob d = none) (v : Value) (k : Nat) : Good E sl ob a w Pr (updV β d v) (updN κ d k) := by
  have e3 := updV_other β d v
  have e4 := updN_other κ d k
  have hne : ∀ i o, find ob i = some o → i ≠ d := fun i o hi e => by rw [e, hk] at hi; cases hi
  have hfr : ∀ i o, find E.ob0 i = some o → i ≠ d := fun i o hi e => by have := h.fresh i o hi; omega
  refine ⟨h.below, h.st0, h.pr0, h.prn, h.prl, h.size, h.defers, fun i => (h.slots i).other (noneOf_slot hno i) e3 e4, fun i o hi => (h.objs i o hi).other (noneOf_obj hno hi) (hne i o hi) e3 e4, fun i j oi oj g h1 h2 h3 h4 => ?_, fun i o g h1 h2 => ?_, fun i o hi => ?_, h.fresh⟩
  · rw [e3 i (hne i oi h1)] at h3
    rw [e3 j (hne j oj h2)] at h4
    exact h.apart i j oi oj g h1 h2 h3 h4
  · rw [e3 i (hne i o h1)] at h2
    exact h.own i o g h1 h2
  · rw [e3 i (hfr i o hi), e4 i (hfr i o hi)]
    exact h.keeps i o hi
theorem kept_upd {Pr : Prot} {β : Nat → Value} {w : World} {d : Nat} {v : Value} (hk : find ob0 d = none) : Kept Pr (updV β d v) ob0 w = Kept Pr β ob0 w := by
  have hne : ∀ i o, find ob0 i = some o → i ≠ d := fun i o hi e => by rw [e, hk] at hi; cases hi
  funext w'
  refine propext ⟨fun h => ⟨h.stays, fun i o g h1 h2 => h.objs i o g h1 (by rw [updV_other β d v i (hne i o h1)]; exact h2), h.size⟩, fun h => ⟨h.stays, fun i o g h1 h2 => h.objs i o g h1 (by rw [updV_other β d v i (hne i o h1)] at h2; exact h2), h.size⟩⟩
variable {tail : (World → Prop) → Act → World → Prop} {g : Option (Nat × Bool)} {p : String} {af : Array Edge} {ty : TypeId} {d : Nat}
set_option maxRecDepth 20000 in
theorem am_alloc {l l0 : List V} {e : TypeId} (hw : Want ops sl true g) (hT : zeroV (ti e) = some l0) (hl : l0 = l) (hsl : isSl (ti e) = false) (hd : d < E.n) (hno : noneOf d sl ob = true) (hno0 : noneOf d sl0 ob0 = true) (hk0 : find ob0 d = none)
    (hK : AM E ops tail Q pl ((d, .und) :: sl0) ob0 ((d, .box d 0) :: sl) ((d, .box e l) :: ob)) : AM E ops tail Q ((i, false, ⟨some d, .alloc e, ty, p, af, g⟩) :: pl) sl0 ob0 sl ob := by
  subst hl
  refine ⟨fun a w0 w Pr Pr1 β β1 κ κ1 h0 h1 hn => ?_⟩
  refine mix_move (hw.is h1) (fun K hKK => ?_)
  obtain ⟨z, hz, hzl⟩ := zeroV_run w hT hsl
  subst hzl
  have hrun : (execOp a.eval ⟨some d, .alloc e, ty, p, af, g⟩).run Tryz.prog w = .ok (.value (.pointer (some ⟨w.heap.size, 0, none⟩))) (w.alloc (.cells z.cells e)) := by
    simp [execOp, Instr.alloc, hz, newVar, newRow]
  unfold Oper.wp
  rw [hrun, Oper.upon_value]
  have hx : Below w.heap.size w (w.alloc (.cells z.cells e)) := (Below.refl _ _).alloc (Nat.le_refl _) _
  have hG := h1.newobjG (o := .box e (z.cells.toList.map fun u => .d (.val u))) (x := .box d 0) (u := .pointer (some ⟨w.heap.size, 0, none⟩)) hd hno (Pr' := Pr1) (v := .pointer (some ⟨w.heap.size, 0, none⟩)) hx (fun _ _ h => h) (fun _ _ h => .inl h) (fun g hg => by simp [blk] at hg; omega)
    (fun β' κ' e1 e2 e3 e4 => by
      refine ⟨w.heap.size, z.cells.toList, e1, Nat.zero_le _, ?_, by simp, fun j v x h2 h3 => ?_, fun o ho => ?_⟩
      · rw [Array.toArray_toList]; exact heap_alloc_new w _
      · exact rep_val _ j v x h2 h3
      · have := h1.prl _ _ ho
        omega)
    (fun β' κ' e1 _ _ _ => .box d 0 _ e1)
  have h0' := (h0.rename hd hno0 hk0 (.pointer (some ⟨w.heap.size, 0, none⟩)) 0).put hd (v := .pointer (some ⟨w.heap.size, 0, none⟩)) (.und _)
  have hn1 := hn.grow (Pr2 := Pr1) h1 hx (fun _ _ h => h)
  have hne : ∀ i o, find ob0 i = some o → i ≠ d := fun i o hi e => by rw [e, hk0] at hi; cases hi
  have hn2 : Now ob0 ((d, .box e (z.cells.toList.map fun u => .d (.val u))) :: ob) w0 (w.alloc (.cells z.cells e)) Pr Pr1 (updV β d (.pointer (some ⟨w.heap.size, 0, none⟩))) (updV β1 d (.pointer (some ⟨w.heap.size, 0, none⟩))) (updN κ d 0) (updN κ1 d 0) := by
    refine ⟨by rw [kept_upd hk0]; exact hn1.kept, hn1.pr, fun j => ?_, fun j o hj => ?_⟩
    · by_cases hj : j = d
      · subst hj
        exact .inl ⟨by rw [updV_same, updV_same], by rw [updN_same, updN_same]⟩
      · rw [updV_other _ d _ j hj, updV_other _ d _ j hj, updN_other _ d _ j hj, updN_other _ d _ j hj]
        exact hn1.then_ j
    · have hjd := hne j o hj
      rw [updV_other _ d _ j hjd, updV_other _ d _ j hjd, find_ne hjd]
      exact hn1.sub j o hj
  refine hKK.out _ _ hn1.kept fun _ => ?_
  have := hK.run _ w0 _ Pr Pr1 _ _ _ _ h0' hG hn2
  rw [kept_upd hk0] at this
  exact this
set_option maxRecDepth 20000 in
/-- A store into an object that does not stand. -/
theorem am_store {t T T' : TypeId} {x y : Operand} {j o k : Nat} {l l' n : List V} {v : V} (hw : Want ops sl true g) (hx : ev sl x = .box j o) (hf : find ob j = some (.box T' l)) (hk0 : find ob0 j = none) (hv : ev sl y = v) (hu : v ≠ .und) (hn : cellsV v = n) (h1 : ∀ z ∈ n, z.one = true) (hT : (isOne (ti t) = true ∧ k = 1) ∨ aggK (ti t) = some k) (hk : n.length = k) (hl : o + n.length ≤ l.length) (hr : put l o n = l')
    (hK : AM E ops tail Q pl sl0 ob0 sl ((j, .box T' l') :: ob)) : AM E ops tail Q ((i, false, ⟨none, .store t x y, T, p, af, g⟩) :: pl) sl0 ob0 sl ob := by
  refine ⟨fun a w0 w Pr Pr1 β β1 κ κ1 h0 hg1 hnw => ?_⟩
  refine mix_move (hw.is hg1) (fun K hKK => ?_)
  obtain ⟨b, cs, hrun, hb, hno, hG⟩ := store_now (T := T) (p := p) (af := af) (g := g) hg1 hx hf hv hu hn h1 hT hk hl hr
  unfold Oper.wp
  rw [hrun, Oper.upon_skip]
  have hne : ∀ i o, find ob0 i = some o → i ≠ j := fun i o hi e => by rw [e, hk0] at hi; cases hi
  have hkept : Kept Pr β ob0 w0 (w.setRow b cs) := hnw.kept.trans (Pr1 := Pr1) ⟨fun b' q hq => World.cell?_of_block (a := ⟨b', q, none⟩) (setRow_other w b b' cs (by rintro rfl; exact hno q hq)), fun i o g h2 h3 => setRow_other w b g cs (by
      rintro rfl
      have h4 := (hnw.sub i o h2)
      exact hne i o h2 (hg1.apart i j o _ _ h4.1 hf (by rw [h4.2]; exact h3) (by rw [hb]; rfl))), by simp [World.setRow]⟩ hnw.pr
  refine hKK.out _ _ hkept fun _ => ?_
  exact hK.run _ w0 _ Pr Pr1 _ _ _ _ h0 hG ⟨hkept, hnw.pr, hnw.then_, fun i o hi => by rw [find_ne (hne i o hi)]; exact hnw.sub i o hi⟩
end
end Go.Proofs.YtfgibalcdjlnhaaGreatDoor
end
