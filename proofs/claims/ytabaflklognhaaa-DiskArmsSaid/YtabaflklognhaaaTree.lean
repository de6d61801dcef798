/-
  A statement that leaves its order open, in which more than one operation that turns memory may come first: a walk along a tree: it forks there. Conditions: the tree is checked by a Bool.
-/
import Derived.Test.YtabaflklognhaaaMix
namespace Go.Proofs.Ytabaflklognhaaa
open Go.RowKit

inductive Tree where
  | tail | stop
  | free (i : Nat) (t : Tree)
  | only (i : Nat) (t : Tree)
  | fork (u : Tree)
  | alt (i : Nat) (t u : Tree)
def Tree.heads : Tree → List Nat
  | .alt i _ u => i :: u.heads
  | _ => []
def Tree.isAlt : Tree → Bool
  | .alt .. | .stop => true
  | _ => false
def Tree.height : Tree → Nat
  | .free _ t | .only _ t => t.height + 1
  | .fork u => u.height
  | .alt _ t u => max (t.height + 1) u.height
  | _ => 0
def treeOk (ops : Array Oper) (tail : List Nat) : Tree → Array Bool → Bool
  | .tail, listed => tailOk ops tail tail listed
  | .stop, _ => true
  | .free i t, listed => !tail.contains i && (Region.ready .any ops listed).contains i && Region.free .any ops listed i && !t.isAlt && treeOk ops tail t (listed.setIfInBounds i true)
  | .only i t, listed => !tail.contains i && (Region.ready .any ops listed == [i]) && !t.isAlt && treeOk ops tail t (listed.setIfInBounds i true)
  | .fork u, listed => u.isAlt && (Region.ready .any ops listed == u.heads) && !u.heads.isEmpty && treeOk ops tail u listed
  | .alt i t u, listed => !t.isAlt && u.isAlt && treeOk ops tail t (listed.setIfInBounds i true) && treeOk ops tail u listed

/-- The walk along a tree. -/
def wpTree (P : Program) (ops : List Oper) (S : World → Prop) (Q : Exit → Act → World → Prop) (R : Act → World → Prop) : Tree → Act → World → Prop
  | .tail, a, w => R a w
  | .stop, _, _ => True
  | .free i t, a, w => match ops[i]? with | none => False | some o => ∃ v, YieldsIf P ops.toArray S o v a ∧ wpTree P ops S Q R t (a.put o.dst v) w
  | .only i t, a, w => wpOp P ops.toArray Q i (fun a' w' => S w' ∧ (S w' → wpTree P ops S Q R t a' w')) a w
  | .fork u, a, w => wpTree P ops S Q R u a w
  | .alt i t u, a, w => wpOp P ops.toArray Q i (fun a' w' => S w' ∧ (S w' → wpTree P ops S Q R t a' w')) a w ∧ wpTree P ops S Q R u a w

section
variable {P : Program} {S : World → Prop} {Q : Exit → Act → World → Prop} {tail : List Nat}
theorem anyT_of_tree {ops : List Oper} (hs : Region.noSelect ops.toArray = true) (hw : waitsAll ops.toArray tail = true) (hQ : ∀ c a d v w, Q (.panic c) (Act.put a d v) w → Q (.panic c) a w) :
    ∀ (t : Tree) (fuel : Nat) (listed : Array Bool) (a : Act) (w : World), treeOk ops.toArray tail t listed = true → t.height + tail.length ≤ fuel → S w →
      wpTree P ops S Q (wpList P ops.toArray Q (tailed ops tail)) t a w →
      (t.isAlt = false → wpAnyT P ops.toArray Q S tail fuel listed a w) ∧
      (t.isAlt = true → ∀ f', fuel = f' + 1 → ∀ i ∈ t.heads, wpOp P ops.toArray Q i (fun a' w' => (i ∉ tail → S w') ∧ wpAnyT P ops.toArray Q S tail f' (listed.setIfInBounds i true) a' w') a w) := by
  intro t
  induction t with
  | tail => exact fun fuel listed a w hok hf _ h => ⟨fun _ => anyT_tail tail fuel listed a w hok (by simpa [Tree.height] using hf) (fun _ hi => hi) h, fun hc => (by cases hc)⟩
  | stop => exact fun fuel listed a w _ _ _ _ => ⟨fun hc => (by cases hc), fun _ f' _ i hi => by simp [Tree.heads] at hi⟩
  | free i t ih =>
    intro fuel listed a w hok hf hS h
    refine ⟨fun _ => ?_, fun hc => (by cases hc)⟩
    simp only [treeOk, Bool.and_eq_true, Bool.not_eq_true'] at hok
    obtain ⟨⟨⟨⟨ht, hr⟩, hk⟩, hna⟩, hok'⟩ := hok
    cases fuel with
    | zero => simp [Tree.height] at hf
    | succ fuel =>
      have hlen : t.height + tail.length ≤ fuel := by simp [Tree.height] at hf; omega
      have hri : i ∈ Region.ready .any ops.toArray listed := by simpa using hr
      obtain ⟨_, o, ho, _⟩ := mem_ready.1 hri
      have hl : ops[i]? = some o := by simpa using ho
      have hit : i ∉ tail := by simpa using ht
      simp only [wpTree, hl] at h
      obtain ⟨v, hy, h'⟩ := h
      exact anyT_take ho hs hw hit hQ fuel listed a w (Region.free_spec ho hk) hri hy hS ((ih fuel _ _ w hok' hlen hS h').1 hna)
  | only i t ih =>
    intro fuel listed a w hok hf hS h
    refine ⟨fun _ => ?_, fun hc => (by cases hc)⟩
    simp only [treeOk, Bool.and_eq_true, Bool.not_eq_true', beq_iff_eq] at hok
    obtain ⟨⟨⟨ht, he⟩, hna⟩, hok'⟩ := hok
    cases fuel with
    | zero => simp [Tree.height] at hf
    | succ fuel =>
      have hlen : t.height + tail.length ≤ fuel := by simp [Tree.height] at hf; omega
      exact anyT_only he (wpOp_mono (fun a' w' ⟨hS', hW⟩ => ⟨fun _ => hS', (ih fuel _ a' w' hok' hlen hS' (hW hS')).1 hna⟩) h)
  | fork u ih =>
    intro fuel listed a w hok hf hS h
    refine ⟨fun _ => ?_, fun hc => (by cases hc)⟩
    simp only [treeOk, Bool.and_eq_true, Bool.not_eq_true', beq_iff_eq] at hok
    obtain ⟨⟨⟨hna, he⟩, hem⟩, hok'⟩ := hok
    have hne : u.heads ≠ [] := by intro e; rw [e] at hem; simp at hem
    cases fuel with
    | zero =>
      exfalso
      simp only [Tree.height] at hf
      cases u with
      | alt i t u => simp [Tree.height] at hf
      | stop => exact hne rfl
      | _ => cases hna
    | succ fuel =>
      have hall := (ih (fuel + 1) listed a w hok' hf hS h).2 hna fuel rfl
      refine ⟨fun h0 => ?_, fun i hi => hall i (by rw [← he]; exact hi)⟩
      rw [he] at h0
      exact absurd h0 hne
  | alt i t u iht ihu =>
    intro fuel listed a w hok hf hS h
    refine ⟨fun hc => (by cases hc), fun _ f' hf' j hj => ?_⟩
    simp only [treeOk, Bool.and_eq_true, Bool.not_eq_true'] at hok
    obtain ⟨⟨⟨hna, hua⟩, hok'⟩, hoku⟩ := hok
    simp only [Tree.height] at hf
    simp only [Tree.heads, List.mem_cons] at hj
    rcases hj with rfl | hj
    · exact wpOp_mono (fun a' w' ⟨hS', hW⟩ => ⟨fun _ => hS', (iht f' _ a' w' hok' (by omega) hS' (hW hS')).1 hna⟩) h.1
    · exact (ihu fuel listed a w hoku (by omega) hS h.2).2 hua f' hf' j hj

/-- The beginning. -/
theorem wp_region_tree {id : Nat} {ops : List Oper} {a : Act} {w : World} (t : Tree) (tail : List Nat) (S : World → Prop) (hm : P.follows .mixedOrders = true) (hs : Region.noSelect ops.toArray = true)
    (hw : waitsAll ops.toArray tail = true) (hok : treeOk ops.toArray tail t (Array.replicate ops.length false) = true) (hna : t.isAlt = false) (hlen : t.height + tail.length ≤ ops.length) (hS : S w.drew)
    (h : S w.drew → wpTree P ops S (NoPanic Q) (wpList P ops.toArray (NoPanic Q) (tailed ops tail)) t a w.drew) : (Code.region id ops.toArray true).wp P Q a w := by
  refine wp_region_noPanic ?_
  refine wp_region_any hm (any_of_anyT (S := S) (tail := tail) _ _ _ _ ?_)
  have := (anyT_of_tree (P := P) (S := S) (Q := NoPanic Q) hs hw (fun _ _ _ _ _ h => h) t ops.length (Array.replicate ops.length false) a w.drew hok hlen hS (h hS)).1 hna
  simpa using this

variable {R : Act → World → Prop}
variable {ops : List Oper} {a : Act} {w : World} {i : Nat} {o : Oper} {t u : Tree}
theorem tree_tail (h : R a w) : wpTree P ops S Q R .tail a w := h
theorem tree_fork (h : wpTree P ops S Q R u a w) : wpTree P ops S Q R (.fork u) a w := h
theorem tree_alt (h : wpTree P ops S Q R (.only i t) a w) (h' : wpTree P ops S Q R u a w) : wpTree P ops S Q R (.alt i t u) a w := ⟨h, h'⟩
theorem tree_stop : wpTree P ops S Q R .stop a w := trivial
theorem tree_skip (ho : ops[i]? = some o) (hw : Region.wanted o (yielded ops.toArray a.tmps) = false) (h : wpTree P ops S Q R t (a.put o.dst undef) w) : wpTree P ops S Q R (.free i t) a w := by
  simp only [wpTree, ho]
  exact ⟨undef, .inr ⟨hw, rfl⟩, h⟩
theorem tree_take (ho : ops[i]? = some o) (hw : Region.wanted o (yielded ops.toArray a.tmps) = true) (h : ∃ v, (∀ w', S w' → (execOp a.eval o).run P w' = .ok (.value v) w') ∧ wpTree P ops S Q R t (a.put o.dst v) w) :
    wpTree P ops S Q R (.free i t) a w := by
  simp only [wpTree, ho]
  obtain ⟨v, hy, h⟩ := h
  exact ⟨v, .inl ⟨hw, hy⟩, h⟩
theorem tree_pass (ho : ops[i]? = some o) (hS : S w) (hw : Region.wanted o (yielded ops.toArray a.tmps) = false) (h : wpTree P ops S Q R t (a.put o.dst undef) w) : wpTree P ops S Q R (.only i t) a w := by
  simp only [wpTree]
  unfold wpOp
  rw [show ops.toArray[i]? = some o from by simpa using ho]
  simp only [hw]
  exact ⟨hS, fun _ => h⟩
theorem tree_move (ho : ops[i]? = some o) (hw : Region.wanted o (yielded ops.toArray a.tmps) = true) (h : ∀ K : Act → World → Prop, Shut (∀ a w, S w → (S w → wpTree P ops S Q R t a w) → K a w) → o.wp P a w K Q) :
    wpTree P ops S Q R (.only i t) a w := by
  simp only [wpTree]
  refine wpOp_step (show ops.toArray[i]? = some o from by simpa using ho) (fun K hK => ?_)
  rw [if_pos hw]
  exact h K (fun a w hS hW => hK a w ⟨hS, hW⟩)
theorem tree_pure (ho : ops[i]? = some o) (hv : isV o.op = true) (hw : Region.wanted o (yielded ops.toArray a.tmps) = true) (h : ∀ K : Act → Prop, (∀ a', wpTree P ops S Q R t a' w → K a') → o.quiet P a (fun _ => True) K) :
    wpTree P ops S Q R (.free i t) a w := by
  obtain ⟨v, h1, h2⟩ := h _ (fun _ h => h)
  refine tree_take ho hw ⟨v, fun w' _ => ?_, h2⟩
  have h3 := h1 w' trivial
  unfold Oper.quietAt at h3
  cases hr : (execOp a.eval o).run P w' with
  | ok n w'' =>
    obtain ⟨u, rfl⟩ := run_isV hv hr
    rw [hr] at h3
    simp only [Oper.quietUpon] at h3
    rw [h3.1, h3.2]
  | halt x w'' =>
    rw [hr] at h3
    simp only [Oper.quietUpon] at h3
end

/-- What has turned lies at or beyond base. -/
theorem SB.turned {base B : Nat} {we w0 w1 w2 : World} {row : Option Nat} (h : SB base we B row w0 w1) (hx : Below base w1 w2) (hB : B ≤ base) : SB base we B row w0 w2 :=
  ⟨fun b o hb hr => ((bcell hx).1 b o (Nat.lt_of_lt_of_le hb hB)).trans (h.cell b o hb hr), fun b o hb hr => ((bcell hx).2 b o (Nat.lt_of_lt_of_le hb hB)).trans (h.frozen b o hb hr), Nat.le_trans h.size hx.size, h.below.trans hx⟩
/-- A guard for an arm: append of a slice. -/
theorem at_append {P : Program} {o : Oper} {a : Act} {w : World} {K : Act → World → Prop} {Q : Exit → Act → World → Prop} {s x : Operand} {t : TypeId}
    (_ : o.op = .call { callee := .builtin .append, args := #[s, x], argTypes := #[t, t] }) (h : o.wp P a w K Q) : o.wp P a w K Q := h

/-- Two ways come together: what the first one leaves to be shown serves the second one. -/
theorem joined {J G : Prop} (h : J → G) (hj : J) : G := h hj
end Go.Proofs.Ytabaflklognhaaa
