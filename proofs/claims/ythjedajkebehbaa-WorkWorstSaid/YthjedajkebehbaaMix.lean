/-
  A statement that leaves its order open and holds calls beside loads: one walk, in one order, serves every order. Conditions: the plan is checked by a Bool; every load reads a cell that nothing in the statement writes.
-/
import Derived.Test.YthjedajkebehbaaBase
import Derived.Deep.RegionHeld3
namespace Go.Proofs.Ythjedajkebehbaa
open Go.RowKit

/-- May the plan be followed? Each step is either free (it yields the same whenever it comes), or the only one that may come. -/
def mixOk (ops : Array Oper) : List (Nat × Bool) → Array Bool → Bool
  | [], listed => (Region.ready .any ops listed).isEmpty
  | (i, s) :: rest, listed =>
    (Region.ready .any ops listed).contains i && (if s then Region.free .any ops listed i else (Region.ready .any ops listed).length == 1) && mixOk ops rest (listed.setIfInBounds i true)

/-- The walk along a plan. -/
def wpMix (P : Program) (ops : Array Oper) (S : World → Prop) (Q : Exit → Act → World → Prop) : List (Nat × Bool × Oper) → Act → World → Prop
  | [], a, w => Q .normal a w
  | (i, true, o) :: rest, a, w => ops[i]? = some o → ∃ v, YieldsIf P ops S o v a ∧ wpMix P ops S Q rest (a.put o.dst v) w
  | (i, false, o) :: rest, a, w => ops[i]? = some o → wpOp P ops Q i (fun a' w' => S w' ∧ (S w' → wpMix P ops S Q rest a' w')) a w

def planned (ops : List Oper) (plan : List (Nat × Bool)) : List (Nat × Bool × Oper) := plan.filterMap fun x => (ops[x.1]?).map fun o => (x.1, x.2, o)

section
variable {P : Program} {S : World → Prop} {Q : Exit → Act → World → Prop}

theorem held_of_mix {ops : List Oper} (hs : Region.noSelect ops.toArray = true) (hQ : ∀ c a d v w, Q (.panic c) (Act.put a d v) w → Q (.panic c) a w) :
    ∀ (plan : List (Nat × Bool)) (fuel : Nat) (listed : Array Bool) (a : Act) (w : World), mixOk ops.toArray plan listed = true → plan.length ≤ fuel → S w →
      wpMix P ops.toArray S Q (planned ops plan) a w → wpAnyH P .any ops.toArray Q S fuel listed a w
  | [], fuel, listed, a, w, hok, _, _, h => wpAnyH_done (by simpa [mixOk] using hok) h fuel
  | (i, s) :: rest, 0, listed, a, w, _, hf, _, _ => absurd hf (by simp)
  | (i, s) :: rest, fuel + 1, listed, a, w, hok, hf, hS, h => by
    simp only [mixOk, Bool.and_eq_true] at hok
    obtain ⟨⟨hr, hk⟩, hok'⟩ := hok
    have hlen : rest.length ≤ fuel := by simpa using hf
    have hri : i ∈ Region.ready .any ops.toArray listed := by simpa using hr
    obtain ⟨_, o, ho, _⟩ := mem_ready.1 hri
    have hl : ops[i]? = some o := by simpa using ho
    have hp : planned ops ((i, s) :: rest) = (i, s, o) :: planned ops rest := by simp [planned, hl]
    rw [hp] at h
    cases s with
    | true =>
      obtain ⟨v, hy, h'⟩ := h ho
      exact wpAnyH_take ho hs hk hr (fun c a w hq => hQ c a _ _ w hq) hy hS (held_of_mix hs hQ rest fuel _ _ w hok' hlen hS h')
    | false =>
      have h1 : (Region.ready .any ops.toArray listed).length = 1 := by simpa using hk
      have he : Region.ready .any ops.toArray listed = [i] := by
        obtain ⟨x, hx⟩ := List.length_eq_one_iff.1 h1
        rw [hx] at hri ⊢
        simp at hri
        rw [hri]
      refine wpAnyH_all he (by simp) (fun j hj => ?_)
      have : j = i := by simpa using hj
      subst this
      exact wpOp_mono (fun a' w' ⟨hS', hW⟩ => ⟨hS', held_of_mix hs hQ rest fuel _ a' w' hok' hlen hS' (hW hS')⟩) (h ho)

/-- The beginning. -/
theorem wp_region_mix {id : Nat} {ops : List Oper} {a : Act} {w : World} (plan : List (Nat × Bool)) (S : World → Prop) (hm : P.follows .mixedOrders = true) (hs : Region.noSelect ops.toArray = true)
    (hok : mixOk ops.toArray plan (Array.replicate ops.length false) = true) (hlen : plan.length ≤ ops.length) (hS : S w.drew)
    (h : S w.drew → wpMix P ops.toArray S (NoPanic Q) (planned ops plan) a w.drew) : (Code.region id ops.toArray true).wp P Q a w := by
  refine wp_region_noPanic ?_
  refine wp_region_held (S := S) hm ?_
  have := held_of_mix (P := P) (S := S) (Q := NoPanic Q) hs (fun _ _ _ _ _ h => h) plan ops.length (Array.replicate ops.length false) a w.drew hok hlen hS (h hS)
  simpa using this

variable {ops : Array Oper} {a : Act} {w : World} {i : Nat} {o : Oper} {rest : List (Nat × Bool × Oper)}
theorem mix_nil (h : Q .normal a w) : wpMix P ops S Q [] a w := h
theorem mix_skip (hw : Region.wanted o (yielded ops a.tmps) = false) (h : wpMix P ops S Q rest (a.put o.dst undef) w) : wpMix P ops S Q ((i, true, o) :: rest) a w :=
  fun _ => ⟨undef, .inr ⟨hw, rfl⟩, h⟩
theorem mix_take (hw : Region.wanted o (yielded ops a.tmps) = true) (h : ∃ v, (∀ w', S w' → (execOp a.eval o).run P w' = .ok (.value v) w') ∧ wpMix P ops S Q rest (a.put o.dst v) w) :
    wpMix P ops S Q ((i, true, o) :: rest) a w :=
  fun _ => let ⟨v, hy, h⟩ := h; ⟨v, .inl ⟨hw, hy⟩, h⟩
theorem mix_pass (hS : S w) (hw : Region.wanted o (yielded ops a.tmps) = false) (h : wpMix P ops S Q rest (a.put o.dst undef) w) : wpMix P ops S Q ((i, false, o) :: rest) a w := fun ho => by
  unfold wpOp
  rw [ho]
  simp only [hw]
  exact ⟨hS, fun _ => h⟩
theorem mix_move (hw : Region.wanted o (yielded ops a.tmps) = true) (h : ∀ K : Act → World → Prop, Shut (∀ a w, S w → (S w → wpMix P ops S Q rest a w) → K a w) → o.wp P a w K Q) :
    wpMix P ops S Q ((i, false, o) :: rest) a w := fun ho => by
  refine wpOp_step ho (fun K hK => ?_)
  rw [if_pos hw]
  exact h K (fun a w hS hW => hK a w ⟨hS, hW⟩)
end

/-- Operations that hand back a value, or stop. -/
def isV : Op → Bool
  | .move _ | .assign _ | .pick .. | .binOp .. | .unOp .. | .convert .. | .fieldAddr .. | .field .. | .indexAddr .. | .index .. | .slice .. | .extract .. | .build .. => true
  | .call { callee := .builtin b, .. } => match b with | .len | .cap | .min | .max => true | _ => false
  | _ => false
theorem run_v {P : Program} {s : Sem Value} {w w' : World} {n : Next} (h : Sem.run P (s >>= fun x => pure (Next.value x)) w = .ok n w') : ∃ u, n = .value u := by
  rw [Sem.run_bind] at h
  cases hs : Sem.run P s w with
  | ok x w1 =>
    rw [hs] at h
    simp only [Result.andThen, Sem.run_pure, Result.ok.injEq] at h
    exact ⟨x, h.1.symm⟩
  | halt x w1 =>
    rw [hs] at h
    simp [Result.andThen] at h
theorem run_isV {P : Program} {o : Oper} {a : Act} {w w' : World} {n : Next} (hv : isV o.op = true) (h : (execOp a.eval o).run P w = .ok n w') : ∃ u, n = .value u := by
  unfold execOp at h
  cases ho : o.op <;> rw [ho] at hv <;> simp only [ho] at h <;> first
    | (simp [isV] at hv; done)
    | exact run_v h
    | (simp only [Sem.run_pure, Result.ok.injEq] at h; exact ⟨_, h.1.symm⟩)
    | skip
  case pick c x y =>
    rw [Sem.run_bind] at h
    cases hs : Sem.run P (asBool (a.eval c)) w with
    | ok b w1 =>
      rw [hs] at h
      simp only [Result.andThen, Sem.run_pure, Result.ok.injEq] at h
      exact ⟨_, h.1.symm⟩
    | halt b w1 =>
      rw [hs] at h
      simp [Result.andThen] at h
  case call c =>
    obtain ⟨callee, args, argTypes⟩ := c
    cases callee with
    | value f => simp [isV] at hv
    | invoke r m => simp [isV] at hv
    | builtin b =>
      simp only [resolve, Sem.run_bind, Sem.run_pure, Result.andThen] at h
      cases b <;> simp [isV] at hv <;> exact run_v h
section
variable {P : Program} {S : World → Prop} {Q : Exit → Act → World → Prop} {ops : Array Oper} {a : Act} {w : World} {i : Nat} {o : Oper} {rest : List (Nat × Bool × Oper)}
theorem mix_pure (hv : isV o.op = true) (hw : Region.wanted o (yielded ops a.tmps) = true) (h : ∀ K : Act → Prop, (∀ a', wpMix P ops S Q rest a' w → K a') → o.quiet P a (fun _ => True) K) :
    wpMix P ops S Q ((i, true, o) :: rest) a w := by
  obtain ⟨v, h1, h2⟩ := h _ (fun _ h => h)
  refine mix_take hw ⟨v, fun w' _ => ?_, h2⟩
  have h3 := h1 w' trivial
  unfold Oper.quietAt at h3
  cases hr : (execOp a.eval o).run P w' with
  | ok n w'' =>
    obtain ⟨u, rfl⟩ := run_isV hv hr
    rw [hr] at h3
    simp only [Oper.quietUpon] at h3
    rw [h3.1, h3.2]
  | halt x w'' =>
    rw [hr] at h3
    simp only [Oper.quietUpon] at h3
end

/-- Since the call began (world we) nothing below base has turned; since the statement began (world w0) what was there below B, apart from one row, reads as it did. -/
structure SB (base : Nat) (we : World) (B : Nat) (row : Option Nat) (w0 w' : World) : Prop where
  cell : ∀ b o, b < B → some b ≠ row → w'.cell? ⟨b, o, none⟩ = w0.cell? ⟨b, o, none⟩
  frozen : ∀ b o, b < B → some b ≠ row → w'.frozen? ⟨b, o, none⟩ = w0.frozen? ⟨b, o, none⟩
  size : B ≤ w'.heap.size
  below : Below base we w'

section
variable {base B : Nat} {we w0 w1 w2 : World} {row : Option Nat}
theorem SB.start (hb : Below base we w0) (hB : B ≤ w0.heap.size) : SB base we B row w0 w0.drew := ⟨fun _ _ _ _ => rfl, fun _ _ _ _ => rfl, hB, hb.drew⟩
theorem SB.step (h : SB base we B row w0 w1) (hx : Below w1.heap.size w1 w2) (hB : base ≤ B) : SB base we B row w0 w2 :=
  ⟨fun b o hb hr => ((bcell hx).1 b o (Nat.lt_of_lt_of_le hb h.size)).trans (h.cell b o hb hr), fun b o hb hr => ((bcell hx).2 b o (Nat.lt_of_lt_of_le hb h.size)).trans (h.frozen b o hb hr),
    Nat.le_trans h.size hx.size, h.below.trans (hx.mono (Nat.le_trans hB h.size))⟩
theorem SB.alloc (h : SB base we B row w0 w1) (o : Obj) (hB : base ≤ B) : SB base we B row w0 (w1.alloc o) := h.step ((Below.refl _ _).alloc (Nat.le_refl _) o) hB
theorem SB.grown (h : SB base we B row w0 w1) (hg : w1.grownBy w2 row) (hb : Below base w1 w2) : SB base we B row w0 w2 :=
  ⟨fun b o hb hr => (World.cell?_of_block (a := ⟨b, o, none⟩) (hg.block b (Nat.lt_of_lt_of_le hb h.size) hr)).trans (h.cell b o hb hr),
    fun b o hb hr => (World.frozen?_of_block (a := ⟨b, o, none⟩) (hg.block b (Nat.lt_of_lt_of_le hb h.size) hr)).trans (h.frozen b o hb hr),
    Nat.le_trans h.size hg.size, h.below.trans hb⟩
end
end Go.Proofs.Ythjedajkebehbaa
