/-
  A statement that leaves its order open and holds calls beside loads: one walk, in one order, serves every order. Conditions: the plan is checked by a Bool; every load reads a cell that nothing in the statement writes.
-/
import Derived.Test.YtabaflklognhaaaBase
import Derived.Deep.RegionHeld3
namespace Go.Proofs.Ytabaflklognhaaa
open Go.RowKit

/-- Each operation of the tail may come only when all others have come, and then it is the only one. -/
def tailOk (ops : Array Oper) (tail : List Nat) : List Nat → Array Bool → Bool
  | [], listed => (Region.ready .any ops listed).isEmpty
  | i :: rest, listed => (Region.ready .any ops listed == [i]) && tailOk ops tail rest (listed.setIfInBounds i true)
/-- May the plan be followed? Each step is either free (it yields the same whenever it comes), or the only one that may come; then the tail. -/
def mixOk (ops : Array Oper) (tail : List Nat) : List (Nat × Bool) → Array Bool → Bool
  | [], listed => tailOk ops tail tail listed
  | (i, s) :: rest, listed =>
    !tail.contains i && (Region.ready .any ops listed).contains i && (if s then Region.free .any ops listed i else Region.ready .any ops listed == [i]) && mixOk ops tail rest (listed.setIfInBounds i true)
/-- The tail waits for all others. -/
def waitsAll (ops : Array Oper) (tail : List Nat) : Bool :=
  tail.all fun j => (List.range ops.size).all fun i => tail.contains i || ((ops[j]?).map fun o => o.after.any fun e => Region.binds .any e && e.on == i).getD true

/-- Whatever order is picked from here on; behind each operation, but those of the tail, S holds. -/
def wpAnyT (P : Program) (ops : Array Oper) (Q : Exit → Act → World → Prop) (S : World → Prop) (tail : List Nat) : Nat → Array Bool → Act → World → Prop
  | 0, listed, a, w => Region.ready .any ops listed = [] ∧ Q .normal a w
  | fuel + 1, listed, a, w =>
    (Region.ready .any ops listed = [] → Q .normal a w) ∧
    ∀ i ∈ Region.ready .any ops listed, wpOp P ops Q i (fun a' w' => (i ∉ tail → S w') ∧ wpAnyT P ops Q S tail fuel (listed.setIfInBounds i true) a' w') a w

/-- The walk along a plan. -/
def wpMix (P : Program) (ops : Array Oper) (S : World → Prop) (Q : Exit → Act → World → Prop) (R : Act → World → Prop) : List (Nat × Bool × Oper) → Act → World → Prop
  | [], a, w => R a w
  | (i, true, o) :: rest, a, w => ops[i]? = some o → ∃ v, YieldsIf P ops S o v a ∧ wpMix P ops S Q R rest (a.put o.dst v) w
  | (i, false, o) :: rest, a, w => ops[i]? = some o → wpOp P ops Q i (fun a' w' => S w' ∧ (S w' → wpMix P ops S Q R rest a' w')) a w

def planned (ops : List Oper) (plan : List (Nat × Bool)) : List (Nat × Bool × Oper) := plan.filterMap fun x => (ops[x.1]?).map fun o => (x.1, x.2, o)
def tailed (ops : List Oper) (tail : List Nat) : List Oper := tail.filterMap fun i => ops[i]?

section
variable {P : Program} {S : World → Prop} {Q : Exit → Act → World → Prop} {tail : List Nat}

theorem any_of_anyT {ops : Array Oper} : ∀ (fuel : Nat) (listed : Array Bool) (a : Act) (w : World), wpAnyT P ops Q S tail fuel listed a w → wpAny P .any ops Q fuel listed a w
  | 0, _, _, _, h => h
  | fuel + 1, _, _, _, h => ⟨h.1, fun i hi => wpOp_mono (fun a' w' h' => any_of_anyT fuel _ a' w' h'.2) (h.2 i hi)⟩

theorem anyT_done {ops : Array Oper} {listed : Array Bool} {a : Act} {w : World} (hr : Region.ready .any ops listed = []) (h : Q .normal a w) : ∀ fuel, wpAnyT P ops Q S tail fuel listed a w
  | 0 => ⟨hr, h⟩
  | _ + 1 => ⟨fun _ => h, by rw [hr]; simp⟩

theorem anyT_only {ops : Array Oper} {fuel i : Nat} {listed : Array Bool} {a : Act} {w : World} (hr : Region.ready .any ops listed = [i])
    (h : wpOp P ops Q i (fun a' w' => (i ∉ tail → S w') ∧ wpAnyT P ops Q S tail fuel (listed.setIfInBounds i true) a' w') a w) : wpAnyT P ops Q S tail (fuel + 1) listed a w :=
  ⟨fun h0 => (by rw [hr] at h0; cases h0), fun j hj => by
    rw [hr] at hj
    obtain rfl : j = i := by simpa using hj
    exact h⟩

/-- An operation that yields the same in every world that meets S may come first. -/
theorem anyT_take {ops : Array Oper} {i : Nat} {oi : Oper} {v : Value} (hi : ops[i]? = some oi) (hs : Region.noSelect ops = true) (hw : waitsAll ops tail = true) (hit : i ∉ tail)
    (hQ : ∀ c a d v w, Q (.panic c) (Act.put a d v) w → Q (.panic c) a w) :
    ∀ (fuel : Nat) (listed : Array Bool) (a : Act) (w : World),
      (∀ j oj, ops[j]? = some oj → j ≠ i → listed.getD j true = false → (∀ e ∈ oj.after, Region.binds .any e = true → e.on ≠ i) → oi.apart ops oj = true) →
      i ∈ Region.ready .any ops listed → YieldsIf P ops S oi v a → S w → wpAnyT P ops Q S tail fuel (listed.setIfInBounds i true) (a.put oi.dst v) w → wpAnyT P ops Q S tail (fuel + 1) listed a w := by
  intro fuel
  induction fuel with
  | zero =>
    intro listed a w _ hr hy hS H
    refine ⟨fun h0 => (by rw [h0] at hr; cases hr), fun j hj => ?_⟩
    by_cases hne : j = i
    · subst hne
      exact hy.wpOp hi hS ⟨fun _ => hS, H⟩
    · have hmem := ready_mono hj hne
      rw [H.1] at hmem
      cases hmem
  | succ n ih =>
    intro listed a w hfree hr hy hS H
    refine ⟨fun h0 => (by rw [h0] at hr; cases hr), fun j hj => ?_⟩
    by_cases hne : j = i
    · subst hne
      exact hy.wpOp hi hS ⟨fun _ => hS, H⟩
    obtain ⟨hun, oj, hoj, hdeps⟩ := mem_ready.1 hj
    have hiu : listed.getD i true = false := (mem_ready.1 hr).1
    have hif : listed.getD i false = false := by
      rcases Nat.lt_or_ge i listed.size with hlt | hge
      · simpa [hlt] using hiu
      · simp [Array.getElem?_eq_none hge] at hiu
    have hdoes : ∀ e ∈ oj.after, Region.binds .any e = true → e.on ≠ i := fun e he hb heq => by
      have := hdeps e he hb
      rw [heq, hif] at this
      cases this
    have hjt : j ∉ tail := fun hjt => by
      have h1 := List.all_eq_true.1 hw j hjt
      have hlt : i < ops.size := (Array.getElem?_eq_some_iff.1 hi).1
      have h2 := List.all_eq_true.1 h1 i (List.mem_range.2 hlt)
      have h3 : tail.contains i = false := by simpa using hit
      rw [h3, hoj] at h2
      simp only [Bool.false_or, Option.map_some, Option.getD_some] at h2
      obtain ⟨e, he, hb⟩ := Array.any_eq_true'.1 h2
      simp only [Bool.and_eq_true, beq_iff_eq] at hb
      exact hdoes e he hb.1 hb.2
    have step := wpOp_putIf hoj (hfree j oj hoj hne hun hdoes) (fun cs b => Region.noSelect_spec hs i oi cs b hi) (fun cs b => Region.noSelect_spec hs j oj cs b hoj) (fun c a w hq => hQ c a _ _ w hq) hy (H.2 j (ready_mono hj hne))
    refine wpOp_mono (fun a' w' ⟨hy', hS', hW⟩ => ⟨hS', ih (listed.setIfInBounds j true) a' w' ?_ (ready_mono hr (Ne.symm hne)) hy' (hS' hjt) ?_⟩) step
    · intro k ok hk hki hku hno
      refine hfree k ok hk hki ?_ hno
      by_cases hjk : j = k
      · rw [← hjk]; exact hun
      · rwa [getD_set_ne true hjk] at hku
    · rw [Array.setIfInBounds_comm _ _ hne]
      exact hW

/-- The tail goes in its order. -/
theorem anyT_tail {ops : List Oper} : ∀ (t : List Nat) (fuel : Nat) (listed : Array Bool) (a : Act) (w : World), tailOk ops.toArray tail t listed = true → t.length ≤ fuel → (∀ i ∈ t, i ∈ tail) →
    wpList P ops.toArray Q (tailed ops t) a w → wpAnyT P ops.toArray Q S tail fuel listed a w
  | [], fuel, listed, a, w, hok, _, _, h => anyT_done (by simpa [tailOk] using hok) h fuel
  | i :: t, 0, _, _, _, _, hf, _, _ => absurd hf (by simp)
  | i :: t, fuel + 1, listed, a, w, hok, hf, ht, h => by
    simp only [tailOk, Bool.and_eq_true, beq_iff_eq] at hok
    obtain ⟨_, o, ho, _⟩ := mem_ready.1 (show i ∈ Region.ready .any ops.toArray listed by rw [hok.1]; simp)
    have hl : ops[i]? = some o := by simpa using ho
    have hc : tailed ops (i :: t) = o :: tailed ops t := by simp [tailed, hl]
    rw [hc] at h
    refine anyT_only hok.1 ?_
    have hK : ∀ a' w', wpList P ops.toArray Q (tailed ops t) a' w' → (i ∉ tail → S w') ∧ wpAnyT P ops.toArray Q S tail fuel (listed.setIfInBounds i true) a' w' :=
      fun a' w' h' => ⟨fun hn => absurd (ht i (by simp)) hn, anyT_tail t fuel _ a' w' hok.2 (by simpa using hf) (fun j hj => ht j (List.mem_cons_of_mem _ hj)) h'⟩
    refine wpOp_mono hK ?_
    unfold wpOp
    rw [ho]
    exact h

theorem anyT_of_mix {ops : List Oper} (hs : Region.noSelect ops.toArray = true) (hw : waitsAll ops.toArray tail = true) (hQ : ∀ c a d v w, Q (.panic c) (Act.put a d v) w → Q (.panic c) a w) :
    ∀ (plan : List (Nat × Bool)) (fuel : Nat) (listed : Array Bool) (a : Act) (w : World), mixOk ops.toArray tail plan listed = true → plan.length + tail.length ≤ fuel → S w →
      wpMix P ops.toArray S Q (wpList P ops.toArray Q (tailed ops tail)) (planned ops plan) a w → wpAnyT P ops.toArray Q S tail fuel listed a w
  | [], fuel, listed, a, w, hok, hf, _, h => anyT_tail tail fuel listed a w hok (by simpa using hf) (fun _ hi => hi) h
  | (i, s) :: rest, 0, listed, a, w, _, hf, _, _ => absurd hf (by simp)
  | (i, s) :: rest, fuel + 1, listed, a, w, hok, hf, hS, h => by
    simp only [mixOk, Bool.and_eq_true, Bool.not_eq_true'] at hok
    obtain ⟨⟨⟨ht, hr⟩, hk⟩, hok'⟩ := hok
    have hlen : rest.length + tail.length ≤ fuel := by simp at hf; omega
    have hri : i ∈ Region.ready .any ops.toArray listed := by simpa using hr
    obtain ⟨_, o, ho, _⟩ := mem_ready.1 hri
    have hl : ops[i]? = some o := by simpa using ho
    have hit : i ∉ tail := by simpa using ht
    have hp : planned ops ((i, s) :: rest) = (i, s, o) :: planned ops rest := by simp [planned, hl]
    rw [hp] at h
    cases s with
    | true =>
      obtain ⟨v, hy, h'⟩ := h ho
      exact anyT_take ho hs hw hit hQ fuel listed a w (Region.free_spec ho hk) hri hy hS (anyT_of_mix hs hw hQ rest fuel _ _ w hok' hlen hS h')
    | false =>
      have he : Region.ready .any ops.toArray listed = [i] := by simpa using hk
      exact anyT_only he (wpOp_mono (fun a' w' ⟨hS', hW⟩ => ⟨fun _ => hS', anyT_of_mix hs hw hQ rest fuel _ a' w' hok' hlen hS' (hW hS')⟩) (h ho))

/-- The beginning. -/
theorem wp_region_mix {id : Nat} {ops : List Oper} {a : Act} {w : World} (plan : List (Nat × Bool)) (tail : List Nat) (S : World → Prop) (hm : P.follows .mixedOrders = true) (hs : Region.noSelect ops.toArray = true)
    (hw : waitsAll ops.toArray tail = true) (hok : mixOk ops.toArray tail plan (Array.replicate ops.length false) = true) (hlen : plan.length + tail.length ≤ ops.length) (hS : S w.drew)
    (h : S w.drew → wpMix P ops.toArray S (NoPanic Q) (wpList P ops.toArray (NoPanic Q) (tailed ops tail)) (planned ops plan) a w.drew) : (Code.region id ops.toArray true).wp P Q a w := by
  refine wp_region_noPanic ?_
  refine wp_region_any hm (any_of_anyT (S := S) (tail := tail) _ _ _ _ ?_)
  have := anyT_of_mix (P := P) (S := S) (Q := NoPanic Q) hs hw (fun _ _ _ _ _ h => h) plan ops.length (Array.replicate ops.length false) a w.drew hok hlen hS (h hS)
  simpa using this

variable {R : Act → World → Prop}
variable {ops : Array Oper} {a : Act} {w : World} {i : Nat} {o : Oper} {rest : List (Nat × Bool × Oper)}
theorem mix_nil (h : R a w) : wpMix P ops S Q R [] a w := h
theorem mix_skip (hw : Region.wanted o (yielded ops a.tmps) = false) (h : wpMix P ops S Q R rest (a.put o.dst undef) w) : wpMix P ops S Q R ((i, true, o) :: rest) a w :=
  fun _ => ⟨undef, .inr ⟨hw, rfl⟩, h⟩
theorem mix_take (hw : Region.wanted o (yielded ops a.tmps) = true) (h : ∃ v, (∀ w', S w' → (execOp a.eval o).run P w' = .ok (.value v) w') ∧ wpMix P ops S Q R rest (a.put o.dst v) w) :
    wpMix P ops S Q R ((i, true, o) :: rest) a w :=
  fun _ => let ⟨v, hy, h⟩ := h; ⟨v, .inl ⟨hw, hy⟩, h⟩
theorem mix_pass (hS : S w) (hw : Region.wanted o (yielded ops a.tmps) = false) (h : wpMix P ops S Q R rest (a.put o.dst undef) w) : wpMix P ops S Q R ((i, false, o) :: rest) a w := fun ho => by
  unfold wpOp
  rw [ho]
  simp only [hw]
  exact ⟨hS, fun _ => h⟩
theorem mix_move (hw : Region.wanted o (yielded ops a.tmps) = true) (h : ∀ K : Act → World → Prop, Shut (∀ a w, S w → (S w → wpMix P ops S Q R rest a w) → K a w) → o.wp P a w K Q) :
    wpMix P ops S Q R ((i, false, o) :: rest) a w := fun ho => by
  refine wpOp_step ho (fun K hK => ?_)
  rw [if_pos hw]
  exact h K (fun a w hS hW => hK a w ⟨hS, hW⟩)
end

/-- Operations that hand back a value, or stop. -/
def isV : Op → Bool
  | .move _ | .assign _ | .pick .. | .binOp .. | .unOp .. | .convert .. | .fieldAddr .. | .field .. | .indexAddr .. | .index .. | .slice .. | .extract .. | .build .. => true
  | .call { callee := .builtin b, .. } => match b with | .len | .cap | .min | .max => true | _ => false
  | _ => false
theorem run_v {P : Program} {s : Sem Value} {w w' : World} {n : Next} (h : Sem.run P (s >>= fun x => pure (Next.value x)) w = .ok n w') : ∃ u, n = .value u := by
  rw [Sem.run_bind] at h
  cases hs : Sem.run P s w with
  | ok x w1 =>
    rw [hs] at h
    simp only [Result.andThen, Sem.run_pure, Result.ok.injEq] at h
    exact ⟨x, h.1.symm⟩
  | halt x w1 =>
    rw [hs] at h
    simp [Result.andThen] at h
theorem run_isV {P : Program} {o : Oper} {a : Act} {w w' : World} {n : Next} (hv : isV o.op = true) (h : (execOp a.eval o).run P w = .ok n w') : ∃ u, n = .value u := by
  unfold execOp at h
  cases ho : o.op <;> rw [ho] at hv <;> simp only [ho] at h <;> first
    | (simp [isV] at hv; done)
    | exact run_v h
    | (simp only [Sem.run_pure, Result.ok.injEq] at h; exact ⟨_, h.1.symm⟩)
    | skip
  case pick c x y =>
    rw [Sem.run_bind] at h
    cases hs : Sem.run P (asBool (a.eval c)) w with
    | ok b w1 =>
      rw [hs] at h
      simp only [Result.andThen, Sem.run_pure, Result.ok.injEq] at h
      exact ⟨_, h.1.symm⟩
    | halt b w1 =>
      rw [hs] at h
      simp [Result.andThen] at h
  case call c =>
    obtain ⟨callee, args, argTypes⟩ := c
    cases callee with
    | value f => simp [isV] at hv
    | invoke r m => simp [isV] at hv
    | builtin b =>
      simp only [resolve, Sem.run_bind, Sem.run_pure, Result.andThen] at h
      cases b <;> simp [isV] at hv <;> exact run_v h
section
variable {P : Program} {S : World → Prop} {Q : Exit → Act → World → Prop} {R : Act → World → Prop} {ops : Array Oper} {a : Act} {w : World} {i : Nat} {o : Oper} {rest : List (Nat × Bool × Oper)}
theorem mix_pure (hv : isV o.op = true) (hw : Region.wanted o (yielded ops a.tmps) = true) (h : ∀ K : Act → Prop, (∀ a', wpMix P ops S Q R rest a' w → K a') → o.quiet P a (fun _ => True) K) :
    wpMix P ops S Q R ((i, true, o) :: rest) a w := by
  obtain ⟨v, h1, h2⟩ := h _ (fun _ h => h)
  refine mix_take hw ⟨v, fun w' _ => ?_, h2⟩
  have h3 := h1 w' trivial
  unfold Oper.quietAt at h3
  cases hr : (execOp a.eval o).run P w' with
  | ok n w'' =>
    obtain ⟨u, rfl⟩ := run_isV hv hr
    rw [hr] at h3
    simp only [Oper.quietUpon] at h3
    rw [h3.1, h3.2]
  | halt x w'' =>
    rw [hr] at h3
    simp only [Oper.quietUpon] at h3
end

/-- Since the call began (world we) nothing below base has turned; since the statement began (world w0) what was there below B, apart from one row, reads as it did. -/
structure SB (base : Nat) (we : World) (B : Nat) (row : Option Nat) (w0 w' : World) : Prop where
  cell : ∀ b o, b < B → some b ≠ row → w'.cell? ⟨b, o, none⟩ = w0.cell? ⟨b, o, none⟩
  frozen : ∀ b o, b < B → some b ≠ row → w'.frozen? ⟨b, o, none⟩ = w0.frozen? ⟨b, o, none⟩
  size : B ≤ w'.heap.size
  below : Below base we w'

section
variable {base B : Nat} {we w0 w1 w2 : World} {row : Option Nat}
theorem SB.start (hb : Below base we w0) (hB : B ≤ w0.heap.size) : SB base we B row w0 w0.drew := ⟨fun _ _ _ _ => rfl, fun _ _ _ _ => rfl, hB, hb.drew⟩
theorem SB.step (h : SB base we B row w0 w1) (hx : Below w1.heap.size w1 w2) (hB : base ≤ B) : SB base we B row w0 w2 :=
  ⟨fun b o hb hr => ((bcell hx).1 b o (Nat.lt_of_lt_of_le hb h.size)).trans (h.cell b o hb hr), fun b o hb hr => ((bcell hx).2 b o (Nat.lt_of_lt_of_le hb h.size)).trans (h.frozen b o hb hr),
    Nat.le_trans h.size hx.size, h.below.trans (hx.mono (Nat.le_trans hB h.size))⟩
theorem SB.alloc (h : SB base we B row w0 w1) (o : Obj) (hB : base ≤ B) : SB base we B row w0 (w1.alloc o) := h.step ((Below.refl _ _).alloc (Nat.le_refl _) o) hB
theorem SB.grown (h : SB base we B row w0 w1) (hg : w1.grownBy w2 row) (hb : Below base w1 w2) : SB base we B row w0 w2 :=
  ⟨fun b o hb hr => (World.cell?_of_block (a := ⟨b, o, none⟩) (hg.block b (Nat.lt_of_lt_of_le hb h.size) hr)).trans (h.cell b o hb hr),
    fun b o hb hr => (World.frozen?_of_block (a := ⟨b, o, none⟩) (hg.block b (Nat.lt_of_lt_of_le hb h.size) hr)).trans (h.frozen b o hb hr),
    Nat.le_trans h.size hg.size, h.below.trans hb⟩
end
end Go.Proofs.Ytabaflklognhaaa
