/-
  Conditions: none.
-/
import Derived.Deep.RegionHeld3
import Derived.Test.YtaodngiigdbgeaaGreatDoorMaa
import Derived.Test.YtaodngiigdbgeaaGreatDoorMad
set_option maxHeartbeats 16000000
set_option maxRecDepth 20000
set_option linter.unusedSimpArgs false
set_option linter.unusedVariables false
namespace Go.Proofs.YtaodngiigdbgeaaGreatDoor
section
open Go.RowKit
def tailOk (ops : Array Oper) (tail : List Nat) : List Nat → Array Bool → Bool
 | [], listed => (Region.ready .any ops listed).isEmpty
 | i :: rest, listed => (Region.ready .any ops listed == [i]) && tailOk ops tail rest (listed.setIfInBounds i true)
def mixOk (ops : Array Oper) (tail : List Nat) : List (Nat × Bool) → Array Bool → Bool
 | [], listed => tailOk ops tail tail listed
 | (i, s) :: rest, listed =>
  !tail.contains i && (Region.ready .any ops listed).contains i && (if s then Region.free .any ops listed i else Region.ready .any ops listed == [i]) && mixOk ops tail rest (listed.setIfInBounds i true)
def waitsAll (ops : Array Oper) (tail : List Nat) : Bool :=
 tail.all fun j => (List.range ops.size).all fun i => tail.contains i || ((ops[j]?).map fun o => o.after.any fun e => Region.binds .any e && e.on == i).getD true
def wpAnyT (P : Program) (ops : Array Oper) (Q : Exit → Act → World → Prop) (S : World → Prop) (tail : List Nat) : Nat → Array Bool → Act → World → Prop
 | 0, listed, a, w => Region.ready .any ops listed = [] ∧ Q .normal a w
 | fuel + 1, listed, a, w =>
  (Region.ready .any ops listed = [] → Q .normal a w) ∧
  ∀ i ∈ Region.ready .any ops listed, wpOp P ops Q i (fun a' w' => (i ∉ tail → S w') ∧ wpAnyT P ops Q S tail fuel (listed.setIfInBounds i true) a' w') a w
def wpMix (P : Program) (ops : Array Oper) (S : World → Prop) (Q : Exit → Act → World → Prop) (R : Act → World → Prop) : List (Nat × Bool × Oper) → Act → World → Prop
 | [], a, w => R a w
 | (i, true, o) :: rest, a, w => ops[i]? = some o → ∃ v, YieldsIf P ops S o v a ∧ wpMix P ops S Q R rest (a.put o.dst v) w
 | (i, false, o) :: rest, a, w => ops[i]? = some o → wpOp P ops Q i (fun a' w' => S w' ∧ (S w' → wpMix P ops S Q R rest a' w')) a w
def planned (ops : List Oper) (plan : List (Nat × Bool)) : List (Nat × Bool × Oper) := plan.filterMap fun x => (ops[x.1]?).map fun o => (x.1, x.2, o)
def tailed (ops : List Oper) (tail : List Nat) : List Oper := tail.filterMap fun i => ops[i]?
section
variable {P : Program} {S : World → Prop} {Q : Exit → Act → World → Prop} {tail : List Nat}
theorem mI {ops : Array Oper} : ∀ (fuel : Nat) (listed : Array Bool) (a : Act) (w : World), wpAnyT P ops Q S tail fuel listed a w → wpAny P .any ops Q fuel listed a w
 | 0, _, _, _, h => h
 | fuel + 1, _, _, _, h => ⟨h.1, fun i hi => wpOp_mono (fun a' w' h' => mI fuel _ a' w' h'.2) (h.2 i hi)⟩
theorem aKb {ops : Array Oper} {listed : Array Bool} {a : Act} {w : World} (hr : Region.ready .any ops listed = []) (h : Q .normal a w) : ∀ fuel, wpAnyT P ops Q S tail fuel listed a w
 | 0 => ⟨hr, h⟩
 | _ + 1 => ⟨fun _ => h, by rw [hr]; simp⟩
theorem tJ {ops : Array Oper} {fuel i : Nat} {listed : Array Bool} {a : Act} {w : World} (hr : Region.ready .any ops listed = [i])
  (h : wpOp P ops Q i (fun a' w' => (i ∉ tail → S w') ∧ wpAnyT P ops Q S tail fuel (listed.setIfInBounds i true) a' w') a w) : wpAnyT P ops Q S tail (fuel + 1) listed a w :=
 ⟨fun h0 => (by rw [hr] at h0; cases h0), fun j hj => by
  rw [hr] at hj
  obtain rfl : j = i := by simpa using hj
  exact h⟩
theorem zH {ops : Array Oper} {i : Nat} {oi : Oper} {v : Value} (hi : ops[i]? = some oi) (hs : Region.noSelect ops = true) (hw : waitsAll ops tail = true) (hit : i ∉ tail)
  (hQ : ∀ c a d v w, Q (.panic c) (Act.put a d v) w → Q (.panic c) a w) :
  ∀ (fuel : Nat) (listed : Array Bool) (a : Act) (w : World),
   (∀ j oj, ops[j]? = some oj → j ≠ i → listed.getD j true = false → (∀ e ∈ oj.after, Region.binds .any e = true → e.on ≠ i) → oi.apart ops oj = true) →
   i ∈ Region.ready .any ops listed → YieldsIf P ops S oi v a → S w → wpAnyT P ops Q S tail fuel (listed.setIfInBounds i true) (a.put oi.dst v) w → wpAnyT P ops Q S tail (fuel + 1) listed a w := by
 intro fuel
 induction fuel with
 | zero =>
  intro listed a w _ hr hy hS H
  refine ⟨fun h0 => (by rw [h0] at hr; cases hr), fun j hj => ?_⟩
  by_cases hne : j = i
  ·subst hne
   exact hy.wpOp hi hS ⟨fun _ => hS, H⟩
  ·have hmem := ready_mono hj hne
   rw [H.1] at hmem
   cases hmem
 | succ n ih =>
  intro listed a w hfree hr hy hS H
  refine ⟨fun h0 => (by rw [h0] at hr; cases hr), fun j hj => ?_⟩
  by_cases hne : j = i
  ·subst hne
   exact hy.wpOp hi hS ⟨fun _ => hS, H⟩
  obtain ⟨hun, oj, hoj, hdeps⟩ := mem_ready.1 hj
  have hiu : listed.getD i true = false := (mem_ready.1 hr).1
  have hif : listed.getD i false = false := by
   rcases Nat.lt_or_ge i listed.size with hlt | hge
   ·simpa [hlt] using hiu
   ·simp [Array.getElem?_eq_none hge] at hiu
  have hdoes : ∀ e ∈ oj.after, Region.binds .any e = true → e.on ≠ i := fun e he hb heq => by
   have := hdeps e he hb
   rw [heq, hif] at this
   cases this
  have hjt : j ∉ tail := fun hjt => by
   have h1 := List.all_eq_true.1 hw j hjt
   have hlt : i < ops.size := (Array.getElem?_eq_some_iff.1 hi).1
   have h2 := List.all_eq_true.1 h1 i (List.mem_range.2 hlt)
   have h3 : tail.contains i = false := by simpa using hit
   rw [h3, hoj] at h2
   simp only [Bool.false_or, Option.map_some, Option.getD_some] at h2
   obtain ⟨e, he, hb⟩ := Array.any_eq_true'.1 h2
   simp only [Bool.and_eq_true, beq_iff_eq] at hb
   exact hdoes e he hb.1 hb.2
  have step := wpOp_putIf hoj (hfree j oj hoj hne hun hdoes) (fun cs b => Region.noSelect_spec hs i oi cs b hi) (fun cs b => Region.noSelect_spec hs j oj cs b hoj) (fun c a w hq => hQ c a _ _ w hq) hy (H.2 j (ready_mono hj hne))
  refine wpOp_mono (fun a' w' ⟨hy', hS', hW⟩ => ⟨hS', ih (listed.setIfInBounds j true) a' w' ?_ (ready_mono hr (Ne.symm hne)) hy' (hS' hjt) ?_⟩) step
  ·intro k ok hk hki hku hno
   refine hfree k ok hk hki ?_ hno
   by_cases hjk : j = k
   ·rw [← hjk]; exact hun
   ·rwa [getD_set_ne true hjk] at hku
  ·rw [Array.setIfInBounds_comm _ _ hne]
   exact hW
theorem tK {ops : List Oper} : ∀ (t : List Nat) (fuel : Nat) (listed : Array Bool) (a : Act) (w : World), tailOk ops.toArray tail t listed = true → t.length ≤ fuel → (∀ i ∈ t, i ∈ tail) →
  wpList P ops.toArray Q (tailed ops t) a w → wpAnyT P ops.toArray Q S tail fuel listed a w
 | [], fuel, listed, a, w, hok, _, _, h => aKb (by simpa [tailOk] using hok) h fuel
 | i :: t, 0, _, _, _, _, hf, _, _ => absurd hf (by simp)
 | i :: t, fuel + 1, listed, a, w, hok, hf, ht, h => by
  simp only [tailOk, Bool.and_eq_true, beq_iff_eq] at hok
  obtain ⟨_, o, ho, _⟩ := mem_ready.1 (show i ∈ Region.ready .any ops.toArray listed by rw [hok.1]; simp)
  have hl : ops[i]? = some o := by simpa using ho
  have hc : tailed ops (i :: t) = o :: tailed ops t := by simp [tailed, hl]
  rw [hc] at h
  refine tJ hok.1 ?_
  have hK : ∀ a' w', wpList P ops.toArray Q (tailed ops t) a' w' → (i ∉ tail → S w') ∧ wpAnyT P ops.toArray Q S tail fuel (listed.setIfInBounds i true) a' w' :=
   fun a' w' h' => ⟨fun hn => absurd (ht i (by simp)) hn, tK t fuel _ a' w' hok.2 (by simpa using hf) (fun j hj => ht j (List.mem_cons_of_mem _ hj)) h'⟩
  refine wpOp_mono hK ?_
  unfold wpOp
  rw [ho]
  exact h
theorem mH {ops : List Oper} (hs : Region.noSelect ops.toArray = true) (hw : waitsAll ops.toArray tail = true) (hQ : ∀ c a d v w, Q (.panic c) (Act.put a d v) w → Q (.panic c) a w) :
  ∀ (plan : List (Nat × Bool)) (fuel : Nat) (listed : Array Bool) (a : Act) (w : World), mixOk ops.toArray tail plan listed = true → plan.length + tail.length ≤ fuel → S w →
   wpMix P ops.toArray S Q (wpList P ops.toArray Q (tailed ops tail)) (planned ops plan) a w → wpAnyT P ops.toArray Q S tail fuel listed a w
 | [], fuel, listed, a, w, hok, hf, _, h => tK tail fuel listed a w hok (by simpa using hf) (fun _ hi => hi) h
 | (i, s) :: rest, 0, listed, a, w, _, hf, _, _ => absurd hf (by simp)
 | (i, s) :: rest, fuel + 1, listed, a, w, hok, hf, hS, h => by
  simp only [mixOk, Bool.and_eq_true, Bool.not_eq_true'] at hok
  obtain ⟨⟨⟨ht, hr⟩, hk⟩, hok'⟩ := hok
  have hlen : rest.length + tail.length ≤ fuel := by simp at hf; omega
  have hri : i ∈ Region.ready .any ops.toArray listed := by simpa using hr
  obtain ⟨_, o, ho, _⟩ := mem_ready.1 hri
  have hl : ops[i]? = some o := by simpa using ho
  have hit : i ∉ tail := by simpa using ht
  have hp : planned ops ((i, s) :: rest) = (i, s, o) :: planned ops rest := by simp [planned, hl]
  rw [hp] at h
  cases s with
  | true =>
   obtain ⟨v, hy, h'⟩ := h ho
   exact zH ho hs hw hit hQ fuel listed a w (Region.free_spec ho hk) hri hy hS (mH hs hw hQ rest fuel _ _ w hok' hlen hS h')
  | false =>
   have he : Region.ready .any ops.toArray listed = [i] := by simpa using hk
   exact tJ he (wpOp_mono (fun a' w' ⟨hS', hW⟩ => ⟨fun _ => hS', mH hs hw hQ rest fuel _ a' w' hok' hlen hS' (hW hS')⟩) (h ho))
theorem qV {id : Nat} {ops : List Oper} {a : Act} {w : World} (plan : List (Nat × Bool)) (tail : List Nat) (S : World → Prop) (hm : P.follows .mixedOrders = true) (hs : Region.noSelect ops.toArray = true)
  (hw : waitsAll ops.toArray tail = true) (hok : mixOk ops.toArray tail plan (Array.replicate ops.length false) = true) (hlen : plan.length + tail.length ≤ ops.length) (hS : S w.drew)
  (h : S w.drew → wpMix P ops.toArray S (NoPanic Q) (wpList P ops.toArray (NoPanic Q) (tailed ops tail)) (planned ops plan) a w.drew) : (Code.region id ops.toArray true).wp P Q a w := by
 refine wp_region_noPanic ?_
 refine wp_region_any hm (mI (S := S) (tail := tail) _ _ _ _ ?_)
 have := mH (P := P) (S := S) (Q := NoPanic Q) hs hw (fun _ _ _ _ _ h => h) plan ops.length (Array.replicate ops.length false) a w.drew hok hlen hS (h hS)
 simpa using this
variable {R : Act → World → Prop}
variable {ops : Array Oper} {a : Act} {w : World} {i : Nat} {o : Oper} {rest : List (Nat × Bool × Oper)}
theorem aTp (h : R a w) : wpMix P ops S Q R [] a w := h
theorem aOv (hw : Region.wanted o (yielded ops a.tmps) = false) (h : wpMix P ops S Q R rest (a.put o.dst undef) w) : wpMix P ops S Q R ((i, true, o) :: rest) a w :=
 fun _ => ⟨undef, .inr ⟨hw, rfl⟩, h⟩
theorem aOw (hw : Region.wanted o (yielded ops a.tmps) = true) (h : ∃ v, (∀ w', S w' → (execOp a.eval o).run P w' = .ok (.value v) w') ∧ wpMix P ops S Q R rest (a.put o.dst v) w) :
  wpMix P ops S Q R ((i, true, o) :: rest) a w :=
 fun _ => let ⟨v, hy, h⟩ := h; ⟨v, .inl ⟨hw, hy⟩, h⟩
theorem aOu (hS : S w) (hw : Region.wanted o (yielded ops a.tmps) = false) (h : wpMix P ops S Q R rest (a.put o.dst undef) w) : wpMix P ops S Q R ((i, false, o) :: rest) a w := fun ho => by
 unfold wpOp
 rw [ho]
 simp only [hw]
 exact ⟨hS, fun _ => h⟩
theorem gU (hw : Region.wanted o (yielded ops a.tmps) = true) (h : ∀ K : Act → World → Prop, Shut (∀ a w, S w → (S w → wpMix P ops S Q R rest a w) → K a w) → o.wp P a w K Q) :
  wpMix P ops S Q R ((i, false, o) :: rest) a w := fun ho => by
 refine wpOp_step ho (fun K hK => ?_)
 rw [if_pos hw]
 exact h K (fun a w hS hW => hK a w ⟨hS, hW⟩)
end
def isV : Op → Bool
 | .move _ | .assign _ | .pick .. | .binOp .. | .unOp .. | .convert .. | .fieldAddr .. | .field .. | .indexAddr .. | .index .. | .slice .. | .extract .. | .build .. => true
 | .call { callee := .builtin b, .. } => match b with | .len | .cap | .min | .max => true | _ => false
 | _ => false
section
variable {P : Program} {S : World → Prop} {Q : Exit → Act → World → Prop} {R : Act → World → Prop} {ops : Array Oper} {a : Act} {w : World} {i : Nat} {o : Oper} {rest : List (Nat × Bool × Oper)}
end
structure SB (base : Nat) (we : World) (B : Nat) (row : Option Nat) (w0 w' : World) : Prop where
 cell : ∀ b o, b < B → some b ≠ row → w'.cell? ⟨b, o, none⟩ = w0.cell? ⟨b, o, none⟩
 frozen : ∀ b o, b < B → some b ≠ row → w'.frozen? ⟨b, o, none⟩ = w0.frozen? ⟨b, o, none⟩
 size : B ≤ w'.heap.size
 below : Below base we w'
section
variable {base B : Nat} {we w0 w1 w2 : World} {row : Option Nat}
theorem SB.start (hb : Below base we w0) (hB : B ≤ w0.heap.size) : SB base we B row w0 w0.drew := ⟨fun _ _ _ _ => rfl, fun _ _ _ _ => rfl, hB, hb.drew⟩
theorem SB.step (h : SB base we B row w0 w1) (hx : Below w1.heap.size w1 w2) (hB : base ≤ B) : SB base we B row w0 w2 :=
 ⟨fun b o hb hr => ((uI hx).1 b o (Nat.lt_of_lt_of_le hb h.size)).trans (h.cell b o hb hr), fun b o hb hr => ((uI hx).2 b o (Nat.lt_of_lt_of_le hb h.size)).trans (h.frozen b o hb hr),
  Nat.le_trans h.size hx.size, h.below.trans (hx.mono (Nat.le_trans hB h.size))⟩
theorem SB.alloc (h : SB base we B row w0 w1) (o : Obj) (hB : base ≤ B) : SB base we B row w0 (w1.alloc o) := h.step ((Below.refl _ _).alloc (Nat.le_refl _) o) hB
theorem SB.grown (h : SB base we B row w0 w1) (hg : w1.grownBy w2 row) (hb : Below base w1 w2) : SB base we B row w0 w2 :=
 ⟨fun b o hb hr => (World.cell?_of_block (a := ⟨b, o, none⟩) (hg.block b (Nat.lt_of_lt_of_le hb h.size) hr)).trans (h.cell b o hb hr),
  fun b o hb hr => (World.frozen?_of_block (a := ⟨b, o, none⟩) (hg.block b (Nat.lt_of_lt_of_le hb h.size) hr)).trans (h.frozen b o hb hr),
  Nat.le_trans h.size hg.size, h.below.trans hb⟩
end
end
section
open Go.RowKit
theorem rJ {P : Program} (w : World) (base : Nat) (t ty e : TypeId) (i : TypeInfo) (z : Value) (size bytes : Nat) (ht : P.underlying t = some (.slice e)) (hi : P.info? e = some i) (hz : i.zero = some z)
  (hsize : i.size = size) (hby : i.bytes = bytes)
  (g n cap : Nat) (xs : List Value) (hown : w.ownsRow base e size (.slice (some ⟨g, 0, none⟩) n cap) n xs)
  (a : Addr) (m c : Nat) (news : List Value) (hl : news.length = m * size) (hnews : ∀ j u, news[j]? = some u → w.cell? (a.add j) = some u) (h1 : ∀ u ∈ news, u.oneCell' = true)
  (h63 : n + m ≤ maxLen) (hbytes : (n + m) * bytes ≤ 140737488355328) {v' : Value} {w' : World}
  (h : (Builtin.append_ #[t, t] ty #[.slice (some ⟨g, 0, none⟩) n cap, .slice (some a) m c]).run P w = .ok v' w') (hown' : w'.ownsRow base e size v' (n + m) (xs ++ news)) :
  ∀ j, j < n * size → w'.cell? ⟨g, j, none⟩ = w.cell? ⟨g, j, none⟩ := by
 intro j hj
 subst hsize
 subst hby
 simp only [maxLen] at h63
 rcases hown.2 with ⟨h0, _⟩ | ⟨g', cap', cur, h0, hbg, hg, hnc, hcm, hcs, htake⟩
 ·simp at h0
 ·simp only [Value.slice.injEq, Option.some.injEq, Addr.mk.injEq, and_true, true_and] at h0
  obtain ⟨rfl, rfl⟩ := h0
  by_cases hroom : n + m ≤ cap
  ·have hfit : n * i.size + news.length ≤ cur.size := by rw [hl, hcs, ← Nat.add_mul]; exact Nat.mul_le_mul_right _ hroom
   have hr := run_append_room (P := P) w t ty e i ht hi g n cap cur hg a m c news hl hnews h1 hroom hfit
   rw [hr] at h
   cases h
   rw [hown'.cellAt j (by rw [Nat.add_mul]; omega), hown.cellAt j hj, List.getElem?_append_left (by rw [hown.1]; exact hj)]
  ·have holds : ∀ j u, xs[j]? = some u → w.cell? ((⟨g, 0, none⟩ : Addr).add j) = some u := hown.cells (g := g) rfl
   have hr := run_append_grow (P := P) w t ty e i z ht hi hz ⟨g, 0, none⟩ n cap xs hown.1 holds a m c news hl hnews zb zb (growslice_fits zb hbytes)
   rw [hr] at h
   cases h
   have hlt := (Array.getElem?_eq_some_iff.1 hg).1
   exact (uI (((Below.refl w.heap.size w).drew).alloc (by simp) _)).1 g j hlt
structure SG (base : Nat) (we : World) (B : Nat) (g n : Nat) (w0 w' : World) : Prop where
 cell : ∀ b o, b < B → b ≠ g → w'.cell? ⟨b, o, none⟩ = w0.cell? ⟨b, o, none⟩
 kept : ∀ o, o < n → w'.cell? ⟨g, o, none⟩ = w0.cell? ⟨g, o, none⟩
 size : B ≤ w'.heap.size
 inB : g < B
 below : Below base we w'
section
variable {base B g n : Nat} {we w0 w1 w2 : World}
theorem SG.start (hb : Below base we w0) (hB : B ≤ w0.heap.size) (hg : g < B) : SG base we B g n w0 w0.drew := ⟨fun _ _ _ _ => rfl, fun _ _ => rfl, hB, hg, hb.drew⟩
theorem SG.step (h : SG base we B g n w0 w1) (hx : Below w1.heap.size w1 w2) (hB : base ≤ B) : SG base we B g n w0 w2 :=
 ⟨fun b o hb hr => ((uI hx).1 b o (Nat.lt_of_lt_of_le hb h.size)).trans (h.cell b o hb hr), fun o ho => ((uI hx).1 g o (Nat.lt_of_lt_of_le h.inB h.size)).trans (h.kept o ho),
  Nat.le_trans h.size hx.size, h.inB, h.below.trans (hx.mono (Nat.le_trans hB h.size))⟩
theorem SG.alloc (h : SG base we B g n w0 w1) (o : Obj) (hB : base ≤ B) : SG base we B g n w0 (w1.alloc o) := h.step ((Below.refl _ _).alloc (Nat.le_refl _) o) hB
theorem SG.grown (h : SG base we B g n w0 w1) (hg : w1.grownBy w2 (some g) ∧ ∀ j, j < n → w2.cell? ⟨g, j, none⟩ = w1.cell? ⟨g, j, none⟩) (hb : Below base w1 w2) : SG base we B g n w0 w2 :=
 ⟨fun b o hb hr => (World.cell?_of_block (a := ⟨b, o, none⟩) (hg.1.block b (Nat.lt_of_lt_of_le hb h.size) (fun e => hr (by simpa using e)))).trans (h.cell b o hb hr),
  fun o ho => (hg.2 o ho).trans (h.kept o ho), Nat.le_trans h.size hg.1.size, h.inB, h.below.trans hb⟩
end
end
section
open Go.RowKit
def cellsD : D → List D
 | .agg l => l
 | .val v => v.cells.toList.map D.val
 | d => [d]
def putD (l : List D) (o : Nat) (n : List D) : List D := l.take o ++ n ++ l.drop (o + n.length)
def dfill (place : Nat → Option (Nat × Nat)) (ds : List D) : List (Nat × D) → Option (List D)
 | [] => some ds
 | (i, d) :: rest => match place i with
  | none => none
  | some (off, size) => if (cellsD d).length = size ∧ off + size ≤ ds.length then dfill place (putD ds off (cellsD d)) rest else none
def RelC (w : World) (Pr : Prot) (cs : List Value) (ds : List D) : Prop := cs.length = ds.length ∧ ∀ (i : Nat) (v : Value) (d : D), cs[i]? = some v → ds[i]? = some d → RepD w Pr v d
section
variable {w : World} {Pr : Prot}
theorem aHq {v : Value} {d : D} (h : RepD w Pr v d) : RelC w Pr v.cells.toList (cellsD d) := by
 cases h with
 | val v =>
  refine ⟨by simp [cellsD], fun i u d h1 h2 => ?_⟩
  simp only [cellsD, List.getElem?_map, h1, Option.map_some, Option.some.injEq] at h2
  subst h2
  exact .val _
 | nil A c s hm =>
  refine ⟨rfl, fun i u d h1 h2 => ?_⟩
  cases i with
  | zero => simp [Value.cells, cellsD] at h1 h2; subst h1 h2; exact .nil A c s hm
  | succ i => simp [cellsD] at h2
 | list b o n c s l u hn hs hc hm hr hd =>
  refine ⟨rfl, fun i v d h1 h2 => ?_⟩
  cases i with
  | zero => simp [Value.cells, cellsD] at h1 h2; subst h1 h2; exact .list b o n c s l u hn hs hc hm hr hd
  | succ i => simp [cellsD] at h2
 | agg cs l hl hd => exact ⟨by simpa [Value.cells, cellsD] using hl, fun i v d h1 h2 => hd i v d (by simpa [Value.cells] using h1) (by simpa [cellsD] using h2)⟩
 | tup cs l hl hd =>
  refine ⟨rfl, fun i v d h1 h2 => ?_⟩
  cases i with
  | zero => simp [Value.cells, cellsD] at h1 h2; subst h1 h2; exact .tup cs l hl hd
  | succ i => simp [cellsD] at h2
 | err t u =>
  refine ⟨rfl, fun i v d h1 h2 => ?_⟩
  cases i with
  | zero => simp [Value.cells, cellsD] at h1 h2; subst h1 h2; exact .err t u
  | succ i => simp [cellsD] at h2
 | ifc t u x h =>
  refine ⟨rfl, fun i v d h1 h2 => ?_⟩
  cases i with
  | zero => simp [Value.cells, cellsD] at h1 h2; subst h1 h2; exact .ifc t u x h
  | succ i => simp [cellsD] at h2
theorem aOa (new : List Value) : ∀ (k : Nat) (cells : Array Value) (off : Nat), off + k + new.length ≤ cells.size →
  ((new.zipIdx k).foldl (fun cs (c, j) => cs.setIfInBounds (off + j) c) cells).toList = cells.toList.take (off + k) ++ new ++ cells.toList.drop (off + k + new.length) := by
 induction new with
 | nil => intro k cells off h; simp
 | cons v new ih =>
  intro k cells off h
  simp only [List.length_cons] at h
  simp only [List.zipIdx_cons, List.foldl_cons]
  rw [ih (k + 1) _ off jv]
  have hlt : off + k < cells.toList.length := by simp; omega
  simp only [Array.toList_setIfInBounds]
  rw [List.take_set, List.drop_set]
  rw [if_pos zb]
  have e1 : off + (k + 1) = (off + k) + 1 := by omega
  rw [e1, List.take_succ_eq_append_getElem hlt]
  rw [List.set_append_right _ _ jv]
  simp only [List.length_take, List.length_cons]
  rw [show min (off + k) cells.toList.length = off + k by omega, Nat.sub_self]
  simp only [List.set_cons_zero, List.append_assoc, List.singleton_append]
  congr 3
  rw [show off + k + 1 + new.length = off + k + (new.length + 1) by omega]
theorem aPz {cs vs : List Value} {ds ns : List D} {off : Nat} (h : RelC w Pr cs ds) (hn : RelC w Pr vs ns) (hl : off + ns.length ≤ ds.length) : RelC w Pr (cs.take off ++ vs ++ cs.drop (off + vs.length)) (putD ds off ns) := by
 obtain ⟨h1, h2⟩ := h
 obtain ⟨n1, n2⟩ := hn
 refine ⟨by simp [putD]; omega, fun j u z h3 h4 => ?_⟩
 simp only [putD] at h4
 rw [List.append_assoc] at h3 h4
 by_cases hj1 : j < off
 ·rw [List.getElem?_append_left jv, List.getElem?_take, if_pos hj1] at h3 h4
  exact h2 j u z h3 h4
 ·rw [List.getElem?_append_right jv] at h3 h4
  have e1 : (cs.take off).length = off := by simp; omega
  have e2 : (ds.take off).length = off := by simp; omega
  rw [e1] at h3
  rw [e2] at h4
  by_cases hj2 : j - off < ns.length
  ·rw [List.getElem?_append_left zb] at h3 h4
   exact n2 _ u z h3 h4
  ·rw [List.getElem?_append_right zb, List.getElem?_drop] at h3 h4
   rw [n1] at h3
   exact h2 _ u z h3 h4
def RelP (w : World) (Pr : Prot) (vs : List (Nat × Value)) (ds : List (Nat × D)) : Prop := vs.length = ds.length ∧ ∀ (i : Nat) (v : Nat × Value) (d : Nat × D), vs[i]? = some v → ds[i]? = some d → v.1 = d.1 ∧ RepD w Pr v.2 d.2
theorem tP {place : Nat → Option (Nat × Nat)} : ∀ {dp : List (Nat × D)} {vp : List (Nat × Value)} {cs : Array Value} {ds ds' : List D}, RelC w Pr cs.toList ds → RelP w Pr vp dp → dfill place ds dp = some ds' →
  ∃ cs', Instr.fill place cs vp = some cs' ∧ RelC w Pr cs'.toList ds' := by
 intro dp
 induction dp with
 | nil =>
  intro vp cs ds ds' h hp hf
  have : vp = [] := List.eq_nil_of_length_eq_zero (by simpa using hp.1)
  subst this
  simp only [dfill, Option.some.injEq] at hf
  subst hf
  exact ⟨cs, rfl, h⟩
 | cons x dp ih =>
  obtain ⟨i, d⟩ := x
  intro vp cs ds ds' h hp hf
  cases vp with
  | nil => simp [RelP] at hp
  | cons y vp =>
   obtain ⟨i', v⟩ := y
   obtain ⟨e1, e2⟩ := hp.2 0 _ _ rfl rfl
   simp only at e1 e2
   subst e1
   have hp' : RelP w Pr vp dp := ⟨by simpa using hp.1, fun k a b ha hb => hp.2 (k + 1) a b (by simpa using ha) (by simpa using hb)⟩
   simp only [dfill] at hf
   cases hpl : place i' with
   | none => rw [hpl] at hf; cases hf
   | some q =>
    obtain ⟨off, size⟩ := q
    rw [hpl] at hf
    simp only at hf
    split at hf
    ·rename_i hc
     have hcell := aHq e2
     have hvs : v.cells.size = size := by have := hcell.1; simp at this; omega
     have hcs : cs.size = ds.length := by simpa using h.1
     have h2 : RelC w Pr ((v.cells.zipIdx.foldl (fun cs (c, j) => cs.setIfInBounds (off + j) c) cs).toList) (putD ds off (cellsD d)) := by
      have e3 := aOa v.cells.toList 0 cs off jv
      have e4 : v.cells.zipIdx.foldl (fun cs (c, j) => cs.setIfInBounds (off + j) c) cs = (v.cells.toList.zipIdx 0).foldl (fun cs (c, j) => cs.setIfInBounds (off + j) c) cs := by
       rw [← Array.foldl_toList]
       simp
      rw [e4, e3]
      simp only [Nat.add_zero]
      exact aPz h hcell zb
     obtain ⟨cs', h3, h4⟩ := ih h2 hp' hf
     refine ⟨cs', ?_, h4⟩
     simp only [Instr.fill, hpl]
     rw [if_neg jv]
     exact h3
    ·cases hf
end
section
variable {E : Entry} {sl : Slots} {ob : Objs} {a : Act} {w : World} {Pr : Prot} {β : Nat → Value} {κ : Nat → Nat}
inductive PartsD (sl : Slots) (ob : Objs) : List (Nat × Operand) → List (Nat × D) → Prop where
 | nil : PartsD sl ob [] []
 | cons {i : Nat} {x : Operand} {xs : List (Nat × Operand)} {d : D} {ds : List (Nat × D)} (h : ToD ob (ev sl x) d) (hr : PartsD sl ob xs ds) : PartsD sl ob ((i, x) :: xs) ((i, d) :: ds)
theorem PartsD.rep (h : Good E sl ob a w Pr β κ) {xs : List (Nat × Operand)} {ds : List (Nat × D)} (hd : PartsD sl ob xs ds) : RelP w Pr (xs.map fun q => (q.1, a.eval q.2)) ds := by
 induction hd with
 | nil => exact ⟨rfl, fun i v d h => by simp at h⟩
 | @cons i x xs d ds hx hr ih =>
  refine ⟨by simpa using ih.1, fun k v q h1 h2 => ?_⟩
  cases k with
  | zero =>
   simp at h1 h2
   subst h1 h2
   exact ⟨rfl, eZ h hx _ (bO h x)⟩
  | succ k => exact ih.2 k v q (by simpa using h1) (by simpa using h2)
theorem xZ (cs : List Value) : RelC w Pr cs (cs.map D.val) := ⟨by simp, fun i v d h1 h2 => by
 simp only [List.getElem?_map, h1, Option.map_some, Option.some.injEq] at h2
 subst h2
 exact .val _⟩
variable {d : Nat} {t T ty : TypeId} {p : String} {af : Array Edge} {g : Option (Nat × Bool)} {x y c : Operand}
theorem eH {d : Option Nat} {z : List Value} {fs : List (Nat × Nat × Nat)} {parts : List (Nat × Operand)} {dp : List (Nat × D)} {l : List D} (hT : ti t = .st z fs) (hp : PartsD sl ob parts dp) (hl : dfill (fun i => (fs[i]?).map fun q => (q.1, q.2.1)) (z.map D.val) dp = some l) :
  Y E ⟨d, .build t parts.toArray, T, p, af, g⟩ sl ob (.d (.agg l)) := fun a w Pr β κ h => by
 obtain ⟨i, F, h1, h2, h3, h4, h5⟩ := yI hT
 obtain ⟨cs, hf, hc⟩ := tP (cs := z.toArray) (xZ z) (hp.rep h) hl
 refine ⟨.agg cs, .d _ _ ?_, fun w' _ => ?_⟩
 ·have := RepD.agg cs.toList l hc.1 hc.2
  simpa using this
 ·have hpl : F.toList.mapM (fun f => (Tryz.prog.info? f.type).map fun i => (f.offset, i.size)) = some (fs.map fun q => (q.1, q.2.1)) := by
   have key : ∀ (F : List Field) (fs : List (Nat × Nat × Nat)), F.mapM (fun f => (Tryz.prog.info? f.type).map fun j => (f.offset, j.size, f.type)) = some fs → F.mapM (fun f => (Tryz.prog.info? f.type).map fun i => (f.offset, i.size)) = some (fs.map fun q => (q.1, q.2.1)) := by
    intro F
    induction F with
    | nil => intro fs h; simp at h; subst h; rfl
    | cons f F ih =>
     intro fs h
     rw [List.mapM_cons] at h ⊢
     cases hx : Tryz.prog.info? f.type with
     | none => rw [hx] at h; simp at h
     | some j =>
      rw [hx] at h
      cases hy : F.mapM (fun f => (Tryz.prog.info? f.type).map fun j => (f.offset, j.size, f.type)) with
      | none => rw [hy] at h; simp at h
      | some r =>
       rw [hy] at h
       simp at h
       subst h
       rw [ih r hy]
       simp
   exact key _ _ h5
  have hb : Tryz.prog.built t (parts.map fun q => (q.1, a.eval q.2)) = some cs := by
   simp only [Program.built, h1, h2, h4, hpl, Value.cells]
   rw [← hf]
   congr 1
   funext i
   simp
  have hr := run_build (P := Tryz.prog) w' t (parts.map fun q => (q.1, a.eval q.2)).toArray cs (by simpa using hb)
  have e : (parts.toArray.map fun x => (x.1, a.eval x.2)) = (parts.map fun q => (q.1, a.eval q.2)).toArray := by simp
  simp only [execOp, e, Sem.run_bind, hr]
  rfl
def chunk (s : Nat) : Nat → List D → List (List D)
 | 0, _ => []
 | n + 1, l => l.take s :: chunk s n (l.drop s)
theorem zM (s : Nat) : ∀ (n : Nat) (l : List D), (chunk s n l).length = n := by
 intro n
 induction n with
 | zero => intro l; rfl
 | succ n ih => intro l; simp [chunk, ih]
theorem tO (s : Nat) : ∀ (n : Nat) (l : List D) (i j : Nat) (e : List D) (d : D), (chunk s n l)[i]? = some e → e[j]? = some d → i < n ∧ j < s ∧ l[i * s + j]? = some d := by
 intro n
 induction n with
 | zero => intro l i j e d h; simp [chunk] at h
 | succ n ih =>
  intro l i j e d h1 h2
  cases i with
  | zero =>
   simp [chunk] at h1
   subst h1
   rw [List.getElem?_take] at h2
   split at h2
   ·exact ⟨by omega, by assumption, by simpa using h2⟩
   ·cases h2
  | succ i =>
   obtain ⟨h3, h4, h5⟩ := ih (l.drop s) i j e d (by simpa [chunk] using h1) h2
   rw [List.getElem?_drop] at h5
   refine ⟨by omega, h4, ?_⟩
   rw [show (i + 1) * s + j = s + (i * s + j) by rw [Nat.succ_mul]; omega]
   exact h5
theorem zL (s : Nat) : ∀ (n : Nat) (l : List D), l.length = n * s → ∀ e ∈ chunk s n l, e.length = s := by
 intro n
 induction n with
 | zero => intro l _ e h; simp [chunk] at h
 | succ n ih =>
  intro l hl e h
  rw [Nat.succ_mul] at hl
  simp only [chunk, List.mem_cons] at h
  rcases h with rfl | h
  ·simp; omega
  ·exact ih (l.drop s) jv e h
def zerosD (es n : Nat) (ez : Value) : List D := (List.range (n * es)).map fun k => .val (ez.cells.toList.getD (k % es) undef)
theorem aJn {parts : List (Nat × Operand)} {dp : List (Nat × D)} {l : List D} {e es eb n : Nat} {ez : Value} (h : Good E sl ob a w Pr β κ) (hT : ti t = .sl e es eb ez) (hp : PartsD sl ob parts dp) (hl : dfill (fun i => some (i * es, es)) (zerosD es n ez) dp = some l) (hn : n * es ≤ 1000) :
  ∃ cs : List Value, RelC w Pr cs l ∧ (Instr.buildSlice t n (parts.map fun q => (q.1, a.eval q.2)).toArray).run Tryz.prog w = .ok (.slice (some ⟨w.heap.size, 0, none⟩) n n) (w.alloc (.cells cs.toArray e)) := by
 obtain ⟨_, j, _, hu, _, hj, hz, hs, _, hzs⟩ := mV hT
 have h0 : RelC w Pr ((Array.range (n * es)).map (ez.cells[· % ez.cells.size]!)).toList (zerosD es n ez) := by
  have e0 : ((Array.range (n * es)).map (ez.cells[· % ez.cells.size]!)).toList = (List.range (n * es)).map fun k => ez.cells.toList.getD (k % es) undef := by
   simp only [Array.toList_map, Array.toList_range]
   apply List.map_congr_left
   intro k hk
   have hk' : k < n * es := List.mem_range.1 hk
   have hes : 0 < es := by
    rcases Nat.eq_zero_or_pos es with h | h
    ·subst h; simp at hk'
    ·exact h
   have hlt : k % es < ez.cells.size := by rw [hzs]; exact Nat.mod_lt _ hes
   rw [hzs]
   simp only [List.getD_eq_getElem?_getD]
   rw [List.getElem?_eq_getElem (by simpa using hlt)]
   simp [getElem!_pos ez.cells (k % es) hlt]
  rw [e0]
  have := xZ (w := w) (Pr := Pr) ((List.range (n * es)).map fun k => ez.cells.toList.getD (k % es) undef)
  simpa [zerosD, List.map_map, Function.comp_def] using this
 obtain ⟨cs, hf, hc⟩ := tP (place := fun i => some (i * es, es)) h0 (hp.rep h) hl
 refine ⟨cs.toList, hc, ?_⟩
 by_cases hpos : n * es = 0
 ·have hf0 : Instr.fill (fun i => some (i * es, es)) #[] (parts.map fun q => (q.1, a.eval q.2)) = some cs := by
   rw [hpos, show Array.range 0 = (#[] : Array Nat) from rfl] at hf
   simpa using hf
  have e1 : Array.range 0 = (#[] : Array Nat) := rfl
  simp [Instr.buildSlice, run_underlying hu, sizeOf, typeInfo, hj, hs, hpos, e1, hf0, newRow]
 ·have := run_buildSlice (P := Tryz.prog) w t e n (parts.map fun q => (q.1, a.eval q.2)).toArray cs j ez hu hj hz (by rw [hs]; omega) (by rw [hs]; exact hpos) (by rw [hs]; simpa using hf)
  simpa using this
end
end
end Go.Proofs.YtaodngiigdbgeaaGreatDoor
