/-
  Conditions: none.
-/
import Derived.Laws.CopyRow
import Derived.Laws.IdiomCopy
import Derived.Laws.Externs
import Derived.Laws.Cover3
import Derived.MapKept
import Derived.WalkKit
import Derived.Test.YtaodngiigdbgeaaGreatDoorMaa
import Derived.Test.YtaodngiigdbgeaaGreatDoorMah
import Derived.Test.YtaodngiigdbgeaaGreatDoorMaj
import Derived.Test.YtaodngiigdbgeaaGreatDoorMak
import Derived.Test.YtaodngiigdbgeaaGreatDoorMal
set_option maxHeartbeats 16000000
set_option maxRecDepth 20000
set_option linter.unusedSimpArgs false
set_option linter.unusedVariables false
namespace Go.Proofs.YtaodngiigdbgeaaGreatDoor
section
open Go.RowKit
structure Gone (E : Entry) (w : World) : Prop where
 below : Under (Lent E.ob0 E.β0) E.w w
 st0 : Stays E.pr E.w w
def PostP (new : List Nat) (w : World) (Pr : Prot) (ob : Objs) (β : Nat → Value) (κ : Nat → Nat) (Post : V → Objs → Prop) (Bad : Value → Prop) : Ending → World → Prop := fun e w' =>
 PostO new w Pr ob β κ Post e w' ∨ ∃ v, e = .panicked [{ v := v, recovered := false }] ∧ Bad v ∧ Under (Lent ob β) w w' ∧ Stays Pr w w'
def ObP (f : FuncId) (args : List V) (ob : Objs) (new : List Nat) (Post : V → Objs → Prop) (Bad : Value → Prop) : Prop :=
 FnOk f ∧ ∀ (w : World) (Pr : Prot) (vs : List Value) (β : Nat → Value) (κ : Nat → Nat), (∀ b o, Pr b o → b < w.heap.size) → EnvOk w Pr → vs.length = args.length →
  (∀ (i : Nat) (v : Value) (x : V), vs[i]? = some v → args[i]? = some x → RepV w Pr β κ v x) → (∀ i o, find ob i = some o → RepO w Pr 0 β κ i o) →
  (∀ i j oi oj g, find ob i = some oi → find ob j = some oj → blk (β i) = some g → blk (β j) = some g → i = j) → Calls Tryz.prog f vs.toArray w (PostP new w Pr ob β κ Post Bad)
theorem ObP.mono {f : FuncId} {args : List V} {ob : Objs} {new : List Nat} {P Q : V → Objs → Prop} {B C : Value → Prop} (h : ObP f args ob new P B) (hq : ∀ x o, P x o → Q x o) (hb : ∀ v, B v → C v) : ObP f args ob new Q C :=
 ⟨h.1, fun w Pr vs β κ h1 h2 h3 h4 h5 h6 => (h.2 w Pr vs β κ h1 h2 h3 h4 h5 h6).mono fun _ _ h => h.imp (fun ⟨v, x, o, Pr', β', κ', e1, e2, e3⟩ => ⟨v, x, o, Pr', β', κ', e1, hq x o e2, e3⟩) (fun ⟨v, e, b, u⟩ => ⟨v, e, hb v b, u⟩)⟩
theorem ObP.ob {f : FuncId} {args : List V} {ob : Objs} {new : List Nat} {P : V → Objs → Prop} {B : Value → Prop} (h : ObP f args ob new P B) (hb : ∀ v, ¬ B v) : ObC f args ob new P :=
 ⟨h.1, fun w Pr vs β κ h1 h2 h3 h4 h5 h6 => (h.2 w Pr vs β κ h1 h2 h3 h4 h5 h6).mono fun _ _ h => h.resolve_right (fun ⟨v, _, b, _⟩ => hb v b)⟩
theorem ObC.pan {f : FuncId} {args : List V} {ob : Objs} {new : List Nat} {P : V → Objs → Prop} {B : Value → Prop} (h : ObC f args ob new P) : ObP f args ob new P B :=
 ⟨h.1, fun w Pr vs β κ h1 h2 h3 h4 h5 h6 => (h.2 w Pr vs β κ h1 h2 h3 h4 h5 h6).mono fun _ _ h => .inl h⟩
theorem bV {f : FuncId} {fn : Func} {c : Code} {args : List V} {ob : Objs} {new : List Nat} {Post : V → Objs → Prop} {Bad : Value → Prop} (hf : Tryz.prog.funcs[f]? = some fn) (hb : fn.body = some c) (hn : (fn.name == "runtime.NumGoroutine") = false) (N : Nat) (hN : fn.ntmps = N) (hl : args.length ≤ N)
  (hfr : ((keys ob).all fun i => Nat.ble N i) = true)
  (h : ∀ w Pr β κ, Fine ⟨w, Pr, N, ob, β, κ, []⟩ → AW ⟨w, Pr, N, ob, β, κ, []⟩ c (bodyPost Tryz.prog fn (PostP new w Pr ob β κ Post Bad)) (slotsV 0 args) ob) : ObP f args ob new Post Bad := by
 refine ⟨⟨fn, hf, hn, by simp [hb]⟩, fun w Pr vs β κ h1 h2 h3 h4 h5 h6 => calls_of_wp hf hb ?_⟩
 subst hN
 refine (h w Pr β κ ⟨h2, h1⟩).run _ _ ⟨Pr, β, κ, Under.refl _ _, fun _ _ _ => rfl, fun _ _ h => h, fun _ _ h => .inl h, h1, ?_, rfl, fun i => ?_, h5, h6, fun i o g ho hg => .inl ⟨i, o, ho, hg⟩, fun i o ho => .inl ⟨rfl, rfl⟩, fun i o ho => ?_⟩
 ·simp [h3]; omega
 ·rw [pG]
  simp only [Nat.zero_le, if_true, Nat.sub_zero]
  cases hd : args[i]? with
  | none => exact .und _
  | some d =>
   have hi : i < vs.length := by rw [h3]; exact (List.getElem?_eq_some_iff.1 hd).1
   have hv : vs[i]? = some vs[i] := List.getElem?_eq_getElem hi
   have : (vs.toArray ++ Array.replicate (fn.ntmps - vs.toArray.size) undef).getD i undef = vs[i] := by
    rw [Array.getD_eq_getD_getElem?, Array.getElem?_append_left (by simpa using hi)]
    simp [hi]
   rw [this]
   exact h4 i _ d hv hd
 ·exact Nat.le_of_ble_eq_true (List.all_eq_true.1 hfr i (cO ho))
section
variable {E : Entry} {sl : Slots} {ob : Objs} {Q : Exit → Act → World → Prop} {K : Act → World → Prop} {v : Value} {id : Nat}
structure AP (E : Entry) (v : Value) (Q : Exit → Act → World → Prop) : Prop where
 run : ∀ a w, a.defers = E.df → Gone E w → Q (.panic [{ v := v, recovered := false }]) a w
theorem bF (h : AP E v Q) : AP E v (Exit.then K Q) := ⟨h.run⟩
theorem aW (h : AP E v Q) : AP E v (Exit.inBlock id Q) := ⟨h.run⟩
theorem aT {fn : Func} {new : List Nat} {w : World} {Pr : Prot} {N : Nat} {ob : Objs} {β : Nat → Value} {κ : Nat → Nat} {Post : V → Objs → Prop} {Bad : Value → Prop} (hb : Bad v) : AP ⟨w, Pr, N, ob, β, κ, []⟩ v (bodyPost Tryz.prog fn (PostP new w Pr ob β κ Post Bad)) :=
 ⟨fun _ _ hd hg => ⟨hd, .inr ⟨v, rfl, hb, hg.below, hg.st0⟩⟩⟩
theorem aVi (h : AP E v Q) : AQ E (.panic [{ v := v, recovered := false }]) Q sl ob := ⟨fun a w ⟨_, _, _, hg⟩ => h.run a w hg.defers ⟨hg.below, hg.st0⟩⟩
theorem lB {e : Exit} {fn : Func} {new : List Nat} {w : World} {Pr : Prot} {ob0 : Objs} {β : Nat → Value} {κ : Nat → Nat} {Post : V → Objs → Prop} {Bad : Value → Prop} (h : AQ E e (bodyPost Tryz.prog fn (PostO new w Pr ob0 β κ Post)) sl ob) : AQ E e (bodyPost Tryz.prog fn (PostP new w Pr ob0 β κ Post Bad)) sl ob := by
 refine ⟨fun a w hi => ?_⟩
 have h1 := h.run a w hi
 cases e with
 | normal => exact ⟨h1.1, h1.2.imp fun v h => ⟨h.1, .inl h.2⟩⟩
 | ret => exact ⟨h1.1, h1.2.imp fun v h => ⟨h.1, .inl h.2⟩⟩
 | panic c => exact ⟨h1.1, .inl h1.2⟩
 | outgrown => exact .inl h1
 | exit id => exact h1.elim
 | goto id => exact h1.elim
theorem Good.lost {a : Act} {w w' : World} {Pr : Prot} {β : Nat → Value} {κ : Nat → Nat} {l : List (Nat × Nat)} {ob1 : Objs} {new : List Nat} (h : Good E sl ob a w Pr β κ) (hL : Lends E sl ob l ob1 new) (hu : Under (Lent ob1 fun i => β (rn l i)) w w') (hs : Stays Pr w w') : Good E sl (dropK ((keys ob1).map (rn l)) ob) a w' Pr β κ := by
 have hfo := hL.find
 have hlent : ∀ g, Lent ob1 (fun i => β (rn l i)) g → Lent E.ob0 E.β0 g ∨ E.w.heap.size ≤ g := by
  rintro g ⟨i, o, h1, h2⟩
  exact h.own _ _ g (hfo i o h1) h2
 have hfar : ∀ j o g, j ∉ (keys ob1).map (rn l) → find ob j = some o → blk (β j) = some g → ¬ Lent ob1 (fun i => β (rn l i)) g := by
  rintro j o g hr hj hg ⟨i, o', h1, h2⟩
  have := h.apart j (rn l i) o _ g hj (hfo i o' h1) hg h2
  exact hr (List.mem_map.2 ⟨i, cO h1, this.symm⟩)
 refine ⟨h.below.then hu hlent, fun b o hb => (hs b o (h.pr0 b o hb)).trans (h.st0 b o hb), h.pr0, h.prn, fun b o hb => Nat.lt_of_lt_of_le (h.prl b o hb) hu.size, h.size, h.defers, fun i => (h.slots i).keep hs (fun _ _ h => h), fun i o hi => ?_, fun i j oi oj g hi hj => h.apart i j oi oj g (dN hi).2 (dN hj).2, fun i o g hi => h.own i o g (dN hi).2, h.keeps, h.fresh⟩
 obtain ⟨h1, h2⟩ := dN hi
 exact (h.objs i o h2).keep2 hs (fun _ _ h => h) (fun _ _ _ h => h) (fun g hg => hu.block g ((h.objs i o h2).blkLt g hg).2 (hfar i o g h1 h2 hg))
variable {ops : Array Oper} {rest : List Oper} {d : Nat} {ty T : TypeId} {p : String} {af : Array Edge}
theorem aDh {f : FuncId} {args : List V} {ob1 : Objs} {new : List Nat} {Post : V → Objs → Prop} {Bad : Value → Prop} {c : Operand} {xs : List Operand} {ats : Array TypeId} (l : List (Nat × Nat)) (hc : ObP f args ob1 new Post Bad) (hf : ev sl c = .d (.val (.func (.func f) #[] #[]))) (hE : Fine E) (hd : d < E.n) (ha : ArgsV l sl ob xs args)
  (hL : Lends E sl ob l ob1 new) (hP : ∀ v, Bad v → AQ E (.panic [{ v := v, recovered := false }]) Q sl (dropK ((keys ob1).map (rn l)) ob))
  (hK : ∀ x ob', Post x ob' → ∀ y ob2, x.ren l = y → renO l ob' ++ dropK ((keys ob1).map (rn l)) ob = ob2 → AL E ops rest Q ((d, y) :: sl) ob2) : AL E ops (⟨some d, .call { callee := .value c, args := xs.toArray, argTypes := ats }, ty, p, af, none⟩ :: rest) Q sl ob := by
 refine ⟨fun a w hi => ?_⟩
 obtain ⟨Pr, β, κ, h⟩ := hi
 refine wpList_plain rfl fun K hKK => ?_
 obtain ⟨hlen, hr⟩ := ha.rep h
 have hrun : (execOp a.eval ⟨some d, .call { callee := .value c, args := xs.toArray, argTypes := ats }, ty, p, af, none⟩).run Tryz.prog w = .ok (.enter f (xs.map a.eval).toArray) w := by
  simp [execOp, resolve, Deferred.ofValue, invoke, bT h hf, dZ hc.1]
 have hfo := hL.find
 have hL0 := hL
 obtain ⟨ho, hl, hk, hk2, hn⟩ := hL
 have hcall := hc.2 w Pr (xs.map a.eval) _ _ h.prl (jQ hE h) hlen hr (fun i o hi => qF (h.objs _ _ (hfo i o hi))) (fun i j oi oj g hi hj hgi hgj => by
  have e := h.apart _ _ _ _ g (hfo i oi hi) (hfo j oj hj) hgi hgj
  have k1 := eT hl (cA.1 (List.all_eq_true.1 hk i (List.mem_append_left _ (cO hi))))
  have k2 := eT hl (cA.1 (List.all_eq_true.1 hk j (List.mem_append_left _ (cO hj))))
  rw [e, k2] at k1
  cases k1
  rfl)
 unfold Oper.wp
 rw [hrun, Oper.upon_enter]
 refine hcall.mono fun e w' hpost => ?_
 rcases hpost with ⟨v, x, ob', Pr', β', κ', he, hp, hA⟩ | ⟨v, he, hb, hu, hs⟩
 ·subst he
  exact hKK _ _ ((hK x ob' hp _ _ rfl rfl).run _ _ (h.ocalled hd hA ho hl hk hk2 hn))
 ·subst he
  exact (hP v hb).run a w' ⟨Pr, β, κ, h.lost hL0 hu hs⟩
theorem bM {f : FuncId} {args : List V} {ob1 : Objs} {new : List Nat} {Post : V → Objs → Prop} {Bad : Value → Prop} {c : Operand} {xs : List Operand} {ats : Array TypeId} (l : List (Nat × Nat)) (hc : ObP f args ob1 new Post Bad) (hE : Fine E) (hP : ∀ v, Bad v → AP E v Q) (hK : ∀ x ob', Post x ob' → ∀ y ob2, x.ren l = y → renO l ob' ++ dropK ((keys ob1).map (rn l)) ob = ob2 → AL E ops rest Q ((d, y) :: sl) ob2) (hf : ev sl c = .d (.val (.func (.func f) #[] #[])) := by rfl) (hd : d < E.n := by exact aA rfl) (ha : ArgsV l sl ob xs args := by (repeat (first | refine ArgsV.cons (.same _ _ rfl) ?_ | refine ArgsV.cons (.toD _ _ zn) ?_)); exact ArgsV.nil) (hL : Lends E sl ob l ob1 new := by refine ⟨?_, rfl, rfl, rfl, rfl⟩; repeat (first | exact cU | refine bY jq ?_)) : AL E ops (⟨some d, .call { callee := .value c, args := xs.toArray, argTypes := ats }, ty, p, af, none⟩ :: rest) Q sl ob := aDh l hc hf hE hd ha hL (fun v hv => aVi (hP v hv)) hK
theorem aMs {t u : Operand} {z : Value} {dd : Option Nat} (hx : ev sl t = .d (.val (.iface T z))) (h : AQ E (.panic [{ v := .iface T z, recovered := false }]) Q sl ob) : AL E ops (⟨dd, .panic t, ty, p, af, none⟩ :: rest) Q sl ob := by
 have _ := u
 refine ⟨fun a w hi => ?_⟩
 obtain ⟨Pr, β, κ, hg⟩ := hi
 refine wpList_plain rfl fun K hKK => ?_
 have hrun : (execOp a.eval ⟨dd, .panic t, ty, p, af, none⟩).run Tryz.prog w = .halt (.panic (.iface T z)) w := by
  simp [execOp, bT hg hx, Instr.panic, goPanic]
 unfold Oper.wp
 rw [hrun, Oper.upon_panic]
 exact h.run a w ⟨Pr, β, κ, hg⟩
theorem aVf {dd : Option Nat} {g : Option (Nat × Bool)} {x : Operand} {l : List D} {t : TypeId} {z : Value} {td : TypeDesc} (hx : ev sl x = .d (.agg l)) (hk : kindsD l = [.i .i64, .i .i64]) (hT : Tryz.prog.underlying t = some td) (hnt : (match td with | .interface _ => false | _ => true) = true) (hz : .iface t (.agg (valsD l).toArray) = z) : Y E ⟨dd, .makeInterface t x, T, p, af, g⟩ sl ob (.d (.val z)) := fun a w Pr β κ hg => by
 have h1 := oU (iA hg hx) (by rw [hk]; simp)
 subst hz
 refine ⟨_, .d _ _ (.val _), fun w' _ => ?_⟩
 simp only [execOp, h1, Instr.makeInterface, Sem.run_bind, run_underlying hT]
 cases td <;> first | rfl | cases hnt
end
def PanQ (E : Entry) (B : Value → Prop) (Q : Exit → Act → World → Prop) : Exit → Act → World → Prop
 | .panic c, a, w => ∃ v, c = [{ v := v, recovered := false }] ∧ B v ∧ a.defers = E.df ∧ Gone E w
 | e, a, w => Q e a w
theorem PanQ.imp {E : Entry} {B : Value → Prop} {Q : Exit → Act → World → Prop} (hB : ∀ v, B v → AP E v Q) : ∀ (e : Exit) (a : Act) (w : World), PanQ E B Q e a w → Q e a w := fun e a w h => by
 cases e with
 | panic c =>
  obtain ⟨v, rfl, hb, hd, hg⟩ := h
  exact (hB v hb).run a w hd hg
 | _ => exact h
section
variable {E : Entry} {sl sl0 : Slots} {ob ob0 : Objs} {ops : List Oper} {tail : (World → Prop) → Act → World → Prop} {pl : List (Nat × Bool × Oper)} {Q : Exit → Act → World → Prop} {n d : Nat} {v : Value} {B : Value → Prop}
theorem mJ (hb : B v) : AP E v (PanQ E B Q) := ⟨fun _ _ hd hg => ⟨v, rfl, hb, hd, hg⟩⟩
theorem bU (h : AQ E .normal Q sl ob) : AQ E .normal (PanQ E B Q) sl ob := ⟨fun a w hi => h.run a w hi⟩
theorem yN {id : Nat} {ops : List Oper} {a : Act} {w : World} (plan : List (Nat × Bool)) (tail : List Nat) (S : World → Prop) (hm : Tryz.prog.follows .mixedOrders = true) (hs : Region.noSelect ops.toArray = true)
  (hw : waitsAll ops.toArray tail = true) (hok : mixOk ops.toArray tail plan (Array.replicate ops.length false) = true) (hlen : plan.length + tail.length ≤ ops.length) (hS : S w.drew) (hB : ∀ v, B v → AP E v Q)
  (h : S w.drew → wpMix Tryz.prog ops.toArray S (PanQ E B Q) (wpList Tryz.prog ops.toArray (PanQ E B Q) (tailed ops tail)) (planned ops plan) a w.drew) : (Code.region id ops.toArray true).wp Tryz.prog Q a w := by
 refine Code.wp_mono (PanQ.imp hB) ?_
 refine wp_region_any hm (mI (S := S) (tail := tail) _ _ _ _ ?_)
 have := mH (P := Tryz.prog) (S := S) (Q := PanQ E B Q) hs hw (fun c a d v w ⟨v', e, hb, hd, hg⟩ => ⟨v', e, hb, by cases d <;> exact hd, hg⟩) plan ops.length (Array.replicate ops.length false) a w.drew hok hlen hS (h hS)
 simpa using this
theorem mM {id : Nat} (B : Value → Prop) (ob0 : Objs) (plan : List (Nat × Bool)) (tail : List Nat) (hs : Region.noSelect ops.toArray = true) (hw : waitsAll ops.toArray tail = true) (hok : mixOk ops.toArray tail plan (Array.replicate ops.length false) = true) (hlen : plan.length + tail.length ≤ ops.length)
  (ho : ∀ p ∈ ob0, find ob p.1 = some p.2) (hB : ∀ v, B v → AP E v Q) (h : AM E ops (lastR ops (tailed ops tail) (PanQ E B Q)) (PanQ E B Q) (planned ops plan) sl ob0 sl ob) : AW E (.region id ops.toArray true) Q sl ob := by
 refine ⟨fun a w hi => ?_⟩
 obtain ⟨Pr, β, κ, hg⟩ := hi
 have hg2 : Good E sl ob a w.drew Pr β κ := hg.grow (Below.refl _ _).drew (fun _ _ h => h) (fun _ _ h => .inl h)
 have hf := wW ho
 have hg3 : Good E sl ob0 a w.drew Pr β κ := ⟨hg2.below, hg2.st0, hg2.pr0, hg2.prn, hg2.prl, hg2.size, hg2.defers, hg2.slots, fun i o hi => hg2.objs i o (hf i o hi), fun i j oi oj g h1 h2 => hg2.apart i j oi oj g (hf i oi h1) (hf j oj h2), fun i o g h1 => hg2.own i o g (hf i o h1), hg2.keeps, hg2.fresh⟩
 exact yN plan tail (Kept Pr β ob0 w.drew) gZ hs hw hok hlen (Kept.refl _ _ _ _) hB (fun _ => h.run a w.drew w.drew Pr Pr β β κ κ hg3 hg2 ⟨Kept.refl _ _ _ _, fun _ _ h => h, .refl _ _, fun i o h => ⟨hf i o h, rfl⟩⟩)
variable {i : Nat} {g : Option (Nat × Bool)} {ty : TypeId} {p : String} {af : Array Edge}
theorem aMx {f : FuncId} {args : List V} {ob1 : Objs} {Post : V → Objs → Prop} {Bad : Value → Prop} {c : Operand} {xs : List Operand} {ats : Array TypeId} (l : List (Nat × Nat)) (hc : ObP f args ob1 [] Post Bad) (hw : Want ops sl true g) (hf : ev sl c = .d (.val (.func (.func f) #[] #[]))) (hE : Fine E) (hd : d < E.n) (ha : ArgsV l sl ob xs args)
  (hL : Lends E sl ob l ob1 []) (hfree : ((keys ob0).all fun j => !(mem ((keys ob1).map (rn l)) j)) = true) (hP : ∀ v, Bad v → AP E v Q)
  (hK : ∀ x ob', Post x ob' → ∀ y ob2, x.ren l = y → renO l ob' ++ dropK ((keys ob1).map (rn l)) ob = ob2 → AM E ops tail Q pl ((d, flatV y) :: sl0) ob0 ((d, y) :: sl) ob2) : AM E ops tail Q ((i, false, ⟨some d, .call { callee := .value c, args := xs.toArray, argTypes := ats }, ty, p, af, g⟩) :: pl) sl0 ob0 sl ob := by
 -- the two ways out are shown apart: one walk of the call serves both
 refine ⟨fun a w0 w Pr Pr1 β β1 κ κ1 h0 h h2 => ?_⟩
 refine gU (hw.is h) (fun K hKK => ?_)
 obtain ⟨hlen, hr⟩ := ha.rep h
 have hfo := hL.find
 have hL0 := hL
 obtain ⟨ho, hl, hk, hk2, hn⟩ := hL
 have hcall := hc.2 w Pr1 (xs.map a.eval) _ _ h.prl (jQ hE h) hlen hr (fun i o hi => qF (h.objs _ _ (hfo i o hi))) (fun i j oi oj g hi hj hgi hgj => by
  have e := h.apart _ _ _ _ g (hfo i oi hi) (hfo j oj hj) hgi hgj
  have k1 := eT hl (cA.1 (List.all_eq_true.1 hk i (List.mem_append_left _ (cO hi))))
  have k2 := eT hl (cA.1 (List.all_eq_true.1 hk j (List.mem_append_left _ (cO hj))))
  rw [e, k2] at k1
  cases k1
  rfl)
 have hrun : (execOp a.eval ⟨some d, .call { callee := .value c, args := xs.toArray, argTypes := ats }, ty, p, af, g⟩).run Tryz.prog w = .ok (.enter f (xs.map a.eval).toArray) w := by
  simp [execOp, resolve, Deferred.ofValue, invoke, bT h hf, dZ hc.1]
 unfold Oper.wp
 rw [hrun, Oper.upon_enter]
 refine hcall.mono fun e w' hpost => ?_
 rcases hpost with ⟨v, x, ob', Pr', β', κ', he, hp, hA⟩ | ⟨v, he, hb, hu, hs⟩
 ·subst he
  obtain ⟨Pr2, β2, κ2, hG, e1, e2, e3⟩ := h.ocalled2 hd hA ho hl hk hk2 hn
  have hnot : ∀ i o, find ob0 i = some o → i ∉ (keys ob1).map (rn l) := by
   intro i o hi hm
   have := List.all_eq_true.1 hfree i (cO hi)
   rw [cA.2 hm] at this
   cases this
  have hnow : Now ob0 (renO l ob' ++ dropK ((keys ob1).map (rn l)) ob) w0 w' Pr Pr2 β β2 κ κ2 := by
   refine ⟨h2.kept.trans (Pr1 := Pr1) ⟨by rw [e1] at *; exact hA.st, fun i o g h3 h4 => ?_, hA.under.size⟩ h2.pr, fun b o hb => by rw [e1]; exact hA.pr0 b o (h2.pr b o hb), h2.then_.trans (e2 rfl), fun i o hi => ?_⟩
   ·obtain ⟨q1, q2⟩ := h2.sub i o h3
    have hlt := (h.objs i o q1).blkLt g (by rw [q2]; exact h4)
    refine hA.under.block g hlt.2 ?_
    rintro ⟨j, oj, h5, h6⟩
    have := h.apart i (rn l j) o _ g q1 (hfo j oj h5) (by rw [q2]; exact h4) h6
    exact hnot i o h3 (List.mem_map.2 ⟨j, cO h5, this.symm⟩)
   ·obtain ⟨q1, q2⟩ := h2.sub i o hi
    have hnr : ∀ k ∈ keys ob', rn l k ≠ i := by
     intro k hk' e
     obtain ⟨o', ho'⟩ := eR hk'
     have := (hA.wo k o' ho').1
     rw [List.append_nil] at this
     exact hnot i o hi (List.mem_map.2 ⟨k, this, e⟩)
    refine ⟨wV hl (fun k hk' => ?_) hnr (hnot i o hi) q1, (e3 i (hnot i o hi)).trans q2⟩
    obtain ⟨o', ho'⟩ := eR hk'
    exact cA.1 (List.all_eq_true.1 hk k (hA.wo k o' ho').1)
  refine hKK.out _ _ hnow.kept fun _ => (hK x ob' hp _ _ rfl rfl).run _ w0 w' Pr Pr2 β β2 κ κ2 (h0.put hd ?_) hG hnow
  have hx := hA.val
  cases x with
  | d z =>
   exact sT hx.d_inv
  | _ => exact .und _
 ·subst he
  have hG := h.lost hL0 hu hs
  exact (hP v hb).run a w' hG.defers ⟨hG.below, hG.st0⟩
theorem mO {f : FuncId} {args : List V} {ob1 : Objs} {Post : V → Objs → Prop} {Bad : Value → Prop} {c : Operand} {xs : List Operand} {ats : Array TypeId} (l : List (Nat × Nat)) (hc : ObP f args ob1 [] Post Bad) (hE : Fine E) (hP : ∀ v, Bad v → AP E v Q) (hK : ∀ x ob', Post x ob' → ∀ y ob2, x.ren l = y → renO l ob' ++ dropK ((keys ob1).map (rn l)) ob = ob2 → AM E ops tail Q pl ((d, flatV y) :: sl0) ob0 ((d, y) :: sl) ob2) (hw : Want ops sl true g := by first | exact cM | exact bL rfl rfl jw | exact bL rfl rfl jy) (hf : ev sl c = .d (.val (.func (.func f) #[] #[])) := by rfl) (hd : d < E.n := by exact aA rfl) (ha : ArgsV l sl ob xs args := by (repeat (first | refine ArgsV.cons (.same _ _ rfl) ?_ | refine ArgsV.cons (.toD _ _ zn) ?_)); exact ArgsV.nil) (hL : Lends E sl ob l ob1 [] := by refine ⟨?_, rfl, rfl, rfl, rfl⟩; repeat (first | exact cU | refine bY jq ?_)) (hfree : ((keys ob0).all fun j => !(mem ((keys ob1).map (rn l)) j)) = true := by rfl) : AM E ops tail Q ((i, false, ⟨some d, .call { callee := .value c, args := xs.toArray, argTypes := ats }, ty, p, af, g⟩) :: pl) sl0 ob0 sl ob := aMx l hc hw hf hE hd ha hL hfree hP hK
end
end
section
open Go.RowKit
section
variable {E : Entry} {sl : Slots} {ob : Objs} {a : Act} {w : World} {Pr : Prot} {β : Nat → Value} {κ : Nat → Nat}
variable {t T ty : TypeId} {p : String} {af : Array Edge} {g : Option (Nat × Bool)} {x : Operand}
theorem Good.celltold (h : Good E sl ob a w Pr β κ) {i j : Nat} {T : TypeId} {l : List V} {v : V} {d : D} (hf : find ob i = some (.box T l)) (hj : l[j]? = some v) (hd : ToD ob v d) : Good E sl ((i, .box T (l.set j (.d d))) :: ob) a w Pr β κ := by
 have hcase : ∀ m om, find ((i, .box T (l.set j (.d d))) :: ob) m = some om → (m = i ∧ om = .box T (l.set j (.d d))) ∨ (m ≠ i ∧ find ob m = some om) := by
  intro m om hm
  by_cases hmi : m = i
  ·subst hmi
   rw [cN] at hm
   cases hm
   exact .inl ⟨rfl, rfl⟩
  ·rw [cE hmi] at hm
   exact .inr ⟨hmi, hm⟩
 have hkey : ∀ m om, find ((i, .box T (l.set j (.d d))) :: ob) m = some om → ∃ om', find ob m = some om' := by
  intro m om hm
  rcases hcase m om hm with ⟨rfl, _⟩ | ⟨_, h1⟩
  ·exact ⟨_, hf⟩
  ·exact ⟨_, h1⟩
 refine ⟨h.below, h.st0, h.pr0, h.prn, h.prl, h.size, h.defers, h.slots, fun m om hm => ?_, fun m k om ok g h1 h2 => ?_, fun m om g h1 => ?_, h.keeps, h.fresh⟩
 ·rcases hcase m om hm with ⟨rfl, rfl⟩ | ⟨_, h1⟩
  ·obtain ⟨g, cs, q1, q2, q3, q4, q5, q6⟩ := h.objs m _ hf
   refine ⟨g, cs, q1, q2, q3, by simp [q4], fun n u x hn hx => ?_, q6⟩
   by_cases hnj : j = n
   ·subst hnj
    have hlt := (List.getElem?_eq_some_iff.1 hj).1
    rw [List.getElem?_set_self hlt] at hx
    cases hx
    exact .d _ _ (eZ h hd _ (q5 j u _ hn hj))
   ·rw [List.getElem?_set_ne hnj] at hx
    exact q5 n u x hn hx
  ·exact h.objs m om h1
 ·obtain ⟨o1, k1⟩ := hkey m om h1
  obtain ⟨o2, k2⟩ := hkey k ok h2
  exact h.apart m k o1 o2 g k1 k2
 ·obtain ⟨o1, k1⟩ := hkey m om h1
  exact h.own m o1 g k1
theorem dQ {z : Code} {Q : Exit → Act → World → Prop} (i j : Nat) {T : TypeId} {l l' : List V} {v : V} {d : D} (hf : find ob i = some (.box T l)) (hj : l[j]? = some v) (hd : ToD ob v d) (hl : l.set j (.d d) = l') (h : AW E z Q sl ((i, .box T l') :: ob)) : AW E z Q sl ob := by
 subst hl
 exact ⟨fun a w ⟨_, _, _, hg⟩ => h.run a w ⟨_, _, _, hg.celltold hf hj hd⟩⟩
theorem dD {ops : Array Oper} {rest : List Oper} {Q : Exit → Act → World → Prop} (i j : Nat) {T : TypeId} {l l' : List V} {v : V} {d : D} (hf : find ob i = some (.box T l)) (hj : l[j]? = some v) (hd : ToD ob v d) (hl : l.set j (.d d) = l') (h : AL E ops rest Q sl ((i, .box T l') :: ob)) : AL E ops rest Q sl ob := by
 subst hl
 exact ⟨fun a w ⟨_, _, _, hg⟩ => h.run a w ⟨_, _, _, hg.celltold hf hj hd⟩⟩
theorem aJ {z : Exit} {Q : Exit → Act → World → Prop} (i j : Nat) {T : TypeId} {l l' : List V} {v : V} {d : D} (hf : find ob i = some (.box T l)) (hj : l[j]? = some v) (hd : ToD ob v d) (hl : l.set j (.d d) = l') (h : AQ E z Q sl ((i, .box T l') :: ob)) : AQ E z Q sl ob := by
 subst hl
 exact ⟨fun a w ⟨_, _, _, hg⟩ => h.run a w ⟨_, _, _, hg.celltold hf hj hd⟩⟩
end
end
section
open Go.RowKit
section
variable {E : Entry} {ops : List Oper} {Q : Exit → Act → World → Prop} {sl sl0 : Slots} {ob ob0 : Objs} {pl : List (Nat × Bool × Oper)} {i : Nat} {tail : (World → Prop) → Act → World → Prop} {g : Option (Nat × Bool)} {p : String} {af : Array Edge} {ty t T : TypeId} {d n : Nat} {c : Operand} {opl : List Oper}
end
end
section
open Go.RowKit
section
variable {E : Entry} {sl : Slots} {ob : Objs} {a : Go.Act} {w : World} {Pr : Prot} {β : Nat → Value} {κ : Nat → Nat}
variable {d : Nat} {dd : Option Nat} {t T ty : TypeId} {p : String} {af : Array Edge} {g : Option (Nat × Bool)} {x y c : Operand} {m m' : Int}
theorem Good.setobj2 (h : Good E sl ob a w Pr β κ) {i b : Nat} {o o' : O} (hf : find ob i = some o) (hb : blk (β i) = some b) {cs : Array Value} {T : TypeId} (hno : ∀ q, ¬ Pr b q) (hold : ∃ c0, w.heap[b]? = some (.cells c0 T (0, 0)))
  (ho : (∀ (v : Value) (x : V), RepV w Pr β κ v x → RepV (w.setRow b cs) Pr β κ v x) → RepO (w.setRow b cs) Pr 0 β κ i o') : Good E sl ((i, o') :: ob) a (w.setRow b cs) Pr β κ := by
 obtain ⟨c0, hold⟩ := hold
 have hs : Stays Pr w (w.setRow b cs) := fun b' q hq => World.cell?_of_block (a := ⟨b', q, none⟩) (setRow_other w b b' cs (by rintro rfl; exact hno q hq))
 have hE := h.below.size
 have hbo := h.own i o b hf hb
 have hx : Under (fun g => g = b) w (w.setRow b cs) := ⟨rfl, rfl, rfl, by simp [World.setRow], fun k _ hn => setRow_other w b k cs hn⟩
 refine ⟨h.below.then hx (fun g hg => hg ▸ hbo), fun b' q hq => (hs b' q (h.pr0 b' q hq)).trans (h.st0 b' q hq), h.pr0, h.prn, fun b' q hq => by have := h.prl b' q hq; simpa [World.setRow] using this, h.size, h.defers, fun j => (h.slots j).keep hs (fun _ _ h => h), fun j oj hj => ?_, fun j k oj ok g hj hk => ?_, fun j oj g hj hg => ?_, h.keeps, h.fresh⟩
 rotate_right 1
 ·by_cases hji : j = i
  ·subst hji
   exact h.own j o g hf hg
  ·exact h.own j oj g (cS hji hj) hg
 ·by_cases hji : j = i
  ·subst hji
   rw [cN] at hj
   cases hj
   exact ho (fun v x hv => hv.keep hs (fun _ _ h => h))
  ·have hj' := cS hji hj
   refine (h.objs j oj hj').keep hs (fun _ _ h => h) (fun _ _ h => .inl h) (fun g hg => setRow_other w b g cs ?_)
   rintro rfl
   exact hji (h.apart j i oj o _ hj' hf hg hb)
 ·have key : ∀ m om, find ((i, o') :: ob) m = some om → ∃ om', find ob m = some om' := by
   intro m om hm
   by_cases hmi : m = i
   ·exact ⟨o, hmi ▸ hf⟩
   ·exact ⟨om, cS hmi hm⟩
  obtain ⟨oj', hj'⟩ := key j oj hj
  obtain ⟨ok', hk'⟩ := key k ok hk
  exact h.apart j k oj' ok' g hj' hk'
theorem Good.twice (h : Good E sl ob a w Pr β κ) {i : Nat} {o : O} (hf : find ob i = some o) : Good E sl ((i, o) :: ob) a w Pr β κ := by
 have e : ∀ j, find ((i, o) :: ob) j = find ob j := fun j => by
  by_cases hj : j = i
  ·subst hj
   rw [cN, hf]
  ·rw [cE hj]
 exact ⟨h.below, h.st0, h.pr0, h.prn, h.prl, h.size, h.defers, h.slots, fun j oj hj => h.objs j oj (by rw [← e]; exact hj), fun j k oj ok g hj hk => h.apart j k oj ok g (by rw [← e]; exact hj) (by rw [← e]; exact hk), fun j oj g hj => h.own j oj g (by rw [← e]; exact hj), h.keeps, h.fresh⟩
variable {ops : List Oper} {tail : (World → Prop) → Go.Act → World → Prop} {Q : Exit → Go.Act → World → Prop} {i : Nat} {op : Op} {pl : List (Nat × Bool × Oper)} {sl0 : Slots} {ob0 : Objs}
theorem vE {x : V} (hw : Want ops sl true g) (h : Y E ⟨some d, op, ty, p, af, g⟩ sl ob x) (hd : d < E.n) (hK : AM E ops tail Q pl ((d, flatV x) :: sl0) ob0 ((d, x) :: sl) ob) : AM E ops tail Q ((i, false, ⟨some d, op, ty, p, af, g⟩) :: pl) sl0 ob0 sl ob :=
 ⟨fun a w0 w Pr Pr1 β β1 κ κ1 h0 h1 hn => by
  obtain ⟨v, hv, hr⟩ := h a w Pr1 β1 κ1 h1
  refine gU (hw.is h1) (fun K hKK => ?_)
  unfold Oper.wp
  rw [hr w (Kept.refl _ _ _ _), Oper.upon_value]
  refine hKK.out _ _ hn.kept fun _ => hK.run _ w0 w Pr Pr1 β β1 κ κ1 (h0.put hd ?_) (h1.put hd hv) hn
  cases x with
  | d z => exact sT hv.d_inv
  | _ => exact .und _⟩
end
end
section
open Go.RowKit
section
variable {E : Entry} {sl : Slots} {ob : Objs} {a : Act} {w : World} {Pr : Prot} {β : Nat → Value} {κ : Nat → Nat}
variable {d : Nat} {t T ty : TypeId} {p : String} {af : Array Edge} {g : Option (Nat × Bool)}
theorem aFr {vp : List (Nat × Value)} {dp : List (Nat × D)} {l : List D} {e es eb n : Nat} {ez : Value} (hT : ti t = .sl e es eb ez) (hp : RelP w Pr vp dp) (hl : dfill (fun i => some (i * es, es)) (zerosD es n ez) dp = some l) (hn : n * es ≤ 1000) :
  ∃ cs : List Value, RelC w Pr cs l ∧ (Instr.buildSlice t n vp.toArray).run Tryz.prog w = .ok (.slice (some ⟨w.heap.size, 0, none⟩) n n) (w.alloc (.cells cs.toArray e)) := by
 obtain ⟨_, j, _, hu, _, hj, hz, hs, _, hzs⟩ := mV hT
 have h0 : RelC w Pr ((Array.range (n * es)).map (ez.cells[· % ez.cells.size]!)).toList (zerosD es n ez) := by
  have e0 : ((Array.range (n * es)).map (ez.cells[· % ez.cells.size]!)).toList = (List.range (n * es)).map fun k => ez.cells.toList.getD (k % es) undef := by
   simp only [Array.toList_map, Array.toList_range]
   apply List.map_congr_left
   intro k hk
   have hk' : k < n * es := List.mem_range.1 hk
   have hes : 0 < es := by
    rcases Nat.eq_zero_or_pos es with h | h
    ·subst h; simp at hk'
    ·exact h
   have hlt : k % es < ez.cells.size := by rw [hzs]; exact Nat.mod_lt _ hes
   rw [hzs]
   simp only [List.getD_eq_getElem?_getD]
   rw [List.getElem?_eq_getElem (by simpa using hlt)]
   simp [getElem!_pos ez.cells (k % es) hlt]
  rw [e0]
  have := xZ (w := w) (Pr := Pr) ((List.range (n * es)).map fun k => ez.cells.toList.getD (k % es) undef)
  simpa [zerosD, List.map_map, Function.comp_def] using this
 obtain ⟨cs, hf, hc⟩ := tP (place := fun i => some (i * es, es)) h0 hp hl
 refine ⟨cs.toList, hc, ?_⟩
 by_cases hpos : n * es = 0
 ·have hf0 : Instr.fill (fun i => some (i * es, es)) #[] vp = some cs := by
   rw [hpos, show Array.range 0 = (#[] : Array Nat) from rfl] at hf
   simpa using hf
  have e1 : Array.range 0 = (#[] : Array Nat) := rfl
  simp [Instr.buildSlice, run_underlying hu, sizeOf, typeInfo, hj, hs, hpos, e1, hf0, newRow]
 ·have := run_buildSlice (P := Tryz.prog) w t e n vp.toArray cs j ez hu hj hz (by rw [hs]; omega) (by rw [hs]; exact hpos) (by rw [hs]; simpa using hf)
  simpa using this
theorem uZ {v : Value} {a0 b0 : V} (h : RepV w Pr β κ v (.agg [a0, b0])) : ∃ u0 u1, v = .agg #[u0, u1] ∧ RepV w Pr β κ u0 a0 ∧ RepV w Pr β κ u1 b0 := by
 cases h with
 | agg cs _ hl hd =>
  match cs, hl with
  | [u0, u1], _ => exact ⟨u0, u1, rfl, hd 0 _ _ rfl rfl, hd 1 _ _ rfl rfl⟩
theorem aUr {x0 x1 x2 x3 : Operand} {a0 b0 a1 b1 a2 b2 a3 b3 : V} {e eb : Nat} {ez : Value} (hT : ti t = .sl e 2 eb ez) (h0 : ev sl x0 = .agg [a0, b0]) (h1 : ev sl x1 = .agg [a1, b1]) (h2 : ev sl x2 = .agg [a2, b2]) (h3 : ev sl x3 = .agg [a3, b3]) (hd : d < E.n) (hno : noneOf d sl ob = true) (hf : V.hasL d [a0, b0, a1, b1, a2, b2, a3, b3] = false) :
  Step E ⟨some d, .buildSlice t 4 #[(0, x0), (1, x1), (2, x2), (3, x3)], T, p, af, g⟩ sl ob ((d, .sl d 0 4) :: sl) ((d, .box e [a0, b0, a1, b1, a2, b2, a3, b3]) :: ob) := by
 rintro a w ⟨Pr, β, κ, h⟩ K Q hK
 obtain ⟨u0, v0, e0, q0, r0⟩ := uZ (h0 ▸ bO h x0)
 obtain ⟨u1, v1, e1, q1, r1⟩ := uZ (h1 ▸ bO h x1)
 obtain ⟨u2, v2, e2, q2, r2⟩ := uZ (h2 ▸ bO h x2)
 obtain ⟨u3, v3, e3, q3, r3⟩ := uZ (h3 ▸ bO h x3)
 have hp : RelP w Pr [(0, .agg #[u0, v0]), (1, .agg #[u1, v1]), (2, .agg #[u2, v2]), (3, .agg #[u3, v3])] [(0, .val (.agg #[u0, v0])), (1, .val (.agg #[u1, v1])), (2, .val (.agg #[u2, v2])), (3, .val (.agg #[u3, v3]))] :=
  ⟨rfl, fun i v d h1 h2 => by
   match i with
   | 0 => cases h1; cases h2; exact ⟨rfl, .val _⟩
   | 1 => cases h1; cases h2; exact ⟨rfl, .val _⟩
   | 2 => cases h1; cases h2; exact ⟨rfl, .val _⟩
   | 3 => cases h1; cases h2; exact ⟨rfl, .val _⟩⟩
 obtain ⟨cs, hc, hr⟩ := aFr (l := [.val u0, .val v0, .val u1, .val v1, .val u2, .val v2, .val u3, .val v3]) (n := 4) hT hp (by simp [dfill, putD, cellsD, zerosD, Value.cells]) zb
 have hcs : cs = [u0, v0, u1, v1, u2, v2, u3, v3] := by
  have one : ∀ {v u : Value}, RepD w Pr v (.val u) → v = u := fun h => by cases h; rfl
  obtain ⟨hl, hd⟩ := hc
  match cs, hl with
  | [c0, c1, c2, c3, c4, c5, c6, c7], _ => rw [one (hd 0 _ _ rfl rfl), one (hd 1 _ _ rfl rfl), one (hd 2 _ _ rfl rfl), one (hd 3 _ _ rfl rfl), one (hd 4 _ _ rfl rfl), one (hd 5 _ _ rfl rfl), one (hd 6 _ _ rfl rfl), one (hd 7 _ _ rfl rfl)]
 subst hcs
 have hrun : (execOp a.eval ⟨some d, .buildSlice t 4 #[(0, x0), (1, x1), (2, x2), (3, x3)], T, p, af, g⟩).run Tryz.prog w = .ok (.value (.slice (some ⟨w.heap.size, 0, none⟩) 4 4)) (w.alloc (.cells #[u0, v0, u1, v1, u2, v2, u3, v3] e)) := by
  have hm : (#[(0, x0), (1, x1), (2, x2), (3, x3)].map fun x : Nat × Operand => (x.1, a.eval x.2)) = [(0, Value.agg #[u0, v0]), (1, .agg #[u1, v1]), (2, .agg #[u2, v2]), (3, .agg #[u3, v3])].toArray := by simp [e0, e1, e2, e3]
  simp only [execOp, hm, Sem.run_bind, hr]
  rfl
 have hx' : Below w.heap.size w (w.alloc (.cells #[u0, v0, u1, v1, u2, v2, u3, v3] e)) := (Below.refl _ _).alloc (Nat.le_refl _) _
 unfold Oper.wp
 rw [hrun, Oper.upon_value]
 refine hK _ _ (h.newobj hd hno (Pr' := Pr) (v := .pointer (some ⟨w.heap.size, 0, none⟩)) hx' (fun _ _ h => h) (fun _ _ h => .inl h) (fun g hg => by simp [blk] at hg; omega) ?_ (fun β' κ' e1 e2 _ _ => .sl d 0 4 4 _ e1 (Nat.le_refl _) (by unfold maxLen; omega) (fun h => absurd e2 h)))
 intro β' κ' e1 e2 e3 e4
 refine ⟨w.heap.size, [u0, v0, u1, v1, u2, v2, u3, v3], e1, Nat.zero_le _, heap_alloc_new w _, rfl, fun j v z h3 h4 => ?_, fun o ho => ?_⟩
 ·have hz := gJ hf h4
  have hrep : RepV w Pr β κ v z := by
   match j with
   | 0 => cases h3; cases h4; exact q0
   | 1 => cases h3; cases h4; exact r0
   | 2 => cases h3; cases h4; exact q1
   | 3 => cases h3; cases h4; exact r1
   | 4 => cases h3; cases h4; exact q2
   | 5 => cases h3; cases h4; exact r2
   | 6 => cases h3; cases h4; exact q3
   | 7 => cases h3; cases h4; exact r3
   | j + 8 => simp at h3
  exact (hrep.keep (iH h hx') (fun _ _ h => h)).other hz e3 e4
 ·have := h.prl _ _ ho
  omega
end
end
section
open Go.RowKit Go.ChangeMaps
section
variable {E : Entry} {sl : Slots} {ob : Objs} {a : Act} {w : World} {Pr : Prot} {β : Nat → Value} {κ : Nat → Nat}
variable {d : Option Nat} {t T ty : TypeId} {p : String} {af : Array Edge} {g : Option (Nat × Bool)} {x y c : Operand} {m : Int}
theorem bW {i o k : Nat} {T' : TypeId} {l l2 : List V} (hx : ev sl x = .box i o) (hf : find ob i = some (.box T' l)) (hT : aggK (ti t) = some k) (hl : (l.drop o).take k = l2) (hk : l2.length = k) (h0 : 0 < k) :
  Y E ⟨d, .load t x, T, p, af, g⟩ sl ob (.agg l2) := fun a w Pr β κ h => by
 obtain ⟨b, cs, hav, _, _, hcl, hv, hc⟩ := tM h hx hf
 have hget : ∀ (j : Nat) (z : V), l2[j]? = some z → l[o + j]? = some z := by
  intro j z hj
  rw [← hl, List.getElem?_take] at hj
  split at hj
  ·rw [List.getElem?_drop] at hj
   exact hj
  ·cases hj
 have hlen : o + k ≤ l.length := by
  have hz : l2[k - 1]? = some (l2[k - 1]'zb) := List.getElem?_eq_getElem zb
  have := (List.getElem?_eq_some_iff.1 (hget _ _ hz)).1
  omega
 have hcs : ((cs.drop o).take k).length = k := by simp; omega
 have hget2 : ∀ (j : Nat) (v : Value), ((cs.drop o).take k)[j]? = some v → j < k ∧ cs[o + j]? = some v := by
  intro j v hj
  have hjl : j < k := by have := (List.getElem?_eq_some_iff.1 hj).1; omega
  rw [List.getElem?_take, if_pos hjl, List.getElem?_drop] at hj
  exact ⟨hjl, hj⟩
 refine ⟨.agg ((cs.drop o).take k).toArray, .agg _ l2 zb fun j v z h1 h2 => ?_, fun w' hkept => ?_⟩
 ·exact hv _ v _ (hget2 j v h1).2 (hget j z h2)
 ·have := lF (t := t) w' (b := b) (o := o) hT hcs (fun j v hj => hc w' hkept _ v (hget2 j v hj).2)
  simp [execOp, hav, this]
end
end
end Go.Proofs.YtaodngiigdbgeaaGreatDoor
