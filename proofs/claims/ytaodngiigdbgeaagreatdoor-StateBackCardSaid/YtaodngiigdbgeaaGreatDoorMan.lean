/-
  Conditions: none.
-/
import Derived.Recover
import Derived.Test.YtaodngiigdbgeaaGreatDoorMaa
import Derived.Test.YtaodngiigdbgeaaGreatDoorMai
import Derived.Test.YtaodngiigdbgeaaGreatDoorMak
import Derived.Test.YtaodngiigdbgeaaGreatDoorMal
import Derived.Test.YtaodngiigdbgeaaGreatDoorMam
set_option maxHeartbeats 16000000
set_option maxRecDepth 20000
set_option linter.unusedSimpArgs false
set_option linter.unusedVariables false
namespace Go.Proofs.YtaodngiigdbgeaaGreatDoor
section
open Go.RowKit
structure Nest (E E' : Entry) : Prop where
 n : E'.n = E.n
 below : Below E.w.heap.size E.w E'.w
 prn : ∀ b o, E'.pr b o → E.pr b o ∨ E.w.heap.size ≤ b
 lent : ∀ g, Lent E'.ob0 E'.β0 g → E.w.heap.size ≤ g
section
variable {E E' : Entry} {sl : Slots} {ob : Objs} {a : Act} {w : World} {Pr : Prot} {β : Nat → Value} {κ : Nat → Nat} {df : List Deferred}
theorem Nest.start (h : Good E sl ob a w Pr β κ) (h0 : E.ob0 = []) : Nest E ⟨w, Pr, E.n, ob, β, κ, df⟩ := by
 refine ⟨rfl, lN h0 h, fun b o hb => ?_, ?_⟩
 ·rcases h.prn b o hb with h1 | h1 | h1
  ·exact .inl h1
  ·exact .inr h1
  ·rw [h0] at h1; exact absurd h1 rZ
 ·rintro g ⟨i, o, h1, h2⟩
  rcases h.own i o g h1 h2 with h3 | h3
  ·rw [h0] at h3; exact absurd h3 rZ
  ·exact h3
theorem Nest.below_now (hN : Nest E E') {w : World} (hu : Under (Lent E'.ob0 E'.β0) E'.w w) : Below E.w.heap.size E.w w := by
 have hs := hN.below.size
 refine ⟨hu.os.trans hN.below.os, hu.tape.trans hN.below.tape, hu.output.trans hN.below.output, Nat.le_trans hs hu.size, fun k hk => ?_⟩
 rw [hu.block k zb (fun hl => by have := hN.lent k hl; omega)]
 exact hN.below.block k hk
theorem Nest.pr_now (hN : Nest E E') (h : Good E' sl ob a w Pr β κ) {b o : Nat} (hb : Pr b o) : E.pr b o ∨ E.w.heap.size ≤ b := by
 have hs := hN.below.size
 rcases h.prn b o hb with h1 | h1 | h1
 ·exact hN.prn b o h1
 ·exact .inr zb
 ·exact .inr (hN.lent b h1)
theorem Good.rebase (h : Good E sl ob a w Pr β κ) (hk : ((keys ob).all fun i => Nat.ble E.n i) = true) {a' : Act} (ht : a'.tmps = a.tmps) (hd : a'.defers = df) : Good ⟨w, Pr, E.n, ob, β, κ, df⟩ sl ob a' w Pr β κ :=
 ⟨Under.refl _ _, fun _ _ _ => rfl, fun _ _ h => h, fun _ _ h => .inl h, h.prl, by rw [ht]; exact h.size, hd, fun i => by rw [ht]; exact h.slots i, h.objs, h.apart, fun i o g ho hg => .inl ⟨i, o, ho, hg⟩, fun i o ho => .inl ⟨rfl, rfl⟩, fun i o ho => Nat.le_of_ble_eq_true (List.all_eq_true.1 hk i (cO ho))⟩
variable {ops : Array Oper} {rest : List Oper} {Q : Exit → Act → World → Prop} {d : Nat} {ty T : TypeId} {p : String} {af : Array Edge}
theorem aMp {x : Operand} {f : FuncId} {l : List V} {ats : Array TypeId} (hx : ev sl x = .clo (.func f) l) (hE : Fine E) (h0 : E.ob0 = []) (hdf : E.df = []) (hk : ((keys ob).all fun i => Nat.ble E.n i) = true)
  (hK : ∀ E' cs, E'.n = E.n → E'.ob0 = ob → Nest E E' → Fine E' → E'.df = [{ target := .fn (.func f) cs, args := #[] }] → cs.toList.length = l.length → (∀ (i : Nat) (v : Value) (y : V), cs.toList[i]? = some v → l[i]? = some y → RepV E'.w E'.pr E'.β0 E'.κ0 v y) → AL E' ops rest Q sl ob) :
  AL E ops (⟨none, .defer { callee := .value x, args := #[], argTypes := ats }, ty, p, af, none⟩ :: rest) Q sl ob := by
 refine ⟨fun a w hi => ?_⟩
 obtain ⟨Pr, β, κ, h⟩ := hi
 refine wpList_plain rfl fun K hKK => ?_
 have hv := bO h x
 rw [hx] at hv
 generalize hcv : a.eval x = v at hv
 cases hv with
 | clo _ cs _ hl hd =>
  have hrun : (execOp a.eval ⟨none, .defer { callee := .value x, args := #[], argTypes := ats }, ty, p, af, none⟩).run Tryz.prog w = .ok (.defer { target := .fn (.func f) cs.toArray, args := #[] }) w := by
   simp [execOp, resolve, Deferred.ofValue, hcv]
  unfold Oper.wp
  rw [hrun, Oper.upon_defer]
  have hg := h.rebase (df := { target := .fn (.func f) cs.toArray, args := #[] } :: a.defers) hk (a' := { a with defers := { target := .fn (.func f) cs.toArray, args := #[] } :: a.defers }) rfl rfl
  refine hKK _ _ ((hK ⟨w, Pr, E.n, ob, β, κ, { target := .fn (.func f) cs.toArray, args := #[] } :: a.defers⟩ cs.toArray rfl rfl (Nest.start h h0) ⟨jQ hE h, h.prl⟩ (by rw [h.defers, hdf]) (by simpa using hl) (by simpa using hd)).run _ _ ⟨Pr, β, κ, hg⟩)
end
mutual
theorem aOc : ∀ (x : V) {ks : List Nat} {i : Nat}, x.within ks = true → x.has i = true → i ∈ ks
 | .box j _, ks, i, h, hi => by
  simp only [V.within] at h
  simp only [V.has] at hi
  rw [Nat.eq_of_beq_eq_true hi]
  exact cA.1 h
 | .sl j _ _, ks, i, h, hi => by
  simp only [V.within] at h
  simp only [V.has] at hi
  rw [Nat.eq_of_beq_eq_true hi]
  exact cA.1 h
 | .mp j, ks, i, h, hi => by
  simp only [V.within] at h
  simp only [V.has] at hi
  rw [Nat.eq_of_beq_eq_true hi]
  exact cA.1 h
 | .row j _, ks, i, h, hi => by
  simp only [V.within] at h
  simp only [V.has] at hi
  rw [Nat.eq_of_beq_eq_true hi]
  exact cA.1 h
 | .vp j _ _, ks, i, h, hi => by
  simp only [V.within] at h
  simp only [V.has] at hi
  rw [Nat.eq_of_beq_eq_true hi]
  exact cA.1 h
 | .agg l, _, _, h, hi => pX l (by simpa only [V.within] using h) (by simpa only [V.has] using hi)
 | .clo _ l, _, _, h, hi => pX l (by simpa only [V.within] using h) (by simpa only [V.has] using hi)
 | .mv _ l, _, _, h, hi => pX l (by simpa only [V.within] using h) (by simpa only [V.has] using hi)
 | .tup l, _, _, h, hi => pX l (by simpa only [V.within] using h) (by simpa only [V.has] using hi)
 | .und, _, _, _, hi => by simp [V.has] at hi
 | .d _, _, _, _, hi => by simp [V.has] at hi
 | .ep _ _, _, _, _, hi => by simp [V.has] at hi
theorem pX : ∀ (l : List V) {ks : List Nat} {i : Nat}, V.withinL ks l = true → V.hasL i l = true → i ∈ ks
 | [], _, _, _, hi => by simp [V.hasL] at hi
 | x :: l, ks, i, h, hi => by
  simp only [V.withinL, Bool.and_eq_true] at h
  simp only [V.hasL, Bool.or_eq_true] at hi
  exact hi.elim (aOc x h.1) (pX l h.2)
end
def ObD (f : FuncId) (args : List V) (ob : Objs) (u u' : FrameMode) (Post : Objs → Prop) : Prop :=
 FnOk f ∧ ∀ (w : World) (Pr : Prot) (vs : List Value) (β : Nat → Value) (κ : Nat → Nat), (∀ b o, Pr b o → b < w.heap.size) → EnvOk w Pr → vs.length = args.length →
  (∀ (i : Nat) (v : Value) (x : V), vs[i]? = some v → args[i]? = some x → RepV w Pr β κ v x) → (∀ i o, find ob i = some o → RepO w Pr 0 β κ i o) →
  (∀ i j oi oj g, find ob i = some oi → find ob j = some oj → blk (β i) = some g → blk (β j) = some g → i = j) →
  CallsD Tryz.prog f vs.toArray u w fun e u2 w' => u2 = u' ∧ PostO [] w Pr ob β κ (fun _ o => Post o) e w'
section
variable {E E0 : Entry} {sl : Slots} {ob : Objs} {Q : Exit → Act → World → Prop} {fn : Func} {R : Ending → World → Prop}
theorem aq_d0 {e : Exit} (he : e = .ret ∨ e = .normal) (h : AQ E e (bodyPost Tryz.prog fn R) sl ob) (hdf : E.df = [] := by rfl) : AQ E e (bodyPostD Tryz.prog fn R) sl ob := by
 refine ⟨fun a w hi => ?_⟩
 have h1 := h.run a w hi
 obtain ⟨Pr, β, κ, hg⟩ := hi
 have hd : a.defers = [] := hg.defers.trans hdf
 rcases he with rfl | rfl
 ·show Leaves Tryz.prog fn a.tmps R a.defers .returning w
  rw [hd]
  exact h1.2
 ·show Leaves Tryz.prog fn a.tmps R a.defers .returning w
  rw [hd]
  exact h1.2
theorem aDp {e : Exit} {u u' : FrameMode} {f : FuncId} {cs : Array Value} {l : List V} {Post : Objs → Prop} (he : (e = .ret ∧ u = .returning) ∨ ∃ c, e = .panic c ∧ u = .panicking c) (hset : settle u' = .returning)
  (hN : Nest E0 E) (hE : Fine E) (hdf : E.df = [{ target := .fn (.func f) cs, args := #[] }]) (hcl : cs.toList.length = l.length) (hcs : ∀ (i : Nat) (v : Value) (y : V), cs.toList[i]? = some v → l[i]? = some y → RepV E.w E.pr E.β0 E.κ0 v y) (hl : V.withinL (keys E.ob0) l = true)
  (hc : ObD f l ob u u' Post) (hsl : (sl.all fun p => p.2.within (keys ob)) = true) (hk : ((keys ob).all fun i => Nat.ble E.n i) = true)
  (hK : ∀ E'' ob', E''.df = [] → E''.n = E.n → Nest E0 E'' → Post ob' → AQ E'' .ret (bodyPost Tryz.prog fn R) sl ob') (hout : ∀ w, ¬ R .outgrown w → True) : AQ E e (bodyPostD Tryz.prog fn R) sl ob := by
 have _ := hout
 refine ⟨fun a w hi => ?_⟩
 obtain ⟨Pr, β, κ, h⟩ := hi
 have hgoal : Leaves Tryz.prog fn a.tmps R a.defers u w := by
  rw [h.defers, hdf]
  have hne : u ≠ .run := by
   rcases he with ⟨_, rfl⟩ | ⟨c, _, rfl⟩ <;> simp
  have hcs' : ∀ (i : Nat) (v : Value) (y : V), cs.toList[i]? = some v → l[i]? = some y → RepV w Pr β κ v y := fun i v y h1 h2 => by
   refine ((hcs i v y h1 h2).keep h.st0 h.pr0).chg (fun j hj => ?_)
   obtain ⟨o, ho⟩ := eR (pX l hl (by
    have : ∀ (l : List V) (i : Nat), l[i]? = some y → V.hasL j l = true := by
     intro l
     induction l with
     | nil => intro i h; simp at h
     | cons x r ih =>
      intro i h
      simp only [V.hasL, Bool.or_eq_true]
      cases i with
      | zero => simp at h; subst h; exact .inl hj
      | succ i => exact .inr (ih i (by simpa using h))
    exact this l i h2))
   exact h.keeps j o ho
  refine leaves_cons (f := f) (args := cs.toList.toArray) hne (by simp [invoke, dZ hc.1]) ?_
  refine (hc.2 w Pr cs.toList β κ h.prl (jQ hE h) hcl hcs' h.objs h.apart).mono fun e2 u2 w' ⟨hu2, v, x, ob', Pr', β', κ', he2, hp, hA⟩ => ?_
  subst hu2 he2
  show Leaves Tryz.prog fn a.tmps R [] (settle _) w'
  rw [hset]
  -- the state behind the closure
  have hch : ∀ (v : Value) (z : V), RepV w Pr β κ v z → z.within (keys ob) = true → RepV w' Pr' β' κ' v z := fun v z hz hw => (hz.keep hA.st hA.pr0).chg (fun j hj => by
   obtain ⟨o, ho⟩ := eR (aOc z hw hj)
   exact hA.keeps j o ho)
  have hlook : ∀ i, (look sl i).within (keys ob) = true := by
   intro i
   have : ∀ (s : Slots), (s.all fun p => p.2.within (keys ob)) = true → (look s i).within (keys ob) = true := by
    intro s
    induction s with
    | nil => intro _; rfl
    | cons q s ih =>
     obtain ⟨j, y⟩ := q
     intro hs
     simp only [List.all_cons, Bool.and_eq_true] at hs
     by_cases hij : i = j
     ·subst hij; rw [iK]; exact hs.1
     ·rw [jS hij]; exact ih hs.2
   exact this sl hsl
  have hown : ∀ i o g, find ob i = some o → blk (β i) = some g → E0.w.heap.size ≤ g := fun i o g h1 h2 => by
   have := hN.below.size
   rcases h.own i o g h1 h2 with h3 | h3
   ·exact hN.lent g h3
   ·omega
  have hs0 := (hN.below_now h.below).size
  have hG : Good ⟨w', Pr', E.n, ob', β', κ', []⟩ sl ob' { a with defers := [] } w' Pr' β' κ' :=
   ⟨Under.refl _ _, fun _ _ _ => rfl, fun _ _ h => h, fun _ _ h => .inl h, hA.prl, h.size, rfl, fun i => hch _ _ (h.slots i) (hlook i), hA.objs, hA.apart, fun i o g ho hg => .inl ⟨i, o, ho, hg⟩, fun i o ho => .inl ⟨rfl, rfl⟩, fun i o ho => by
    have h1 := (hA.wo i o ho).1
    rw [List.append_nil] at h1
    exact Nat.le_of_ble_eq_true (List.all_eq_true.1 hk i h1)⟩
  have hN' : Nest E0 ⟨w', Pr', E.n, ob', β', κ', []⟩ := by
   refine ⟨hN.n, ?_, fun b o hb => ?_, ?_⟩
   ·refine ⟨hA.under.os.trans (hN.below_now h.below).os, hA.under.tape.trans (hN.below_now h.below).tape, hA.under.output.trans (hN.below_now h.below).output, Nat.le_trans hs0 hA.under.size, fun k hk => ?_⟩
    rw [hA.under.block k zb (fun ⟨i, o, h1, h2⟩ => by have := hown i o k h1 h2; omega)]
    exact (hN.below_now h.below).block k hk
   ·rcases hA.prn b o hb with h1 | h1 | ⟨i, o', h1, h2⟩
    ·exact hN.pr_now h h1
    ·exact .inr zb
    ·exact .inr (hown i o' b h1 h2)
   ·rintro g ⟨i, o, h1, h2⟩
    rcases hA.own i o g h1 h2 with ⟨i', o', h3, h4⟩ | h3
    ·exact hown i' o' g h3 h4
    ·show _ ≤ g
     omega
  have h2 := (hK ⟨w', Pr', E.n, ob', β', κ', []⟩ ob' rfl rfl hN' hp).run { a with defers := [] } w' ⟨Pr', β', κ', hG⟩
  exact h2.2
 rcases he with ⟨rfl, rfl⟩ | ⟨c, rfl, rfl⟩
 ·exact hgoal
 ·exact hgoal
theorem aVm {Post : D → Prop} {r1 r2 r3 : ResultVar} {d1 d2 d3 : D} (hN : Nest E0 E) (hr : fn.results = #[r1, r2, r3]) (h1 : ResX sl ob r1 d1) (h2 : ResX sl ob r2 d2) (h3 : ResX sl ob r3 d3) (hp : Post (.tup [d1, d2, d3])) (hdf : E.df = []) : AQ E .ret (bodyPost Tryz.prog fn (PostR E0.w E0.pr Post)) sl ob := by
 refine ⟨fun a w hi => ?_⟩
 obtain ⟨Pr, β, κ, hg⟩ := hi
 obtain ⟨v1, e1, k1⟩ := kN hg h1
 obtain ⟨v2, e2, k2⟩ := kN hg h2
 obtain ⟨v3, e3, k3⟩ := kN hg h3
 have hpr : ∀ b o, Pr b o → PrNew E0.pr E0.w w b o := fun b o hb => (hN.pr_now hg hb).imp id (fun h => ⟨h, hg.prl b o hb⟩)
 refine bodyPost_ret (oK hr e1 e2 e3) (hg.defers.trans hdf) ⟨_, _, rfl, hp, ?_, hN.below_now hg.below⟩
 have q1 := k1.keep (fun _ _ _ => rfl) hpr
 have q2 := k2.keep (fun _ _ _ => rfl) hpr
 have q3 := k3.keep (fun _ _ _ => rfl) hpr
 refine .tup [_, _, _] _ rfl (fun i v d h1 h2 => ?_)
 match i with
 | 0 => cases h1; cases h2; exact q1
 | 1 => cases h1; cases h2; exact q2
 | 2 => cases h1; cases h2; exact q3
theorem uQ {f : FuncId} {fn : Func} {c : Code} {ds : List D} {Post : D → Prop} (hf : Tryz.prog.funcs[f]? = some fn) (hb : fn.body = some c) (hn : (fn.name == "runtime.NumGoroutine") = false) (N : Nat) (hN : fn.ntmps = N) (hl : ds.length ≤ N)
  (h : ∀ w Pr, Fine ⟨w, Pr, N, [], fun _ => .nilFunc, fun _ => 0, []⟩ → AW ⟨w, Pr, N, [], fun _ => .nilFunc, fun _ => 0, []⟩ c (bodyPostD Tryz.prog fn (PostR w Pr Post)) (slotsOf 0 ds) []) : PureC f ds Post := by
 refine ⟨⟨fn, hf, hn, by simp [hb]⟩, fun w Pr vs h1 h2 h3 h4 => calls_of_wp_defers hf hb ?_⟩
 subst hN
 refine (h w Pr ⟨h2, h1⟩).run _ _ ⟨Pr, fun _ => .nilFunc, fun _ => 0, Under.refl _ _, fun _ _ _ => rfl, fun _ _ h => h, fun _ _ h => .inl h, h1, ?_, rfl, fun i => ?_, fun i o ho => by simp [find] at ho, fun i j oi oj g ho => by simp [find] at ho, fun i o g ho => by simp [find] at ho, fun i o ho => by simp [find] at ho, fun i o ho => by simp [find] at ho⟩
 ·simp [h3]; omega
 ·rw [sA]
  simp only [Nat.zero_le, if_true, Nat.sub_zero]
  cases hd : ds[i]? with
  | none => exact .und _
  | some d =>
   have hi : i < vs.length := by rw [h3]; exact (List.getElem?_eq_some_iff.1 hd).1
   have hv : vs[i]? = some vs[i] := List.getElem?_eq_getElem hi
   refine .d _ _ ?_
   have : (vs.toArray ++ Array.replicate (fn.ntmps - vs.toArray.size) undef).getD i undef = vs[i] := by
    rw [Array.getD_eq_getD_getElem?, Array.getElem?_append_left (by simpa using hi)]
    simp [hi]
   rw [this]
   exact h4 i _ d hv hd
end
theorem aFy {E : Entry} {sl : Slots} {ob ob1 o0 : Objs} {f : FuncId} {args : List V} {x0 : V} {c : Operand} {xs : List Operand} {ats : Array TypeId} {d : Nat} {ty : TypeId} {p : String} {af : Array Edge} (l : List (Nat × Nat)) (hc : ObC f args ob1 [] (fun x o => x = x0 ∧ o = o0)) (hf : ev sl c = .d (.val (.func (.func f) #[] #[]))) (hE : Fine E) (hd : d < E.n) (ha : ArgsV l sl ob xs args) (hL : Lends E sl ob l ob1 []) :
  Step E ⟨some d, .call { callee := .value c, args := xs.toArray, argTypes := ats }, ty, p, af, none⟩ sl ob ((d, x0.ren l) :: sl) (renO l o0 ++ dropK ((keys ob1).map (rn l)) ob) := by
 rintro a w ⟨Pr, β, κ, h⟩ K Q hK
 obtain ⟨hlen, hr⟩ := ha.rep h
 have hrun : (execOp a.eval ⟨some d, .call { callee := .value c, args := xs.toArray, argTypes := ats }, ty, p, af, none⟩).run Tryz.prog w = .ok (.enter f (xs.map a.eval).toArray) w := by
  simp [execOp, resolve, Deferred.ofValue, invoke, bT h hf, dZ hc.1]
 have hfo := hL.find
 obtain ⟨ho, hl, hk, hk2, hn⟩ := hL
 have hcall := hc.2 w Pr (xs.map a.eval) _ _ h.prl (jQ hE h) hlen hr (fun i o hi => qF (h.objs _ _ (hfo i o hi))) (fun i j oi oj g hi hj hgi hgj => by
  have e := h.apart _ _ _ _ g (hfo i oi hi) (hfo j oj hj) hgi hgj
  have k1 := eT hl (cA.1 (List.all_eq_true.1 hk i (List.mem_append_left _ (cO hi))))
  have k2 := eT hl (cA.1 (List.all_eq_true.1 hk j (List.mem_append_left _ (cO hj))))
  rw [e, k2] at k1
  cases k1
  rfl)
 unfold Oper.wp
 rw [hrun, Oper.upon_enter]
 refine hcall.mono fun e w' ⟨v, x, ob', Pr', β', κ', he, hp, hA⟩ => ?_
 subst he
 obtain ⟨rfl, rfl⟩ := hp
 exact hK _ _ (h.ocalled hd hA ho hl hk hk2 hn)
section
variable {E : Entry} {sl : Slots} {ob : Objs} {Q : Exit → Act → World → Prop}
theorem aIf {fn : Func} {c₀ : Frame} {cs : List Frame} {u : FrameMode} {new : List Nat} {Post : Objs → Prop} {e : Exit} (he : e = .ret ∨ e = .normal) (ob' : Objs) (hr : fn.results = #[]) (hp : Post ob') (ho : ∀ p ∈ ob', find ob p.1 = some p.2) (hw : okOut E.ob0 new (.tup []) ob' = true) (hdf : E.df = [] := by rfl) :
  AQ E e (fun e a w => bodyPostS Tryz.prog fn c₀ cs (fun e u2 w' => u2 = u ∧ PostO new E.w E.pr E.ob0 E.β0 E.κ0 (fun _ o => Post o) e w') e a ({ c₀ with mode := u } :: cs) w) sl ob := by
 refine ⟨fun a w ⟨Pr, β, κ, h⟩ => ?_⟩
 have hrun : (results fn a.tmps).run Tryz.prog w = .ok (.tuple #[]) w := by
  rw [lX, hr]
  simp
 have hmain : a.defers = [] ∧ ∃ u', ({ c₀ with mode := u } :: cs : List Frame) = { c₀ with mode := u' } :: cs ∧ ∃ v, (results fn a.tmps).run Tryz.prog w = .ok v w ∧ (u' = u ∧ PostO new E.w E.pr E.ob0 E.β0 E.κ0 (fun _ o => Post o) (.returned v) w) :=
  ⟨h.defers.trans hdf, u, rfl, _, hrun, rfl, _, _, ob', Pr, β, κ, rfl, hp, oT h (.tup [] [] rfl (by simp)) ho hw⟩
 rcases he with rfl | rfl
 ·exact hmain
 ·exact hmain
theorem Good.start {w : World} {Pr : Prot} {N : Nat} {ob : Objs} {β : Nat → Value} {κ : Nat → Nat} {args : List V} {vs : List Value} (hl : args.length ≤ N) (hfr : ((keys ob).all fun i => Nat.ble N i) = true) (h1 : ∀ b o, Pr b o → b < w.heap.size) (h3 : vs.length = args.length)
  (h4 : ∀ (i : Nat) (v : Value) (x : V), vs[i]? = some v → args[i]? = some x → RepV w Pr β κ v x) (h5 : ∀ i o, find ob i = some o → RepO w Pr 0 β κ i o)
  (h6 : ∀ i j oi oj g, find ob i = some oi → find ob j = some oj → blk (β i) = some g → blk (β j) = some g → i = j) : Good ⟨w, Pr, N, ob, β, κ, []⟩ (slotsV 0 args) ob { tmps := vs.toArray ++ Array.replicate (N - vs.toArray.size) undef, defers := [] } w Pr β κ := by
 refine ⟨Under.refl _ _, fun _ _ _ => rfl, fun _ _ h => h, fun _ _ h => .inl h, h1, ?_, rfl, fun i => ?_, h5, h6, fun i o g ho hg => .inl ⟨i, o, ho, hg⟩, fun i o ho => .inl ⟨rfl, rfl⟩, fun i o ho => ?_⟩
 ·simp [h3]; omega
 ·rw [pG]
  simp only [Nat.zero_le, if_true, Nat.sub_zero]
  cases hd : args[i]? with
  | none => exact .und _
  | some d =>
   have hi : i < vs.length := by rw [h3]; exact (List.getElem?_eq_some_iff.1 hd).1
   have hv : vs[i]? = some vs[i] := List.getElem?_eq_getElem hi
   have : (vs.toArray ++ Array.replicate (N - vs.toArray.size) undef).getD i undef = vs[i] := by
    rw [Array.getD_eq_getD_getElem?, Array.getElem?_append_left (by simpa using hi)]
    simp [hi]
   rw [this]
   exact h4 i _ d hv hd
 ·exact Nat.le_of_ble_eq_true (List.all_eq_true.1 hfr i (cO ho))
variable {d : Option Nat} {t ty T : TypeId} {p : String} {af : Array Edge} {g : Option (Nat × Bool)} {x : Operand}
theorem aVg {te : TypeId} {u : Value} (hx : ev sl x = .d (.val (.iface te u))) (ht : ∃ ms, Tryz.prog.underlying t = some (.interface ms)) : Y E ⟨d, .binOp .neq t x (.const .nilIface) ty, T, p, af, g⟩ sl ob (.d (.val (.bool true))) := fun a w Pr β κ h => by
 obtain ⟨ms, ht⟩ := ht
 have hc : a.eval (.const Value.nilIface) = Value.nilIface := rfl
 refine ⟨_, .d _ _ (.val _), fun w' _ => ?_⟩
 have h1 : (Op.equalIn Op.maxDepth t (.iface te u) .nilIface).run Tryz.prog w' = .ok false w' := by
  have : ∀ d : Nat, (Op.equalIn (d + 1) t (.iface te u) .nilIface).run Tryz.prog w' = .ok false w' := fun d => by simp [Op.equalIn, run_underlying ht]
  exact this 9999
 simp [execOp, bT h hx, hc, eqGuard_at_iface, binOp, Op.equal, h1]
theorem aVh (hx : ev sl x = .d (.val .nilIface)) (ht : ∃ ms, Tryz.prog.underlying t = some (.interface ms)) : Y E ⟨d, .binOp .neq t x (.const .nilIface) ty, T, p, af, g⟩ sl ob (.d (.val (.bool false))) := fun a w Pr β κ h => by
 obtain ⟨ms, ht⟩ := ht
 have hc : a.eval (.const Value.nilIface) = Value.nilIface := rfl
 refine ⟨_, .d _ _ (.val _), fun w' _ => ?_⟩
 have h1 : (Op.equalIn Op.maxDepth t .nilIface .nilIface).run Tryz.prog w' = .ok true w' := by
  have : ∀ d : Nat, (Op.equalIn (d + 1) t .nilIface .nilIface).run Tryz.prog w' = .ok true w' := fun d => by simp [Op.equalIn, run_underlying ht]
  exact this 9999
 simp [execOp, bT h hx, hc, eqGuard_nil_constR, binOp, Op.equal, h1]
theorem aRl {at_ xt : TypeId} {m n : Int} {td : TypeDesc} (hx : ev sl x = .d (.val (.iface at_ (.agg #[.int .i64 m, .int .i64 n])))) (hT : Tryz.prog.underlying at_ = some td) (hnt : (match td with | .interface _ => false | _ => true) = true) : Y E ⟨d, .typeAssert x xt at_ true, T, p, af, g⟩ sl ob (.d (.tup [.agg [.int m, .int n], .bool true])) := fun a w Pr β κ h => by
 refine ⟨.tuple #[.agg #[.int .i64 m, .int .i64 n], .bool true], .d _ _ (.tup [_, _] _ rfl (fun i v d h1 h2 => ?_)), fun w' _ => ?_⟩
 ·match i with
  | 0 =>
   cases h1; cases h2
   refine .agg [_, _] _ rfl (fun i v d h1 h2 => ?_)
   match i with
   | 0 => cases h1; cases h2; exact .val _
   | 1 => cases h1; cases h2; exact .val _
  | 1 => cases h1; cases h2; exact .val _
 ·simp only [execOp, bT h hx, Instr.typeAssert, Sem.run_bind, run_underlying hT]
  cases td <;> first | (simp; done) | cases hnt
theorem aGe {at_ xt : TypeId} {td : TypeDesc} {z : Value} (hx : ev sl x = .d (.val .nilIface)) (hT : Tryz.prog.underlying at_ = some td) (hnt : (match td with | .interface _ => false | _ => true) = true) (hz : ∀ w, (zeroValue at_).run Tryz.prog w = .ok z w) : Y E ⟨d, .typeAssert x xt at_ true, T, p, af, g⟩ sl ob (.d (.tup [.val z, .bool false])) := fun a w Pr β κ h => by
 refine ⟨.tuple #[z, .bool false], .d _ _ (.tup [_, _] _ rfl (fun i v d h1 h2 => ?_)), fun w' _ => ?_⟩
 ·match i with
  | 0 => cases h1; cases h2; exact .val _
  | 1 => cases h1; cases h2; exact .val _
 ·simp only [execOp, bT h hx, Instr.typeAssert, Sem.run_bind, run_underlying hT]
  cases td <;> first | (simp [hz]; done) | cases hnt
end
end
section
open Go.RowKit
inductive PtrsV (sl : Slots) : Nat → List (Nat × Operand) → List V → Prop where
 | nil (k : Nat) : PtrsV sl k [] []
 | cons {k : Nat} {x : Operand} {i o : Nat} {xs : List (Nat × Operand)} {zs : List V} (h : ev sl x = .box i o) (hr : PtrsV sl (k + 1) xs zs) : PtrsV sl k ((k, x) :: xs) (.box i o :: zs)
def numbV : Nat → List Value → List (Nat × Value)
 | _, [] => []
 | k, u :: us => (k, u) :: numbV (k + 1) us
theorem zQ : ∀ (us : List Value) (pre zs : List D), (∀ u ∈ us, u.cells = #[u]) → zs.length = us.length → dfill (fun i => some (i * 1, 1)) (pre ++ zs) ((numbV pre.length us).map fun q => (q.1, D.val q.2)) = some (pre ++ us.map D.val)
 | [], pre, zs, _, hz => by
  obtain rfl : zs = [] := List.eq_nil_of_length_eq_zero hz
  simp [numbV, dfill]
 | u :: us, pre, zs, hu, hz => by
  cases zs with
  | nil => simp at hz
  | cons z zs =>
   have h1 : cellsD (.val u) = [.val u] := by simp [cellsD, hu u List.mem_cons_self]
   have h2 := zQ us (pre ++ [.val u]) zs (fun v hv => hu v (List.mem_cons_of_mem _ hv)) (by simpa using hz)
   have h3 : putD (pre ++ z :: zs) (pre.length * 1) [.val u] = pre ++ [.val u] ++ zs := by
    simp [putD]
   simp only [numbV, List.map_cons, dfill, h1]
   rw [if_pos ⟨rfl, by simp⟩, h3]
   rw [List.length_append, List.length_cons, List.length_nil] at h2
   rw [h2]
   simp
section
variable {E : Entry} {sl : Slots} {ob : Objs} {a : Act} {w : World} {Pr : Prot} {β : Nat → Value} {κ : Nat → Nat}
theorem aPs (h : Good E sl ob a w Pr β κ) {k : Nat} {xs : List (Nat × Operand)} {zs : List V} (hp : PtrsV sl k xs zs) : ∃ us : List Value, xs.map (fun q => (q.1, a.eval q.2)) = numbV k us ∧ us.length = zs.length ∧ (∀ u ∈ us, u.cells = #[u]) ∧ ∀ (i : Nat) (u : Value) (z : V), us[i]? = some u → zs[i]? = some z → RepV w Pr β κ u z := by
 induction hp with
 | nil k => exact ⟨[], rfl, rfl, by simp, fun i u z h1 => by simp at h1⟩
 | @cons k x i o xs zs hx hr ih =>
  obtain ⟨us, h1, h2, h3, h4⟩ := ih
  have hv := bO h x
  rw [hx] at hv
  generalize hu : a.eval x = u at hv
  refine ⟨u :: us, by simp [numbV, h1, hu], by simp [h2], fun v hv2 => ?_, fun j v z h5 h6 => ?_⟩
  ·rcases List.mem_cons.1 hv2 with rfl | hv2
   ·cases hv
    rfl
   ·exact h3 v hv2
  ·cases j with
   | zero =>
    simp at h5 h6
    subst h5 h6
    exact hv
   | succ j => exact h4 j v z (by simpa using h5) (by simpa using h6)
variable {d : Nat} {t T ty : TypeId} {p : String} {af : Array Edge} {g : Option (Nat × Bool)}
theorem aEt (h : Good E sl ob a w Pr β κ) {n : Nat} {ps : List (Nat × Operand)} {zs : List V} {e eb : Nat} {ez : Value} (hT : ti t = .sl e 1 eb ez) (hp : PtrsV sl 0 ps zs) (hn : zs.length = n) (hn2 : n ≤ 1000) (hd : d < E.n) (hno : noneOf d sl ob = true) (hf : V.hasL d zs = false) :
  ∃ w', (execOp a.eval ⟨some d, .buildSlice t n ps.toArray, T, p, af, g⟩).run Tryz.prog w = .ok (.value (.slice (some ⟨w.heap.size, 0, none⟩) n n)) w' ∧ Below w.heap.size w w' ∧
   Good E ((d, .sl d 0 n) :: sl) ((d, .box e zs) :: ob) (a.put (some d) (.slice (some ⟨w.heap.size, 0, none⟩) n n)) w' Pr (updV β d (.pointer (some ⟨w.heap.size, 0, none⟩))) (updN κ d 0) := by
 obtain ⟨us, h1, h2, h3, h4⟩ := aPs h hp
 have hz : (zerosD 1 n ez).length = us.length := by simp [zerosD, h2, hn]
 have hfill : dfill (fun i => some (i * 1, 1)) (zerosD 1 n ez) ((numbV 0 us).map fun q => (q.1, D.val q.2)) = some (us.map D.val) := zQ us [] (zerosD 1 n ez) h3 hz
 obtain ⟨cs, hc, hr⟩ := aFr (w := w) (Pr := Pr) (vp := numbV 0 us) (dp := (numbV 0 us).map fun q => (q.1, D.val q.2)) (n := n) hT ⟨by simp, fun i v d h5 h6 => by
  rw [List.getElem?_map, h5] at h6
  simp only [Option.map_some, Option.some.injEq] at h6
  subst h6
  exact ⟨rfl, .val _⟩⟩ hfill zb
 have hcs : cs = us := by
  have one : ∀ {v u : Value}, RepD w Pr v (.val u) → v = u := fun h => by cases h; rfl
  obtain ⟨hl, hd⟩ := hc
  simp at hl
  refine List.ext_getElem? fun i => ?_
  by_cases hi : i < us.length
  ·have e1 : cs[i]? = some cs[i] := List.getElem?_eq_getElem zb
   have e2 : us[i]? = some us[i] := List.getElem?_eq_getElem hi
   rw [e1, e2, one (hd i _ (.val us[i]) e1 (by simp [hi]))]
  ·rw [List.getElem?_eq_none zb, List.getElem?_eq_none zb]
 subst hcs
 have hrun : (execOp a.eval ⟨some d, .buildSlice t n ps.toArray, T, p, af, g⟩).run Tryz.prog w = .ok (.value (.slice (some ⟨w.heap.size, 0, none⟩) n n)) (w.alloc (.cells cs.toArray e)) := by
  have hm : (ps.toArray.map fun x : Nat × Operand => (x.1, a.eval x.2)) = (numbV 0 cs).toArray := by rw [List.map_toArray, h1]
  simp only [execOp, hm, Sem.run_bind, hr]
  rfl
 have hx' : Below w.heap.size w (w.alloc (.cells cs.toArray e)) := (Below.refl _ _).alloc (Nat.le_refl _) _
 refine ⟨_, hrun, hx', h.newobjG hd hno (Pr' := Pr) (v := .pointer (some ⟨w.heap.size, 0, none⟩)) hx' (fun _ _ h => h) (fun _ _ h => .inl h) (fun g hg => by simp [blk] at hg; omega) ?_ (fun β' κ' e1 e2 _ _ => .sl d 0 n n _ e1 (Nat.le_refl _) (by unfold maxLen; omega) (fun h => absurd e2 h))⟩
 intro β' κ' e1 e2 e3 e4
 refine ⟨w.heap.size, cs, e1, Nat.zero_le _, heap_alloc_new w _, h2, fun j v z h5 h6 => ?_, fun o ho => ?_⟩
 ·exact ((h4 j v z h5 h6).keep (iH h hx') (fun _ _ h => h)).other (gJ hf h6) e3 e4
 ·have := h.prl _ _ ho
  omega
theorem eG {n : Nat} {ps : List (Nat × Operand)} {zs : List V} {e eb : Nat} {ez : Value} (hT : ti t = .sl e 1 eb ez) (hp : PtrsV sl 0 ps zs) (hn : zs.length = n) (hn2 : n ≤ 1000) (hd : d < E.n) (hno : noneOf d sl ob = true) (hf : V.hasL d zs = false) :
  Step E ⟨some d, .buildSlice t n ps.toArray, T, p, af, g⟩ sl ob ((d, .sl d 0 n) :: sl) ((d, .box e zs) :: ob) := by
 rintro a w ⟨Pr, β, κ, h⟩ K Q hK
 obtain ⟨w', hrun, _, hG⟩ := aEt (T := T) (p := p) (af := af) (g := g) h hT hp hn hn2 hd hno hf
 unfold Oper.wp
 rw [hrun, Oper.upon_value]
 exact hK _ _ ⟨_, _, _, hG⟩
end
section
variable {E : Entry} {sl sl0 : Slots} {ob ob0 : Objs} {ops : List Oper} {pl : List (Nat × Bool × Oper)} {Q : Exit → Act → World → Prop} {tail : (World → Prop) → Act → World → Prop} {g : Option (Nat × Bool)} {p : String} {af : Array Edge} {T ty t : TypeId} {d i : Nat}
theorem lA {n : Nat} {ps : List (Nat × Operand)} {zs : List V} {e eb : Nat} {ez : Value} (hw : Want ops sl true g) (hT : ti t = .sl e 1 eb ez) (hp : PtrsV sl 0 ps zs) (hn : zs.length = n) (hn2 : n ≤ 1000) (hd : d < E.n) (hno : noneOf d sl ob = true) (hf : V.hasL d zs = false) (hno0 : noneOf d sl0 ob0 = true) (hk0 : find ob0 d = none)
  (hK : AM E ops tail Q pl ((d, .und) :: sl0) ob0 ((d, .sl d 0 n) :: sl) ((d, .box e zs) :: ob)) : AM E ops tail Q ((i, false, ⟨some d, .buildSlice t n ps.toArray, ty, p, af, g⟩) :: pl) sl0 ob0 sl ob := by
 refine ⟨fun a w0 w Pr Pr1 β β1 κ κ1 h0 h1 hn0 => ?_⟩
 refine gU (hw.is h1) (fun K hKK => ?_)
 obtain ⟨w', hrun, hxx, hG⟩ := aEt (T := ty) (p := p) (af := af) (g := g) h1 hT hp hn hn2 hd hno hf
 unfold Oper.wp
 rw [hrun, Oper.upon_value]
 have h0' := (h0.rename hd hno0 hk0 (.pointer (some ⟨w.heap.size, 0, none⟩)) 0).put hd (v := .slice (some ⟨w.heap.size, 0, none⟩) n n) (.und _)
 have hn1 := hn0.grow (Pr2 := Pr1) h1 hxx (fun _ _ h => h)
 have hne : ∀ i o, find ob0 i = some o → i ≠ d := fun i o hi e => by rw [e, hk0] at hi; cases hi
 have hn2 : Now ob0 ((d, .box e zs) :: ob) w0 w' Pr Pr1 (updV β d (.pointer (some ⟨w.heap.size, 0, none⟩))) (updV β1 d (.pointer (some ⟨w.heap.size, 0, none⟩))) (updN κ d 0) (updN κ1 d 0) := by
  refine ⟨by rw [kU hk0]; exact hn1.kept, hn1.pr, fun j => ?_, fun j o hj => ?_⟩
  ·by_cases hj : j = d
   ·subst hj
    exact .inl ⟨by rw [eL, eL], by rw [fA, fA]⟩
   ·rw [cL _ d _ j hj, cL _ d _ j hj, fM _ d _ j hj, fM _ d _ j hj]
    exact hn1.then_ j
  ·have hjd := hne j o hj
   rw [cL _ d _ j hjd, cL _ d _ j hjd, cE hjd]
   exact hn1.sub j o hj
 refine hKK.out _ _ hn1.kept fun _ => ?_
 have := hK.run _ w0 _ Pr Pr1 _ _ _ _ h0' hG hn2
 rw [kU hk0] at this
 exact this
end
end
section
open Go.RowKit
def reach (ops : Array Oper) : Nat → Nat → Nat → Bool
 | 0, _, _ => false
 | n + 1, j, i => match ops[j]? with
  | none => false
  | some o => (o.after.any fun e => Region.binds .any e && e.on == i) || (o.after.any fun e => Region.binds .any e && reach ops n e.on i)
def isMv (ops : Array Oper) (i : Nat) : Bool := match ops[i]? with
 | some o => match o.op with
  | .move _ => true
  | _ => false
 | none => false
theorem aTk {ops : Array Oper} {i : Nat} {o : Oper} (h : isMv ops i = true) (ho : ops[i]? = some o) : ∃ x, o.op = .move x := by
 simp only [isMv, ho] at h
 split at h
 ·exact ⟨_, by assumption⟩
 ·cases h
def waitsDeep (ops : Array Oper) (tail : List Nat) : Bool := tail.all fun j => (List.range ops.size).all fun i => tail.contains i || isMv ops i || reach ops 4 j i
def wpAnyS (P : Program) (ops : Array Oper) (Q : Exit → Act → World → Prop) (S : World → Prop) (tail : List Nat) : Nat → Array Bool → Act → World → Prop
 | 0, listed, a, w => Region.ready .any ops listed = [] ∧ Q .normal a w
 | fuel + 1, listed, a, w =>
  (Region.ready .any ops listed = [] → Q .normal a w) ∧
  ∀ i ∈ Region.ready .any ops listed, wpOp P ops Q i (fun a' w' => (i ∉ tail → S w → S w') ∧ wpAnyS P ops Q S tail fuel (listed.setIfInBounds i true) a' w') a w
def Shut2 (ops : Array Oper) (listed : Array Bool) : Prop := ∀ j oj, ops[j]? = some oj → listed.getD j false = true → ∀ e ∈ oj.after, Region.binds .any e = true → listed.getD e.on false = true
theorem aHp {ops : Array Oper} {listed : Array Bool} (hl : Shut2 ops listed) {i : Nat} : ∀ n j, reach ops n j i = true → (∀ oj, ops[j]? = some oj → ∀ e ∈ oj.after, Region.binds .any e = true → listed.getD e.on false = true) → listed.getD i false = true := by
 intro n
 induction n with
 | zero => intro j h; cases h
 | succ n ih =>
  intro j h hd
  unfold reach at h
  cases ho : ops[j]? with
  | none => rw [ho] at h; cases h
  | some oj =>
   rw [ho] at h
   simp only [Bool.or_eq_true] at h
   rcases h with h | h
   ·obtain ⟨e, he, hb⟩ := Array.any_eq_true'.1 h
    simp only [Bool.and_eq_true, beq_iff_eq] at hb
    rw [← hb.2]
    exact hd oj ho e he hb.1
   ·obtain ⟨e, he, hb⟩ := Array.any_eq_true'.1 h
    simp only [Bool.and_eq_true] at hb
    exact ih e.on hb.2 (fun ok hk f hf hbf => hl e.on ok hk (hd oj ho e he hb.1) f hf hbf)
theorem Shut2.set {ops : Array Oper} {listed : Array Bool} (hl : Shut2 ops listed) {j : Nat} (hj : j ∈ Region.ready .any ops listed) : Shut2 ops (listed.setIfInBounds j true) := by
 intro k ok hk hlk e he hb
 by_cases hjk : j = k
 ·subst hjk
  obtain ⟨_, o, ho, hall⟩ := mem_ready.1 hj
  rw [hk] at ho
  cases ho
  exact getD_set_true (hall e he hb)
 ·rw [getD_set_ne false hjk] at hlk
  exact getD_set_true (hl k ok hk hlk e he hb)
theorem Shut2.none {ops : Array Oper} {n : Nat} : Shut2 ops (Array.replicate n false) := by
 intro k ok _ hlk
 exfalso
 rcases Nat.lt_or_ge k n with h | h
 ·simp [Array.getElem?_replicate, h] at hlk
 ·simp [Array.getElem?_replicate, Nat.not_lt.2 h] at hlk
section
variable {P : Program} {S : World → Prop} {Q : Exit → Act → World → Prop} {tail : List Nat}
theorem uG {ops : Array Oper} : ∀ (fuel : Nat) (listed : Array Bool) (a : Act) (w : World), wpAnyS P ops Q S tail fuel listed a w → wpAny P .any ops Q fuel listed a w
 | 0, _, _, _, h => h
 | fuel + 1, _, _, _, h => ⟨h.1, fun i hi => wpOp_mono (fun a' w' h' => uG fuel _ a' w' h'.2) (h.2 i hi)⟩
theorem aKa {ops : Array Oper} {listed : Array Bool} {a : Act} {w : World} (hr : Region.ready .any ops listed = []) (h : Q .normal a w) : ∀ fuel, wpAnyS P ops Q S tail fuel listed a w
 | 0 => ⟨hr, h⟩
 | _ + 1 => ⟨fun _ => h, by rw [hr]; simp⟩
theorem zE {ops : Array Oper} {fuel i : Nat} {listed : Array Bool} {a : Act} {w : World} (hr : Region.ready .any ops listed = [i])
  (h : wpOp P ops Q i (fun a' w' => (i ∉ tail → S w → S w') ∧ wpAnyS P ops Q S tail fuel (listed.setIfInBounds i true) a' w') a w) : wpAnyS P ops Q S tail (fuel + 1) listed a w :=
 ⟨fun h0 => (by rw [hr] at h0; cases h0), fun j hj => by
  rw [hr] at hj
  obtain rfl : j = i := by simpa using hj
  exact h⟩
theorem zG {ops : Array Oper} {T : World → Prop} {i : Nat} {oi : Oper} {v : Value} (hi : ops[i]? = some oi) (hs : Region.noSelect ops = true)
  (hT : ∀ (listed : Array Bool) (j : Nat) (w w' : World), Shut2 ops listed → j ∈ Region.ready .any ops listed → j ≠ i → listed.getD i false = false → T w → (j ∉ tail → S w → S w') → (T w' ∧ (S w → S w')) ∨ (∀ x, T x))
  (hQ : ∀ c a d v w, Q (.panic c) (Act.put a d v) w → Q (.panic c) a w) :
  ∀ (fuel : Nat) (listed : Array Bool) (a : Act) (w : World), Shut2 ops listed →
   (∀ j oj, ops[j]? = some oj → j ≠ i → listed.getD j true = false → (∀ e ∈ oj.after, Region.binds .any e = true → e.on ≠ i) → oi.apart ops oj = true) →
   i ∈ Region.ready .any ops listed → YieldsIf P ops T oi v a → T w → wpAnyS P ops Q S tail fuel (listed.setIfInBounds i true) (a.put oi.dst v) w → wpAnyS P ops Q S tail (fuel + 1) listed a w := by
 intro fuel
 induction fuel with
 | zero =>
  intro listed a w _ _ hr hy hS H
  refine ⟨fun h0 => (by rw [h0] at hr; cases hr), fun j hj => ?_⟩
  by_cases hne : j = i
  ·subst hne
   exact hy.wpOp hi hS ⟨fun _ h => h, H⟩
  ·have hmem := ready_mono hj hne
   rw [H.1] at hmem
   cases hmem
 | succ n ih =>
  intro listed a w hsh hfree hr hy hS H
  refine ⟨fun h0 => (by rw [h0] at hr; cases hr), fun j hj => ?_⟩
  by_cases hne : j = i
  ·subst hne
   exact hy.wpOp hi hS ⟨fun _ h => h, H⟩
  obtain ⟨hun, oj, hoj, hdeps⟩ := mem_ready.1 hj
  have hiu : listed.getD i true = false := (mem_ready.1 hr).1
  have hif : listed.getD i false = false := by
   rcases Nat.lt_or_ge i listed.size with hlt | hge
   ·simpa [hlt] using hiu
   ·simp [Array.getElem?_eq_none hge] at hiu
  have hdoes : ∀ e ∈ oj.after, Region.binds .any e = true → e.on ≠ i := fun e he hb heq => by
   have := hdeps e he hb
   rw [heq, hif] at this
   cases this
  have step := wpOp_putIf hoj (hfree j oj hoj hne hun hdoes) (fun cs b => Region.noSelect_spec hs i oi cs b hi) (fun cs b => Region.noSelect_spec hs j oj cs b hoj) (fun c a w hq => hQ c a _ _ w hq) hy (H.2 j (ready_mono hj hne))
  refine wpOp_mono (fun a' w' ⟨hy', hS', hW⟩ => ⟨hS', ih (listed.setIfInBounds j true) a' w' (hsh.set hj) ?_ (ready_mono hr (Ne.symm hne)) hy' ?_ ?_⟩) step
  ·intro k ok hk hki hku hno
   refine hfree k ok hk hki ?_ hno
   by_cases hjk : j = k
   ·rw [← hjk]; exact hun
   ·rwa [getD_set_ne true hjk] at hku
  ·rcases hT listed j w w' hsh hj hne hif hS hS' with h | h
   ·exact h.1
   ·exact h w'
  ·rw [Array.setIfInBounds_comm _ _ hne]
   exact hW
theorem aGf {ops : Array Oper} {o : Oper} {x : Operand} {v : Value} {a : Act} {w : World} (ho : o.op = .move x) (hS : S w) (h : YieldsIf P ops S o v a) : YieldsIf P ops (fun _ => True) o v a := by
 rcases h with ⟨h1, h2⟩ | h
 ·refine .inl ⟨h1, fun w' _ => ?_⟩
  have h3 := h2 w hS
  simp only [execOp, ho, Sem.run_pure, Result.ok.injEq, Next.value.injEq, and_true] at h3 ⊢
  exact h3
 ·exact .inr h
theorem zF {ops : List Oper} : ∀ (t : List Nat) (fuel : Nat) (listed : Array Bool) (a : Act) (w : World), tailOk ops.toArray tail t listed = true → t.length ≤ fuel → (∀ i ∈ t, i ∈ tail) →
  wpList P ops.toArray Q (tailed ops t) a w → wpAnyS P ops.toArray Q S tail fuel listed a w
 | [], fuel, listed, a, w, hok, _, _, h => aKa (by simpa [tailOk] using hok) h fuel
 | i :: t, 0, _, _, _, _, hf, _, _ => absurd hf (by simp)
 | i :: t, fuel + 1, listed, a, w, hok, hf, ht, h => by
  simp only [tailOk, Bool.and_eq_true, beq_iff_eq] at hok
  obtain ⟨_, o, ho, _⟩ := mem_ready.1 (show i ∈ Region.ready .any ops.toArray listed by rw [hok.1]; simp)
  have hl : ops[i]? = some o := by simpa using ho
  have hc : tailed ops (i :: t) = o :: tailed ops t := by simp [tailed, hl]
  rw [hc] at h
  refine zE hok.1 ?_
  have hK : ∀ a' w', wpList P ops.toArray Q (tailed ops t) a' w' → (i ∉ tail → S w → S w') ∧ wpAnyS P ops.toArray Q S tail fuel (listed.setIfInBounds i true) a' w' :=
   fun a' w' h' => ⟨fun hn => absurd (ht i (by simp)) hn, zF t fuel _ a' w' hok.2 (by simpa using hf) (fun j hj => ht j (List.mem_cons_of_mem _ hj)) h'⟩
  refine wpOp_mono hK ?_
  unfold wpOp
  rw [ho]
  exact h
theorem oW {ops : List Oper} (hs : Region.noSelect ops.toArray = true) (hw : waitsDeep ops.toArray tail = true) (hQ : ∀ c a d v w, Q (.panic c) (Act.put a d v) w → Q (.panic c) a w) :
  ∀ (plan : List (Nat × Bool)) (fuel : Nat) (listed : Array Bool) (a : Act) (w : World), Shut2 ops.toArray listed → mixOk ops.toArray tail plan listed = true → plan.length + tail.length ≤ fuel → S w →
   wpMix P ops.toArray S Q (wpList P ops.toArray Q (tailed ops tail)) (planned ops plan) a w → wpAnyS P ops.toArray Q S tail fuel listed a w
 | [], fuel, listed, a, w, _, hok, hf, _, h => zF tail fuel listed a w hok (by simpa using hf) (fun _ hi => hi) h
 | (i, s) :: rest, 0, listed, a, w, _, _, hf, _, _ => absurd hf (by simp)
 | (i, s) :: rest, fuel + 1, listed, a, w, hsh, hok, hf, hS, h => by
  simp only [mixOk, Bool.and_eq_true, Bool.not_eq_true'] at hok
  obtain ⟨⟨⟨ht, hr⟩, hk⟩, hok'⟩ := hok
  have hlen : rest.length + tail.length ≤ fuel := by simp at hf; omega
  have hri : i ∈ Region.ready .any ops.toArray listed := by simpa using hr
  obtain ⟨_, o, ho, _⟩ := mem_ready.1 hri
  have hl : ops[i]? = some o := by simpa using ho
  have hit : i ∉ tail := by simpa using ht
  have hp : planned ops ((i, s) :: rest) = (i, s, o) :: planned ops rest := by simp [planned, hl]
  rw [hp] at h
  cases s with
  | true =>
   obtain ⟨v, hy, h'⟩ := h ho
   have hrec := oW hs hw hQ rest fuel _ _ w (hsh.set hri) hok' hlen hS h'
   cases hm : isMv ops.toArray i with
   | true =>
    obtain ⟨x, hx⟩ := aTk hm ho
    exact zG (T := fun _ => True) ho hs (fun _ _ _ _ _ _ _ _ _ _ => .inr fun _ => trivial) hQ fuel listed a w hsh (Region.free_spec ho hk) hri (aGf hx hS hy) trivial hrec
   | false =>
    refine zG (T := S) ho hs (fun ls j w1 w2 hsl hj hne hif h1 h2 => .inl ?_) hQ fuel listed a w hsh (Region.free_spec ho hk) hri hy hS hrec
    have hjt : j ∉ tail := fun hjt => by
     have hlt : i < ops.toArray.size := (Array.getElem?_eq_some_iff.1 ho).1
     have h0 := List.all_eq_true.1 (List.all_eq_true.1 hw j hjt) i (List.mem_range.2 hlt)
     have h4 : tail.contains i = false := by simpa using hit
     rw [h4, hm, Bool.false_or, Bool.false_or] at h0
     obtain ⟨_, oj, hoj, hdeps⟩ := mem_ready.1 hj
     have h5 := aHp hsl 4 j h0 (fun ok hk e he hb => by rw [hoj] at hk; cases hk; exact hdeps e he hb)
     rw [hif] at h5
     cases h5
    exact ⟨h2 hjt h1, h2 hjt⟩
  | false =>
   have he : Region.ready .any ops.toArray listed = [i] := by simpa using hk
   exact zE he (wpOp_mono (fun a' w' ⟨hS', hW⟩ => ⟨fun _ _ => hS', oW hs hw hQ rest fuel _ a' w' (hsh.set hri) hok' hlen hS' (hW hS')⟩) (h ho))
theorem yM {id : Nat} {ops : List Oper} {a : Act} {w : World} (plan : List (Nat × Bool)) (tail : List Nat) (S : World → Prop) (hm : P.follows .mixedOrders = true) (hs : Region.noSelect ops.toArray = true)
  (hw : waitsDeep ops.toArray tail = true) (hok : mixOk ops.toArray tail plan (Array.replicate ops.length false) = true) (hlen : plan.length + tail.length ≤ ops.length) (hS : S w.drew)
  (h : S w.drew → wpMix P ops.toArray S (NoPanic Q) (wpList P ops.toArray (NoPanic Q) (tailed ops tail)) (planned ops plan) a w.drew) : (Code.region id ops.toArray true).wp P Q a w := by
 refine wp_region_noPanic ?_
 refine wp_region_any hm (uG (S := S) (tail := tail) _ _ _ _ ?_)
 have := oW (P := P) (S := S) (Q := NoPanic Q) hs hw (fun _ _ _ _ _ h => h) plan ops.length (Array.replicate ops.length false) a w.drew Shut2.none hok hlen hS (h hS)
 simpa using this
end
section
variable {E : Entry} {sl : Slots} {ob ob0 : Objs} {ops : List Oper} {Q : Exit → Act → World → Prop}
theorem aBh {id : Nat} (ob0 : Objs) (plan : List (Nat × Bool)) (tail : List Nat) (hs : Region.noSelect ops.toArray = true) (hw : waitsDeep ops.toArray tail = true) (hok : mixOk ops.toArray tail plan (Array.replicate ops.length false) = true) (hlen : plan.length + tail.length ≤ ops.length)
  (ho : ∀ p ∈ ob0, find ob p.1 = some p.2) (h : AM E ops (lastR ops (tailed ops tail) (NoPanic Q)) (NoPanic Q) (planned ops plan) sl ob0 sl ob) : AW E (.region id ops.toArray true) Q sl ob := by
 refine ⟨fun a w hi => ?_⟩
 obtain ⟨Pr, β, κ, hg⟩ := hi
 have hg2 : Good E sl ob a w.drew Pr β κ := hg.grow (Below.refl _ _).drew (fun _ _ h => h) (fun _ _ h => .inl h)
 have hf := wW ho
 have hg3 : Good E sl ob0 a w.drew Pr β κ := ⟨hg2.below, hg2.st0, hg2.pr0, hg2.prn, hg2.prl, hg2.size, hg2.defers, hg2.slots, fun i o hi => hg2.objs i o (hf i o hi), fun i j oi oj g h1 h2 => hg2.apart i j oi oj g (hf i oi h1) (hf j oj h2), fun i o g h1 => hg2.own i o g (hf i o h1), hg2.keeps, hg2.fresh⟩
 exact yM plan tail (Kept Pr β ob0 w.drew) gZ hs hw hok hlen (Kept.refl _ _ _ _) (fun _ => h.run a w.drew w.drew Pr Pr β β κ κ hg3 hg2 ⟨Kept.refl _ _ _ _, fun _ _ h => h, .refl _ _, fun i o h => ⟨hf i o h, rfl⟩⟩)
end
end
section
open Go.RowKit
section
variable {E : Entry} {sl : Slots} {ob : Objs} {a : Act} {w : World} {Pr : Prot} {β : Nat → Value} {κ : Nat → Nat}
end
end
end Go.Proofs.YtaodngiigdbgeaaGreatDoor
