/-
  Conditions: none.
-/
import Derived.Recover
import Derived.Test.YtedoeogopmenpaaGreatDoorRows
import Derived.ProofKit
import Derived.OpenShut
import Derived.ChangeOld
import Derived.SizedLaws
import Derived.Deep.SlicePairs
import Derived.Lib.SmallJoins
import Derived.Deep.Slices
import Derived.Shelf.Strconv.Itoa3
import Derived.Shelf.Strings.Prefix
import Derived.Shelf.Strings.Builder1
import Derived.Shelf.Strings.OnBuilder
import Derived.Test.YtedoeogopmenpaaGreatDoorProg
import Derived.Test.YtedoeogopmenpaaGreatDoorMai
set_option maxHeartbeats 16000000
set_option maxRecDepth 20000
section
namespace Go.Proofs.YtedoeogopmenpaaGreatDoor
open Go.RowKit
structure Nest (E E' : Entry) : Prop where
 n : E'.n = E.n
 below : Below E.w.heap.size E.w E'.w
 prn : ∀ b o, E'.pr b o → E.pr b o ∨ E.w.heap.size ≤ b
 lent : ∀ g, Lent E'.ob0 E'.β0 g → E.w.heap.size ≤ g
section
variable {E E' : Entry} {sl : Slots} {ob : Objs} {a : Act} {w : World} {Pr : Prot} {β : Nat → Value} {κ : Nat → Nat} {df : List Deferred}
theorem Nest.start (h : Good E sl ob a w Pr β κ) (h0 : E.ob0 = []) : Nest E ⟨w, Pr, E.n, ob, β, κ, df⟩ := by
 refine ⟨rfl, below_of h0 h, fun b o hb => ?_, ?_⟩
 ·rcases h.prn b o hb with h1 | h1 | h1
  ·exact .inl h1
  ·exact .inr h1
  ·rw [h0] at h1; exact absurd h1 lent_nil
 ·rintro g ⟨i, o, h1, h2⟩
  rcases h.own i o g h1 h2 with h3 | h3
  ·rw [h0] at h3; exact absurd h3 lent_nil
  ·exact h3
theorem Nest.below_now (hN : Nest E E') {w : World} (hu : Under (Lent E'.ob0 E'.β0) E'.w w) : Below E.w.heap.size E.w w := by
 have hs := hN.below.size
 refine ⟨hu.os.trans hN.below.os, hu.tape.trans hN.below.tape, hu.output.trans hN.below.output, Nat.le_trans hs hu.size, fun k hk => ?_⟩
 rw [hu.block k (by omega) (fun hl => by have := hN.lent k hl; omega)]
 exact hN.below.block k hk
theorem Nest.pr_now (hN : Nest E E') (h : Good E' sl ob a w Pr β κ) {b o : Nat} (hb : Pr b o) : E.pr b o ∨ E.w.heap.size ≤ b := by
 have hs := hN.below.size
 rcases h.prn b o hb with h1 | h1 | h1
 ·exact hN.prn b o h1
 ·exact .inr (by omega)
 ·exact .inr (hN.lent b h1)
theorem Good.rebase (h : Good E sl ob a w Pr β κ) (hk : ((keys ob).all fun i => Nat.ble E.n i) = true) {a' : Act} (ht : a'.tmps = a.tmps) (hd : a'.defers = df) : Good ⟨w, Pr, E.n, ob, β, κ, df⟩ sl ob a' w Pr β κ :=
 ⟨Under.refl _ _, fun _ _ _ => rfl, fun _ _ h => h, fun _ _ h => .inl h, h.prl, by rw [ht]; exact h.size, hd, fun i => by rw [ht]; exact h.slots i, h.objs, h.apart, fun i o g ho hg => .inl ⟨i, o, ho, hg⟩, fun i o ho => .inl ⟨rfl, rfl⟩, fun i o ho => Nat.le_of_ble_eq_true (List.all_eq_true.1 hk i (find_mem ho))⟩
variable {ops : Array Oper} {rest : List Oper} {Q : Exit → Act → World → Prop} {d : Nat} {ty T : TypeId} {p : String} {af : Array Edge}
theorem al_defer {x : Operand} {f : FuncId} {l : List V} {ats : Array TypeId} (hx : ev sl x = .clo (.func f) l) (hE : Fine E) (h0 : E.ob0 = []) (hdf : E.df = []) (hk : ((keys ob).all fun i => Nat.ble E.n i) = true)
  (hK : ∀ E' cs, E'.n = E.n → E'.ob0 = ob → Nest E E' → Fine E' → E'.df = [{ target := .fn (.func f) cs, args := #[] }] → cs.toList.length = l.length → (∀ (i : Nat) (v : Value) (y : V), cs.toList[i]? = some v → l[i]? = some y → RepV E'.w E'.pr E'.β0 E'.κ0 v y) → AL E' ops rest Q sl ob) :
  AL E ops (⟨none, .defer { callee := .value x, args := #[], argTypes := ats }, ty, p, af, none⟩ :: rest) Q sl ob := by
 refine ⟨fun a w hi => ?_⟩
 obtain ⟨Pr, β, κ, h⟩ := hi
 refine wpList_plain rfl fun K hKK => ?_
 have hv := good_ev h x
 rw [hx] at hv
 generalize hcv : a.eval x = v at hv
 cases hv with
 | clo _ cs _ hl hd =>
  have hrun : (execOp a.eval ⟨none, .defer { callee := .value x, args := #[], argTypes := ats }, ty, p, af, none⟩).run Tryz.prog w = .ok (.defer { target := .fn (.func f) cs.toArray, args := #[] }) w := by
   simp [execOp, resolve, Deferred.ofValue, hcv]
  unfold Oper.wp
  rw [hrun, Oper.upon_defer]
  have hg := h.rebase (df := { target := .fn (.func f) cs.toArray, args := #[] } :: a.defers) hk (a' := { a with defers := { target := .fn (.func f) cs.toArray, args := #[] } :: a.defers }) rfl rfl
  refine hKK _ _ ((hK ⟨w, Pr, E.n, ob, β, κ, { target := .fn (.func f) cs.toArray, args := #[] } :: a.defers⟩ cs.toArray rfl rfl (Nest.start h h0) ⟨env_now hE h, h.prl⟩ (by rw [h.defers, hdf]) (by simpa using hl) (by simpa using hd)).run _ _ ⟨Pr, β, κ, hg⟩)
end
mutual
theorem has_in : ∀ (x : V) {ks : List Nat} {i : Nat}, x.within ks = true → x.has i = true → i ∈ ks
 | .box j _, ks, i, h, hi => by
  simp only [V.within] at h
  simp only [V.has] at hi
  rw [Nat.eq_of_beq_eq_true hi]
  exact mem_iff.1 h
 | .sl j _ _, ks, i, h, hi => by
  simp only [V.within] at h
  simp only [V.has] at hi
  rw [Nat.eq_of_beq_eq_true hi]
  exact mem_iff.1 h
 | .mp j, ks, i, h, hi => by
  simp only [V.within] at h
  simp only [V.has] at hi
  rw [Nat.eq_of_beq_eq_true hi]
  exact mem_iff.1 h
 | .row j _, ks, i, h, hi => by
  simp only [V.within] at h
  simp only [V.has] at hi
  rw [Nat.eq_of_beq_eq_true hi]
  exact mem_iff.1 h
 | .agg l, _, _, h, hi => has_inL l (by simpa only [V.within] using h) (by simpa only [V.has] using hi)
 | .clo _ l, _, _, h, hi => has_inL l (by simpa only [V.within] using h) (by simpa only [V.has] using hi)
 | .mv _ l, _, _, h, hi => has_inL l (by simpa only [V.within] using h) (by simpa only [V.has] using hi)
 | .tup l, _, _, h, hi => has_inL l (by simpa only [V.within] using h) (by simpa only [V.has] using hi)
 | .und, _, _, _, hi => by simp [V.has] at hi
 | .d _, _, _, _, hi => by simp [V.has] at hi
 | .ep _ _, _, _, _, hi => by simp [V.has] at hi
theorem has_inL : ∀ (l : List V) {ks : List Nat} {i : Nat}, V.withinL ks l = true → V.hasL i l = true → i ∈ ks
 | [], _, _, _, hi => by simp [V.hasL] at hi
 | x :: l, ks, i, h, hi => by
  simp only [V.withinL, Bool.and_eq_true] at h
  simp only [V.hasL, Bool.or_eq_true] at hi
  exact hi.elim (has_in x h.1) (has_inL l h.2)
end
def ObD (f : FuncId) (args : List V) (ob : Objs) (u u' : FrameMode) (Post : Objs → Prop) : Prop :=
 FnOk f ∧ ∀ (w : World) (Pr : Prot) (vs : List Value) (β : Nat → Value) (κ : Nat → Nat), (∀ b o, Pr b o → b < w.heap.size) → EnvOk w Pr → vs.length = args.length →
  (∀ (i : Nat) (v : Value) (x : V), vs[i]? = some v → args[i]? = some x → RepV w Pr β κ v x) → (∀ i o, find ob i = some o → RepO w Pr 0 β κ i o) →
  (∀ i j oi oj g, find ob i = some oi → find ob j = some oj → blk (β i) = some g → blk (β j) = some g → i = j) →
  CallsD Tryz.prog f vs.toArray u w fun e u2 w' => u2 = u' ∧ PostO [] w Pr ob β κ (fun _ o => Post o) e w'
section
variable {E E0 : Entry} {sl : Slots} {ob : Objs} {Q : Exit → Act → World → Prop} {fn : Func} {R : Ending → World → Prop}
theorem aq_d0 {e : Exit} (he : e = .ret ∨ e = .normal) (h : AQ E e (bodyPost Tryz.prog fn R) sl ob) (hdf : E.df = [] := by rfl) : AQ E e (bodyPostD Tryz.prog fn R) sl ob := by
 refine ⟨fun a w hi => ?_⟩
 have h1 := h.run a w hi
 obtain ⟨Pr, β, κ, hg⟩ := hi
 have hd : a.defers = [] := hg.defers.trans hdf
 rcases he with rfl | rfl
 ·show Leaves Tryz.prog fn a.tmps R a.defers .returning w
  rw [hd]
  exact h1.2
 ·show Leaves Tryz.prog fn a.tmps R a.defers .returning w
  rw [hd]
  exact h1.2
theorem aq_leave {e : Exit} {u u' : FrameMode} {f : FuncId} {cs : Array Value} {l : List V} {Post : Objs → Prop} (he : (e = .ret ∧ u = .returning) ∨ ∃ c, e = .panic c ∧ u = .panicking c) (hset : settle u' = .returning)
  (hN : Nest E0 E) (hE : Fine E) (hdf : E.df = [{ target := .fn (.func f) cs, args := #[] }]) (hcl : cs.toList.length = l.length) (hcs : ∀ (i : Nat) (v : Value) (y : V), cs.toList[i]? = some v → l[i]? = some y → RepV E.w E.pr E.β0 E.κ0 v y) (hl : V.withinL (keys E.ob0) l = true)
  (hc : ObD f l ob u u' Post) (hsl : (sl.all fun p => p.2.within (keys ob)) = true) (hk : ((keys ob).all fun i => Nat.ble E.n i) = true)
  (hK : ∀ E'' ob', E''.df = [] → E''.n = E.n → Nest E0 E'' → Post ob' → AQ E'' .ret (bodyPost Tryz.prog fn R) sl ob') (hout : ∀ w, ¬ R .outgrown w → True) : AQ E e (bodyPostD Tryz.prog fn R) sl ob := by
 have _ := hout
 refine ⟨fun a w hi => ?_⟩
 obtain ⟨Pr, β, κ, h⟩ := hi
 have hgoal : Leaves Tryz.prog fn a.tmps R a.defers u w := by
  rw [h.defers, hdf]
  have hne : u ≠ .run := by
   rcases he with ⟨_, rfl⟩ | ⟨c, _, rfl⟩ <;> simp
  have hcs' : ∀ (i : Nat) (v : Value) (y : V), cs.toList[i]? = some v → l[i]? = some y → RepV w Pr β κ v y := fun i v y h1 h2 => by
   refine ((hcs i v y h1 h2).keep h.st0 h.pr0).chg (fun j hj => ?_)
   obtain ⟨o, ho⟩ := find_of_mem (has_inL l hl (by
    have : ∀ (l : List V) (i : Nat), l[i]? = some y → V.hasL j l = true := by
     intro l
     induction l with
     | nil => intro i h; simp at h
     | cons x r ih =>
      intro i h
      simp only [V.hasL, Bool.or_eq_true]
      cases i with
      | zero => simp at h; subst h; exact .inl hj
      | succ i => exact .inr (ih i (by simpa using h))
    exact this l i h2))
   exact h.keeps j o ho
  refine leaves_cons (f := f) (args := cs.toList.toArray) hne (by simp [invoke, run_callFunc hc.1]) ?_
  refine (hc.2 w Pr cs.toList β κ h.prl (env_now hE h) hcl hcs' h.objs h.apart).mono fun e2 u2 w' ⟨hu2, v, x, ob', Pr', β', κ', he2, hp, hA⟩ => ?_
  subst hu2 he2
  show Leaves Tryz.prog fn a.tmps R [] (settle _) w'
  rw [hset]
  -- the state behind the closure
  have hch : ∀ (v : Value) (z : V), RepV w Pr β κ v z → z.within (keys ob) = true → RepV w' Pr' β' κ' v z := fun v z hz hw => (hz.keep hA.st hA.pr0).chg (fun j hj => by
   obtain ⟨o, ho⟩ := find_of_mem (has_in z hw hj)
   exact hA.keeps j o ho)
  have hlook : ∀ i, (look sl i).within (keys ob) = true := by
   intro i
   have : ∀ (s : Slots), (s.all fun p => p.2.within (keys ob)) = true → (look s i).within (keys ob) = true := by
    intro s
    induction s with
    | nil => intro _; rfl
    | cons q s ih =>
     obtain ⟨j, y⟩ := q
     intro hs
     simp only [List.all_cons, Bool.and_eq_true] at hs
     by_cases hij : i = j
     ·subst hij; rw [look_eq]; exact hs.1
     ·rw [look_ne hij]; exact ih hs.2
   exact this sl hsl
  have hown : ∀ i o g, find ob i = some o → blk (β i) = some g → E0.w.heap.size ≤ g := fun i o g h1 h2 => by
   have := hN.below.size
   rcases h.own i o g h1 h2 with h3 | h3
   ·exact hN.lent g h3
   ·omega
  have hs0 := (hN.below_now h.below).size
  have hG : Good ⟨w', Pr', E.n, ob', β', κ', []⟩ sl ob' { a with defers := [] } w' Pr' β' κ' :=
   ⟨Under.refl _ _, fun _ _ _ => rfl, fun _ _ h => h, fun _ _ h => .inl h, hA.prl, h.size, rfl, fun i => hch _ _ (h.slots i) (hlook i), hA.objs, hA.apart, fun i o g ho hg => .inl ⟨i, o, ho, hg⟩, fun i o ho => .inl ⟨rfl, rfl⟩, fun i o ho => by
    have h1 := (hA.wo i o ho).1
    rw [List.append_nil] at h1
    exact Nat.le_of_ble_eq_true (List.all_eq_true.1 hk i h1)⟩
  have hN' : Nest E0 ⟨w', Pr', E.n, ob', β', κ', []⟩ := by
   refine ⟨hN.n, ?_, fun b o hb => ?_, ?_⟩
   ·refine ⟨hA.under.os.trans (hN.below_now h.below).os, hA.under.tape.trans (hN.below_now h.below).tape, hA.under.output.trans (hN.below_now h.below).output, Nat.le_trans hs0 hA.under.size, fun k hk => ?_⟩
    rw [hA.under.block k (by omega) (fun ⟨i, o, h1, h2⟩ => by have := hown i o k h1 h2; omega)]
    exact (hN.below_now h.below).block k hk
   ·rcases hA.prn b o hb with h1 | h1 | ⟨i, o', h1, h2⟩
    ·exact hN.pr_now h h1
    ·exact .inr (by omega)
    ·exact .inr (hown i o' b h1 h2)
   ·rintro g ⟨i, o, h1, h2⟩
    rcases hA.own i o g h1 h2 with ⟨i', o', h3, h4⟩ | h3
    ·exact hown i' o' g h3 h4
    ·show _ ≤ g
     omega
  have h2 := (hK ⟨w', Pr', E.n, ob', β', κ', []⟩ ob' rfl rfl hN' hp).run { a with defers := [] } w' ⟨Pr', β', κ', hG⟩
  exact h2.2
 rcases he with ⟨rfl, rfl⟩ | ⟨c, rfl, rfl⟩
 ·exact hgoal
 ·exact hgoal
theorem retN3 {Post : D → Prop} {r1 r2 r3 : ResultVar} {d1 d2 d3 : D} (hN : Nest E0 E) (hr : fn.results = #[r1, r2, r3]) (h1 : ResX sl ob r1 d1) (h2 : ResX sl ob r2 d2) (h3 : ResX sl ob r3 d3) (hp : Post (.tup [d1, d2, d3])) (hdf : E.df = []) : AQ E .ret (bodyPost Tryz.prog fn (PostR E0.w E0.pr Post)) sl ob := by
 refine ⟨fun a w hi => ?_⟩
 obtain ⟨Pr, β, κ, hg⟩ := hi
 obtain ⟨v1, e1, k1⟩ := res_run hg h1
 obtain ⟨v2, e2, k2⟩ := res_run hg h2
 obtain ⟨v3, e3, k3⟩ := res_run hg h3
 have hpr : ∀ b o, Pr b o → PrNew E0.pr E0.w w b o := fun b o hb => (hN.pr_now hg hb).imp id (fun h => ⟨h, hg.prl b o hb⟩)
 refine bodyPost_ret (results_run3 hr e1 e2 e3) (hg.defers.trans hdf) ⟨_, _, rfl, hp, ?_, hN.below_now hg.below⟩
 have q1 := k1.keep (fun _ _ _ => rfl) hpr
 have q2 := k2.keep (fun _ _ _ => rfl) hpr
 have q3 := k3.keep (fun _ _ _ => rfl) hpr
 refine .tup [_, _, _] _ rfl (fun i v d h1 h2 => ?_)
 match i with
 | 0 => cases h1; cases h2; exact q1
 | 1 => cases h1; cases h2; exact q2
 | 2 => cases h1; cases h2; exact q3
theorem pure_enterD {f : FuncId} {fn : Func} {c : Code} {ds : List D} {Post : D → Prop} (hf : Tryz.prog.funcs[f]? = some fn) (hb : fn.body = some c) (hn : (fn.name == "runtime.NumGoroutine") = false) (N : Nat) (hN : fn.ntmps = N) (hl : ds.length ≤ N)
  (h : ∀ w Pr, Fine ⟨w, Pr, N, [], fun _ => .nilFunc, fun _ => 0, []⟩ → AW ⟨w, Pr, N, [], fun _ => .nilFunc, fun _ => 0, []⟩ c (bodyPostD Tryz.prog fn (PostR w Pr Post)) (slotsOf 0 ds) []) : PureC f ds Post := by
 refine ⟨⟨fn, hf, hn, by simp [hb]⟩, fun w Pr vs h1 h2 h3 h4 => calls_of_wp_defers hf hb ?_⟩
 subst hN
 refine (h w Pr ⟨h2, h1⟩).run _ _ ⟨Pr, fun _ => .nilFunc, fun _ => 0, Under.refl _ _, fun _ _ _ => rfl, fun _ _ h => h, fun _ _ h => .inl h, h1, ?_, rfl, fun i => ?_, fun i o ho => by simp [find] at ho, fun i j oi oj g ho => by simp [find] at ho, fun i o g ho => by simp [find] at ho, fun i o ho => by simp [find] at ho, fun i o ho => by simp [find] at ho⟩
 ·simp [h3]; omega
 ·rw [look_slotsOf]
  simp only [Nat.zero_le, if_true, Nat.sub_zero]
  cases hd : ds[i]? with
  | none => exact .und _
  | some d =>
   have hi : i < vs.length := by rw [h3]; exact (List.getElem?_eq_some_iff.1 hd).1
   have hv : vs[i]? = some vs[i] := List.getElem?_eq_getElem hi
   refine .d _ _ ?_
   have : (vs.toArray ++ Array.replicate (fn.ntmps - vs.toArray.size) undef).getD i undef = vs[i] := by
    rw [Array.getD_eq_getD_getElem?, Array.getElem?_append_left (by simpa using hi)]
    simp [hi]
   rw [this]
   exact h4 i _ d hv hd
end
theorem st_ocall {E : Entry} {sl : Slots} {ob ob1 o0 : Objs} {f : FuncId} {args : List V} {x0 : V} {c : Operand} {xs : List Operand} {ats : Array TypeId} {d : Nat} {ty : TypeId} {p : String} {af : Array Edge} (l : List (Nat × Nat)) (hc : ObC f args ob1 [] (fun x o => x = x0 ∧ o = o0)) (hf : ev sl c = .d (.val (.func (.func f) #[] #[]))) (hE : Fine E) (hd : d < E.n) (ha : ArgsV l sl ob xs args) (hL : Lends E sl ob l ob1 []) :
  Step E ⟨some d, .call { callee := .value c, args := xs.toArray, argTypes := ats }, ty, p, af, none⟩ sl ob ((d, x0.ren l) :: sl) (renO l o0 ++ dropK ((keys ob1).map (rn l)) ob) := by
 rintro a w ⟨Pr, β, κ, h⟩ K Q hK
 obtain ⟨hlen, hr⟩ := ha.rep h
 have hrun : (execOp a.eval ⟨some d, .call { callee := .value c, args := xs.toArray, argTypes := ats }, ty, p, af, none⟩).run Tryz.prog w = .ok (.enter f (xs.map a.eval).toArray) w := by
  simp [execOp, resolve, Deferred.ofValue, invoke, good_val h hf, run_callFunc hc.1]
 have hfo := hL.find
 obtain ⟨ho, hl, hk, hk2, hn⟩ := hL
 have hcall := hc.2 w Pr (xs.map a.eval) _ _ h.prl (env_now hE h) hlen hr (fun i o hi => repO_in (h.objs _ _ (hfo i o hi))) (fun i j oi oj g hi hj hgi hgj => by
  have e := h.apart _ _ _ _ g (hfo i oi hi) (hfo j oj hj) hgi hgj
  have k1 := okRen_at hl (mem_iff.1 (List.all_eq_true.1 hk i (List.mem_append_left _ (find_mem hi))))
  have k2 := okRen_at hl (mem_iff.1 (List.all_eq_true.1 hk j (List.mem_append_left _ (find_mem hj))))
  rw [e, k2] at k1
  cases k1
  rfl)
 unfold Oper.wp
 rw [hrun, Oper.upon_enter]
 refine hcall.mono fun e w' ⟨v, x, ob', Pr', β', κ', he, hp, hA⟩ => ?_
 subst he
 obtain ⟨rfl, rfl⟩ := hp
 exact hK _ _ (h.ocalled hd hA ho hl hk hk2 hn)
section
variable {E : Entry} {sl : Slots} {ob : Objs} {Q : Exit → Act → World → Prop}
theorem aq_ends {fn : Func} {c₀ : Frame} {cs : List Frame} {u : FrameMode} {new : List Nat} {Post : Objs → Prop} {e : Exit} (he : e = .ret ∨ e = .normal) (ob' : Objs) (hr : fn.results = #[]) (hp : Post ob') (ho : ∀ p ∈ ob', find ob p.1 = some p.2) (hw : okOut E.ob0 new (.tup []) ob' = true) (hdf : E.df = [] := by rfl) :
  AQ E e (fun e a w => bodyPostS Tryz.prog fn c₀ cs (fun e u2 w' => u2 = u ∧ PostO new E.w E.pr E.ob0 E.β0 E.κ0 (fun _ o => Post o) e w') e a ({ c₀ with mode := u } :: cs) w) sl ob := by
 refine ⟨fun a w ⟨Pr, β, κ, h⟩ => ?_⟩
 have hrun : (results fn a.tmps).run Tryz.prog w = .ok (.tuple #[]) w := by
  rw [results_eq, hr]
  simp
 have hmain : a.defers = [] ∧ ∃ u', ({ c₀ with mode := u } :: cs : List Frame) = { c₀ with mode := u' } :: cs ∧ ∃ v, (results fn a.tmps).run Tryz.prog w = .ok v w ∧ (u' = u ∧ PostO new E.w E.pr E.ob0 E.β0 E.κ0 (fun _ o => Post o) (.returned v) w) :=
  ⟨h.defers.trans hdf, u, rfl, _, hrun, rfl, _, _, ob', Pr, β, κ, rfl, hp, after_of h (.tup [] [] rfl (by simp)) ho hw⟩
 rcases he with rfl | rfl
 ·exact hmain
 ·exact hmain
theorem Good.start {w : World} {Pr : Prot} {N : Nat} {ob : Objs} {β : Nat → Value} {κ : Nat → Nat} {args : List V} {vs : List Value} (hl : args.length ≤ N) (hfr : ((keys ob).all fun i => Nat.ble N i) = true) (h1 : ∀ b o, Pr b o → b < w.heap.size) (h3 : vs.length = args.length)
  (h4 : ∀ (i : Nat) (v : Value) (x : V), vs[i]? = some v → args[i]? = some x → RepV w Pr β κ v x) (h5 : ∀ i o, find ob i = some o → RepO w Pr 0 β κ i o)
  (h6 : ∀ i j oi oj g, find ob i = some oi → find ob j = some oj → blk (β i) = some g → blk (β j) = some g → i = j) : Good ⟨w, Pr, N, ob, β, κ, []⟩ (slotsV 0 args) ob { tmps := vs.toArray ++ Array.replicate (N - vs.toArray.size) undef, defers := [] } w Pr β κ := by
 refine ⟨Under.refl _ _, fun _ _ _ => rfl, fun _ _ h => h, fun _ _ h => .inl h, h1, ?_, rfl, fun i => ?_, h5, h6, fun i o g ho hg => .inl ⟨i, o, ho, hg⟩, fun i o ho => .inl ⟨rfl, rfl⟩, fun i o ho => ?_⟩
 ·simp [h3]; omega
 ·rw [look_slotsV]
  simp only [Nat.zero_le, if_true, Nat.sub_zero]
  cases hd : args[i]? with
  | none => exact .und _
  | some d =>
   have hi : i < vs.length := by rw [h3]; exact (List.getElem?_eq_some_iff.1 hd).1
   have hv : vs[i]? = some vs[i] := List.getElem?_eq_getElem hi
   have : (vs.toArray ++ Array.replicate (N - vs.toArray.size) undef).getD i undef = vs[i] := by
    rw [Array.getD_eq_getD_getElem?, Array.getElem?_append_left (by simpa using hi)]
    simp [hi]
   rw [this]
   exact h4 i _ d hv hd
 ·exact Nat.le_of_ble_eq_true (List.all_eq_true.1 hfr i (find_mem ho))
variable {d : Option Nat} {t ty T : TypeId} {p : String} {af : Array Edge} {g : Option (Nat × Bool)} {x : Operand}
theorem y_ifneq {te : TypeId} {u : Value} (hx : ev sl x = .d (.val (.iface te u))) (ht : ∃ ms, Tryz.prog.underlying t = some (.interface ms)) : Y E ⟨d, .binOp .neq t x (.const .nilIface) ty, T, p, af, g⟩ sl ob (.d (.val (.bool true))) := fun a w Pr β κ h => by
 obtain ⟨ms, ht⟩ := ht
 have hc : a.eval (.const Value.nilIface) = Value.nilIface := rfl
 refine ⟨_, .d _ _ (.val _), fun w' _ => ?_⟩
 have h1 : (Op.equalIn Op.maxDepth t (.iface te u) .nilIface).run Tryz.prog w' = .ok false w' := by
  have : ∀ d : Nat, (Op.equalIn (d + 1) t (.iface te u) .nilIface).run Tryz.prog w' = .ok false w' := fun d => by simp [Op.equalIn, run_underlying ht]
  exact this 9999
 simp [execOp, good_val h hx, hc, eqGuard_at_iface, binOp, Op.equal, h1]
theorem y_ifnil (hx : ev sl x = .d (.val .nilIface)) (ht : ∃ ms, Tryz.prog.underlying t = some (.interface ms)) : Y E ⟨d, .binOp .neq t x (.const .nilIface) ty, T, p, af, g⟩ sl ob (.d (.val (.bool false))) := fun a w Pr β κ h => by
 obtain ⟨ms, ht⟩ := ht
 have hc : a.eval (.const Value.nilIface) = Value.nilIface := rfl
 refine ⟨_, .d _ _ (.val _), fun w' _ => ?_⟩
 have h1 : (Op.equalIn Op.maxDepth t .nilIface .nilIface).run Tryz.prog w' = .ok true w' := by
  have : ∀ d : Nat, (Op.equalIn (d + 1) t .nilIface .nilIface).run Tryz.prog w' = .ok true w' := fun d => by simp [Op.equalIn, run_underlying ht]
  exact this 9999
 simp [execOp, good_val h hx, hc, eqGuard_nil_constR, binOp, Op.equal, h1]
theorem y_assert {at_ xt : TypeId} {m n : Int} {td : TypeDesc} (hx : ev sl x = .d (.val (.iface at_ (.agg #[.int .i64 m, .int .i64 n])))) (hT : Tryz.prog.underlying at_ = some td) (hnt : (match td with | .interface _ => false | _ => true) = true) : Y E ⟨d, .typeAssert x xt at_ true, T, p, af, g⟩ sl ob (.d (.tup [.agg [.int m, .int n], .bool true])) := fun a w Pr β κ h => by
 refine ⟨.tuple #[.agg #[.int .i64 m, .int .i64 n], .bool true], .d _ _ (.tup [_, _] _ rfl (fun i v d h1 h2 => ?_)), fun w' _ => ?_⟩
 ·match i with
  | 0 =>
   cases h1; cases h2
   refine .agg [_, _] _ rfl (fun i v d h1 h2 => ?_)
   match i with
   | 0 => cases h1; cases h2; exact .val _
   | 1 => cases h1; cases h2; exact .val _
  | 1 => cases h1; cases h2; exact .val _
 ·simp only [execOp, good_val h hx, Instr.typeAssert, Sem.run_bind, run_underlying hT]
  cases td <;> first | (simp; done) | cases hnt
theorem y_assertnil {at_ xt : TypeId} {td : TypeDesc} {z : Value} (hx : ev sl x = .d (.val .nilIface)) (hT : Tryz.prog.underlying at_ = some td) (hnt : (match td with | .interface _ => false | _ => true) = true) (hz : ∀ w, (zeroValue at_).run Tryz.prog w = .ok z w) : Y E ⟨d, .typeAssert x xt at_ true, T, p, af, g⟩ sl ob (.d (.tup [.val z, .bool false])) := fun a w Pr β κ h => by
 refine ⟨.tuple #[z, .bool false], .d _ _ (.tup [_, _] _ rfl (fun i v d h1 h2 => ?_)), fun w' _ => ?_⟩
 ·match i with
  | 0 => cases h1; cases h2; exact .val _
  | 1 => cases h1; cases h2; exact .val _
 ·simp only [execOp, good_val h hx, Instr.typeAssert, Sem.run_bind, run_underlying hT]
  cases td <;> first | (simp [hz]; done) | cases hnt
end
end Go.Proofs.YtedoeogopmenpaaGreatDoor
end
section
namespace Go.Proofs.YtedoeogopmenpaaGreatDoor
open Go.ChangeShapes Go.WideShapes Go.ChangeAt Go.RowKit Go.Deep Go.Joins
theorem own : ownKnob Tryz.prog.godebug = none := by kernel_rfl
theorem laidOut : laidOutB Tryz.prog = true := by kernel_rfl
section
variable {H : Type} {enc : TypeId × Value → H} {P : Program}
theorem trodAll_below (hl : laidOutB P = true) {W W' : World} (hb : Below W.heap.size W W') : ∀ {ts : List TypeId} {vs : List Value} {ds : List (DataW H)} {ps : List MemPlace},
  (ts.all fun t => P.readableRec t && decide (t < P.types.size)) = true → DataW.TrodAll enc P W 0 (fun _ => true) true ts vs ds ps → (∀ x ∈ ps, x.block < W.heap.size) →
  DataW.TrodAll enc P W' 0 (fun b => decide (b < W.heap.size)) true ts vs ds ps
 | [], vs, ds, ps, _, h, _ => by
  obtain ⟨rfl, rfl, rfl⟩ := trodAll_nil h
  exact trodAll_mk0
 | t :: ts, vs, ds, ps, hk, h, hlt => by
  obtain ⟨v, vs', d, ds', p, p', rfl, rfl, rfl, h0, hr⟩ := trodAll_cons h
  simp only [List.all_cons, Bool.and_eq_true, decide_eq_true_eq] at hk
  exact trodAll_cons_mk (Below.trod hl hk.1.1 hk.1.2 h0 hb (fun x hx => hlt x (List.mem_append_left _ hx))) (trodAll_below hl hb hk.2 hr (fun x hx => hlt x (List.mem_append_right _ hx)))
theorem law_post {f : Func} {s : ChangeSpec} {W W' : World} {args : Array Value} {ds gs : List (DataW H)} {before : List MemPlace} {tb : TypeId}
  (hl : laidOutB P = true) (hbool : P.underlying tb = some .bool) (hres : f.resultTypes = #[tb]) (hpar : (f.params.toList.all fun t => P.readableRec t && decide (t < P.types.size)) = true)
  (hvars : s.vars = []) (hW : DataW.Whole enc P f.params.toList s.vars false W args.toList ds gs before)
  (hfn : s.fn H (ds ++ gs) = { results := [.lit (.bool true)], args := ds }) (hb : Below W.heap.size W W') :
  s.post enc P f false true false false W args (.bool true) W' := by
 have hW' := hW
 obtain ⟨p, q, hA, hV, rfl, _, _⟩ := hW
 rw [hvars] at hV
 obtain ⟨rfl, rfl⟩ := trodVars_none hV
 have hA' : DataW.TrodAll enc P W 0 (fun _ => true) true f.params.toList args.toList ds p := hA
 refine ⟨ds, [], p ++ [], [], p, [], hW', ?_, ?_, ?_, hb.frame _, fun h => by cases h⟩
 ·rw [hfn, hres]
  exact trodAll_cons_mk (shut_bool hbool true) trodAll_mk0
 ·rw [hfn]
  exact trodAll_below hl hb hpar hA' hA'.lt
 ·rw [hfn, hvars]
  rfl
end
end Go.Proofs.YtedoeogopmenpaaGreatDoor
end
section
namespace Go.Proofs.YtedoeogopmenpaaGreatDoor
open Go.ChangeShapes Go.WideShapes Go.ChangeAt Go.RowKit Go.Deep Go.Joins
theorem reps_nil {w : World} {Pr : Prot} : ∀ (i : Nat) (v : Value) (d : D), ([] : List Value)[i]? = some v → ([] : List D)[i]? = some d → RepD w Pr v d := by simp
theorem reps_cons {w : World} {Pr : Prot} {v : Value} {d : D} {vs : List Value} {ds : List D} (h : RepD w Pr v d) (hr : ∀ (i : Nat) (v : Value) (d : D), vs[i]? = some v → ds[i]? = some d → RepD w Pr v d) :
  ∀ (i : Nat) (u : Value) (e : D), (v :: vs)[i]? = some u → (d :: ds)[i]? = some e → RepD w Pr u e
 | 0, _, _, h1, h2 => by cases h1; cases h2; exact h
 | i + 1, u, e, h1, h2 => hr i u e h1 h2
section
variable {H : Type} {enc : TypeId × Value → H}
end
end Go.Proofs.YtedoeogopmenpaaGreatDoor
end
section
namespace Go.Proofs.YtedoeogopmenpaaGreatDoor
open Go.ChangeShapes Go.WideShapes Go.ChangeAt Go.RowKit Go.Deep Go.Joins
section
variable {H : Type} {enc : TypeId × Value → H} {P : Program} {w : World} {base : Nat}
def Show (enc : TypeId × Value → H) (P : Program) (w : World) (base : Nat) (t : TypeId) (c : Nat) {α : Type} (f : α → List D) (Q : α → Prop) : Prop :=
 ∀ (fuel : Nat) (cs : List Value) (x : DataW H × List MemPlace), DataW.trod enc P w base (fun _ => true) true fuel t cs = some x →
  cs.length = c ∧ ∃ a, Q a ∧ (f a).length = c ∧ ∀ (j : Nat) (v : Value) (d : D), cs[j]? = some v → (f a)[j]? = some d → RepD w (fun b _ => b < w.heap.size) v d
theorem show_one {α : Type} {t : TypeId} {g : α → D} {Q : α → Prop} (h : ∀ (fuel : Nat) (cs : List Value) (x : DataW H × List MemPlace), DataW.trod enc P w base (fun _ => true) true fuel t cs = some x → ∃ v a, cs = [v] ∧ Q a ∧ RepD w (fun b _ => b < w.heap.size) v (g a)) :
  Show enc P w base t 1 (fun a => [g a]) Q := by
 intro fuel cs x hx
 obtain ⟨v, a, rfl, ha, hr⟩ := h fuel cs x hx
 refine ⟨rfl, a, ha, rfl, fun j u d h1 h2 => ?_⟩
 cases j with
 | zero => cases h1; cases h2; exact hr
 | succ j => cases h1
theorem show_int {t : TypeId} {k : IntKind} (ht : P.underlying t = some (.int k)) : Show enc P w base t 1 (fun n : Int => [.val (.int k n)]) (fun n => k.min ≤ n ∧ n ≤ k.max) :=
 show_one (g := fun n : Int => .val (.int k n)) fun fuel cs x hx => by
  obtain ⟨n, rfl, _, hw⟩ := DataW.trod_int ht hx
  exact ⟨_, n, rfl, by simpa [Lit.wf] using hw, .val _⟩
theorem show_string {t : TypeId} (ht : P.underlying t = some .string) : Show enc P w base t 1 (fun s : ByteArray => [.str s]) (fun s => s.size ≤ maxLen) :=
 show_one (g := fun s : ByteArray => .str s) fun fuel cs x hx => by
  obtain ⟨s, rfl, _, hw⟩ := DataW.trod_string ht hx
  exact ⟨_, s, rfl, hw, .val _⟩
def ShowFs (enc : TypeId × Value → H) (P : Program) (w : World) (base : Nat) (o : Nat) (fs : List Field) (c : Nat) {α : Type} (f : α → List D) (Q : α → Prop) : Prop :=
 ∀ (n : Nat) (cs : List Value), (∀ (i : Nat) (fl : Field), fs[i]? = some fl → ∃ y, DataW.trod enc P w base (fun _ => true) true n fl.type ((cs.drop fl.offset).take (P.cellsOf fl.type)) = some y) →
  ∃ a, Q a ∧ (f a).length = c ∧ ∀ (j : Nat) (v : Value) (d : D), cs[o + j]? = some v → (f a)[j]? = some d → RepD w (fun b _ => b < w.heap.size) v d
theorem Show.as {α β : Type} {t : TypeId} {c : Nat} {f : α → List D} {Q : α → Prop} (h : Show enc P w base t c f Q) (g : β → List D) (R : β → Prop) (m : α → β) (hg : ∀ a, g (m a) = f a) (hR : ∀ a, Q a → R (m a)) : Show enc P w base t c g R := by
 intro fuel cs x hx
 obtain ⟨h1, a, h2, h3, h4⟩ := h fuel cs x hx
 exact ⟨h1, m a, hR a h2, by rw [hg]; exact h3, by rw [hg]; exact h4⟩
theorem open_struct {α : Type} {t : TypeId} {c : Nat} {f : α → List D} {Q : α → Prop} {v : Value} {d : DataW H} {ps : List MemPlace} (h : Show enc P w base t c f Q) (cs : Array Value) (hv : v = .agg cs) (hd : DataW.Trod enc P w base (fun _ => true) true t v d ps) :
  ∃ a, Q a ∧ RepD w (fun b _ => b < w.heap.size) v (.agg (f a)) := by
 subst hv
 obtain ⟨fuel, hf⟩ := hd
 obtain ⟨h0, a, h1, h2, h3⟩ := h _ _ _ hf
 obtain ⟨l⟩ := cs
 have hl : l.length = c := by simpa [Value.cells] using h0
 exact ⟨a, h1, .agg l (f a) (by omega) fun i v d hv hd => h3 i v d (by simpa [Value.cells] using hv) hd⟩
end
end Go.Proofs.YtedoeogopmenpaaGreatDoor
end
section
set_option linter.unusedSimpArgs false
set_option linter.unusedVariables false
namespace Go.Proofs.YtedoeogopmenpaaGreatDoor
open Go.RowKit
def digitB (c : UInt8) : Bool := decide (48 ≤ (c.toNat : Int)) && decide ((c.toNat : Int) ≤ 57)
theorem digit_any (c : UInt8) : PureC 101 [.val (.int .u8 c.toNat)] (· = .bool (digitB c)) := by
 refine pure_enter Tryz.func101 rfl (by decide) _ Tryz.ntmps101 (le_ok rfl) (fun w Pr hE => ?_)
 dsimp only [slotsOf, Nat.zero_add, Nat.reduceAdd]
 repeat' (first | refine nx ?_ | (apply qr_move; refine r_move ?_) | (apply qr_assign; refine r_assign ?_) | (apply at_guard; first | refine g_go ?_ | refine g_nt ?_ | refine g_nf ?_ | refine g_nu ?_ | ((first | refine al_split_t rfl rfl (lt_ok rfl) (fun hb => ?_) (fun hb => ?_) | refine al_split_f rfl rfl (lt_ok rfl) (fun hb => ?_) (fun hb => ?_)) <;> ((try have hq := dX hb); (try (exfalso; omega))))) | (apply qr_pick; refine r_pick ?_) | (apply qr_leq; refine r_leq ?_) | (apply qr_geq; refine r_geq ?_))
 all_goals (refine ret_one rfl (.d _) ?_; simp [digitB, *])
def isBlank (c : UInt8) : Bool := decide ((c.toNat : Int) = 32) || decide ((c.toNat : Int) = 9) || decide ((c.toNat : Int) = 10)
theorem blank_any (c : UInt8) : PureC 76 [.val (.int .u8 c.toNat)] (· = .bool (isBlank c)) := by
 refine pure_enter Tryz.func76 rfl (by decide) _ Tryz.ntmps76 (le_ok rfl) (fun w Pr hE => ?_)
 dsimp only [slotsOf, Nat.zero_add, Nat.reduceAdd]
 repeat' (first | refine nx ?_ | (apply qr_move; refine r_move ?_) | (apply qr_assign; refine r_assign ?_) | (apply at_guard; first | refine g_go ?_ | refine g_nt ?_ | refine g_nf ?_ | refine g_nu ?_ | ((first | refine al_split_t rfl rfl (lt_ok rfl) (fun hb => ?_) (fun hb => ?_) | refine al_split_f rfl rfl (lt_ok rfl) (fun hb => ?_) (fun hb => ?_)) <;> ((try have hq := dX hb); (try (exfalso; omega))))) | (apply qr_pick; refine r_pick ?_) | (apply qr_eql; refine r_eql ?_))
 all_goals (refine ret_one rfl (.d _) ?_; simp [isBlank, *])
def pre (F : UInt8 → Bool) (s : ByteArray) : Nat := (s.data.toList.takeWhile F).length
theorem takeWhile_at {α : Type} (F : α → Bool) (l : List α) (k : Nat) (hk : k ≤ l.length) (h1 : ∀ j (h : j < l.length), j < k → F l[j] = true) (h2 : k < l.length → ∃ h : k < l.length, F l[k] = false) : (l.takeWhile F).length = k := by
 induction l generalizing k with
 | nil => simp at hk; simp [hk]
 | cons x l ih =>
  cases k with
  | zero =>
   obtain ⟨_, h⟩ := h2 (by simp)
   simp at h
   simp [h]
  | succ k =>
   have h0 := h1 0 (by simp) (by omega)
   simp at h0
   rw [List.takeWhile_cons, h0]
   simp only [if_true, List.length_cons, Nat.succ.injEq]
   refine ih k (by simpa using hk) (fun j h hj => ?_) (fun h => ?_)
   ·have := h1 (j + 1) (by simpa using h) (by omega)
    simpa using this
   ·obtain ⟨h', h3⟩ := h2 (by simpa using h)
    exact ⟨h, by simpa using h3⟩
theorem bAt_eq (s : ByteArray) (i : Nat) (h : i < s.data.toList.length) : bAt s i = s.data.toList[i] := by simp [bAt, List.getD_eq_getElem?_getD, List.getElem?_eq_getElem h]
theorem pre_at (F : UInt8 → Bool) (s : ByteArray) (k : Nat) (hk : k ≤ s.size) (h1 : ∀ j, j < k → F (bAt s j) = true) (h2 : k < s.size → F (bAt s k) = false) : pre F s = k := by
 refine takeWhile_at F _ k (by simpa using hk) (fun j h hj => ?_) (fun h => ⟨h, ?_⟩)
 ·rw [← bAt_eq s j h]
  exact h1 j hj
 ·rw [← bAt_eq s k h]
  exact h2 (by simpa using h)
theorem span_any (s : ByteArray) (g : Nat) (F : UInt8 → Bool) (hs : s.size ≤ 9223372036854775807) (hF : ∀ c, PureC g [.val (.int .u8 c.toNat)] (· = .bool (F c))) : PureC 75 [.str s, .val (.func (.func g) #[] #[])] (· = .int (pre F s)) := by
 refine pure_enter Tryz.func75 rfl (by decide) _ Tryz.ntmps75 (le_ok rfl) (fun w Pr hE => ?_)
 dsimp only [slotsOf, Nat.zero_add, Nat.reduceAdd]
 repeat' (first | refine nx ?_ | (apply aq_block_y; decide) | (apply qr_move; refine r_move ?_) | (apply qr_assign; refine r_assign ?_) | (apply at_cond; first | refine c_t ?_ | refine c_f ?_ | (refine aw_cond rfl (fun hb => ?_) (fun hb => ?_) <;> ((try have hq := dX hb); (try (exfalso; omega))))) | (apply at_guard; first | refine g_go ?_ | refine g_nt ?_ | refine g_nf ?_ | refine g_nu ?_ | ((first | refine al_split_t rfl rfl (lt_ok rfl) (fun hb => ?_) (fun hb => ?_) | refine al_split_f rfl rfl (lt_ok rfl) (fun hb => ?_) (fun hb => ?_)) <;> ((try have hq := dX hb); (try (exfalso; omega))))) | (apply qr_pick; refine r_pick ?_) | (apply qr_lss; refine r_lss ?_) | (apply qr_add; refine r_add ?_) | (apply qr_len; refine r_len ?_) | (apply qr_index; refine r_index ?_))
 refine aw_lp (fun n sl ob => ∃ k : Nat, n = s.size - k ∧ k ≤ s.size ∧ (∀ j, j < k → F (bAt s j) = true) ∧ sl = [(5, .d (.int k)), (0, .d (.str s)), (1, .d (.val (.func (.func g) #[] #[])))] ∧ ob = []) (⟨0, rfl, by omega, by simp, rfl, rfl⟩) ?_
 rintro n sl ob ⟨k, rfl, hk, hp, rfl, rfl⟩
 repeat' (first | (apply at_call; refine k_call (hF _) hE ?_; rintro _ rfl) | refine nx ?_ | (apply aq_block_y; decide) | (apply qr_move; refine r_move ?_) | (apply qr_assign; refine r_assign ?_) | (apply at_cond; first | refine c_t ?_ | refine c_f ?_ | (refine aw_cond rfl (fun hb => ?_) (fun hb => ?_) <;> ((try have hq := dX hb); (try (exfalso; omega))))) | (apply at_guard; first | refine g_go ?_ | refine g_nt ?_ | refine g_nf ?_ | refine g_nu ?_ | ((first | refine al_split_t rfl rfl (lt_ok rfl) (fun hb => ?_) (fun hb => ?_) | refine al_split_f rfl rfl (lt_ok rfl) (fun hb => ?_) (fun hb => ?_)) <;> ((try have hq := dX hb); (try (exfalso; omega))))) | (apply qr_pick; refine r_pick ?_) | (apply qr_lss; refine r_lss ?_) | (apply qr_add; refine r_add ?_) | (apply qr_len; refine r_len ?_) | (apply qr_index; refine r_index ?_))
 ·skip
  refine aq_rd (⟨k + 1, rfl, by omega, fun j hj => (Nat.lt_succ_iff_lt_or_eq.1 hj).elim (hp j) (fun e => e ▸ (by assumption)), rfl, rfl⟩) (by omega)
 ·refine ret_one rfl (.d _) ?_
  rw [pre_at F s k hk hp (fun _ => by assumption)]
 ·refine ret_one rfl (.d _) ?_
  rw [pre_at F s k hk hp (fun _ => by omega)]
end Go.Proofs.YtedoeogopmenpaaGreatDoor
end
section
namespace Go.Proofs
def Tryz.lays99_ren : Go.Shelf.Ren := ⟨fun | 99 => 123 | 206 => 141 | n => n, fun | 9 => 9 | 4 => 4 | 3 => 3 | n => n, fun | n => n⟩
theorem Tryz.lays99 : Go.Proofs.Lays.n99 Tryz.prog Tryz.lays99_ren := {
 mixed := by kernel_rfl
 f99 := Tryz.func123.trans (congrArg some (by kernel_rfl))
 f206 := Tryz.func141.trans (congrArg some (by kernel_rfl))
 t3 := Tryz.underlying3
 a3 := Tryz.isAgg3
 z3 := Tryz.sizeOf3
 v3 := Tryz.zeroValue3
 t4 := Tryz.underlying4
 a4 := Tryz.isAgg4
 z4 := Tryz.sizeOf4
 v4 := Tryz.zeroValue4
 t9 := Tryz.underlying9
 a9 := Tryz.isAgg9
 z9 := Tryz.sizeOf9
 v9 := Tryz.zeroValue9 }
open Go.RowKit Go.Lib in
theorem Tryz.strings_HasPrefix (s p : ByteArray) (w : World) :
  Calls Tryz.prog 123 #[.string s, .string p] w fun e w' => e = .returned (.bool (Lib.hasPrefix s.data.toList p.data.toList)) ∧ w' = w := Any.strings_HasPrefix Tryz.lays99 s p w
def Tryz.laysM171_ren : Go.Shelf.Ren := ⟨fun | 171 => 56 | 243 => 112 | 246 => 138 | 283 => 144 | 284 => 145 | 285 => 146 | 286 => 147 | 129 => 149 | 317 => 148 | 318 => 150 | 319 => 151 | 320 => 152 | 337 => 153 | 338 => 154 | n => n, fun | 3 => 3 | 9 => 9 | 2 => 2 | 4 => 4 | 171 => 152 | 0 => 0 | 53 => 153 | 37 => 75 | 5 => 5 | 173 => 156 | 212 => 159 | 51 => 160 | 20 => 20 | 213 => 161 | 46 => 162 | 232 => 165 | 233 => 166 | n => n, fun | 17 => 2 | 18 => 3 | 19 => 4 | n => n⟩
theorem Tryz.laysM171 : Go.Proofs.LaysM.n171 Tryz.prog Tryz.laysM171_ren := {
 mixed := by kernel_rfl
 f129 := Tryz.func149.trans (congrArg some (by kernel_rfl))
 f171 := Tryz.func56.trans (congrArg some (by kernel_rfl))
 f243 := Tryz.func112.trans (congrArg some (by kernel_rfl))
 f246 := Tryz.func138.trans (congrArg some (by kernel_rfl))
 f283 := Tryz.func144.trans (congrArg some (by kernel_rfl))
 f284 := Tryz.func145.trans (congrArg some (by kernel_rfl))
 f285 := Tryz.func146.trans (congrArg some (by kernel_rfl))
 f286 := Tryz.func147.trans (congrArg some (by kernel_rfl))
 f317 := Tryz.func148.trans (congrArg some (by kernel_rfl))
 f318 := Tryz.func150.trans (congrArg some (by kernel_rfl))
 f319 := Tryz.func151.trans (congrArg some (by kernel_rfl))
 f320 := Tryz.func152.trans (congrArg some (by kernel_rfl))
 f337 := Tryz.func153.trans (congrArg some (by kernel_rfl))
 f338 := Tryz.func154.trans (congrArg some (by kernel_rfl))
 t0 := Tryz.underlying0
 a0 := Tryz.isAgg0
 z0 := Tryz.sizeOf0
 v0 := Tryz.zeroValue0
 t2 := Tryz.underlying2
 a2 := Tryz.isAgg2
 z2 := Tryz.sizeOf2
 v2 := Tryz.zeroValue2
 t3 := Tryz.underlying3
 a3 := Tryz.isAgg3
 z3 := Tryz.sizeOf3
 v3 := Tryz.zeroValue3
 t4 := Tryz.underlying4
 a4 := Tryz.isAgg4
 z4 := Tryz.sizeOf4
 v4 := Tryz.zeroValue4
 t5 := Tryz.underlying5
 a5 := Tryz.isAgg5
 z5 := Tryz.sizeOf5
 v5 := Tryz.zeroValue5
 t9 := Tryz.underlying9
 a9 := Tryz.isAgg9
 z9 := Tryz.sizeOf9
 v9 := Tryz.zeroValue9
 t20 := Tryz.underlying20
 a20 := Tryz.isAgg20
 z20 := Tryz.sizeOf20
 v20 := Tryz.zeroValue20
 t37 := Tryz.underlying75
 a37 := Tryz.isAgg75
 z37 := Tryz.sizeOf75
 v37 := Tryz.zeroValue75
 t46 := Tryz.underlying162
 a46 := Tryz.isAgg162
 z46 := Tryz.sizeOf162
 v46 := Tryz.zeroValue162
 t51 := Tryz.underlying160
 a51 := Tryz.isAgg160
 z51 := Tryz.sizeOf160
 v51 := Tryz.zeroValue160
 t53 := Tryz.underlying153
 a53 := Tryz.isAgg153
 z53 := Tryz.sizeOf153
 v53 := Tryz.zeroValue153
 t171 := Tryz.underlying152
 a171 := Tryz.isAgg152
 z171 := Tryz.sizeOf152
 v171 := Tryz.zeroValue152
 t173 := Tryz.underlying156
 a173 := Tryz.isAgg156
 z173 := Tryz.sizeOf156
 v173 := Tryz.zeroValue156
 t212 := Tryz.underlying159
 a212 := Tryz.isAgg159
 z212 := Tryz.sizeOf159
 v212 := Tryz.zeroValue159
 t213 := Tryz.underlying161
 a213 := Tryz.isAgg161
 z213 := Tryz.sizeOf161
 t232 := Tryz.underlying165
 a232 := Tryz.isAgg165
 z232 := Tryz.sizeOf165
 v232 := Tryz.zeroValue165
 t233 := Tryz.underlying166
 a233 := Tryz.isAgg166
 z233 := Tryz.sizeOf166
 v233 := Tryz.zeroValue166
 g17 := by kernel_rfl
 g18 := by kernel_rfl
 g19 := by kernel_rfl
 i0 := by kernel_rfl
 i2 := by kernel_rfl
 i3 := by kernel_rfl
 i4 := by kernel_rfl
 i5 := by kernel_rfl
 i9 := by kernel_rfl
 i20 := by kernel_rfl
 i37 := by kernel_rfl
 i46 := by kernel_rfl
 i51 := by kernel_rfl
 i53 := by kernel_rfl
 i171 := by kernel_rfl
 i173 := by kernel_rfl
 i212 := by kernel_rfl
 i232 := by kernel_rfl
 i233 := by kernel_rfl
 m17 := by kernel_rfl
 m18 := by kernel_rfl
 m19 := by kernel_rfl }
open Go.RowKit Go.Sort Go.Lib in
theorem Tryz.strconv_Itoa (n : Int) (h0 : -9223372036854775808 ≤ n) (h1 : n ≤ 9223372036854775807) (w : World) (htab : Lib.TabIs Tryz.prog w "internal/strconv.uint64pow10" .u64 Lib.pow10Tab) :
  Calls Tryz.prog 56 #[.int .i64 n] w fun e w' => e = .returned (.string ⟨(Lib.itoa n).toArray⟩) ∧ ∃ k os, w' = grow (w.drewN k) os := Any.strconv_Itoa Tryz.laysM171 n h0 h1 w htab
def Tryz.lays156_ren : Go.Shelf.Ren := ⟨fun | 156 => 54 | 165 => 106 | 166 => 53 | 169 => 58 | 240 => 105 | 241 => 137 | 276 => 136 | 277 => 143 | n => n, fun | 0 => 0 | 3 => 3 | 4 => 4 | 9 => 9 | 20 => 20 | 31 => 72 | 37 => 75 | 70 => 74 | 72 => 77 | 75 => 79 | 76 => 80 | 127 => 128 | 164 => 146 | 5 => 5 | 80 => 55 | n => n, fun | n => n⟩
theorem Tryz.lays156 : Go.Proofs.Lays.n156 Tryz.prog Tryz.lays156_ren := {
 mixed := by kernel_rfl
 f156 := Tryz.func54.trans (congrArg some (by kernel_rfl))
 f165 := Tryz.func106.trans (congrArg some (by kernel_rfl))
 f166 := Tryz.func53.trans (congrArg some (by kernel_rfl))
 f169 := Tryz.func58.trans (congrArg some (by kernel_rfl))
 f240 := Tryz.func105.trans (congrArg some (by kernel_rfl))
 f241 := Tryz.func137.trans (congrArg some (by kernel_rfl))
 f276 := Tryz.func136.trans (congrArg some (by kernel_rfl))
 f277 := Tryz.func143.trans (congrArg some (by kernel_rfl))
 t0 := Tryz.underlying0
 a0 := Tryz.isAgg0
 z0 := Tryz.sizeOf0
 v0 := Tryz.zeroValue0
 t3 := Tryz.underlying3
 a3 := Tryz.isAgg3
 z3 := Tryz.sizeOf3
 v3 := Tryz.zeroValue3
 t4 := Tryz.underlying4
 a4 := Tryz.isAgg4
 z4 := Tryz.sizeOf4
 v4 := Tryz.zeroValue4
 t9 := Tryz.underlying9
 a9 := Tryz.isAgg9
 z9 := Tryz.sizeOf9
 v9 := Tryz.zeroValue9
 t20 := Tryz.underlying20
 a20 := Tryz.isAgg20
 z20 := Tryz.sizeOf20
 v20 := Tryz.zeroValue20
 t31 := Tryz.underlying72
 a31 := Tryz.isAgg72
 z31 := Tryz.sizeOf72
 v31 := Tryz.zeroValue72
 t37 := Tryz.underlying75
 a37 := Tryz.isAgg75
 z37 := Tryz.sizeOf75
 v37 := Tryz.zeroValue75
 t70 := Tryz.underlying74
 a70 := Tryz.isAgg74
 z70 := Tryz.sizeOf74
 v70 := Tryz.zeroValue74
 t72 := Tryz.underlying77
 a72 := Tryz.isAgg77
 z72 := Tryz.sizeOf77
 v72 := Tryz.zeroValue77
 t75 := Tryz.underlying79
 a75 := Tryz.isAgg79
 z75 := Tryz.sizeOf79
 v75 := Tryz.zeroValue79
 t76 := Tryz.underlying80
 a76 := Tryz.isAgg80
 z76 := Tryz.sizeOf80
 v76 := Tryz.zeroValue80
 t127 := Tryz.underlying128
 a127 := Tryz.isAgg128
 z127 := Tryz.sizeOf128
 v127 := Tryz.zeroValue128
 t164 := Tryz.underlying146
 a164 := Tryz.isAgg146
 z164 := Tryz.sizeOf146
 v164 := Tryz.zeroValue146 }
theorem Tryz.Builder_Extra_156 : Builder.Extra Tryz.prog Tryz.lays156_ren := {
 sizeBuilder := by kernel_rfl
 liesBuilder := by kernel_rfl
 t5 := Tryz.underlying5
 a5 := Tryz.isAgg5
 z5 := Tryz.sizeOf5
 v5 := Tryz.zeroValue5
 infoByte := by kernel_rfl
 cellsByte := by kernel_rfl
 sizeByte := by kernel_rfl
 neB5 := by decide }
open Go.RowKit in
theorem Tryz.strings_Join_none (a : Option Addr) (c : Nat) (sep : ByteArray) (w : World) : Calls Tryz.prog 54 #[.slice a 0 c, .string sep] w fun e w' => e = .returned (.string ⟨#[]⟩) ∧ w' = w := Any.strings_Join_none Tryz.lays156 Tryz.Builder_Extra_156 a c sep w
open Go.RowKit in
theorem Tryz.strings_Join (bk o c : Nat) (xs : List ByteArray) (sep : ByteArray) (w : World) (hcells : ∀ (j : Nat) x, xs[j]? = some x → w.cell? ⟨bk, o + j, none⟩ = some (.string x)) (hbk : bk < w.heap.size) (hN : xs.length ≤ 140737488355328) (hcap : xs.length ≤ c) (hlen : (Lib.join (xs.map (·.data.toList)) sep.data.toList).length ≤ 140737488355328) :
  Calls Tryz.prog 54 #[.slice (some ⟨bk, o, none⟩) xs.length c, .string sep] w fun e w' => e = .returned (.string ⟨(Lib.join (xs.map (·.data.toList)) sep.data.toList).toArray⟩) ∧ Below w.heap.size w w' := Any.strings_Join Tryz.lays156 Tryz.Builder_Extra_156 bk o c xs sep w hcells hbk hN hcap hlen
def Tryz.lays240_ren : Go.Shelf.Ren := ⟨fun | 240 => 105 | 276 => 136 | n => n, fun | 0 => 0 | 4 => 4 | 9 => 9 | 20 => 20 | 70 => 74 | 72 => 77 | 164 => 146 | 37 => 75 | n => n, fun | n => n⟩
theorem Tryz.lays240 : Go.Proofs.Lays.n240 Tryz.prog Tryz.lays240_ren := {
 mixed := by kernel_rfl
 f240 := Tryz.func105.trans (congrArg some (by kernel_rfl))
 f276 := Tryz.func136.trans (congrArg some (by kernel_rfl))
 t0 := Tryz.underlying0
 a0 := Tryz.isAgg0
 z0 := Tryz.sizeOf0
 v0 := Tryz.zeroValue0
 t4 := Tryz.underlying4
 a4 := Tryz.isAgg4
 z4 := Tryz.sizeOf4
 v4 := Tryz.zeroValue4
 t9 := Tryz.underlying9
 a9 := Tryz.isAgg9
 z9 := Tryz.sizeOf9
 v9 := Tryz.zeroValue9
 t20 := Tryz.underlying20
 a20 := Tryz.isAgg20
 z20 := Tryz.sizeOf20
 v20 := Tryz.zeroValue20
 t70 := Tryz.underlying74
 a70 := Tryz.isAgg74
 z70 := Tryz.sizeOf74
 v70 := Tryz.zeroValue74
 t72 := Tryz.underlying77
 a72 := Tryz.isAgg77
 z72 := Tryz.sizeOf77
 v72 := Tryz.zeroValue77
 t164 := Tryz.underlying146
 a164 := Tryz.isAgg146
 z164 := Tryz.sizeOf146
 v164 := Tryz.zeroValue146 }
theorem Tryz.X72_240 : Builder.X72 Tryz.prog Tryz.lays240_ren := {
 sizeBuilder := by kernel_rfl
 liesBuilder := by kernel_rfl }
end Go.Proofs
end
section
set_option linter.unusedSimpArgs false
set_option linter.unusedVariables false
namespace Go.Proofs.YtedoeogopmenpaaGreatDoor
open Go.RowKit
def letterB (c : UInt8) : Bool := decide (97 ≤ (c.toNat : Int)) && decide ((c.toNat : Int) ≤ 122)
def alnumB (c : UInt8) : Bool := letterB c || digitB c
theorem letter_any (c : UInt8) : PureC 99 [.val (.int .u8 c.toNat)] (· = .bool (letterB c)) := by
 refine pure_enter Tryz.func99 rfl (by decide) _ Tryz.ntmps99 (le_ok rfl) (fun w Pr hE => ?_)
 dsimp only [slotsOf, Nat.zero_add, Nat.reduceAdd]
 repeat' (first | refine nx ?_ | (apply qr_move; refine r_move ?_) | (apply qr_assign; refine r_assign ?_) | (apply at_guard; first | refine g_go ?_ | refine g_nt ?_ | refine g_nf ?_ | refine g_nu ?_ | ((first | refine al_split_t rfl rfl (lt_ok rfl) (fun hb => ?_) (fun hb => ?_) | refine al_split_f rfl rfl (lt_ok rfl) (fun hb => ?_) (fun hb => ?_)) <;> ((try have hq := dX hb); (try (exfalso; omega))))) | (apply qr_pick; refine r_pick ?_) | (apply qr_leq; refine r_leq ?_) | (apply qr_geq; refine r_geq ?_))
 all_goals (refine ret_one rfl (.d _) ?_; simp [letterB, *])
theorem word1_any (c : UInt8) : PureC 100 [.val (.int .u8 c.toNat)] (· = .bool (alnumB c)) := by
 refine pure_enter Tryz.func100 rfl (by decide) _ Tryz.ntmps100 (le_ok rfl) (fun w Pr hE => ?_)
 dsimp only [slotsOf, Nat.zero_add, Nat.reduceAdd]
 repeat' (first | (apply at_call; refine k_call (letter_any _) hE ?_; rintro _ rfl) | (apply at_call; refine k_call (digit_any _) hE ?_; rintro _ rfl) | refine nx ?_ | (apply qr_move; refine r_move ?_) | (apply qr_assign; refine r_assign ?_) | (apply at_guard; first | refine g_go ?_ | refine g_nt ?_ | refine g_nf ?_ | refine g_nu ?_ | ((first | refine al_split_t rfl rfl (lt_ok rfl) (fun hb => ?_) (fun hb => ?_) | refine al_split_f rfl rfl (lt_ok rfl) (fun hb => ?_) (fun hb => ?_)) <;> ((try have hq := dX hb); (try (exfalso; omega))))) | (apply qr_pick; refine r_pick ?_))
 all_goals (refine ret_one rfl (.d _) ?_; simp [alnumB, *])
theorem next1_any (c : UInt8) : PureC 121 [.val (.int .u8 c.toNat)] (· = .bool (alnumB c)) := by
 refine pure_enter Tryz.func121 rfl (by decide) _ Tryz.ntmps121 (le_ok rfl) (fun w Pr hE => ?_)
 dsimp only [slotsOf, Nat.zero_add, Nat.reduceAdd]
 repeat' (first | (apply at_call; refine k_call (letter_any _) hE ?_; rintro _ rfl) | (apply at_call; refine k_call (digit_any _) hE ?_; rintro _ rfl) | refine nx ?_ | (apply qr_move; refine r_move ?_) | (apply qr_assign; refine r_assign ?_) | (apply at_guard; first | refine g_go ?_ | refine g_nt ?_ | refine g_nf ?_ | refine g_nu ?_ | ((first | refine al_split_t rfl rfl (lt_ok rfl) (fun hb => ?_) (fun hb => ?_) | refine al_split_f rfl rfl (lt_ok rfl) (fun hb => ?_) (fun hb => ?_)) <;> ((try have hq := dX hb); (try (exfalso; omega))))) | (apply qr_pick; refine r_pick ?_))
 all_goals (refine ret_one rfl (.d _) ?_; simp [alnumB, *])
def wordB (s : ByteArray) : Bool := !decide (s = ⟨#[]⟩) && letterB (bAt s 0) && decide (s.size ≤ 20) && decide (pre alnumB s = s.size)
theorem nonempty {s : ByteArray} (h : ¬ s = ⟨#[]⟩) : 0 < s.size := by
 rcases Nat.eq_zero_or_pos s.size with h0 | h0
 ·exfalso
  apply h
  cases s with
  | mk d => congr 1; exact Array.eq_empty_of_size_eq_zero h0
 ·exact h0
theorem word_any (s : ByteArray) (hs : s.size ≤ 9223372036854775807) : PureC 47 [.str s] (· = .bool (wordB s)) := by
 refine pure_enter Tryz.func47 rfl (by decide) _ Tryz.ntmps47 (le_ok rfl) (fun w Pr hE => ?_)
 dsimp only [slotsOf, Nat.zero_add, Nat.reduceAdd]
 by_cases h0 : s = ⟨#[]⟩
 ·have h1 : decide (s = ⟨#[]⟩) = true := decide_eq_true h0
  repeat' (first | refine nx ?_ | (apply qr_move; refine r_move ?_) | (apply qr_assign; refine r_assign ?_) | (apply at_cond; first | refine c_t ?_ | refine c_f ?_ | (refine aw_cond rfl (fun hb => ?_) (fun hb => ?_) <;> ((try have hq := dX hb); (try (exfalso; omega))))) | (apply at_guard; first | refine g_go ?_ | refine g_nt ?_ | refine g_nf ?_ | refine g_nu ?_ | ((first | refine al_split_t rfl rfl (lt_ok rfl) (fun hb => ?_) (fun hb => ?_) | refine al_split_f rfl rfl (lt_ok rfl) (fun hb => ?_) (fun hb => ?_)) <;> ((try have hq := dX hb); (try (exfalso; omega))))) | (apply qr_pick; refine r_pick ?_) | (apply qr_gtr; refine r_gtr ?_) | (apply qr_eql; refine r_eql ?_) | (apply qr_not; refine r_not ?_) | (apply qr_len; refine r_len ?_) | (apply qr_index; refine r_index ?_))
  all_goals (refine ret_one rfl (.d _) ?_; simp [wordB, h0])
 ·have h1 : decide (s = ⟨#[]⟩) = false := decide_eq_false h0
  have hp := nonempty h0
  repeat' (first | (apply at_call; refine k_call (letter_any _) hE ?_; rintro _ rfl) | (apply at_call; refine k_call (span_any s 100 alnumB hs word1_any) hE ?_; rintro _ rfl) | refine nx ?_ | (apply qr_move; refine r_move ?_) | (apply qr_assign; refine r_assign ?_) | (apply at_cond; first | refine c_t ?_ | refine c_f ?_ | (refine aw_cond rfl (fun hb => ?_) (fun hb => ?_) <;> ((try have hq := dX hb); (try (exfalso; omega))))) | (apply at_guard; first | refine g_go ?_ | refine g_nt ?_ | refine g_nf ?_ | refine g_nu ?_ | ((first | refine al_split_t rfl rfl (lt_ok rfl) (fun hb => ?_) (fun hb => ?_) | refine al_split_f rfl rfl (lt_ok rfl) (fun hb => ?_) (fun hb => ?_)) <;> ((try have hq := dX hb); (try (exfalso; omega))))) | (apply qr_pick; refine r_pick ?_) | (apply qr_gtr; refine r_gtr ?_) | (apply qr_eql; refine r_eql ?_) | (apply qr_not; refine r_not ?_) | (apply qr_len; refine r_len ?_) | (apply qr_index; refine r_index ?_))
  ·refine ret_one rfl (.d _) ?_
   have h2 := not_t ‹(!letterB (bAt s 0)) = true›
   simp [wordB, h2]
  ·refine ret_one rfl (.d _) ?_
   have h2 : ¬ s.size ≤ 20 := by omega
   simp [wordB, h2]
  ·refine ret_one rfl (.d _) ?_
   have h2 := not_f ‹(!letterB (bAt s 0)) = false›
   have h3 : s.size ≤ 20 := by omega
   have h4 : decide ((pre alnumB s : Int) = s.size) = decide (pre alnumB s = s.size) := by
    apply decide_eq_decide.2
    omega
   simp [wordB, h0, h2, h3, h4]
end Go.Proofs.YtedoeogopmenpaaGreatDoor
end
