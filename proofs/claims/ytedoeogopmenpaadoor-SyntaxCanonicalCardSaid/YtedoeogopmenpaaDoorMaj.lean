/-
  Conditions: none.
-/
import Derived.Recover
import Derived.Lib.ConvBytes
import Derived.Laws.IdiomStrings
import Derived.Test.YtedoeogopmenpaaDoorRows
import Derived.ProofKit
import Derived.OpenShut
import Derived.ChangeOld
import Derived.SizedLaws
import Derived.Deep.SlicePairs
import Derived.Lib.SmallJoins
import Derived.Deep.Slices
import Derived.Shelf.Strconv.Itoa3
import Derived.Shelf.Strings.Prefix
import Derived.Shelf.Strings.Builder1
import Derived.Shelf.Strings.OnBuilder
import Derived.Test.YtedoeogopmenpaaDoorProg
import Derived.Test.YtedoeogopmenpaaDoorMai
set_option maxHeartbeats 16000000
set_option maxRecDepth 20000
section
namespace Go.Proofs.YtedoeogopmenpaaDoor
open Go.RowKit
structure Nest (E E' : Entry) : Prop where
 n : E'.n = E.n
 below : Below E.w.heap.size E.w E'.w
 prn : ∀ b o, E'.pr b o → E.pr b o ∨ E.w.heap.size ≤ b
 lent : ∀ g, Lent E'.ob0 E'.β0 g → E.w.heap.size ≤ g
section
variable {E E' : Entry} {sl : Slots} {ob : Objs} {a : Act} {w : World} {Pr : Prot} {β : Nat → Value} {κ : Nat → Nat} {df : List Deferred}
theorem Nest.start (h : Good E sl ob a w Pr β κ) (h0 : E.ob0 = []) : Nest E ⟨w, Pr, E.n, ob, β, κ, df⟩ := by
 refine ⟨rfl, below_of h0 h, fun b o hb => ?_, ?_⟩
 ·rcases h.prn b o hb with h1 | h1 | h1
  ·exact .inl h1
  ·exact .inr h1
  ·rw [h0] at h1; exact absurd h1 lent_nil
 ·rintro g ⟨i, o, h1, h2⟩
  rcases h.own i o g h1 h2 with h3 | h3
  ·rw [h0] at h3; exact absurd h3 lent_nil
  ·exact h3
theorem Nest.below_now (hN : Nest E E') {w : World} (hu : Under (Lent E'.ob0 E'.β0) E'.w w) : Below E.w.heap.size E.w w := by
 have hs := hN.below.size
 refine ⟨hu.os.trans hN.below.os, hu.tape.trans hN.below.tape, hu.output.trans hN.below.output, Nat.le_trans hs hu.size, fun k hk => ?_⟩
 rw [hu.block k (by omega) (fun hl => by have := hN.lent k hl; omega)]
 exact hN.below.block k hk
theorem Nest.pr_now (hN : Nest E E') (h : Good E' sl ob a w Pr β κ) {b o : Nat} (hb : Pr b o) : E.pr b o ∨ E.w.heap.size ≤ b := by
 have hs := hN.below.size
 rcases h.prn b o hb with h1 | h1 | h1
 ·exact hN.prn b o h1
 ·exact .inr (by omega)
 ·exact .inr (hN.lent b h1)
theorem Good.rebase (h : Good E sl ob a w Pr β κ) (hk : ((keys ob).all fun i => Nat.ble E.n i) = true) {a' : Act} (ht : a'.tmps = a.tmps) (hd : a'.defers = df) : Good ⟨w, Pr, E.n, ob, β, κ, df⟩ sl ob a' w Pr β κ :=
 ⟨Under.refl _ _, fun _ _ _ => rfl, fun _ _ h => h, fun _ _ h => .inl h, h.prl, by rw [ht]; exact h.size, hd, fun i => by rw [ht]; exact h.slots i, h.objs, h.apart, fun i o g ho hg => .inl ⟨i, o, ho, hg⟩, fun i o ho => .inl ⟨rfl, rfl⟩, fun i o ho => Nat.le_of_ble_eq_true (List.all_eq_true.1 hk i (find_mem ho))⟩
variable {ops : Array Oper} {rest : List Oper} {Q : Exit → Act → World → Prop} {d : Nat} {ty T : TypeId} {p : String} {af : Array Edge}
theorem al_defer {x : Operand} {f : FuncId} {l : List V} {ats : Array TypeId} (hx : ev sl x = .clo (.func f) l) (hE : Fine E) (h0 : E.ob0 = []) (hdf : E.df = []) (hk : ((keys ob).all fun i => Nat.ble E.n i) = true)
  (hK : ∀ E' cs, E'.n = E.n → E'.ob0 = ob → Nest E E' → Fine E' → E'.df = [{ target := .fn (.func f) cs, args := #[] }] → cs.toList.length = l.length → (∀ (i : Nat) (v : Value) (y : V), cs.toList[i]? = some v → l[i]? = some y → RepV E'.w E'.pr E'.β0 E'.κ0 v y) → AL E' ops rest Q sl ob) :
  AL E ops (⟨none, .defer { callee := .value x, args := #[], argTypes := ats }, ty, p, af, none⟩ :: rest) Q sl ob := by
 refine ⟨fun a w hi => ?_⟩
 obtain ⟨Pr, β, κ, h⟩ := hi
 refine wpList_plain rfl fun K hKK => ?_
 have hv := good_ev h x
 rw [hx] at hv
 generalize hcv : a.eval x = v at hv
 cases hv with
 | clo _ cs _ hl hd =>
  have hrun : (execOp a.eval ⟨none, .defer { callee := .value x, args := #[], argTypes := ats }, ty, p, af, none⟩).run Tryd.prog w = .ok (.defer { target := .fn (.func f) cs.toArray, args := #[] }) w := by
   simp [execOp, resolve, Deferred.ofValue, hcv]
  unfold Oper.wp
  rw [hrun, Oper.upon_defer]
  have hg := h.rebase (df := { target := .fn (.func f) cs.toArray, args := #[] } :: a.defers) hk (a' := { a with defers := { target := .fn (.func f) cs.toArray, args := #[] } :: a.defers }) rfl rfl
  refine hKK _ _ ((hK ⟨w, Pr, E.n, ob, β, κ, { target := .fn (.func f) cs.toArray, args := #[] } :: a.defers⟩ cs.toArray rfl rfl (Nest.start h h0) ⟨env_now hE h, h.prl⟩ (by rw [h.defers, hdf]) (by simpa using hl) (by simpa using hd)).run _ _ ⟨Pr, β, κ, hg⟩)
end
mutual
theorem has_in : ∀ (x : V) {ks : List Nat} {i : Nat}, x.within ks = true → x.has i = true → i ∈ ks
 | .box j _, ks, i, h, hi => by
  simp only [V.within] at h
  simp only [V.has] at hi
  rw [Nat.eq_of_beq_eq_true hi]
  exact mem_iff.1 h
 | .sl j _ _, ks, i, h, hi => by
  simp only [V.within] at h
  simp only [V.has] at hi
  rw [Nat.eq_of_beq_eq_true hi]
  exact mem_iff.1 h
 | .mp j, ks, i, h, hi => by
  simp only [V.within] at h
  simp only [V.has] at hi
  rw [Nat.eq_of_beq_eq_true hi]
  exact mem_iff.1 h
 | .row j _, ks, i, h, hi => by
  simp only [V.within] at h
  simp only [V.has] at hi
  rw [Nat.eq_of_beq_eq_true hi]
  exact mem_iff.1 h
 | .agg l, _, _, h, hi => has_inL l (by simpa only [V.within] using h) (by simpa only [V.has] using hi)
 | .clo _ l, _, _, h, hi => has_inL l (by simpa only [V.within] using h) (by simpa only [V.has] using hi)
 | .mv _ l, _, _, h, hi => has_inL l (by simpa only [V.within] using h) (by simpa only [V.has] using hi)
 | .tup l, _, _, h, hi => has_inL l (by simpa only [V.within] using h) (by simpa only [V.has] using hi)
 | .und, _, _, _, hi => by simp [V.has] at hi
 | .d _, _, _, _, hi => by simp [V.has] at hi
 | .ep _ _, _, _, _, hi => by simp [V.has] at hi
theorem has_inL : ∀ (l : List V) {ks : List Nat} {i : Nat}, V.withinL ks l = true → V.hasL i l = true → i ∈ ks
 | [], _, _, _, hi => by simp [V.hasL] at hi
 | x :: l, ks, i, h, hi => by
  simp only [V.withinL, Bool.and_eq_true] at h
  simp only [V.hasL, Bool.or_eq_true] at hi
  exact hi.elim (has_in x h.1) (has_inL l h.2)
end
def ObD (f : FuncId) (args : List V) (ob : Objs) (u u' : FrameMode) (Post : Objs → Prop) : Prop :=
 FnOk f ∧ ∀ (w : World) (Pr : Prot) (vs : List Value) (β : Nat → Value) (κ : Nat → Nat), (∀ b o, Pr b o → b < w.heap.size) → EnvOk w Pr → vs.length = args.length →
  (∀ (i : Nat) (v : Value) (x : V), vs[i]? = some v → args[i]? = some x → RepV w Pr β κ v x) → (∀ i o, find ob i = some o → RepO w Pr 0 β κ i o) →
  (∀ i j oi oj g, find ob i = some oi → find ob j = some oj → blk (β i) = some g → blk (β j) = some g → i = j) →
  CallsD Tryd.prog f vs.toArray u w fun e u2 w' => u2 = u' ∧ PostO [] w Pr ob β κ (fun _ o => Post o) e w'
section
variable {E E0 : Entry} {sl : Slots} {ob : Objs} {Q : Exit → Act → World → Prop} {fn : Func} {R : Ending → World → Prop}
theorem aq_d0 {e : Exit} (he : e = .ret ∨ e = .normal) (h : AQ E e (bodyPost Tryd.prog fn R) sl ob) (hdf : E.df = [] := by rfl) : AQ E e (bodyPostD Tryd.prog fn R) sl ob := by
 refine ⟨fun a w hi => ?_⟩
 have h1 := h.run a w hi
 obtain ⟨Pr, β, κ, hg⟩ := hi
 have hd : a.defers = [] := hg.defers.trans hdf
 rcases he with rfl | rfl
 ·show Leaves Tryd.prog fn a.tmps R a.defers .returning w
  rw [hd]
  exact h1.2
 ·show Leaves Tryd.prog fn a.tmps R a.defers .returning w
  rw [hd]
  exact h1.2
theorem aq_leave {e : Exit} {u u' : FrameMode} {f : FuncId} {cs : Array Value} {l : List V} {Post : Objs → Prop} (he : (e = .ret ∧ u = .returning) ∨ ∃ c, e = .panic c ∧ u = .panicking c) (hset : settle u' = .returning)
  (hN : Nest E0 E) (hE : Fine E) (hdf : E.df = [{ target := .fn (.func f) cs, args := #[] }]) (hcl : cs.toList.length = l.length) (hcs : ∀ (i : Nat) (v : Value) (y : V), cs.toList[i]? = some v → l[i]? = some y → RepV E.w E.pr E.β0 E.κ0 v y) (hl : V.withinL (keys E.ob0) l = true)
  (hc : ObD f l ob u u' Post) (hsl : (sl.all fun p => p.2.within (keys ob)) = true) (hk : ((keys ob).all fun i => Nat.ble E.n i) = true)
  (hK : ∀ E'' ob', E''.df = [] → E''.n = E.n → Nest E0 E'' → Post ob' → AQ E'' .ret (bodyPost Tryd.prog fn R) sl ob') (hout : ∀ w, ¬ R .outgrown w → True) : AQ E e (bodyPostD Tryd.prog fn R) sl ob := by
 have _ := hout
 refine ⟨fun a w hi => ?_⟩
 obtain ⟨Pr, β, κ, h⟩ := hi
 have hgoal : Leaves Tryd.prog fn a.tmps R a.defers u w := by
  rw [h.defers, hdf]
  have hne : u ≠ .run := by
   rcases he with ⟨_, rfl⟩ | ⟨c, _, rfl⟩ <;> simp
  have hcs' : ∀ (i : Nat) (v : Value) (y : V), cs.toList[i]? = some v → l[i]? = some y → RepV w Pr β κ v y := fun i v y h1 h2 => by
   refine ((hcs i v y h1 h2).keep h.st0 h.pr0).chg (fun j hj => ?_)
   obtain ⟨o, ho⟩ := find_of_mem (has_inL l hl (by
    have : ∀ (l : List V) (i : Nat), l[i]? = some y → V.hasL j l = true := by
     intro l
     induction l with
     | nil => intro i h; simp at h
     | cons x r ih =>
      intro i h
      simp only [V.hasL, Bool.or_eq_true]
      cases i with
      | zero => simp at h; subst h; exact .inl hj
      | succ i => exact .inr (ih i (by simpa using h))
    exact this l i h2))
   exact h.keeps j o ho
  refine leaves_cons (f := f) (args := cs.toList.toArray) hne (by simp [invoke, run_callFunc hc.1]) ?_
  refine (hc.2 w Pr cs.toList β κ h.prl (env_now hE h) hcl hcs' h.objs h.apart).mono fun e2 u2 w' ⟨hu2, v, x, ob', Pr', β', κ', he2, hp, hA⟩ => ?_
  subst hu2 he2
  show Leaves Tryd.prog fn a.tmps R [] (settle _) w'
  rw [hset]
  -- the state behind the closure
  have hch : ∀ (v : Value) (z : V), RepV w Pr β κ v z → z.within (keys ob) = true → RepV w' Pr' β' κ' v z := fun v z hz hw => (hz.keep hA.st hA.pr0).chg (fun j hj => by
   obtain ⟨o, ho⟩ := find_of_mem (has_in z hw hj)
   exact hA.keeps j o ho)
  have hlook : ∀ i, (look sl i).within (keys ob) = true := by
   intro i
   have : ∀ (s : Slots), (s.all fun p => p.2.within (keys ob)) = true → (look s i).within (keys ob) = true := by
    intro s
    induction s with
    | nil => intro _; rfl
    | cons q s ih =>
     obtain ⟨j, y⟩ := q
     intro hs
     simp only [List.all_cons, Bool.and_eq_true] at hs
     by_cases hij : i = j
     ·subst hij; rw [look_eq]; exact hs.1
     ·rw [look_ne hij]; exact ih hs.2
   exact this sl hsl
  have hown : ∀ i o g, find ob i = some o → blk (β i) = some g → E0.w.heap.size ≤ g := fun i o g h1 h2 => by
   have := hN.below.size
   rcases h.own i o g h1 h2 with h3 | h3
   ·exact hN.lent g h3
   ·omega
  have hs0 := (hN.below_now h.below).size
  have hG : Good ⟨w', Pr', E.n, ob', β', κ', []⟩ sl ob' { a with defers := [] } w' Pr' β' κ' :=
   ⟨Under.refl _ _, fun _ _ _ => rfl, fun _ _ h => h, fun _ _ h => .inl h, hA.prl, h.size, rfl, fun i => hch _ _ (h.slots i) (hlook i), hA.objs, hA.apart, fun i o g ho hg => .inl ⟨i, o, ho, hg⟩, fun i o ho => .inl ⟨rfl, rfl⟩, fun i o ho => by
    have h1 := (hA.wo i o ho).1
    rw [List.append_nil] at h1
    exact Nat.le_of_ble_eq_true (List.all_eq_true.1 hk i h1)⟩
  have hN' : Nest E0 ⟨w', Pr', E.n, ob', β', κ', []⟩ := by
   refine ⟨hN.n, ?_, fun b o hb => ?_, ?_⟩
   ·refine ⟨hA.under.os.trans (hN.below_now h.below).os, hA.under.tape.trans (hN.below_now h.below).tape, hA.under.output.trans (hN.below_now h.below).output, Nat.le_trans hs0 hA.under.size, fun k hk => ?_⟩
    rw [hA.under.block k (by omega) (fun ⟨i, o, h1, h2⟩ => by have := hown i o k h1 h2; omega)]
    exact (hN.below_now h.below).block k hk
   ·rcases hA.prn b o hb with h1 | h1 | ⟨i, o', h1, h2⟩
    ·exact hN.pr_now h h1
    ·exact .inr (by omega)
    ·exact .inr (hown i o' b h1 h2)
   ·rintro g ⟨i, o, h1, h2⟩
    rcases hA.own i o g h1 h2 with ⟨i', o', h3, h4⟩ | h3
    ·exact hown i' o' g h3 h4
    ·show _ ≤ g
     omega
  have h2 := (hK ⟨w', Pr', E.n, ob', β', κ', []⟩ ob' rfl rfl hN' hp).run { a with defers := [] } w' ⟨Pr', β', κ', hG⟩
  exact h2.2
 rcases he with ⟨rfl, rfl⟩ | ⟨c, rfl, rfl⟩
 ·exact hgoal
 ·exact hgoal
theorem retN3 {Post : D → Prop} {r1 r2 r3 : ResultVar} {d1 d2 d3 : D} (hN : Nest E0 E) (hr : fn.results = #[r1, r2, r3]) (h1 : ResX sl ob r1 d1) (h2 : ResX sl ob r2 d2) (h3 : ResX sl ob r3 d3) (hp : Post (.tup [d1, d2, d3])) (hdf : E.df = []) : AQ E .ret (bodyPost Tryd.prog fn (PostR E0.w E0.pr Post)) sl ob := by
 refine ⟨fun a w hi => ?_⟩
 obtain ⟨Pr, β, κ, hg⟩ := hi
 obtain ⟨v1, e1, k1⟩ := res_run hg h1
 obtain ⟨v2, e2, k2⟩ := res_run hg h2
 obtain ⟨v3, e3, k3⟩ := res_run hg h3
 have hpr : ∀ b o, Pr b o → PrNew E0.pr E0.w w b o := fun b o hb => (hN.pr_now hg hb).imp id (fun h => ⟨h, hg.prl b o hb⟩)
 refine bodyPost_ret (results_run3 hr e1 e2 e3) (hg.defers.trans hdf) ⟨_, _, rfl, hp, ?_, hN.below_now hg.below⟩
 have q1 := k1.keep (fun _ _ _ => rfl) hpr
 have q2 := k2.keep (fun _ _ _ => rfl) hpr
 have q3 := k3.keep (fun _ _ _ => rfl) hpr
 refine .tup [_, _, _] _ rfl (fun i v d h1 h2 => ?_)
 match i with
 | 0 => cases h1; cases h2; exact q1
 | 1 => cases h1; cases h2; exact q2
 | 2 => cases h1; cases h2; exact q3
theorem pure_enterD {f : FuncId} {fn : Func} {c : Code} {ds : List D} {Post : D → Prop} (hf : Tryd.prog.funcs[f]? = some fn) (hb : fn.body = some c) (hn : (fn.name == "runtime.NumGoroutine") = false) (N : Nat) (hN : fn.ntmps = N) (hl : ds.length ≤ N)
  (h : ∀ w Pr, Fine ⟨w, Pr, N, [], fun _ => .nilFunc, fun _ => 0, []⟩ → AW ⟨w, Pr, N, [], fun _ => .nilFunc, fun _ => 0, []⟩ c (bodyPostD Tryd.prog fn (PostR w Pr Post)) (slotsOf 0 ds) []) : PureC f ds Post := by
 refine ⟨⟨fn, hf, hn, by simp [hb]⟩, fun w Pr vs h1 h2 h3 h4 => calls_of_wp_defers hf hb ?_⟩
 subst hN
 refine (h w Pr ⟨h2, h1⟩).run _ _ ⟨Pr, fun _ => .nilFunc, fun _ => 0, Under.refl _ _, fun _ _ _ => rfl, fun _ _ h => h, fun _ _ h => .inl h, h1, ?_, rfl, fun i => ?_, fun i o ho => by simp [find] at ho, fun i j oi oj g ho => by simp [find] at ho, fun i o g ho => by simp [find] at ho, fun i o ho => by simp [find] at ho, fun i o ho => by simp [find] at ho⟩
 ·simp [h3]; omega
 ·rw [look_slotsOf]
  simp only [Nat.zero_le, if_true, Nat.sub_zero]
  cases hd : ds[i]? with
  | none => exact .und _
  | some d =>
   have hi : i < vs.length := by rw [h3]; exact (List.getElem?_eq_some_iff.1 hd).1
   have hv : vs[i]? = some vs[i] := List.getElem?_eq_getElem hi
   refine .d _ _ ?_
   have : (vs.toArray ++ Array.replicate (fn.ntmps - vs.toArray.size) undef).getD i undef = vs[i] := by
    rw [Array.getD_eq_getD_getElem?, Array.getElem?_append_left (by simpa using hi)]
    simp [hi]
   rw [this]
   exact h4 i _ d hv hd
end
theorem st_ocall {E : Entry} {sl : Slots} {ob ob1 o0 : Objs} {f : FuncId} {args : List V} {x0 : V} {c : Operand} {xs : List Operand} {ats : Array TypeId} {d : Nat} {ty : TypeId} {p : String} {af : Array Edge} (l : List (Nat × Nat)) (hc : ObC f args ob1 [] (fun x o => x = x0 ∧ o = o0)) (hf : ev sl c = .d (.val (.func (.func f) #[] #[]))) (hE : Fine E) (hd : d < E.n) (ha : ArgsV l sl ob xs args) (hL : Lends E sl ob l ob1 []) :
  Step E ⟨some d, .call { callee := .value c, args := xs.toArray, argTypes := ats }, ty, p, af, none⟩ sl ob ((d, x0.ren l) :: sl) (renO l o0 ++ dropK ((keys ob1).map (rn l)) ob) := by
 rintro a w ⟨Pr, β, κ, h⟩ K Q hK
 obtain ⟨hlen, hr⟩ := ha.rep h
 have hrun : (execOp a.eval ⟨some d, .call { callee := .value c, args := xs.toArray, argTypes := ats }, ty, p, af, none⟩).run Tryd.prog w = .ok (.enter f (xs.map a.eval).toArray) w := by
  simp [execOp, resolve, Deferred.ofValue, invoke, good_val h hf, run_callFunc hc.1]
 have hfo := hL.find
 obtain ⟨ho, hl, hk, hk2, hn⟩ := hL
 have hcall := hc.2 w Pr (xs.map a.eval) _ _ h.prl (env_now hE h) hlen hr (fun i o hi => repO_in (h.objs _ _ (hfo i o hi))) (fun i j oi oj g hi hj hgi hgj => by
  have e := h.apart _ _ _ _ g (hfo i oi hi) (hfo j oj hj) hgi hgj
  have k1 := okRen_at hl (mem_iff.1 (List.all_eq_true.1 hk i (List.mem_append_left _ (find_mem hi))))
  have k2 := okRen_at hl (mem_iff.1 (List.all_eq_true.1 hk j (List.mem_append_left _ (find_mem hj))))
  rw [e, k2] at k1
  cases k1
  rfl)
 unfold Oper.wp
 rw [hrun, Oper.upon_enter]
 refine hcall.mono fun e w' ⟨v, x, ob', Pr', β', κ', he, hp, hA⟩ => ?_
 subst he
 obtain ⟨rfl, rfl⟩ := hp
 exact hK _ _ (h.ocalled hd hA ho hl hk hk2 hn)
section
variable {E : Entry} {sl : Slots} {ob : Objs} {Q : Exit → Act → World → Prop}
theorem aq_ends {fn : Func} {c₀ : Frame} {cs : List Frame} {u : FrameMode} {new : List Nat} {Post : Objs → Prop} {e : Exit} (he : e = .ret ∨ e = .normal) (ob' : Objs) (hr : fn.results = #[]) (hp : Post ob') (ho : ∀ p ∈ ob', find ob p.1 = some p.2) (hw : okOut E.ob0 new (.tup []) ob' = true) (hdf : E.df = [] := by rfl) :
  AQ E e (fun e a w => bodyPostS Tryd.prog fn c₀ cs (fun e u2 w' => u2 = u ∧ PostO new E.w E.pr E.ob0 E.β0 E.κ0 (fun _ o => Post o) e w') e a ({ c₀ with mode := u } :: cs) w) sl ob := by
 refine ⟨fun a w ⟨Pr, β, κ, h⟩ => ?_⟩
 have hrun : (results fn a.tmps).run Tryd.prog w = .ok (.tuple #[]) w := by
  rw [results_eq, hr]
  simp
 have hmain : a.defers = [] ∧ ∃ u', ({ c₀ with mode := u } :: cs : List Frame) = { c₀ with mode := u' } :: cs ∧ ∃ v, (results fn a.tmps).run Tryd.prog w = .ok v w ∧ (u' = u ∧ PostO new E.w E.pr E.ob0 E.β0 E.κ0 (fun _ o => Post o) (.returned v) w) :=
  ⟨h.defers.trans hdf, u, rfl, _, hrun, rfl, _, _, ob', Pr, β, κ, rfl, hp, after_of h (.tup [] [] rfl (by simp)) ho hw⟩
 rcases he with rfl | rfl
 ·exact hmain
 ·exact hmain
theorem Good.start {w : World} {Pr : Prot} {N : Nat} {ob : Objs} {β : Nat → Value} {κ : Nat → Nat} {args : List V} {vs : List Value} (hl : args.length ≤ N) (hfr : ((keys ob).all fun i => Nat.ble N i) = true) (h1 : ∀ b o, Pr b o → b < w.heap.size) (h3 : vs.length = args.length)
  (h4 : ∀ (i : Nat) (v : Value) (x : V), vs[i]? = some v → args[i]? = some x → RepV w Pr β κ v x) (h5 : ∀ i o, find ob i = some o → RepO w Pr 0 β κ i o)
  (h6 : ∀ i j oi oj g, find ob i = some oi → find ob j = some oj → blk (β i) = some g → blk (β j) = some g → i = j) : Good ⟨w, Pr, N, ob, β, κ, []⟩ (slotsV 0 args) ob { tmps := vs.toArray ++ Array.replicate (N - vs.toArray.size) undef, defers := [] } w Pr β κ := by
 refine ⟨Under.refl _ _, fun _ _ _ => rfl, fun _ _ h => h, fun _ _ h => .inl h, h1, ?_, rfl, fun i => ?_, h5, h6, fun i o g ho hg => .inl ⟨i, o, ho, hg⟩, fun i o ho => .inl ⟨rfl, rfl⟩, fun i o ho => ?_⟩
 ·simp [h3]; omega
 ·rw [look_slotsV]
  simp only [Nat.zero_le, if_true, Nat.sub_zero]
  cases hd : args[i]? with
  | none => exact .und _
  | some d =>
   have hi : i < vs.length := by rw [h3]; exact (List.getElem?_eq_some_iff.1 hd).1
   have hv : vs[i]? = some vs[i] := List.getElem?_eq_getElem hi
   have : (vs.toArray ++ Array.replicate (N - vs.toArray.size) undef).getD i undef = vs[i] := by
    rw [Array.getD_eq_getD_getElem?, Array.getElem?_append_left (by simpa using hi)]
    simp [hi]
   rw [this]
   exact h4 i _ d hv hd
 ·exact Nat.le_of_ble_eq_true (List.all_eq_true.1 hfr i (find_mem ho))
variable {d : Option Nat} {t ty T : TypeId} {p : String} {af : Array Edge} {g : Option (Nat × Bool)} {x : Operand}
theorem y_ifneq {te : TypeId} {u : Value} (hx : ev sl x = .d (.val (.iface te u))) (ht : ∃ ms, Tryd.prog.underlying t = some (.interface ms)) : Y E ⟨d, .binOp .neq t x (.const .nilIface) ty, T, p, af, g⟩ sl ob (.d (.val (.bool true))) := fun a w Pr β κ h => by
 obtain ⟨ms, ht⟩ := ht
 have hc : a.eval (.const Value.nilIface) = Value.nilIface := rfl
 refine ⟨_, .d _ _ (.val _), fun w' _ => ?_⟩
 have h1 : (Op.equalIn Op.maxDepth t (.iface te u) .nilIface).run Tryd.prog w' = .ok false w' := by
  have : ∀ d : Nat, (Op.equalIn (d + 1) t (.iface te u) .nilIface).run Tryd.prog w' = .ok false w' := fun d => by simp [Op.equalIn, run_underlying ht]
  exact this 9999
 simp [execOp, good_val h hx, hc, eqGuard_at_iface, binOp, Op.equal, h1]
theorem y_ifnil (hx : ev sl x = .d (.val .nilIface)) (ht : ∃ ms, Tryd.prog.underlying t = some (.interface ms)) : Y E ⟨d, .binOp .neq t x (.const .nilIface) ty, T, p, af, g⟩ sl ob (.d (.val (.bool false))) := fun a w Pr β κ h => by
 obtain ⟨ms, ht⟩ := ht
 have hc : a.eval (.const Value.nilIface) = Value.nilIface := rfl
 refine ⟨_, .d _ _ (.val _), fun w' _ => ?_⟩
 have h1 : (Op.equalIn Op.maxDepth t .nilIface .nilIface).run Tryd.prog w' = .ok true w' := by
  have : ∀ d : Nat, (Op.equalIn (d + 1) t .nilIface .nilIface).run Tryd.prog w' = .ok true w' := fun d => by simp [Op.equalIn, run_underlying ht]
  exact this 9999
 simp [execOp, good_val h hx, hc, eqGuard_nil_constR, binOp, Op.equal, h1]
theorem y_assert {at_ xt : TypeId} {m n : Int} {td : TypeDesc} (hx : ev sl x = .d (.val (.iface at_ (.agg #[.int .i64 m, .int .i64 n])))) (hT : Tryd.prog.underlying at_ = some td) (hnt : (match td with | .interface _ => false | _ => true) = true) : Y E ⟨d, .typeAssert x xt at_ true, T, p, af, g⟩ sl ob (.d (.tup [.agg [.int m, .int n], .bool true])) := fun a w Pr β κ h => by
 refine ⟨.tuple #[.agg #[.int .i64 m, .int .i64 n], .bool true], .d _ _ (.tup [_, _] _ rfl (fun i v d h1 h2 => ?_)), fun w' _ => ?_⟩
 ·match i with
  | 0 =>
   cases h1; cases h2
   refine .agg [_, _] _ rfl (fun i v d h1 h2 => ?_)
   match i with
   | 0 => cases h1; cases h2; exact .val _
   | 1 => cases h1; cases h2; exact .val _
  | 1 => cases h1; cases h2; exact .val _
 ·simp only [execOp, good_val h hx, Instr.typeAssert, Sem.run_bind, run_underlying hT]
  cases td <;> first | (simp; done) | cases hnt
theorem y_assertnil {at_ xt : TypeId} {td : TypeDesc} {z : Value} (hx : ev sl x = .d (.val .nilIface)) (hT : Tryd.prog.underlying at_ = some td) (hnt : (match td with | .interface _ => false | _ => true) = true) (hz : ∀ w, (zeroValue at_).run Tryd.prog w = .ok z w) : Y E ⟨d, .typeAssert x xt at_ true, T, p, af, g⟩ sl ob (.d (.tup [.val z, .bool false])) := fun a w Pr β κ h => by
 refine ⟨.tuple #[z, .bool false], .d _ _ (.tup [_, _] _ rfl (fun i v d h1 h2 => ?_)), fun w' _ => ?_⟩
 ·match i with
  | 0 => cases h1; cases h2; exact .val _
  | 1 => cases h1; cases h2; exact .val _
 ·simp only [execOp, good_val h hx, Instr.typeAssert, Sem.run_bind, run_underlying hT]
  cases td <;> first | (simp [hz]; done) | cases hnt
end
end Go.Proofs.YtedoeogopmenpaaDoor
end
section
namespace Go.Proofs.YtedoeogopmenpaaDoor
open Go.RowKit
def bytV (l : List UInt8) : List Value := l.map fun b => .int .u8 (b.toNat : Int)
theorem bytV_len (l : List UInt8) : (bytV l).length = l.length := by simp [bytV]
theorem run_storeCells_one (P : Program) (w : World) {g n cap : Nat} {t : TypeId} {fz : Nat × Nat} {cur : Array Value} {u : Value} (hg : w.heap[g]? = some (.cells cur t fz)) (hfz : fz = (0, 0) ∨ cap ≤ fz.1) (hn : n < cap) (hc : cur.size = cap) (h1 : u.oneCell' = true) :
  (store ⟨g, n, none⟩ u).run P w = .ok () (w.setRow g (cur.setIfInBounds n u)) := by
 have hi : n < cur.size := by omega
 have hcell : w.cell? ⟨g, n, none⟩ = some cur[n] := by simp [World.cell?, hg, hi]
 have hfro : w.frozen? ⟨g, n, none⟩ = false := by
  obtain ⟨lo, hi'⟩ := fz
  simp only [World.frozen?, hg, Bool.and_eq_false_iff, decide_eq_false_iff_not]
  rcases hfz with h | h
  ·cases h
   right
   omega
  ·left
   simp only at h
   omega
 rw [run_store P w _ u _ h1, hcell]
 simp [hfro, setCell_eq_setRow w g n cur t fz u hg]
section
variable {E : Entry} {sl : Slots} {ob : Objs} {a : Act} {w : World} {Pr : Prot} {β : Nat → Value} {κ : Nat → Nat}
theorem Good.grownb (h : Good E sl ob a w Pr β κ) {i e k : Nat} {l : List Value} {w' : World} (hf : find ob i = some (.byt e k l)) (hgr : ∀ g, blk (β i) = some g → w.grownBy w' (some g)) : Good E sl (dropK [i] ob) a w' Pr β κ ∧ Stays Pr w w' := by
 obtain ⟨hκ, g0, cap, cur, fz, hb, hB, hh, hfz, hc, hno⟩ := h.objs i _ hf
 have hbb : blk (β i) = some g0 := by rw [hb]; rfl
 have hgr := hgr g0 hbb
 have hs : Stays Pr w w' := fun b o ho => World.cell?_of_block (a := ⟨b, o, none⟩) (hgr.block b (h.prl b o ho) (fun e => by
  cases e
  exact hno o ho))
 have hbel : Under (fun g => some g0 = some g) w w' := ⟨hgr.os, hgr.tape, hgr.output, hgr.size, fun k hk hn => hgr.block k hk (fun e => hn e.symm)⟩
 refine ⟨⟨h.below.then hbel (fun g hg => h.own i _ g hf (by rw [hbb]; exact hg)), fun b o ho => (hs b o (h.pr0 b o ho)).trans (h.st0 b o ho), h.pr0, h.prn, fun b o ho => Nat.lt_of_lt_of_le (h.prl b o ho) hgr.size, h.size, h.defers, fun j => (h.slots j).keep hs (fun _ _ h => h), fun j oj hj => ?_, fun m j om oj g h1 h2 => h.apart m j om oj g (find_dropK h1).2 (find_dropK h2).2, fun m om g h1 => h.own m om g (find_dropK h1).2, h.keeps, h.fresh⟩, hs⟩
 obtain ⟨h1, h2⟩ := find_dropK hj
 have hji : j ≠ i := fun e => h1 (by simp [e])
 exact (h.objs j oj h2).keep2 hs (fun _ _ h => h) (fun _ _ _ h => h) (fun g hg => hgr.block g ((h.objs j oj h2).blkLt g hg).2 (fun e => hji (h.apart j i oj _ g h2 hf hg (by rw [hbb]; exact e.symm))))
end
section
variable {E : Entry} {sl : Slots} {ob : Objs} {d : Nat} {x y : Operand} {t T : TypeId} {p : String} {af : Array Edge}
theorem st_bytes {src dst e : TypeId} {s : ByteArray} {g : Option (Nat × Bool)} (hx : ev sl x = .d (.val (.string s))) (hs : Tryd.prog.underlying src = some .string) (hdst : Tryd.prog.underlying dst = some (.slice e)) (he : Tryd.prog.underlying e = some (.int .u8)) (hlen : s.size ≤ 140737488355328) (hd : d < E.n) (hno : noneOf d sl ob = true) :
  Step E ⟨some d, .convert src dst x, T, p, af, g⟩ sl ob ((d, .row d 0) :: sl) ((d, .byt e 0 (bytV s.data.toList)) :: ob) := by
 rintro a w ⟨Pr, β, κ, h⟩ K Q hK
 have hrun := Go.Lib.run_convert_string_bytes (P := Tryd.prog) w src dst e s hs hdst he
 have hl : (bytV s.data.toList).length = s.size := by rw [bytV_len]; exact (Lib.size_eq s).symm
 have hge := grownCap_ge w s.size 0 e
 have hcm : grownCap w s.size 0 e ≤ maxLen := grownCap_le_maxLen w s.size 0 e (by unfold maxLen; omega)
 unfold Oper.wp
 have hrun2 : (execOp a.eval ⟨some d, .convert src dst x, T, p, af, g⟩).run Tryd.prog w = .ok (.value (.slice (some ⟨w.heap.size, 0, none⟩) s.size (grownCap w s.size 0 e))) (Go.Lib.bytesWorld w e s) := by
  simp only [execOp, good_val h hx, Sem.run_bind, hrun]
  rfl
 rw [hrun2, Oper.upon_value]
 have hx' : Below w.heap.size w (Go.Lib.bytesWorld w e s) := ⟨rfl, rfl, rfl, by rw [Go.Lib.bytesWorld_size]; omega, fun k hk => Go.Lib.bytesWorld_at_old w e s k hk⟩
 refine hK _ _ (h.newobj hd hno (Pr' := Pr) (v := .slice (some ⟨w.heap.size, 0, none⟩) s.size (grownCap w s.size 0 e)) hx' (fun _ _ h => h) (fun _ _ h => .inl h) (fun g hg => by simp [blk] at hg; omega) ?_ (fun β' κ' e1 e2 _ _ => .row d 0 _ ⟨_, _, _, rfl⟩ (Nat.zero_le _) (fun _ => e1.symm)))
 intro β' κ' e1 e2 e3 e4
 have hbs : (Go.Lib.bytesCells w e s).size = grownCap w s.size 0 e := by
  unfold Go.Lib.bytesCells
  simp
  have : s.data.size = s.size := rfl
  omega
 refine ⟨e2, w.heap.size, grownCap w s.size 0 e, Go.Lib.bytesCells w e s, _, by rw [e1, hl], Nat.zero_le _, Go.Lib.bytesWorld_at_new w e s, .inr (by rw [hbs]; exact Nat.le_refl _), ⟨by omega, hcm, hbs, ?_⟩, fun o ho => ?_⟩
 ·unfold Go.Lib.bytesCells
  rw [Array.toList_append, List.take_append_of_le_length (by simp [bytV])]
  rw [List.take_of_length_le (by simp [bytV])]
  simp [bytV]
 ·have := h.prl _ _ ho
  omega
theorem byt_val {a : Act} {w : World} {Pr : Prot} {β : Nat → Value} {κ : Nat → Nat} (h : Good E sl ob a w Pr β κ) {i k e : Nat} {l : List Value} (hx : ev sl x = .row i k) (hf : find ob i = some (.byt e k l)) : a.eval x = β i := by
 have := good_ev h x
 rw [hx] at this
 exact this.row_inv (h.objs i _ hf).1.symm
theorem y_bytlen {i k e n : Nat} {l : List Value} {t0 dd : TypeId} {A : Array TypeId} {g : Option (Nat × Bool)} (hx : ev sl x = .row i k) (hf : find ob i = some (.byt e k l)) (hA : A = #[t0]) (hT : ∃ e es eb ez, ti t0 = .sl e es eb ez) (hn : l.length = n) :
  Y E ⟨some dd, .call { callee := .builtin .len, args := #[x], argTypes := A }, T, p, af, g⟩ sl ob (.d (.val (.int .i64 n))) := fun a w Pr β κ h => by
 subst hA hn
 obtain ⟨e, es, eb, ez, hT⟩ := hT
 obtain ⟨_, _, _, hu, _⟩ := ti_sl hT
 have hxv := byt_val h hx hf
 obtain ⟨_, g', cap, cur, fz, hb, _⟩ := h.objs i _ hf
 exact ⟨_, .d _ _ (.val _), fun w' _ => by simp [execOp, hxv, hb, resolve, invoke, builtin, Builtin.len_, run_underlying hu, goInt]⟩
theorem st_bytstr {i k e eb : Nat} {ez : Value} {L : List UInt8} {src dst : TypeId} {r : ByteArray} {g : Option (Nat × Bool)} (hx : ev sl x = .row i k) (hf : find ob i = some (.byt e k (bytV L))) (hT : ti src = .sl e 1 eb ez) (he : Tryd.prog.underlying e = some (.int .u8)) (hdst : Tryd.prog.underlying dst = some .string) (hr : ⟨L.toArray⟩ = r) (hd : d < E.n) :
  Step E ⟨some d, .convert src dst x, T, p, af, g⟩ sl ob ((d, .d (.val (.string r))) :: sl) ob := by
 subst hr
 rintro a w ⟨Pr, β, κ, h⟩ K Q hK
 obtain ⟨_, j, _, hu, _⟩ := ti_sl hT
 have hxv := byt_val h hx hf
 obtain ⟨hκ, gb, cap, cur, fz, hb, hB, hh, hfz, ⟨c1, c2, c3, c4⟩, hno⟩ := h.objs i _ hf
 have hrun := run_convert_bytes_back (P := Tryd.prog) w src dst e ⟨gb, 0, none⟩ cap L hu he hdst (fun j hj => by
  rw [Addr.add_lit, Nat.zero_add]
  have e1 : (bytV L)[j]? = some (.int .u8 (L[j].toNat : Int)) := by simp [bytV, hj]
  rw [← c4, List.getElem?_take, if_pos (by rw [bytV_len]; exact hj)] at e1
  simp only [World.cell?, hh]
  simpa using e1)
 unfold Oper.wp
 have hrun2 : (execOp a.eval ⟨some d, .convert src dst x, T, p, af, g⟩).run Tryd.prog w = .ok (.value (.string ⟨L.toArray⟩)) w := by
  rw [bytV_len] at hb
  simp only [execOp, hxv, hb, Sem.run_bind, hrun]
  rfl
 rw [hrun2, Oper.upon_value]
 exact hK _ _ ⟨_, _, _, h.put hd (.d _ _ (.val _))⟩
theorem Good.putbyt {a : Act} {w w' : World} {Pr : Prot} {β : Nat → Value} {κ : Nat → Nat} (h : Good E sl ob a w Pr β κ) {i e k gb cap : Nat} {l l' : List Value} {cur' : Array Value} {fz : Nat × Nat} (hf : find ob i = some (.byt e k l)) (hb : β i = .slice (some ⟨gb, 0, none⟩) l.length cap) (hgr : w.grownBy w' (some gb)) (hh : w'.heap[gb]? = some (.cells cur' e fz)) (hfz : fz = (0, 0) ∨ cap ≤ fz.1) (hl : l'.length = l.length) (hc : l'.length ≤ cap ∧ cap ≤ maxLen ∧ cur'.size = cap ∧ cur'.toList.take l'.length = l') :
  Good E sl ((i, .byt e k l') :: dropK [i] ob) a w' Pr β κ := by
 obtain ⟨hκ, g0, cap0, cur, fz0, hb0, hB, hh0, hfz0, hc0, hno⟩ := h.objs i _ hf
 have e0 : g0 = gb := by rw [hb0] at hb; simp at hb; exact hb.1
 subst e0
 obtain ⟨hG, hs⟩ := h.grownb hf (fun g2 h2 => by rw [hb] at h2; simp only [blk, Option.some.injEq] at h2; subst h2; exact hgr)
 have old : ∀ m om, find ((i, O.byt e k l') :: dropK [i] ob) m = some om → ∃ om', find ob m = some om' := fun m om hm => by
  rcases keyCase hm with ⟨rfl, _⟩ | ⟨_, hm⟩
  ·exact ⟨_, hf⟩
  ·exact ⟨_, (find_dropK hm).2⟩
 refine ⟨hG.below, hG.st0, hG.pr0, hG.prn, hG.prl, hG.size, hG.defers, hG.slots, fun m om hm => ?_, fun m j om oj g h1 h2 h3 h4 => ?_, fun m om g h1 h2 => ?_, hG.keeps, hG.fresh⟩
 ·rcases keyCase hm with ⟨rfl, rfl⟩ | ⟨_, hm⟩
  ·exact ⟨hκ, g0, cap, cur', fz, by rw [hl]; exact hb, Nat.zero_le _, hh, hfz, hc, hno⟩
  ·exact hG.objs m om hm
 ·obtain ⟨_, k1⟩ := old m om h1
  obtain ⟨_, k2⟩ := old j oj h2
  exact h.apart m j _ _ g k1 k2 h3 h4
 ·obtain ⟨_, k1⟩ := old m om h1
  exact h.own m _ g k1 h2
theorem al_bytput {ops : Array Oper} {rest : List Oper} {Q : Exit → Act → World → Prop} {i k e q d1 eb : Nat} {ez : Value} {kk : IntKind} {m : Int} {l : List Value} {u : Value} {T1 T2 t2 : TypeId} {p1 p2 : String} {af1 af2 : Array Edge} {z : Operand} (hx : ev sl x = .row i k) (hf : find ob i = some (.byt e k l)) (hy : ev sl y = .d (.val (.int kk m))) (hz : ev ((d1, .und) :: sl) z = .d (.val u)) (hT : ti t = .sl e 1 eb ez) (hi : m = (q : Int)) (hq : q < l.length) (h1 : u.oneCell' = true) (ht2 : isOne (ti t2) = true) (hd : d1 < E.n)
  (hK : AL E ops rest Q ((d1, .und) :: sl) ((i, .byt e k (l.set q u)) :: dropK [i] ob)) :
  AL E ops (⟨some d1, .indexAddr t x y, T1, p1, af1, none⟩ :: ⟨none, .store t2 (.tmp d1) z, T2, p2, af2, none⟩ :: rest) Q sl ob := by
 subst hi
 refine ⟨fun a w ⟨Pr, β, κ, h⟩ => wpList_plain rfl fun K hKK => ?_⟩
 obtain ⟨_, j, _, hu, _, hj, _, hs, _⟩ := ti_sl hT
 have hxv := byt_val h hx hf
 obtain ⟨hκ, gb, cap, cur, fz, hb, hB, hh, hfz, ⟨c1, c2, c3, c4⟩, hno⟩ := h.objs i _ hf
 have hrun1 : (execOp a.eval ⟨some d1, .indexAddr t x y, T1, p1, af1, none⟩).run Tryd.prog w = .ok (.value (.pointer (some ⟨gb, q, none⟩))) w := by
  have hsz : (sizeOf e).run Tryd.prog w = .ok 1 w := by simp [sizeOf, typeInfo, hj, hs]
  simp [execOp, hxv, hb, good_val h hy, Instr.indexAt, asIntOf, run_underlying hu, hsz, hq, Addr.add_lit]
 unfold Oper.wp
 rw [hrun1, Oper.upon_value]
 refine hKK _ _ (wpList_plain rfl fun K2 hKK2 => ?_)
 have h2 := h.put hd (v := .pointer (some ⟨gb, q, none⟩)) (.und _)
 have hst := run_storeCells_one Tryd.prog w (u := u) hh hfz (by omega : q < cap) c3 h1
 have hzv := good_val h2 hz
 have hcl : u.cells = #[u] := by cases u <;> first | rfl | cases h1
 have hadr : (a.put (some d1) (.pointer (some ⟨gb, q, none⟩))).eval (.tmp d1) = .pointer (some ⟨gb, q, none⟩) := by
  show (a.put (some d1) (.pointer (some ⟨gb, q, none⟩))).tmps.getD d1 undef = _
  rw [Act.getD_put a d1 d1 _ (by rw [h.size]; exact hd), if_pos rfl]
 have hrun2 : (execOp (a.put (some d1) (.pointer (some ⟨gb, q, none⟩))).eval ⟨none, .store t2 (.tmp d1) z, T2, p2, af2, none⟩).run Tryd.prog w = .ok .skip (w.setRow gb (cur.setIfInBounds q u)) := by
  have hsz := run_sizeOf_one w ht2
  simp [execOp, hadr, hzv, Instr.storeAt, Instr.sureAddr, storeVar, hsz, hcl, storeCells, Addr.add_lit, hst]
 unfold Oper.wp
 rw [hrun2, Oper.upon_skip]
 refine hKK2 _ _ (hK.run _ _ ⟨Pr, β, κ, h2.putbyt (cur' := cur.setIfInBounds q u) hf hb ⟨rfl, rfl, rfl, by simp, fun k _ hk => setRow_other w gb k _ (fun e => hk (by rw [e]))⟩ (setRow_heap w gb cur _ e _ hh) hfz (by simp) ⟨by simpa using c1, c2, by simp [c3], ?_⟩⟩)
 simp only [Array.toList_setIfInBounds, List.length_set]
 rw [List.take_set, c4]
end
end Go.Proofs.YtedoeogopmenpaaDoor
end
section
namespace Go.Proofs.YtedoeogopmenpaaDoor
open Go.RowKit
section
variable {E : Entry} {sl : Slots} {ob : Objs} {x y : Operand} {t : TypeId}
theorem al_bytget {ops : Array Oper} {rest : List Oper} {Q : Exit → Act → World → Prop} {i k e q d1 d2 eb : Nat} {ez : Value} {kk : IntKind} {m : Int} {l : List Value} {u : Value} {T1 T2 t2 : TypeId} {p1 p2 : String} {af1 af2 : Array Edge} (hx : ev sl x = .row i k) (hf : find ob i = some (.byt e k l)) (hy : ev sl y = .d (.val (.int kk m))) (hT : ti t = .sl e 1 eb ez) (hi : m = (q : Int)) (hu : l[q]? = some u) (ht2 : isOne (ti t2) = true) (hd : d1 < E.n) (hd2 : d2 < E.n)
  (hK : AL E ops rest Q ((d2, .d (.val u)) :: (d1, .und) :: sl) ob) :
  AL E ops (⟨some d1, .indexAddr t x y, T1, p1, af1, none⟩ :: ⟨some d2, .load t2 (.tmp d1), T2, p2, af2, none⟩ :: rest) Q sl ob := by
 subst hi
 refine ⟨fun a w ⟨Pr, β, κ, h⟩ => wpList_plain rfl fun K hKK => ?_⟩
 obtain ⟨_, j, _, hut, _, hj, _, hs, _⟩ := ti_sl hT
 have hxv := byt_val h hx hf
 obtain ⟨hκ, gb, cap, cur, fz, hb, hB, hh, hfz, ⟨c1, c2, c3, c4⟩, hno⟩ := h.objs i _ hf
 have hq : q < l.length := (List.getElem?_eq_some_iff.1 hu).1
 have hrun1 : (execOp a.eval ⟨some d1, .indexAddr t x y, T1, p1, af1, none⟩).run Tryd.prog w = .ok (.value (.pointer (some ⟨gb, q, none⟩))) w := by
  have hsz : (sizeOf e).run Tryd.prog w = .ok 1 w := by simp [sizeOf, typeInfo, hj, hs]
  simp [execOp, hxv, hb, good_val h hy, Instr.indexAt, asIntOf, run_underlying hut, hsz, hq, Addr.add_lit]
 unfold Oper.wp
 rw [hrun1, Oper.upon_value]
 refine hKK _ _ (wpList_plain rfl fun K2 hKK2 => ?_)
 have h2 := h.put hd (v := .pointer (some ⟨gb, q, none⟩)) (.und _)
 have hadr : (a.put (some d1) (.pointer (some ⟨gb, q, none⟩))).eval (.tmp d1) = .pointer (some ⟨gb, q, none⟩) := by
  show (a.put (some d1) (.pointer (some ⟨gb, q, none⟩))).tmps.getD d1 undef = _
  rw [Act.getD_put a d1 d1 _ (by rw [h.size]; exact hd), if_pos rfl]
 have hcell : w.cell? ⟨gb, q, none⟩ = some u := by
  rw [← c4, List.getElem?_take, if_pos hq] at hu
  simp only [World.cell?, hh]
  simpa using hu
 have hrun2 : (execOp (a.put (some d1) (.pointer (some ⟨gb, q, none⟩))).eval ⟨some d2, .load t2 (.tmp d1), T2, p2, af2, none⟩).run Tryd.prog w = .ok (.value u) w := by
  have := run_load_one (t := t2) w ht2 hcell
  simp [execOp, hadr, this]
 unfold Oper.wp
 rw [hrun2, Oper.upon_value]
 exact hKK2 _ _ (hK.run _ _ ⟨Pr, β, κ, h2.put hd2 (.d _ _ (.val _))⟩)
end
end Go.Proofs.YtedoeogopmenpaaDoor
end
section
namespace Go.Proofs.YtedoeogopmenpaaDoor
open Go.ChangeShapes Go.WideShapes Go.ChangeAt Go.RowKit Go.Deep Go.Joins
theorem own : ownKnob Tryd.prog.godebug = none := by kernel_rfl
theorem laidOut : laidOutB Tryd.prog = true := by kernel_rfl
section
variable {H : Type} {enc : TypeId × Value → H} {P : Program}
theorem trodAll_below (hl : laidOutB P = true) {W W' : World} (hb : Below W.heap.size W W') : ∀ {ts : List TypeId} {vs : List Value} {ds : List (DataW H)} {ps : List MemPlace},
  (ts.all fun t => P.readableRec t && decide (t < P.types.size)) = true → DataW.TrodAll enc P W 0 (fun _ => true) true ts vs ds ps → (∀ x ∈ ps, x.block < W.heap.size) →
  DataW.TrodAll enc P W' 0 (fun b => decide (b < W.heap.size)) true ts vs ds ps
 | [], vs, ds, ps, _, h, _ => by
  obtain ⟨rfl, rfl, rfl⟩ := trodAll_nil h
  exact trodAll_mk0
 | t :: ts, vs, ds, ps, hk, h, hlt => by
  obtain ⟨v, vs', d, ds', p, p', rfl, rfl, rfl, h0, hr⟩ := trodAll_cons h
  simp only [List.all_cons, Bool.and_eq_true, decide_eq_true_eq] at hk
  exact trodAll_cons_mk (Below.trod hl hk.1.1 hk.1.2 h0 hb (fun x hx => hlt x (List.mem_append_left _ hx))) (trodAll_below hl hb hk.2 hr (fun x hx => hlt x (List.mem_append_right _ hx)))
theorem law_post {f : Func} {s : ChangeSpec} {W W' : World} {args : Array Value} {ds gs : List (DataW H)} {before : List MemPlace} {tb : TypeId}
  (hl : laidOutB P = true) (hbool : P.underlying tb = some .bool) (hres : f.resultTypes = #[tb]) (hpar : (f.params.toList.all fun t => P.readableRec t && decide (t < P.types.size)) = true)
  (hvars : s.vars = []) (hW : DataW.Whole enc P f.params.toList s.vars false W args.toList ds gs before)
  (hfn : s.fn H (ds ++ gs) = { results := [.lit (.bool true)], args := ds }) (hb : Below W.heap.size W W') :
  s.post enc P f false true false false W args (.bool true) W' := by
 have hW' := hW
 obtain ⟨p, q, hA, hV, rfl, _, _⟩ := hW
 rw [hvars] at hV
 obtain ⟨rfl, rfl⟩ := trodVars_none hV
 have hA' : DataW.TrodAll enc P W 0 (fun _ => true) true f.params.toList args.toList ds p := hA
 refine ⟨ds, [], p ++ [], [], p, [], hW', ?_, ?_, ?_, hb.frame _, fun h => by cases h⟩
 ·rw [hfn, hres]
  exact trodAll_cons_mk (shut_bool hbool true) trodAll_mk0
 ·rw [hfn]
  exact trodAll_below hl hb hpar hA' hA'.lt
 ·rw [hfn, hvars]
  rfl
end
end Go.Proofs.YtedoeogopmenpaaDoor
end
section
namespace Go.Proofs.YtedoeogopmenpaaDoor
open Go.ChangeShapes Go.WideShapes Go.ChangeAt Go.RowKit Go.Deep Go.Joins
theorem open_string {H : Type} {enc : TypeId × Value → H} {P : Program} {w : World} {base : Nat} {spare : Nat → Bool} {held : Bool} {r : Reach} {b0 : Nat} {t : TypeId} {v : Value} {d : DataW H} {ps : List MemPlace} (ht : P.underlying t = some .string)
  (hval : Value.okWide P w r b0 t v) (hd : DataW.Trod enc P w base spare held t v d ps) : ∃ s : ByteArray, v = .string s ∧ d = .lit (.string s.data.toList) ∧ ps = [] ∧ s.size ≤ maxLen := by
 obtain ⟨s, rfl⟩ := okWide_string ht hval
 obtain ⟨fuel, hf⟩ := hd
 obtain ⟨s', h, hx, hw⟩ := DataW.trod_string ht hf
 simp [Value.cells] at h
 subst h
 simp only [Prod.mk.injEq] at hx
 exact ⟨s, rfl, hx.1, hx.2, hw⟩
theorem reps_nil {w : World} {Pr : Prot} : ∀ (i : Nat) (v : Value) (d : D), ([] : List Value)[i]? = some v → ([] : List D)[i]? = some d → RepD w Pr v d := by simp
theorem reps_cons {w : World} {Pr : Prot} {v : Value} {d : D} {vs : List Value} {ds : List D} (h : RepD w Pr v d) (hr : ∀ (i : Nat) (v : Value) (d : D), vs[i]? = some v → ds[i]? = some d → RepD w Pr v d) :
  ∀ (i : Nat) (u : Value) (e : D), (v :: vs)[i]? = some u → (d :: ds)[i]? = some e → RepD w Pr u e
 | 0, _, _, h1, h2 => by cases h1; cases h2; exact h
 | i + 1, u, e, h1, h2 => hr i u e h1 h2
section
variable {H : Type} {enc : TypeId × Value → H}
end
end Go.Proofs.YtedoeogopmenpaaDoor
end
section
set_option linter.unusedSimpArgs false
set_option linter.unusedVariables false
namespace Go.Proofs.YtedoeogopmenpaaDoor
open Go.RowKit
def digitB (c : UInt8) : Bool := decide (48 ≤ (c.toNat : Int)) && decide ((c.toNat : Int) ≤ 57)
theorem digit_any (c : UInt8) : PureC 72 [.val (.int .u8 c.toNat)] (· = .bool (digitB c)) := by
 refine pure_enter Tryd.func72 rfl (by decide) _ Tryd.ntmps72 (le_ok rfl) (fun w Pr hE => ?_)
 dsimp only [slotsOf, Nat.zero_add, Nat.reduceAdd]
 repeat' (first | refine nx ?_ | (apply qr_move; refine r_move ?_) | (apply qr_assign; refine r_assign ?_) | (apply at_guard; first | refine g_go ?_ | refine g_nt ?_ | refine g_nf ?_ | refine g_nu ?_ | ((first | refine al_split_t rfl rfl (lt_ok rfl) (fun hb => ?_) (fun hb => ?_) | refine al_split_f rfl rfl (lt_ok rfl) (fun hb => ?_) (fun hb => ?_)) <;> ((try have hq := dX hb); (try (exfalso; omega))))) | (apply qr_pick; refine r_pick ?_) | (apply qr_leq; refine r_leq ?_) | (apply qr_geq; refine r_geq ?_))
 all_goals (refine ret_one rfl (.d _) ?_; simp [digitB, *])
def isBlank (c : UInt8) : Bool := decide ((c.toNat : Int) = 32) || decide ((c.toNat : Int) = 9) || decide ((c.toNat : Int) = 10)
theorem blank_any (c : UInt8) : PureC 74 [.val (.int .u8 c.toNat)] (· = .bool (isBlank c)) := by
 refine pure_enter Tryd.func74 rfl (by decide) _ Tryd.ntmps74 (le_ok rfl) (fun w Pr hE => ?_)
 dsimp only [slotsOf, Nat.zero_add, Nat.reduceAdd]
 repeat' (first | refine nx ?_ | (apply qr_move; refine r_move ?_) | (apply qr_assign; refine r_assign ?_) | (apply at_guard; first | refine g_go ?_ | refine g_nt ?_ | refine g_nf ?_ | refine g_nu ?_ | ((first | refine al_split_t rfl rfl (lt_ok rfl) (fun hb => ?_) (fun hb => ?_) | refine al_split_f rfl rfl (lt_ok rfl) (fun hb => ?_) (fun hb => ?_)) <;> ((try have hq := dX hb); (try (exfalso; omega))))) | (apply qr_pick; refine r_pick ?_) | (apply qr_eql; refine r_eql ?_))
 all_goals (refine ret_one rfl (.d _) ?_; simp [isBlank, *])
def pre (F : UInt8 → Bool) (s : ByteArray) : Nat := (s.data.toList.takeWhile F).length
theorem takeWhile_at {α : Type} (F : α → Bool) (l : List α) (k : Nat) (hk : k ≤ l.length) (h1 : ∀ j (h : j < l.length), j < k → F l[j] = true) (h2 : k < l.length → ∃ h : k < l.length, F l[k] = false) : (l.takeWhile F).length = k := by
 induction l generalizing k with
 | nil => simp at hk; simp [hk]
 | cons x l ih =>
  cases k with
  | zero =>
   obtain ⟨_, h⟩ := h2 (by simp)
   simp at h
   simp [h]
  | succ k =>
   have h0 := h1 0 (by simp) (by omega)
   simp at h0
   rw [List.takeWhile_cons, h0]
   simp only [if_true, List.length_cons, Nat.succ.injEq]
   refine ih k (by simpa using hk) (fun j h hj => ?_) (fun h => ?_)
   ·have := h1 (j + 1) (by simpa using h) (by omega)
    simpa using this
   ·obtain ⟨h', h3⟩ := h2 (by simpa using h)
    exact ⟨h, by simpa using h3⟩
theorem bAt_eq (s : ByteArray) (i : Nat) (h : i < s.data.toList.length) : bAt s i = s.data.toList[i] := by simp [bAt, List.getD_eq_getElem?_getD, List.getElem?_eq_getElem h]
theorem pre_at (F : UInt8 → Bool) (s : ByteArray) (k : Nat) (hk : k ≤ s.size) (h1 : ∀ j, j < k → F (bAt s j) = true) (h2 : k < s.size → F (bAt s k) = false) : pre F s = k := by
 refine takeWhile_at F _ k (by simpa using hk) (fun j h hj => ?_) (fun h => ⟨h, ?_⟩)
 ·rw [← bAt_eq s j h]
  exact h1 j hj
 ·rw [← bAt_eq s k h]
  exact h2 (by simpa using h)
theorem span_any (s : ByteArray) (g : Nat) (F : UInt8 → Bool) (hs : s.size ≤ 9223372036854775807) (hF : ∀ c, PureC g [.val (.int .u8 c.toNat)] (· = .bool (F c))) : PureC 70 [.str s, .val (.func (.func g) #[] #[])] (· = .int (pre F s)) := by
 refine pure_enter Tryd.func70 rfl (by decide) _ Tryd.ntmps70 (le_ok rfl) (fun w Pr hE => ?_)
 dsimp only [slotsOf, Nat.zero_add, Nat.reduceAdd]
 repeat' (first | refine nx ?_ | (apply aq_block_y; decide) | (apply qr_move; refine r_move ?_) | (apply qr_assign; refine r_assign ?_) | (apply at_cond; first | refine c_t ?_ | refine c_f ?_ | (refine aw_cond rfl (fun hb => ?_) (fun hb => ?_) <;> ((try have hq := dX hb); (try (exfalso; omega))))) | (apply at_guard; first | refine g_go ?_ | refine g_nt ?_ | refine g_nf ?_ | refine g_nu ?_ | ((first | refine al_split_t rfl rfl (lt_ok rfl) (fun hb => ?_) (fun hb => ?_) | refine al_split_f rfl rfl (lt_ok rfl) (fun hb => ?_) (fun hb => ?_)) <;> ((try have hq := dX hb); (try (exfalso; omega))))) | (apply qr_pick; refine r_pick ?_) | (apply qr_lss; refine r_lss ?_) | (apply qr_add; refine r_add ?_) | (apply qr_len; refine r_len ?_) | (apply qr_index; refine r_index ?_))
 refine aw_lp (fun n sl ob => ∃ k : Nat, n = s.size - k ∧ k ≤ s.size ∧ (∀ j, j < k → F (bAt s j) = true) ∧ sl = [(5, .d (.int k)), (0, .d (.str s)), (1, .d (.val (.func (.func g) #[] #[])))] ∧ ob = []) (⟨0, rfl, by omega, by simp, rfl, rfl⟩) ?_
 rintro n sl ob ⟨k, rfl, hk, hp, rfl, rfl⟩
 repeat' (first | (apply at_call; refine k_call (hF _) hE ?_; rintro _ rfl) | refine nx ?_ | (apply aq_block_y; decide) | (apply qr_move; refine r_move ?_) | (apply qr_assign; refine r_assign ?_) | (apply at_cond; first | refine c_t ?_ | refine c_f ?_ | (refine aw_cond rfl (fun hb => ?_) (fun hb => ?_) <;> ((try have hq := dX hb); (try (exfalso; omega))))) | (apply at_guard; first | refine g_go ?_ | refine g_nt ?_ | refine g_nf ?_ | refine g_nu ?_ | ((first | refine al_split_t rfl rfl (lt_ok rfl) (fun hb => ?_) (fun hb => ?_) | refine al_split_f rfl rfl (lt_ok rfl) (fun hb => ?_) (fun hb => ?_)) <;> ((try have hq := dX hb); (try (exfalso; omega))))) | (apply qr_pick; refine r_pick ?_) | (apply qr_lss; refine r_lss ?_) | (apply qr_add; refine r_add ?_) | (apply qr_len; refine r_len ?_) | (apply qr_index; refine r_index ?_))
 ·skip
  refine aq_rd (⟨k + 1, rfl, by omega, fun j hj => (Nat.lt_succ_iff_lt_or_eq.1 hj).elim (hp j) (fun e => e ▸ (by assumption)), rfl, rfl⟩) (by omega)
 ·refine ret_one rfl (.d _) ?_
  rw [pre_at F s k hk hp (fun _ => by assumption)]
 ·refine ret_one rfl (.d _) ?_
  rw [pre_at F s k hk hp (fun _ => by omega)]
end Go.Proofs.YtedoeogopmenpaaDoor
end
section
namespace Go.Proofs
def Tryd.lays99_ren : Go.Shelf.Ren := ⟨fun | 99 => 87 | 206 => 94 | n => n, fun | 9 => 9 | 4 => 4 | 3 => 3 | n => n, fun | n => n⟩
theorem Tryd.lays99 : Go.Proofs.Lays.n99 Tryd.prog Tryd.lays99_ren := {
 mixed := by kernel_rfl
 f99 := Tryd.func87.trans (congrArg some (by kernel_rfl))
 f206 := Tryd.func94.trans (congrArg some (by kernel_rfl))
 t3 := Tryd.underlying3
 a3 := Tryd.isAgg3
 z3 := Tryd.sizeOf3
 v3 := Tryd.zeroValue3
 t4 := Tryd.underlying4
 a4 := Tryd.isAgg4
 z4 := Tryd.sizeOf4
 v4 := Tryd.zeroValue4
 t9 := Tryd.underlying9
 a9 := Tryd.isAgg9
 z9 := Tryd.sizeOf9
 v9 := Tryd.zeroValue9 }
open Go.RowKit Go.Lib in
theorem Tryd.strings_HasPrefix (s p : ByteArray) (w : World) :
  Calls Tryd.prog 87 #[.string s, .string p] w fun e w' => e = .returned (.bool (Lib.hasPrefix s.data.toList p.data.toList)) ∧ w' = w := Any.strings_HasPrefix Tryd.lays99 s p w
def Tryd.laysM171_ren : Go.Shelf.Ren := ⟨fun | 171 => 31 | 243 => 63 | 246 => 83 | 283 => 90 | 284 => 91 | 285 => 92 | 286 => 93 | 129 => 96 | 317 => 95 | 318 => 97 | 319 => 98 | 320 => 99 | 337 => 100 | 338 => 101 | n => n, fun | 3 => 3 | 9 => 9 | 2 => 2 | 4 => 4 | 171 => 132 | 0 => 0 | 53 => 133 | 37 => 60 | 5 => 5 | 173 => 136 | 212 => 139 | 51 => 140 | 20 => 20 | 213 => 141 | 46 => 142 | 232 => 145 | 233 => 146 | n => n, fun | 17 => 2 | 18 => 3 | 19 => 4 | n => n⟩
theorem Tryd.laysM171 : Go.Proofs.LaysM.n171 Tryd.prog Tryd.laysM171_ren := {
 mixed := by kernel_rfl
 f129 := Tryd.func96.trans (congrArg some (by kernel_rfl))
 f171 := Tryd.func31.trans (congrArg some (by kernel_rfl))
 f243 := Tryd.func63.trans (congrArg some (by kernel_rfl))
 f246 := Tryd.func83.trans (congrArg some (by kernel_rfl))
 f283 := Tryd.func90.trans (congrArg some (by kernel_rfl))
 f284 := Tryd.func91.trans (congrArg some (by kernel_rfl))
 f285 := Tryd.func92.trans (congrArg some (by kernel_rfl))
 f286 := Tryd.func93.trans (congrArg some (by kernel_rfl))
 f317 := Tryd.func95.trans (congrArg some (by kernel_rfl))
 f318 := Tryd.func97.trans (congrArg some (by kernel_rfl))
 f319 := Tryd.func98.trans (congrArg some (by kernel_rfl))
 f320 := Tryd.func99.trans (congrArg some (by kernel_rfl))
 f337 := Tryd.func100.trans (congrArg some (by kernel_rfl))
 f338 := Tryd.func101.trans (congrArg some (by kernel_rfl))
 t0 := Tryd.underlying0
 a0 := Tryd.isAgg0
 z0 := Tryd.sizeOf0
 v0 := Tryd.zeroValue0
 t2 := Tryd.underlying2
 a2 := Tryd.isAgg2
 z2 := Tryd.sizeOf2
 v2 := Tryd.zeroValue2
 t3 := Tryd.underlying3
 a3 := Tryd.isAgg3
 z3 := Tryd.sizeOf3
 v3 := Tryd.zeroValue3
 t4 := Tryd.underlying4
 a4 := Tryd.isAgg4
 z4 := Tryd.sizeOf4
 v4 := Tryd.zeroValue4
 t5 := Tryd.underlying5
 a5 := Tryd.isAgg5
 z5 := Tryd.sizeOf5
 v5 := Tryd.zeroValue5
 t9 := Tryd.underlying9
 a9 := Tryd.isAgg9
 z9 := Tryd.sizeOf9
 v9 := Tryd.zeroValue9
 t20 := Tryd.underlying20
 a20 := Tryd.isAgg20
 z20 := Tryd.sizeOf20
 v20 := Tryd.zeroValue20
 t37 := Tryd.underlying60
 a37 := Tryd.isAgg60
 z37 := Tryd.sizeOf60
 v37 := Tryd.zeroValue60
 t46 := Tryd.underlying142
 a46 := Tryd.isAgg142
 z46 := Tryd.sizeOf142
 v46 := Tryd.zeroValue142
 t51 := Tryd.underlying140
 a51 := Tryd.isAgg140
 z51 := Tryd.sizeOf140
 v51 := Tryd.zeroValue140
 t53 := Tryd.underlying133
 a53 := Tryd.isAgg133
 z53 := Tryd.sizeOf133
 v53 := Tryd.zeroValue133
 t171 := Tryd.underlying132
 a171 := Tryd.isAgg132
 z171 := Tryd.sizeOf132
 v171 := Tryd.zeroValue132
 t173 := Tryd.underlying136
 a173 := Tryd.isAgg136
 z173 := Tryd.sizeOf136
 v173 := Tryd.zeroValue136
 t212 := Tryd.underlying139
 a212 := Tryd.isAgg139
 z212 := Tryd.sizeOf139
 v212 := Tryd.zeroValue139
 t213 := Tryd.underlying141
 a213 := Tryd.isAgg141
 z213 := Tryd.sizeOf141
 t232 := Tryd.underlying145
 a232 := Tryd.isAgg145
 z232 := Tryd.sizeOf145
 v232 := Tryd.zeroValue145
 t233 := Tryd.underlying146
 a233 := Tryd.isAgg146
 z233 := Tryd.sizeOf146
 v233 := Tryd.zeroValue146
 g17 := by kernel_rfl
 g18 := by kernel_rfl
 g19 := by kernel_rfl
 i0 := by kernel_rfl
 i2 := by kernel_rfl
 i3 := by kernel_rfl
 i4 := by kernel_rfl
 i5 := by kernel_rfl
 i9 := by kernel_rfl
 i20 := by kernel_rfl
 i37 := by kernel_rfl
 i46 := by kernel_rfl
 i51 := by kernel_rfl
 i53 := by kernel_rfl
 i171 := by kernel_rfl
 i173 := by kernel_rfl
 i212 := by kernel_rfl
 i232 := by kernel_rfl
 i233 := by kernel_rfl
 m17 := by kernel_rfl
 m18 := by kernel_rfl
 m19 := by kernel_rfl }
open Go.RowKit Go.Sort Go.Lib in
theorem Tryd.strconv_Itoa (n : Int) (h0 : -9223372036854775808 ≤ n) (h1 : n ≤ 9223372036854775807) (w : World) (htab : Lib.TabIs Tryd.prog w "internal/strconv.uint64pow10" .u64 Lib.pow10Tab) :
  Calls Tryd.prog 31 #[.int .i64 n] w fun e w' => e = .returned (.string ⟨(Lib.itoa n).toArray⟩) ∧ ∃ k os, w' = grow (w.drewN k) os := Any.strconv_Itoa Tryd.laysM171 n h0 h1 w htab
def Tryd.lays156_ren : Go.Shelf.Ren := ⟨fun | 156 => 29 | 165 => 57 | 166 => 28 | 169 => 33 | 240 => 56 | 241 => 82 | 276 => 81 | 277 => 89 | n => n, fun | 0 => 0 | 3 => 3 | 4 => 4 | 9 => 9 | 20 => 20 | 31 => 63 | 37 => 60 | 70 => 59 | 72 => 62 | 75 => 65 | 76 => 66 | 127 => 108 | 164 => 122 | 5 => 5 | 80 => 43 | n => n, fun | n => n⟩
theorem Tryd.lays156 : Go.Proofs.Lays.n156 Tryd.prog Tryd.lays156_ren := {
 mixed := by kernel_rfl
 f156 := Tryd.func29.trans (congrArg some (by kernel_rfl))
 f165 := Tryd.func57.trans (congrArg some (by kernel_rfl))
 f166 := Tryd.func28.trans (congrArg some (by kernel_rfl))
 f169 := Tryd.func33.trans (congrArg some (by kernel_rfl))
 f240 := Tryd.func56.trans (congrArg some (by kernel_rfl))
 f241 := Tryd.func82.trans (congrArg some (by kernel_rfl))
 f276 := Tryd.func81.trans (congrArg some (by kernel_rfl))
 f277 := Tryd.func89.trans (congrArg some (by kernel_rfl))
 t0 := Tryd.underlying0
 a0 := Tryd.isAgg0
 z0 := Tryd.sizeOf0
 v0 := Tryd.zeroValue0
 t3 := Tryd.underlying3
 a3 := Tryd.isAgg3
 z3 := Tryd.sizeOf3
 v3 := Tryd.zeroValue3
 t4 := Tryd.underlying4
 a4 := Tryd.isAgg4
 z4 := Tryd.sizeOf4
 v4 := Tryd.zeroValue4
 t9 := Tryd.underlying9
 a9 := Tryd.isAgg9
 z9 := Tryd.sizeOf9
 v9 := Tryd.zeroValue9
 t20 := Tryd.underlying20
 a20 := Tryd.isAgg20
 z20 := Tryd.sizeOf20
 v20 := Tryd.zeroValue20
 t31 := Tryd.underlying63
 a31 := Tryd.isAgg63
 z31 := Tryd.sizeOf63
 v31 := Tryd.zeroValue63
 t37 := Tryd.underlying60
 a37 := Tryd.isAgg60
 z37 := Tryd.sizeOf60
 v37 := Tryd.zeroValue60
 t70 := Tryd.underlying59
 a70 := Tryd.isAgg59
 z70 := Tryd.sizeOf59
 v70 := Tryd.zeroValue59
 t72 := Tryd.underlying62
 a72 := Tryd.isAgg62
 z72 := Tryd.sizeOf62
 v72 := Tryd.zeroValue62
 t75 := Tryd.underlying65
 a75 := Tryd.isAgg65
 z75 := Tryd.sizeOf65
 v75 := Tryd.zeroValue65
 t76 := Tryd.underlying66
 a76 := Tryd.isAgg66
 z76 := Tryd.sizeOf66
 v76 := Tryd.zeroValue66
 t127 := Tryd.underlying108
 a127 := Tryd.isAgg108
 z127 := Tryd.sizeOf108
 v127 := Tryd.zeroValue108
 t164 := Tryd.underlying122
 a164 := Tryd.isAgg122
 z164 := Tryd.sizeOf122
 v164 := Tryd.zeroValue122 }
theorem Tryd.Builder_Extra_156 : Builder.Extra Tryd.prog Tryd.lays156_ren := {
 sizeBuilder := by kernel_rfl
 liesBuilder := by kernel_rfl
 t5 := Tryd.underlying5
 a5 := Tryd.isAgg5
 z5 := Tryd.sizeOf5
 v5 := Tryd.zeroValue5
 infoByte := by kernel_rfl
 cellsByte := by kernel_rfl
 sizeByte := by kernel_rfl
 neB5 := by decide }
open Go.RowKit in
theorem Tryd.strings_Join_none (a : Option Addr) (c : Nat) (sep : ByteArray) (w : World) : Calls Tryd.prog 29 #[.slice a 0 c, .string sep] w fun e w' => e = .returned (.string ⟨#[]⟩) ∧ w' = w := Any.strings_Join_none Tryd.lays156 Tryd.Builder_Extra_156 a c sep w
open Go.RowKit in
theorem Tryd.strings_Join (bk o c : Nat) (xs : List ByteArray) (sep : ByteArray) (w : World) (hcells : ∀ (j : Nat) x, xs[j]? = some x → w.cell? ⟨bk, o + j, none⟩ = some (.string x)) (hbk : bk < w.heap.size) (hN : xs.length ≤ 140737488355328) (hcap : xs.length ≤ c) (hlen : (Lib.join (xs.map (·.data.toList)) sep.data.toList).length ≤ 140737488355328) :
  Calls Tryd.prog 29 #[.slice (some ⟨bk, o, none⟩) xs.length c, .string sep] w fun e w' => e = .returned (.string ⟨(Lib.join (xs.map (·.data.toList)) sep.data.toList).toArray⟩) ∧ Below w.heap.size w w' := Any.strings_Join Tryd.lays156 Tryd.Builder_Extra_156 bk o c xs sep w hcells hbk hN hcap hlen
def Tryd.lays240_ren : Go.Shelf.Ren := ⟨fun | 240 => 56 | 276 => 81 | n => n, fun | 0 => 0 | 4 => 4 | 9 => 9 | 20 => 20 | 70 => 59 | 72 => 62 | 164 => 122 | 37 => 60 | n => n, fun | n => n⟩
theorem Tryd.lays240 : Go.Proofs.Lays.n240 Tryd.prog Tryd.lays240_ren := {
 mixed := by kernel_rfl
 f240 := Tryd.func56.trans (congrArg some (by kernel_rfl))
 f276 := Tryd.func81.trans (congrArg some (by kernel_rfl))
 t0 := Tryd.underlying0
 a0 := Tryd.isAgg0
 z0 := Tryd.sizeOf0
 v0 := Tryd.zeroValue0
 t4 := Tryd.underlying4
 a4 := Tryd.isAgg4
 z4 := Tryd.sizeOf4
 v4 := Tryd.zeroValue4
 t9 := Tryd.underlying9
 a9 := Tryd.isAgg9
 z9 := Tryd.sizeOf9
 v9 := Tryd.zeroValue9
 t20 := Tryd.underlying20
 a20 := Tryd.isAgg20
 z20 := Tryd.sizeOf20
 v20 := Tryd.zeroValue20
 t70 := Tryd.underlying59
 a70 := Tryd.isAgg59
 z70 := Tryd.sizeOf59
 v70 := Tryd.zeroValue59
 t72 := Tryd.underlying62
 a72 := Tryd.isAgg62
 z72 := Tryd.sizeOf62
 v72 := Tryd.zeroValue62
 t164 := Tryd.underlying122
 a164 := Tryd.isAgg122
 z164 := Tryd.sizeOf122
 v164 := Tryd.zeroValue122 }
theorem Tryd.X72_240 : Builder.X72 Tryd.prog Tryd.lays240_ren := {
 sizeBuilder := by kernel_rfl
 liesBuilder := by kernel_rfl }
end Go.Proofs
end
