/-
  Conditions: none.
-/
import Derived.Laws.Externs
import Derived.Laws.Cover3
import Derived.MapKept
import Derived.WalkKit
import Derived.Recover
import Derived.Test.YtgiacdhffklenaaRows
import Derived.ProofKit
import Derived.OpenShut
import Derived.ChangeOld
import Derived.SizedLaws
import Derived.Deep.SlicePairs
import Derived.Lib.SmallJoins
import Derived.Deep.Slices
import Derived.Test.YtgiacdhffklenaaProg
import Derived.Test.YtgiacdhffklenaaMah
set_option maxHeartbeats 16000000
set_option maxRecDepth 20000
section
namespace Go.Proofs.Ytgiacdhffklenaa
open Go.RowKit Go.ChangeMaps
section
variable {E : Entry} {sl : Slots} {ob : Objs} {a : Act} {w : World} {Pr : Prot} {β : Nat → Value} {κ : Nat → Nat}
variable {d : Option Nat} {t T ty : TypeId} {p : String} {af : Array Edge} {g : Option (Nat × Bool)} {x y c : Operand} {m : Int}
theorem y_bloadV {i o k : Nat} {T' : TypeId} {l l2 : List V} (hx : ev sl x = .box i o) (hf : find ob i = some (.box T' l)) (hT : aggK (ti t) = some k) (hl : (l.drop o).take k = l2) (hk : l2.length = k) (h0 : 0 < k) :
  Y E ⟨d, .load t x, T, p, af, g⟩ sl ob (.agg l2) := fun a w Pr β κ h => by
 obtain ⟨b, cs, hav, _, _, hcl, hv, hc⟩ := box_at h hx hf
 have hget : ∀ (j : Nat) (z : V), l2[j]? = some z → l[o + j]? = some z := by
  intro j z hj
  rw [← hl, List.getElem?_take] at hj
  split at hj
  ·rw [List.getElem?_drop] at hj
   exact hj
  ·cases hj
 have hlen : o + k ≤ l.length := by
  have hz : l2[k - 1]? = some (l2[k - 1]'(by omega)) := List.getElem?_eq_getElem (by omega)
  have := (List.getElem?_eq_some_iff.1 (hget _ _ hz)).1
  omega
 have hcs : ((cs.drop o).take k).length = k := by simp; omega
 have hget2 : ∀ (j : Nat) (v : Value), ((cs.drop o).take k)[j]? = some v → j < k ∧ cs[o + j]? = some v := by
  intro j v hj
  have hjl : j < k := by have := (List.getElem?_eq_some_iff.1 hj).1; omega
  rw [List.getElem?_take, if_pos hjl, List.getElem?_drop] at hj
  exact ⟨hjl, hj⟩
 refine ⟨.agg ((cs.drop o).take k).toArray, .agg _ l2 (by omega) fun j v z h1 h2 => ?_, fun w' hkept => ?_⟩
 ·exact hv _ v _ (hget2 j v h1).2 (hget j z h2)
 ·have := run_load_agg (t := t) w' (b := b) (o := o) hT hcs (fun j v hj => hc w' hkept _ v (hget2 j v hj).2)
  simp [execOp, hav, this]
end
end Go.Proofs.Ytgiacdhffklenaa
end
section
namespace Go.Proofs.Ytgiacdhffklenaa
open Go.RowKit
structure Nest (E E' : Entry) : Prop where
 n : E'.n = E.n
 below : Below E.w.heap.size E.w E'.w
 prn : ∀ b o, E'.pr b o → E.pr b o ∨ E.w.heap.size ≤ b
 lent : ∀ g, Lent E'.ob0 E'.β0 g → E.w.heap.size ≤ g
section
variable {E E' : Entry} {sl : Slots} {ob : Objs} {a : Act} {w : World} {Pr : Prot} {β : Nat → Value} {κ : Nat → Nat} {df : List Deferred}
theorem Nest.start (h : Good E sl ob a w Pr β κ) (h0 : E.ob0 = []) : Nest E ⟨w, Pr, E.n, ob, β, κ, df⟩ := by
 refine ⟨rfl, below_of h0 h, fun b o hb => ?_, ?_⟩
 ·rcases h.prn b o hb with h1 | h1 | h1
  ·exact .inl h1
  ·exact .inr h1
  ·rw [h0] at h1; exact absurd h1 lent_nil
 ·rintro g ⟨i, o, h1, h2⟩
  rcases h.own i o g h1 h2 with h3 | h3
  ·rw [h0] at h3; exact absurd h3 lent_nil
  ·exact h3
theorem Nest.below_now (hN : Nest E E') {w : World} (hu : Under (Lent E'.ob0 E'.β0) E'.w w) : Below E.w.heap.size E.w w := by
 have hs := hN.below.size
 refine ⟨hu.os.trans hN.below.os, hu.tape.trans hN.below.tape, hu.output.trans hN.below.output, Nat.le_trans hs hu.size, fun k hk => ?_⟩
 rw [hu.block k (by omega) (fun hl => by have := hN.lent k hl; omega)]
 exact hN.below.block k hk
theorem Nest.pr_now (hN : Nest E E') (h : Good E' sl ob a w Pr β κ) {b o : Nat} (hb : Pr b o) : E.pr b o ∨ E.w.heap.size ≤ b := by
 have hs := hN.below.size
 rcases h.prn b o hb with h1 | h1 | h1
 ·exact hN.prn b o h1
 ·exact .inr (by omega)
 ·exact .inr (hN.lent b h1)
theorem Good.rebase (h : Good E sl ob a w Pr β κ) (hk : ((keys ob).all fun i => Nat.ble E.n i) = true) {a' : Act} (ht : a'.tmps = a.tmps) (hd : a'.defers = df) : Good ⟨w, Pr, E.n, ob, β, κ, df⟩ sl ob a' w Pr β κ :=
 ⟨Under.refl _ _, fun _ _ _ => rfl, fun _ _ h => h, fun _ _ h => .inl h, h.prl, by rw [ht]; exact h.size, hd, fun i => by rw [ht]; exact h.slots i, h.objs, h.apart, fun i o g ho hg => .inl ⟨i, o, ho, hg⟩, fun i o ho => .inl ⟨rfl, rfl⟩, fun i o ho => Nat.le_of_ble_eq_true (List.all_eq_true.1 hk i (find_mem ho))⟩
variable {ops : Array Oper} {rest : List Oper} {Q : Exit → Act → World → Prop} {d : Nat} {ty T : TypeId} {p : String} {af : Array Edge}
theorem al_defer {x : Operand} {f : FuncId} {l : List V} {ats : Array TypeId} (hx : ev sl x = .clo (.func f) l) (hE : Fine E) (h0 : E.ob0 = []) (hdf : E.df = []) (hk : ((keys ob).all fun i => Nat.ble E.n i) = true)
  (hK : ∀ E' cs, E'.n = E.n → E'.ob0 = ob → Nest E E' → Fine E' → E'.df = [{ target := .fn (.func f) cs, args := #[] }] → cs.toList.length = l.length → (∀ (i : Nat) (v : Value) (y : V), cs.toList[i]? = some v → l[i]? = some y → RepV E'.w E'.pr E'.β0 E'.κ0 v y) → AL E' ops rest Q sl ob) :
  AL E ops (⟨none, .defer { callee := .value x, args := #[], argTypes := ats }, ty, p, af, none⟩ :: rest) Q sl ob := by
 refine ⟨fun a w hi => ?_⟩
 obtain ⟨Pr, β, κ, h⟩ := hi
 refine wpList_plain rfl fun K hKK => ?_
 have hv := good_ev h x
 rw [hx] at hv
 generalize hcv : a.eval x = v at hv
 cases hv with
 | clo _ cs _ hl hd =>
  have hrun : (execOp a.eval ⟨none, .defer { callee := .value x, args := #[], argTypes := ats }, ty, p, af, none⟩).run Try.prog w = .ok (.defer { target := .fn (.func f) cs.toArray, args := #[] }) w := by
   simp [execOp, resolve, Deferred.ofValue, hcv]
  unfold Oper.wp
  rw [hrun, Oper.upon_defer]
  have hg := h.rebase (df := { target := .fn (.func f) cs.toArray, args := #[] } :: a.defers) hk (a' := { a with defers := { target := .fn (.func f) cs.toArray, args := #[] } :: a.defers }) rfl rfl
  refine hKK _ _ ((hK ⟨w, Pr, E.n, ob, β, κ, { target := .fn (.func f) cs.toArray, args := #[] } :: a.defers⟩ cs.toArray rfl rfl (Nest.start h h0) ⟨env_now hE h, h.prl⟩ (by rw [h.defers, hdf]) (by simpa using hl) (by simpa using hd)).run _ _ ⟨Pr, β, κ, hg⟩)
end
mutual
theorem has_in : ∀ (x : V) {ks : List Nat} {i : Nat}, x.within ks = true → x.has i = true → i ∈ ks
 | .box j _, ks, i, h, hi => by
  simp only [V.within] at h
  simp only [V.has] at hi
  rw [Nat.eq_of_beq_eq_true hi]
  exact mem_iff.1 h
 | .sl j _ _, ks, i, h, hi => by
  simp only [V.within] at h
  simp only [V.has] at hi
  rw [Nat.eq_of_beq_eq_true hi]
  exact mem_iff.1 h
 | .mp j, ks, i, h, hi => by
  simp only [V.within] at h
  simp only [V.has] at hi
  rw [Nat.eq_of_beq_eq_true hi]
  exact mem_iff.1 h
 | .row j _, ks, i, h, hi => by
  simp only [V.within] at h
  simp only [V.has] at hi
  rw [Nat.eq_of_beq_eq_true hi]
  exact mem_iff.1 h
 | .agg l, _, _, h, hi => has_inL l (by simpa only [V.within] using h) (by simpa only [V.has] using hi)
 | .clo _ l, _, _, h, hi => has_inL l (by simpa only [V.within] using h) (by simpa only [V.has] using hi)
 | .mv _ l, _, _, h, hi => has_inL l (by simpa only [V.within] using h) (by simpa only [V.has] using hi)
 | .tup l, _, _, h, hi => has_inL l (by simpa only [V.within] using h) (by simpa only [V.has] using hi)
 | .und, _, _, _, hi => by simp [V.has] at hi
 | .d _, _, _, _, hi => by simp [V.has] at hi
 | .ep _ _, _, _, _, hi => by simp [V.has] at hi
theorem has_inL : ∀ (l : List V) {ks : List Nat} {i : Nat}, V.withinL ks l = true → V.hasL i l = true → i ∈ ks
 | [], _, _, _, hi => by simp [V.hasL] at hi
 | x :: l, ks, i, h, hi => by
  simp only [V.withinL, Bool.and_eq_true] at h
  simp only [V.hasL, Bool.or_eq_true] at hi
  exact hi.elim (has_in x h.1) (has_inL l h.2)
end
def ObD (f : FuncId) (args : List V) (ob : Objs) (u u' : FrameMode) (Post : Objs → Prop) : Prop :=
 FnOk f ∧ ∀ (w : World) (Pr : Prot) (vs : List Value) (β : Nat → Value) (κ : Nat → Nat), (∀ b o, Pr b o → b < w.heap.size) → EnvOk w Pr → vs.length = args.length →
  (∀ (i : Nat) (v : Value) (x : V), vs[i]? = some v → args[i]? = some x → RepV w Pr β κ v x) → (∀ i o, find ob i = some o → RepO w Pr 0 β κ i o) →
  (∀ i j oi oj g, find ob i = some oi → find ob j = some oj → blk (β i) = some g → blk (β j) = some g → i = j) →
  CallsD Try.prog f vs.toArray u w fun e u2 w' => u2 = u' ∧ PostO [] w Pr ob β κ (fun _ o => Post o) e w'
section
variable {E E0 : Entry} {sl : Slots} {ob : Objs} {Q : Exit → Act → World → Prop} {fn : Func} {R : Ending → World → Prop}
theorem aq_leave {e : Exit} {u u' : FrameMode} {f : FuncId} {cs : Array Value} {l : List V} {Post : Objs → Prop} (he : (e = .ret ∧ u = .returning) ∨ ∃ c, e = .panic c ∧ u = .panicking c) (hset : settle u' = .returning)
  (hN : Nest E0 E) (hE : Fine E) (hdf : E.df = [{ target := .fn (.func f) cs, args := #[] }]) (hcl : cs.toList.length = l.length) (hcs : ∀ (i : Nat) (v : Value) (y : V), cs.toList[i]? = some v → l[i]? = some y → RepV E.w E.pr E.β0 E.κ0 v y) (hl : V.withinL (keys E.ob0) l = true)
  (hc : ObD f l ob u u' Post) (hsl : (sl.all fun p => p.2.within (keys ob)) = true) (hk : ((keys ob).all fun i => Nat.ble E.n i) = true)
  (hK : ∀ E'' ob', E''.df = [] → E''.n = E.n → Nest E0 E'' → Post ob' → AQ E'' .ret (bodyPost Try.prog fn R) sl ob') (hout : ∀ w, ¬ R .outgrown w → True) : AQ E e (bodyPostD Try.prog fn R) sl ob := by
 have _ := hout
 refine ⟨fun a w hi => ?_⟩
 obtain ⟨Pr, β, κ, h⟩ := hi
 have hgoal : Leaves Try.prog fn a.tmps R a.defers u w := by
  rw [h.defers, hdf]
  have hne : u ≠ .run := by
   rcases he with ⟨_, rfl⟩ | ⟨c, _, rfl⟩ <;> simp
  have hcs' : ∀ (i : Nat) (v : Value) (y : V), cs.toList[i]? = some v → l[i]? = some y → RepV w Pr β κ v y := fun i v y h1 h2 => by
   refine ((hcs i v y h1 h2).keep h.st0 h.pr0).chg (fun j hj => ?_)
   obtain ⟨o, ho⟩ := find_of_mem (has_inL l hl (by
    have : ∀ (l : List V) (i : Nat), l[i]? = some y → V.hasL j l = true := by
     intro l
     induction l with
     | nil => intro i h; simp at h
     | cons x r ih =>
      intro i h
      simp only [V.hasL, Bool.or_eq_true]
      cases i with
      | zero => simp at h; subst h; exact .inl hj
      | succ i => exact .inr (ih i (by simpa using h))
    exact this l i h2))
   exact h.keeps j o ho
  refine leaves_cons (f := f) (args := cs.toList.toArray) hne (by simp [invoke, run_callFunc hc.1]) ?_
  refine (hc.2 w Pr cs.toList β κ h.prl (env_now hE h) hcl hcs' h.objs h.apart).mono fun e2 u2 w' ⟨hu2, v, x, ob', Pr', β', κ', he2, hp, hA⟩ => ?_
  subst hu2 he2
  show Leaves Try.prog fn a.tmps R [] (settle _) w'
  rw [hset]
  -- the state behind the closure
  have hch : ∀ (v : Value) (z : V), RepV w Pr β κ v z → z.within (keys ob) = true → RepV w' Pr' β' κ' v z := fun v z hz hw => (hz.keep hA.st hA.pr0).chg (fun j hj => by
   obtain ⟨o, ho⟩ := find_of_mem (has_in z hw hj)
   exact hA.keeps j o ho)
  have hlook : ∀ i, (look sl i).within (keys ob) = true := by
   intro i
   have : ∀ (s : Slots), (s.all fun p => p.2.within (keys ob)) = true → (look s i).within (keys ob) = true := by
    intro s
    induction s with
    | nil => intro _; rfl
    | cons q s ih =>
     obtain ⟨j, y⟩ := q
     intro hs
     simp only [List.all_cons, Bool.and_eq_true] at hs
     by_cases hij : i = j
     ·subst hij; rw [look_eq]; exact hs.1
     ·rw [look_ne hij]; exact ih hs.2
   exact this sl hsl
  have hown : ∀ i o g, find ob i = some o → blk (β i) = some g → E0.w.heap.size ≤ g := fun i o g h1 h2 => by
   have := hN.below.size
   rcases h.own i o g h1 h2 with h3 | h3
   ·exact hN.lent g h3
   ·omega
  have hs0 := (hN.below_now h.below).size
  have hG : Good ⟨w', Pr', E.n, ob', β', κ', []⟩ sl ob' { a with defers := [] } w' Pr' β' κ' :=
   ⟨Under.refl _ _, fun _ _ _ => rfl, fun _ _ h => h, fun _ _ h => .inl h, hA.prl, h.size, rfl, fun i => hch _ _ (h.slots i) (hlook i), hA.objs, hA.apart, fun i o g ho hg => .inl ⟨i, o, ho, hg⟩, fun i o ho => .inl ⟨rfl, rfl⟩, fun i o ho => by
    have h1 := (hA.wo i o ho).1
    rw [List.append_nil] at h1
    exact Nat.le_of_ble_eq_true (List.all_eq_true.1 hk i h1)⟩
  have hN' : Nest E0 ⟨w', Pr', E.n, ob', β', κ', []⟩ := by
   refine ⟨hN.n, ?_, fun b o hb => ?_, ?_⟩
   ·refine ⟨hA.under.os.trans (hN.below_now h.below).os, hA.under.tape.trans (hN.below_now h.below).tape, hA.under.output.trans (hN.below_now h.below).output, Nat.le_trans hs0 hA.under.size, fun k hk => ?_⟩
    rw [hA.under.block k (by omega) (fun ⟨i, o, h1, h2⟩ => by have := hown i o k h1 h2; omega)]
    exact (hN.below_now h.below).block k hk
   ·rcases hA.prn b o hb with h1 | h1 | ⟨i, o', h1, h2⟩
    ·exact hN.pr_now h h1
    ·exact .inr (by omega)
    ·exact .inr (hown i o' b h1 h2)
   ·rintro g ⟨i, o, h1, h2⟩
    rcases hA.own i o g h1 h2 with ⟨i', o', h3, h4⟩ | h3
    ·exact hown i' o' g h3 h4
    ·show _ ≤ g
     omega
  have h2 := (hK ⟨w', Pr', E.n, ob', β', κ', []⟩ ob' rfl rfl hN' hp).run { a with defers := [] } w' ⟨Pr', β', κ', hG⟩
  exact h2.2
 rcases he with ⟨rfl, rfl⟩ | ⟨c, rfl, rfl⟩
 ·exact hgoal
 ·exact hgoal
theorem pure_enterD {f : FuncId} {fn : Func} {c : Code} {ds : List D} {Post : D → Prop} (hf : Try.prog.funcs[f]? = some fn) (hb : fn.body = some c) (hn : (fn.name == "runtime.NumGoroutine") = false) (N : Nat) (hN : fn.ntmps = N) (hl : ds.length ≤ N)
  (h : ∀ w Pr, Fine ⟨w, Pr, N, [], fun _ => .nilFunc, fun _ => 0, []⟩ → AW ⟨w, Pr, N, [], fun _ => .nilFunc, fun _ => 0, []⟩ c (bodyPostD Try.prog fn (PostR w Pr Post)) (slotsOf 0 ds) []) : PureC f ds Post := by
 refine ⟨⟨fn, hf, hn, by simp [hb]⟩, fun w Pr vs h1 h2 h3 h4 => calls_of_wp_defers hf hb ?_⟩
 subst hN
 refine (h w Pr ⟨h2, h1⟩).run _ _ ⟨Pr, fun _ => .nilFunc, fun _ => 0, Under.refl _ _, fun _ _ _ => rfl, fun _ _ h => h, fun _ _ h => .inl h, h1, ?_, rfl, fun i => ?_, fun i o ho => by simp [find] at ho, fun i j oi oj g ho => by simp [find] at ho, fun i o g ho => by simp [find] at ho, fun i o ho => by simp [find] at ho, fun i o ho => by simp [find] at ho⟩
 ·simp [h3]; omega
 ·rw [look_slotsOf]
  simp only [Nat.zero_le, if_true, Nat.sub_zero]
  cases hd : ds[i]? with
  | none => exact .und _
  | some d =>
   have hi : i < vs.length := by rw [h3]; exact (List.getElem?_eq_some_iff.1 hd).1
   have hv : vs[i]? = some vs[i] := List.getElem?_eq_getElem hi
   refine .d _ _ ?_
   have : (vs.toArray ++ Array.replicate (fn.ntmps - vs.toArray.size) undef).getD i undef = vs[i] := by
    rw [Array.getD_eq_getD_getElem?, Array.getElem?_append_left (by simpa using hi)]
    simp [hi]
   rw [this]
   exact h4 i _ d hv hd
end
section
variable {E : Entry} {sl : Slots} {ob : Objs} {Q : Exit → Act → World → Prop}
theorem aq_ends {fn : Func} {c₀ : Frame} {cs : List Frame} {u : FrameMode} {new : List Nat} {Post : Objs → Prop} {e : Exit} (he : e = .ret ∨ e = .normal) (ob' : Objs) (hr : fn.results = #[]) (hp : Post ob') (ho : ∀ p ∈ ob', find ob p.1 = some p.2) (hw : okOut E.ob0 new (.tup []) ob' = true) (hdf : E.df = [] := by rfl) :
  AQ E e (fun e a w => bodyPostS Try.prog fn c₀ cs (fun e u2 w' => u2 = u ∧ PostO new E.w E.pr E.ob0 E.β0 E.κ0 (fun _ o => Post o) e w') e a ({ c₀ with mode := u } :: cs) w) sl ob := by
 refine ⟨fun a w ⟨Pr, β, κ, h⟩ => ?_⟩
 have hrun : (results fn a.tmps).run Try.prog w = .ok (.tuple #[]) w := by
  rw [results_eq, hr]
  simp
 have hmain : a.defers = [] ∧ ∃ u', ({ c₀ with mode := u } :: cs : List Frame) = { c₀ with mode := u' } :: cs ∧ ∃ v, (results fn a.tmps).run Try.prog w = .ok v w ∧ (u' = u ∧ PostO new E.w E.pr E.ob0 E.β0 E.κ0 (fun _ o => Post o) (.returned v) w) :=
  ⟨h.defers.trans hdf, u, rfl, _, hrun, rfl, _, _, ob', Pr, β, κ, rfl, hp, after_of h (.tup [] [] rfl (by simp)) ho hw⟩
 rcases he with rfl | rfl
 ·exact hmain
 ·exact hmain
theorem Good.start {w : World} {Pr : Prot} {N : Nat} {ob : Objs} {β : Nat → Value} {κ : Nat → Nat} {args : List V} {vs : List Value} (hl : args.length ≤ N) (hfr : ((keys ob).all fun i => Nat.ble N i) = true) (h1 : ∀ b o, Pr b o → b < w.heap.size) (h3 : vs.length = args.length)
  (h4 : ∀ (i : Nat) (v : Value) (x : V), vs[i]? = some v → args[i]? = some x → RepV w Pr β κ v x) (h5 : ∀ i o, find ob i = some o → RepO w Pr 0 β κ i o)
  (h6 : ∀ i j oi oj g, find ob i = some oi → find ob j = some oj → blk (β i) = some g → blk (β j) = some g → i = j) : Good ⟨w, Pr, N, ob, β, κ, []⟩ (slotsV 0 args) ob { tmps := vs.toArray ++ Array.replicate (N - vs.toArray.size) undef, defers := [] } w Pr β κ := by
 refine ⟨Under.refl _ _, fun _ _ _ => rfl, fun _ _ h => h, fun _ _ h => .inl h, h1, ?_, rfl, fun i => ?_, h5, h6, fun i o g ho hg => .inl ⟨i, o, ho, hg⟩, fun i o ho => .inl ⟨rfl, rfl⟩, fun i o ho => ?_⟩
 ·simp [h3]; omega
 ·rw [look_slotsV]
  simp only [Nat.zero_le, if_true, Nat.sub_zero]
  cases hd : args[i]? with
  | none => exact .und _
  | some d =>
   have hi : i < vs.length := by rw [h3]; exact (List.getElem?_eq_some_iff.1 hd).1
   have hv : vs[i]? = some vs[i] := List.getElem?_eq_getElem hi
   have : (vs.toArray ++ Array.replicate (N - vs.toArray.size) undef).getD i undef = vs[i] := by
    rw [Array.getD_eq_getD_getElem?, Array.getElem?_append_left (by simpa using hi)]
    simp [hi]
   rw [this]
   exact h4 i _ d hv hd
 ·exact Nat.le_of_ble_eq_true (List.all_eq_true.1 hfr i (find_mem ho))
variable {d : Option Nat} {t ty T : TypeId} {p : String} {af : Array Edge} {g : Option (Nat × Bool)} {x : Operand}
theorem y_ifnil (hx : ev sl x = .d (.val .nilIface)) (ht : ∃ ms, Try.prog.underlying t = some (.interface ms)) : Y E ⟨d, .binOp .neq t x (.const .nilIface) ty, T, p, af, g⟩ sl ob (.d (.val (.bool false))) := fun a w Pr β κ h => by
 obtain ⟨ms, ht⟩ := ht
 have hc : a.eval (.const Value.nilIface) = Value.nilIface := rfl
 refine ⟨_, .d _ _ (.val _), fun w' _ => ?_⟩
 have h1 : (Op.equalIn Op.maxDepth t .nilIface .nilIface).run Try.prog w' = .ok true w' := by
  have : ∀ d : Nat, (Op.equalIn (d + 1) t .nilIface .nilIface).run Try.prog w' = .ok true w' := fun d => by simp [Op.equalIn, run_underlying ht]
  exact this 9999
 simp [execOp, good_val h hx, hc, eqGuard_nil_constR, binOp, Op.equal, h1]
end
end Go.Proofs.Ytgiacdhffklenaa
end
section
namespace Go.Proofs.Ytgiacdhffklenaa
open Go.RowKit
section
variable {E : Entry} {sl : Slots} {ob : Objs} {Q : Exit → Act → World → Prop} {K : Act → World → Prop} {T t ty : TypeId} {p : String} {af : Array Edge} {ops : Array Oper} {rest : List Oper} {z : D} {id : Nat} {dd : Option Nat} {g : Option (Nat × Bool)}
theorem y_ifc {x : Operand} {td : TypeDesc} (hx : ToD ob (ev sl x) z) (hT : Try.prog.underlying t = some td) (hnt : (match td with | .interface _ => false | _ => true) = true) : Y E ⟨dd, .makeInterface t x, T, p, af, g⟩ sl ob (.d (.ifc t z)) := fun a w Pr β κ hg => by
 have h1 := toD_rep hg hx _ (good_ev hg x)
 refine ⟨_, .d _ _ (.ifc t _ _ h1), fun w' _ => ?_⟩
 simp only [execOp, Instr.makeInterface, Sem.run_bind, run_underlying hT]
 cases td <;> first | rfl | cases hnt
theorem ifc_inv {w : World} {Pr : Prot} {v : Value} (h : RepD w Pr v (.ifc T z)) : ∃ u, v = .iface T u ∧ RepD w Pr u z := by
 cases h with
 | ifc _ u _ h => exact ⟨u, rfl, h⟩
theorem ifc_ev {x : Operand} {a : Act} {w : World} {Pr : Prot} {β : Nat → Value} {κ : Nat → Nat} (hx : ev sl x = .d (.ifc T z)) (hg : Good E sl ob a w Pr β κ) : ∃ u, a.eval x = .iface T u ∧ RepD w Pr u z := by
 have h1 := good_ev hg x
 rw [hx] at h1
 exact ifc_inv h1.d_inv
theorem y_ifcneq {T' : TypeId} {x : Operand} (hx : ev sl x = .d (.ifc T z)) (ht : ∃ ms, Try.prog.underlying t = some (.interface ms)) : Y E ⟨dd, .binOp .neq t x (.const .nilIface) ty, T', p, af, g⟩ sl ob (.d (.val (.bool true))) := fun a w Pr β κ h => by
 obtain ⟨ms, ht⟩ := ht
 obtain ⟨u, hu, _⟩ := ifc_ev hx h
 have hc : a.eval (.const Value.nilIface) = Value.nilIface := rfl
 refine ⟨_, .d _ _ (.val _), fun w' _ => ?_⟩
 have h1 : (Op.equalIn Op.maxDepth t (.iface T u) .nilIface).run Try.prog w' = .ok false w' := by
  have : ∀ d : Nat, (Op.equalIn (d + 1) t (.iface T u) .nilIface).run Try.prog w' = .ok false w' := fun d => by simp [Op.equalIn, run_underlying ht]
  exact this 9999
 simp [execOp, hu, hc, eqGuard_at_iface, binOp, Op.equal, h1]
theorem y_assertD {x : Operand} {xt : TypeId} {td : TypeDesc} (hx : ev sl x = .d (.ifc T z)) (hT : Try.prog.underlying T = some td) (hnt : (match td with | .interface _ => false | _ => true) = true) : Y E ⟨dd, .typeAssert x xt T false, ty, p, af, g⟩ sl ob (.d z) := fun a w Pr β κ h => by
 obtain ⟨u, hu, hr⟩ := ifc_ev hx h
 refine ⟨u, .d _ _ hr, fun w' _ => ?_⟩
 simp only [execOp, hu, Instr.typeAssert, Sem.run_bind, run_underlying hT]
 cases td <;> first | (simp; done) | cases hnt
structure AQD (E : Entry) (T : TypeId) (z : D) (Q : Exit → Act → World → Prop) (sl : Slots) (ob : Objs) : Prop where
 run : ∀ (u : Value) a w Pr β κ, Good E sl ob a w Pr β κ → RepD w Pr u z → Q (.panic [{ v := .iface T u, recovered := false }]) a w
theorem aqd_then (h : AQD E T z Q sl ob) : AQD E T z (Exit.then K Q) sl ob := ⟨h.run⟩
theorem aqd_block (h : AQD E T z Q sl ob) : AQD E T z (Exit.inBlock id Q) sl ob := ⟨h.run⟩
theorem aqd_less {sl' : Slots} {ob' : Objs} (hs : ∀ p ∈ sl', look sl p.1 = p.2) (ho : ∀ p ∈ ob', find ob p.1 = some p.2) (h : AQD E T z Q sl' ob') : AQD E T z Q sl ob := ⟨fun u a w Pr β κ hg hr => h.run u a w Pr β κ (hg.less hs ho) hr⟩
theorem al_panicD {x : Operand} (hx : ev sl x = .d (.ifc T z)) (h : AQD E T z Q sl ob) : AL E ops (⟨dd, .panic x, ty, p, af, none⟩ :: rest) Q sl ob := by
 refine ⟨fun a w hi => ?_⟩
 obtain ⟨Pr, β, κ, hg⟩ := hi
 refine wpList_plain rfl fun K hKK => ?_
 obtain ⟨u, hu, hr⟩ := ifc_ev hx hg
 have hrun : (execOp a.eval ⟨dd, .panic x, ty, p, af, none⟩).run Try.prog w = .halt (.panic (.iface T u)) w := by
  simp [execOp, hu, Instr.panic, goPanic]
 unfold Oper.wp
 rw [hrun, Oper.upon_panic]
 exact h.run u a w Pr β κ hg hr
def PostPD (w : World) (Pr : Prot) (T : TypeId) (Post Bad : D → Prop) : Ending → World → Prop := fun e w' =>
 PostR w Pr Post e w' ∨ ∃ u z, e = .panicked [{ v := .iface T u, recovered := false }] ∧ Bad z ∧ RepD w' (PrNew Pr w w') u z ∧ Below w.heap.size w w'
def PureP (f : FuncId) (ds : List D) (T : TypeId) (Post Bad : D → Prop) : Prop :=
 FnOk f ∧ ∀ (w : World) (Pr : Prot) (vs : List Value), (∀ b o, Pr b o → b < w.heap.size) → EnvOk w Pr → vs.length = ds.length → (∀ (i : Nat) (v : Value) (d : D), vs[i]? = some v → ds[i]? = some d → RepD w Pr v d) →
  Calls Try.prog f vs.toArray w (PostPD w Pr T Post Bad)
theorem PureP.ok {f : FuncId} {ds : List D} {Post Bad : D → Prop} (h : PureP f ds T Post Bad) (hb : ∀ z, ¬ Bad z) : PureC f ds Post :=
 ⟨h.1, fun w Pr vs h1 h2 h3 h4 => (h.2 w Pr vs h1 h2 h3 h4).mono fun _ _ k => k.resolve_right (fun ⟨_, z, _, b, _⟩ => hb z b)⟩
theorem PureP.mono {f : FuncId} {ds : List D} {P P' B B' : D → Prop} (h : PureP f ds T P B) (hp : ∀ r, P r → P' r) (hb : ∀ r, B r → B' r) : PureP f ds T P' B' :=
 ⟨h.1, fun w Pr vs h1 h2 h3 h4 => (h.2 w Pr vs h1 h2 h3 h4).mono fun _ _ k => k.imp (fun ⟨v, r, e1, e2, e3, e4⟩ => ⟨v, r, e1, hp r e2, e3, e4⟩) (fun ⟨u, z, e1, e2, e3, e4⟩ => ⟨u, z, e1, hb z e2, e3, e4⟩)⟩
theorem purep_enter {f : FuncId} {fn : Func} {c : Code} {ds : List D} {Post Bad : D → Prop} (hf : Try.prog.funcs[f]? = some fn) (hb : fn.body = some c) (hn : (fn.name == "runtime.NumGoroutine") = false) (N : Nat) (hN : fn.ntmps = N) (hl : ds.length ≤ N)
  (h : ∀ w Pr, Fine ⟨w, Pr, N, [], fun _ => .nilFunc, fun _ => 0, []⟩ → AW ⟨w, Pr, N, [], fun _ => .nilFunc, fun _ => 0, []⟩ c (bodyPost Try.prog fn (PostPD w Pr T Post Bad)) (slotsOf 0 ds) []) : PureP f ds T Post Bad := by
 refine ⟨⟨fn, hf, hn, by simp [hb]⟩, fun w Pr vs h1 h2 h3 h4 => calls_of_wp hf hb ?_⟩
 subst hN
 refine (h w Pr ⟨h2, h1⟩).run _ _ ⟨Pr, fun _ => .nilFunc, fun _ => 0, Under.refl _ _, fun _ _ _ => rfl, fun _ _ h => h, fun _ _ h => .inl h, h1, ?_, rfl, fun i => ?_, fun i o ho => by simp [find] at ho, fun i j oi oj g ho => by simp [find] at ho, fun i o g ho => by simp [find] at ho, fun i o ho => by simp [find] at ho, fun i o ho => by simp [find] at ho⟩
 ·simp [h3]; omega
 ·rw [look_slotsOf]
  simp only [Nat.zero_le, if_true, Nat.sub_zero]
  cases hd : ds[i]? with
  | none => exact .und _
  | some d =>
   have hi : i < vs.length := by rw [h3]; exact (List.getElem?_eq_some_iff.1 hd).1
   have hv : vs[i]? = some vs[i] := List.getElem?_eq_getElem hi
   refine .d _ _ ?_
   have : (vs.toArray ++ Array.replicate (fn.ntmps - vs.toArray.size) undef).getD i undef = vs[i] := by
    rw [Array.getD_eq_getD_getElem?, Array.getElem?_append_left (by simpa using hi)]
    simp [hi]
   rw [this]
   exact h4 i _ d hv hd
theorem aqd_body {fn : Func} {Post Bad : D → Prop} (hb : Bad z) (h0 : E.ob0 = [] := by rfl) (hdf : E.df = [] := by rfl) : AQD E T z (bodyPost Try.prog fn (PostPD E.w E.pr T Post Bad)) sl ob :=
 ⟨fun u a w Pr β κ hg hr => ⟨hg.defers.trans hdf, .inr ⟨u, z, rfl, hb, hr.keep (fun _ _ _ => rfl) (prNew_of h0 hg), below_of h0 hg⟩⟩⟩
theorem aq_pd {e : Exit} {fn : Func} {w : World} {Pr : Prot} {Post Bad : D → Prop} (h : AQ E e (bodyPost Try.prog fn (PostR w Pr Post)) sl ob) : AQ E e (bodyPost Try.prog fn (PostPD w Pr T Post Bad)) sl ob := by
 refine ⟨fun a w hi => ?_⟩
 have h1 := h.run a w hi
 cases e with
 | normal => exact ⟨h1.1, h1.2.imp fun v h => ⟨h.1, .inl h.2⟩⟩
 | ret => exact ⟨h1.1, h1.2.imp fun v h => ⟨h.1, .inl h.2⟩⟩
 | panic c => exact ⟨h1.1, .inl h1.2⟩
 | outgrown => exact .inl h1
 | exit id => exact h1.elim
 | goto id => exact h1.elim
variable {d : Nat}
theorem al_pcallD {f : FuncId} {ds : List D} {Post Bad : D → Prop} {c : Operand} {xs : List Operand} {ats : Array TypeId} (hc : PureP f ds T Post Bad) (hf : ev sl c = .d (.val (.func (.func f) #[] #[]))) (hE : Fine E) (hd : d < E.n) (ha : ArgsD sl ob xs ds)
  (hP : ∀ z, Bad z → AQD E T z Q sl ob) (hK : ∀ r, Post r → AL E ops rest Q ((d, .d r) :: sl) ob) : AL E ops (⟨some d, .call { callee := .value c, args := xs.toArray, argTypes := ats }, ty, p, af, none⟩ :: rest) Q sl ob := by
 refine ⟨fun a w hi => ?_⟩
 obtain ⟨Pr, β, κ, h⟩ := hi
 refine wpList_plain rfl fun K hKK => ?_
 obtain ⟨hl, hr⟩ := ha.rep h
 have hcall := hc.2 w Pr (xs.map a.eval) h.prl (env_now hE h) hl hr
 have hrun : (execOp a.eval ⟨some d, .call { callee := .value c, args := xs.toArray, argTypes := ats }, ty, p, af, none⟩).run Try.prog w = .ok (.enter f (xs.map a.eval).toArray) w := by
  simp [execOp, resolve, Deferred.ofValue, invoke, good_val h hf, run_callFunc hc.1]
 unfold Oper.wp
 rw [hrun, Oper.upon_enter]
 refine hcall.mono fun e w' hpost => ?_
 rcases hpost with ⟨v, r, he, hp, hrep, hb⟩ | ⟨u, z, he, hz, hrep, hb⟩
 ·subst he
  exact hKK _ _ ((hK r hp).run _ _ ⟨_, β, κ, h.called hb hrep hd⟩)
 ·subst he
  exact (hP z hz).run u a w' _ β κ (h.grow hb (fun _ _ k => .inl k) (fun _ _ k => k)) hrep
end
structure APD (E : Entry) (T : TypeId) (z : D) (Q : Exit → Act → World → Prop) : Prop where
 run : ∀ (u : Value) a w, a.defers = E.df → Below E.w.heap.size E.w w → RepD w (PrNew E.pr E.w w) u z → Q (.panic [{ v := .iface T u, recovered := false }]) a w
def PanD (E : Entry) (T : TypeId) (B : D → Prop) (Q : Exit → Act → World → Prop) : Exit → Act → World → Prop
 | .panic c, a, w => ∃ u z, c = [{ v := .iface T u, recovered := false }] ∧ B z ∧ a.defers = E.df ∧ Below E.w.heap.size E.w w ∧ RepD w (PrNew E.pr E.w w) u z
 | e, a, w => Q e a w
section
variable {E : Entry} {sl sl0 sl' : Slots} {ob ob0 ob' : Objs} {ops : List Oper} {pl : List (Nat × Bool × Oper)} {tail : (World → Prop) → Act → World → Prop} {Q : Exit → Act → World → Prop} {K : Act → World → Prop} {i d id : Nat} {T ty : TypeId} {z : D} {B : D → Prop} {p : String} {af : Array Edge} {g : Option (Nat × Bool)}
theorem apd_then (h : APD E T z Q) : APD E T z (Exit.then K Q) := ⟨h.run⟩
theorem apd_block (h : APD E T z Q) : APD E T z (Exit.inBlock id Q) := ⟨h.run⟩
theorem apd_body {fn : Func} {Post Bad : D → Prop} (hb : Bad z) (hdf : E.df = [] := by rfl) : APD E T z (bodyPost Try.prog fn (PostPD E.w E.pr T Post Bad)) :=
 ⟨fun u _ _ hd hx hr => ⟨hd.trans hdf, .inr ⟨u, z, rfl, hb, hr, hx⟩⟩⟩
theorem apd_pand (hb : B z) : APD E T z (PanD E T B Q) := ⟨fun u _ _ hd hx hr => ⟨u, z, rfl, hb, hd, hx, hr⟩⟩
theorem PanD.imp (hB : ∀ z, B z → APD E T z Q) : ∀ (e : Exit) (a : Act) (w : World), PanD E T B Q e a w → Q e a w := fun e a w h => by
 cases e with
 | panic c =>
  obtain ⟨u, z, rfl, hb, hd, hx, hr⟩ := h
  exact (hB z hb).run u a w hd hx hr
 | _ => exact h
theorem aq_pandn (h : AQ E .normal Q sl ob) : AQ E .normal (PanD E T B Q) sl ob := ⟨fun a w hi => h.run a w hi⟩
theorem am_pcallD {f : FuncId} {ds : List D} {Post Bad : D → Prop} {c : Operand} {xs : List Operand} {ats : Array TypeId} (hc : PureP f ds T Post Bad) (hw : Want ops sl true g) (hf : ev sl c = .d (.val (.func (.func f) #[] #[]))) (hE : Fine E) (hd : d < E.n) (ha : ArgsD sl ob xs ds) (h00 : E.ob0 = []) (hP : ∀ z, Bad z → APD E T z Q)
  (hK : ∀ r, Post r → AM E ops tail Q pl ((d, flat r) :: sl0) ob0 ((d, .d r) :: sl) ob) : AM E ops tail Q ((i, false, ⟨some d, .call { callee := .value c, args := xs.toArray, argTypes := ats }, ty, p, af, g⟩) :: pl) sl0 ob0 sl ob := by
 refine ⟨fun a w0 w Pr Pr1 β β1 κ κ1 h0 h1 hn => ?_⟩
 refine mix_move (hw.is h1) (fun K hKK => ?_)
 obtain ⟨hl, hr⟩ := ha.rep h1
 have hcall := hc.2 w Pr1 (xs.map a.eval) h1.prl (env_now hE h1) hl hr
 have hrun : (execOp a.eval ⟨some d, .call { callee := .value c, args := xs.toArray, argTypes := ats }, ty, p, af, g⟩).run Try.prog w = .ok (.enter f (xs.map a.eval).toArray) w := by
  simp [execOp, resolve, Deferred.ofValue, invoke, good_val h1 hf, run_callFunc hc.1]
 unfold Oper.wp
 rw [hrun, Oper.upon_enter]
 refine hcall.mono fun e w' hpost => ?_
 rcases hpost with ⟨v, r, he, hpo, hrep, hb⟩ | ⟨u, z, he, hz, hrep, hb⟩
 ·subst he
  have hn2 := hn.grow (Pr2 := PrNew Pr1 w w') h1 hb (fun _ _ h => .inl h)
  refine hKK.out _ _ hn2.kept fun _ => (hK r hpo).run _ w0 w' Pr _ β β1 κ κ1 (h0.put hd ?_) (h1.called hb hrep hd) hn2
  exact rep_flat hrep
 ·subst he
  have hG : Good E sl ob a w' (PrNew Pr1 w w') β1 κ1 := h1.grow hb (fun _ _ k => .inl k) (fun _ _ k => k)
  exact (hP z hz).run u a w' hG.defers (below_of h00 hG) (hrep.keep (fun _ _ _ => rfl) (prNew_of h00 hG))
theorem aw_treep (T : TypeId) (B : D → Prop) (t : Tree) (tl : List Nat) (ob0 : Objs) (sl' : Slots) (ob' : Objs) (hs : Region.noSelect ops.toArray = true) (hw : waitsAll ops.toArray tl = true) (hok : treeOk ops.toArray tl t (Array.replicate ops.length false) = true) (hna : t.isAlt = false) (hlen : t.height + tl.length ≤ ops.length)
  (ho : ∀ p ∈ ob0, find ob p.1 = some p.2) (hB : ∀ z, B z → APD E T z Q)
  (h : AL E ops.toArray (tailed ops tl) (PanD E T B Q) sl' ob' → AM E ops (treeR ops (tailed ops tl) (PanD E T B Q) t) (PanD E T B Q) [] sl ob0 sl ob) (hrest : AL E ops.toArray (tailed ops tl) (PanD E T B Q) sl' ob') : AW E (.region id ops.toArray true) Q sl ob := by
 have h := h hrest
 refine ⟨fun a w hi => ?_⟩
 obtain ⟨Pr, β, κ, hg⟩ := hi
 have hg2 : Good E sl ob a w.drew Pr β κ := hg.grow (Below.refl _ _).drew (fun _ _ h => h) (fun _ _ h => .inl h)
 have hf := find_sub ho
 have hg3 : Good E sl ob0 a w.drew Pr β κ := ⟨hg2.below, hg2.st0, hg2.pr0, hg2.prn, hg2.prl, hg2.size, hg2.defers, hg2.slots, fun i o hi => hg2.objs i o (hf i o hi), fun i j oi oj g h1 h2 => hg2.apart i j oi oj g (hf i oi h1) (hf j oj h2), fun i o g h1 => hg2.own i o g (hf i o h1), hg2.keeps, hg2.fresh⟩
 refine Code.wp_mono (PanD.imp hB) ?_
 refine wp_region_any follows_mixed (any_of_anyT (S := Kept Pr β ob0 w.drew) (tail := tl) _ _ _ _ ?_)
 have := (anyT_of_tree (P := Try.prog) (S := Kept Pr β ob0 w.drew) (Q := PanD E T B Q) hs hw (fun c a d v w ⟨u, z, e, hb, hd, hx, hr⟩ => ⟨u, z, e, hb, by cases d <;> exact hd, hx, hr⟩) t ops.length (Array.replicate ops.length false) a w.drew hok hlen (Kept.refl _ _ _ _) (mix_of (h.run a w.drew w.drew Pr Pr β β κ κ hg3 hg2 ⟨Kept.refl _ _ _ _, fun _ _ h => h, .refl _ _, fun i o h => ⟨hf i o h, rfl⟩⟩))).1 hna
 simpa using this
end
theorem al_never {E : Entry} {sl : Slots} {ob : Objs} {ops : Array Oper} {rest : List Oper} {Q : Exit → Act → World → Prop} (j : Nat) (hj : look sl j = .d (.list 1 [[]])) : AL E ops rest Q sl ob := by
 refine ⟨fun a w hi => ?_⟩
 obtain ⟨Pr, β, κ, h⟩ := hi
 have h1 := h.slots j
 rw [hj] at h1
 have h2 := h1.d_inv
 generalize a.tmps.getD j undef = v at h2
 exfalso
 cases h2 with
 | list b o n c s l u hn hs hc hm hr hd =>
  have := hs [] (by simp)
  simp at this
theorem exec_recover2 {a : Act} {t : Nat} {T : TypeId} {p : String} {af : Array Edge} {w : World} : (execOp a.eval ⟨some t, .call { callee := .builtin .recover, args := #[], argTypes := #[] }, T, p, af, none⟩).run Try.prog w = .ok .recover w := by
 simp [execOp, resolve, invoke, builtin]
theorem ops_recover2 {t : Nat} {T : TypeId} {p : String} {af : Array Edge} {o1 : Oper} (hg : o1.guard = none) {Q : Exit → Act → List Frame → World → Prop} {a : Act} {c₀ : Frame} {cs cs' : List Frame} {w : World} {v : Value} (hr : (recoverD (c₀ :: cs) = some (v, cs')) ∨ (recoverD (c₀ :: cs) = none ∧ v = .nilIface ∧ cs' = c₀ :: cs))
  (h : o1.wp Try.prog (a.put (some t) v) w (fun a' w' => Q .normal a' cs' w') (fun e a' w' => Q e a' cs' w')) : wpOpsS Try.prog #[⟨some t, .call { callee := .builtin .recover, args := #[], argTypes := #[] }, T, p, af, none⟩, o1] Q (List.range 2) a (c₀ :: cs) w := by
 have hw1 : ∀ ys, Region.wanted o1 ys = true := fun ys => by simp [Region.wanted, hg]
 have h2 : wpOpsS Try.prog #[⟨some t, .call { callee := .builtin .recover, args := #[], argTypes := #[] }, T, p, af, none⟩, o1] Q [1] (a.put (some t) v) cs' w := by
  unfold wpOpsS
  simp only [show (#[⟨some t, .call { callee := .builtin .recover, args := #[], argTypes := #[] }, T, p, af, none⟩, o1] : Array Oper)[1]? = some o1 from rfl, hw1, if_true]
  unfold Oper.wp at h
  generalize (execOp (a.put (some t) v).eval o1).run Try.prog w = r at h
  split
  ·exact (h : False).elim
  ·exact h
 show wpOpsS _ _ _ [0, 1] _ _ _
 unfold wpOpsS
 simp only [show (#[⟨some t, .call { callee := .builtin .recover, args := #[], argTypes := #[] }, T, p, af, none⟩, o1] : Array Oper)[0]? = some ⟨some t, .call { callee := .builtin .recover, args := #[], argTypes := #[] }, T, p, af, none⟩ from rfl, exec_recover2]
 rw [if_pos (by rfl)]
 rcases hr with hr | ⟨hr, rfl, rfl⟩
 ·rw [hr]
  exact h2
 ·rw [hr]
  exact h2
def ObDD (f : FuncId) (args : List V) (ob : Objs) (T : TypeId) (z : D) (Post : Objs → Prop) : Prop :=
 FnOk f ∧ ∀ (w : World) (Pr : Prot) (vs : List Value) (β : Nat → Value) (κ : Nat → Nat) (u : Value), (∀ b o, Pr b o → b < w.heap.size) → EnvOk w Pr → vs.length = args.length →
  (∀ (i : Nat) (v : Value) (x : V), vs[i]? = some v → args[i]? = some x → RepV w Pr β κ v x) → (∀ i o, find ob i = some o → RepO w Pr 0 β κ i o) →
  (∀ i j oi oj g, find ob i = some oi → find ob j = some oj → blk (β i) = some g → blk (β j) = some g → i = j) → RepD w Pr u z →
  CallsD Try.prog f vs.toArray (.panicking [{ v := .iface T u, recovered := false }]) w fun e u2 w' => u2 = .panicking [{ v := .iface T u, recovered := true }] ∧ PostO [] w Pr ob β κ (fun _ o => Post o) e w'
section
variable {E E0 : Entry} {sl : Slots} {ob : Objs} {Q : Exit → Act → World → Prop} {fn : Func} {R : Ending → World → Prop} {T : TypeId} {z : D}
theorem aqd_leave {f : FuncId} {cs : Array Value} {l : List V} {Post : Objs → Prop}
  (hN : Nest E0 E) (hE : Fine E) (hdf : E.df = [{ target := .fn (.func f) cs, args := #[] }]) (hcl : cs.toList.length = l.length) (hcs : ∀ (i : Nat) (v : Value) (y : V), cs.toList[i]? = some v → l[i]? = some y → RepV E.w E.pr E.β0 E.κ0 v y) (hl : V.withinL (keys E.ob0) l = true)
  (hc : ObDD f l ob T z Post) (hsl : (sl.all fun p => p.2.within (keys ob)) = true) (hk : ((keys ob).all fun i => Nat.ble E.n i) = true)
  (hK : ∀ E'' ob', E''.df = [] → E''.n = E.n → Nest E0 E'' → Post ob' → AQ E'' .ret (bodyPost Try.prog fn R) sl ob') : AQD E T z (bodyPostD Try.prog fn R) sl ob := by
 refine ⟨fun u0 a w Pr β κ h hz => ?_⟩
 have hgoal : Leaves Try.prog fn a.tmps R a.defers (.panicking [{ v := .iface T u0, recovered := false }]) w := by
  rw [h.defers, hdf]
  have hcs' : ∀ (i : Nat) (v : Value) (y : V), cs.toList[i]? = some v → l[i]? = some y → RepV w Pr β κ v y := fun i v y h1 h2 => by
   refine ((hcs i v y h1 h2).keep h.st0 h.pr0).chg (fun j hj => ?_)
   obtain ⟨o, ho⟩ := find_of_mem (has_inL l hl (by
    have : ∀ (l : List V) (i : Nat), l[i]? = some y → V.hasL j l = true := by
     intro l
     induction l with
     | nil => intro i h; simp at h
     | cons x r ih =>
      intro i h
      simp only [V.hasL, Bool.or_eq_true]
      cases i with
      | zero => simp at h; subst h; exact .inl hj
      | succ i => exact .inr (ih i (by simpa using h))
    exact this l i h2))
   exact h.keeps j o ho
  refine leaves_cons (f := f) (args := cs.toList.toArray) (by simp) (by simp [invoke, run_callFunc hc.1]) ?_
  refine (hc.2 w Pr cs.toList β κ u0 h.prl (env_now hE h) hcl hcs' h.objs h.apart hz).mono fun e2 u2 w' ⟨hu2, v, x, ob', Pr', β', κ', he2, hp, hA⟩ => ?_
  subst hu2 he2
  show Leaves Try.prog fn a.tmps R [] (settle _) w'
  rw [show settle (FrameMode.panicking [{ v := .iface T u0, recovered := true }]) = .returning from rfl]
  have hch : ∀ (v : Value) (z : V), RepV w Pr β κ v z → z.within (keys ob) = true → RepV w' Pr' β' κ' v z := fun v z hz hw => (hz.keep hA.st hA.pr0).chg (fun j hj => by
   obtain ⟨o, ho⟩ := find_of_mem (has_in z hw hj)
   exact hA.keeps j o ho)
  have hlook : ∀ i, (look sl i).within (keys ob) = true := by
   intro i
   have : ∀ (s : Slots), (s.all fun p => p.2.within (keys ob)) = true → (look s i).within (keys ob) = true := by
    intro s
    induction s with
    | nil => intro _; rfl
    | cons q s ih =>
     obtain ⟨j, y⟩ := q
     intro hs
     simp only [List.all_cons, Bool.and_eq_true] at hs
     by_cases hij : i = j
     ·subst hij; rw [look_eq]; exact hs.1
     ·rw [look_ne hij]; exact ih hs.2
   exact this sl hsl
  have hown : ∀ i o g, find ob i = some o → blk (β i) = some g → E0.w.heap.size ≤ g := fun i o g h1 h2 => by
   have := hN.below.size
   rcases h.own i o g h1 h2 with h3 | h3
   ·exact hN.lent g h3
   ·omega
  have hs0 := (hN.below_now h.below).size
  have hG : Good ⟨w', Pr', E.n, ob', β', κ', []⟩ sl ob' { a with defers := [] } w' Pr' β' κ' :=
   ⟨Under.refl _ _, fun _ _ _ => rfl, fun _ _ h => h, fun _ _ h => .inl h, hA.prl, h.size, rfl, fun i => hch _ _ (h.slots i) (hlook i), hA.objs, hA.apart, fun i o g ho hg => .inl ⟨i, o, ho, hg⟩, fun i o ho => .inl ⟨rfl, rfl⟩, fun i o ho => by
    have h1 := (hA.wo i o ho).1
    rw [List.append_nil] at h1
    exact Nat.le_of_ble_eq_true (List.all_eq_true.1 hk i h1)⟩
  have hN' : Nest E0 ⟨w', Pr', E.n, ob', β', κ', []⟩ := by
   refine ⟨hN.n, ?_, fun b o hb => ?_, ?_⟩
   ·refine ⟨hA.under.os.trans (hN.below_now h.below).os, hA.under.tape.trans (hN.below_now h.below).tape, hA.under.output.trans (hN.below_now h.below).output, Nat.le_trans hs0 hA.under.size, fun k hk => ?_⟩
    rw [hA.under.block k (by omega) (fun ⟨i, o, h1, h2⟩ => by have := hown i o k h1 h2; omega)]
    exact (hN.below_now h.below).block k hk
   ·rcases hA.prn b o hb with h1 | h1 | ⟨i, o', h1, h2⟩
    ·exact hN.pr_now h h1
    ·exact .inr (by omega)
    ·exact .inr (hown i o' b h1 h2)
   ·rintro g ⟨i, o, h1, h2⟩
    rcases hA.own i o g h1 h2 with ⟨i', o', h3, h4⟩ | h3
    ·exact hown i' o' g h3 h4
    ·show _ ≤ g
     omega
  have h2 := (hK ⟨w', Pr', E.n, ob', β', κ', []⟩ ob' rfl rfl hN' hp).run { a with defers := [] } w' ⟨Pr', β', κ', hG⟩
  exact h2.2
 exact hgoal
theorem retN2 {Post : D → Prop} {r1 r2 : ResultVar} {d1 d2 : D} (hN : Nest E0 E) (hr : fn.results = #[r1, r2]) (h1 : ResX sl ob r1 d1) (h2 : ResX sl ob r2 d2) (hp : Post (.tup [d1, d2])) (hdf : E.df = []) : AQ E .ret (bodyPost Try.prog fn (PostR E0.w E0.pr Post)) sl ob := by
 refine ⟨fun a w hi => ?_⟩
 obtain ⟨Pr, β, κ, hg⟩ := hi
 obtain ⟨v1, e1, k1⟩ := res_run hg h1
 obtain ⟨v2, e2, k2⟩ := res_run hg h2
 have hpr : ∀ b o, Pr b o → PrNew E0.pr E0.w w b o := fun b o hb => (hN.pr_now hg hb).imp id (fun h => ⟨h, hg.prl b o hb⟩)
 refine bodyPost_ret (results_run2 hr e1 e2) (hg.defers.trans hdf) ⟨_, _, rfl, hp, ?_, hN.below_now hg.below⟩
 have q1 := k1.keep (fun _ _ _ => rfl) hpr
 have q2 := k2.keep (fun _ _ _ => rfl) hpr
 refine .tup [_, _] _ rfl (fun i v d h1 h2 => ?_)
 match i with
 | 0 => cases h1; cases h2; exact q1
 | 1 => cases h1; cases h2; exact q2
end
end Go.Proofs.Ytgiacdhffklenaa
end
section
namespace Go.Proofs.Ytgiacdhffklenaa
open Go.RowKit
section
variable {E : Entry} {sl : Slots} {ob : Objs} {a : Act} {w : World} {Pr : Prot} {β : Nat → Value} {κ : Nat → Nat}
end
end Go.Proofs.Ytgiacdhffklenaa
end
section
namespace Go.Proofs.Ytgiacdhffklenaa
open Go.ChangeShapes Go.WideShapes Go.ChangeAt Go.RowKit Go.Deep Go.Joins
theorem own : ownKnob Try.prog.godebug = none := by kernel_rfl
theorem laidOut : laidOutB Try.prog = true := by kernel_rfl
section
variable {H : Type} {enc : TypeId × Value → H} {P : Program}
theorem trodAll_below (hl : laidOutB P = true) {W W' : World} (hb : Below W.heap.size W W') : ∀ {ts : List TypeId} {vs : List Value} {ds : List (DataW H)} {ps : List MemPlace},
  (ts.all fun t => P.readableRec t && decide (t < P.types.size)) = true → DataW.TrodAll enc P W 0 (fun _ => true) true ts vs ds ps → (∀ x ∈ ps, x.block < W.heap.size) →
  DataW.TrodAll enc P W' 0 (fun b => decide (b < W.heap.size)) true ts vs ds ps
 | [], vs, ds, ps, _, h, _ => by
  obtain ⟨rfl, rfl, rfl⟩ := trodAll_nil h
  exact trodAll_mk0
 | t :: ts, vs, ds, ps, hk, h, hlt => by
  obtain ⟨v, vs', d, ds', p, p', rfl, rfl, rfl, h0, hr⟩ := trodAll_cons h
  simp only [List.all_cons, Bool.and_eq_true, decide_eq_true_eq] at hk
  exact trodAll_cons_mk (Below.trod hl hk.1.1 hk.1.2 h0 hb (fun x hx => hlt x (List.mem_append_left _ hx))) (trodAll_below hl hb hk.2 hr (fun x hx => hlt x (List.mem_append_right _ hx)))
theorem law_post {f : Func} {s : ChangeSpec} {W W' : World} {args : Array Value} {ds gs : List (DataW H)} {before : List MemPlace} {tb : TypeId}
  (hl : laidOutB P = true) (hbool : P.underlying tb = some .bool) (hres : f.resultTypes = #[tb]) (hpar : (f.params.toList.all fun t => P.readableRec t && decide (t < P.types.size)) = true)
  (hvars : s.vars = []) (hW : DataW.Whole enc P f.params.toList s.vars false W args.toList ds gs before)
  (hfn : s.fn H (ds ++ gs) = { results := [.lit (.bool true)], args := ds }) (hb : Below W.heap.size W W') :
  s.post enc P f false true false false W args (.bool true) W' := by
 have hW' := hW
 obtain ⟨p, q, hA, hV, rfl, _, _⟩ := hW
 rw [hvars] at hV
 obtain ⟨rfl, rfl⟩ := trodVars_none hV
 have hA' : DataW.TrodAll enc P W 0 (fun _ => true) true f.params.toList args.toList ds p := hA
 refine ⟨ds, [], p ++ [], [], p, [], hW', ?_, ?_, ?_, hb.frame _, fun h => by cases h⟩
 ·rw [hfn, hres]
  exact trodAll_cons_mk (shut_bool hbool true) trodAll_mk0
 ·rw [hfn]
  exact trodAll_below hl hb hpar hA' hA'.lt
 ·rw [hfn, hvars]
  rfl
end
end Go.Proofs.Ytgiacdhffklenaa
end
section
namespace Go.Proofs.Ytgiacdhffklenaa
open Go.ChangeShapes Go.WideShapes Go.ChangeAt Go.RowKit Go.Deep Go.Joins
theorem reps_nil {w : World} {Pr : Prot} : ∀ (i : Nat) (v : Value) (d : D), ([] : List Value)[i]? = some v → ([] : List D)[i]? = some d → RepD w Pr v d := by simp
theorem reps_cons {w : World} {Pr : Prot} {v : Value} {d : D} {vs : List Value} {ds : List D} (h : RepD w Pr v d) (hr : ∀ (i : Nat) (v : Value) (d : D), vs[i]? = some v → ds[i]? = some d → RepD w Pr v d) :
  ∀ (i : Nat) (u : Value) (e : D), (v :: vs)[i]? = some u → (d :: ds)[i]? = some e → RepD w Pr u e
 | 0, _, _, h1, h2 => by cases h1; cases h2; exact h
 | i + 1, u, e, h1, h2 => hr i u e h1 h2
section
variable {H : Type} {enc : TypeId × Value → H}
end
end Go.Proofs.Ytgiacdhffklenaa
end
section
namespace Go.Proofs.Ytgiacdhffklenaa
open Go.ChangeShapes Go.WideShapes Go.ChangeAt Go.RowKit Go.Deep Go.Joins
section
variable {H : Type} {enc : TypeId × Value → H} {P : Program} {w : World} {base : Nat}
def Show (enc : TypeId × Value → H) (P : Program) (w : World) (base : Nat) (t : TypeId) (c : Nat) {α : Type} (f : α → List D) (Q : α → Prop) : Prop :=
 ∀ (fuel : Nat) (cs : List Value) (x : DataW H × List MemPlace), DataW.trod enc P w base (fun _ => true) true fuel t cs = some x →
  cs.length = c ∧ ∃ a, Q a ∧ (f a).length = c ∧ ∀ (j : Nat) (v : Value) (d : D), cs[j]? = some v → (f a)[j]? = some d → RepD w (fun b _ => b < w.heap.size) v d
theorem show_one {α : Type} {t : TypeId} {g : α → D} {Q : α → Prop} (h : ∀ (fuel : Nat) (cs : List Value) (x : DataW H × List MemPlace), DataW.trod enc P w base (fun _ => true) true fuel t cs = some x → ∃ v a, cs = [v] ∧ Q a ∧ RepD w (fun b _ => b < w.heap.size) v (g a)) :
  Show enc P w base t 1 (fun a => [g a]) Q := by
 intro fuel cs x hx
 obtain ⟨v, a, rfl, ha, hr⟩ := h fuel cs x hx
 refine ⟨rfl, a, ha, rfl, fun j u d h1 h2 => ?_⟩
 cases j with
 | zero => cases h1; cases h2; exact hr
 | succ j => cases h1
theorem show_int {t : TypeId} {k : IntKind} (ht : P.underlying t = some (.int k)) : Show enc P w base t 1 (fun n : Int => [.val (.int k n)]) (fun n => k.min ≤ n ∧ n ≤ k.max) :=
 show_one (g := fun n : Int => .val (.int k n)) fun fuel cs x hx => by
  obtain ⟨n, rfl, _, hw⟩ := DataW.trod_int ht hx
  exact ⟨_, n, rfl, by simpa [Lit.wf] using hw, .val _⟩
theorem show_string {t : TypeId} (ht : P.underlying t = some .string) : Show enc P w base t 1 (fun s : ByteArray => [.str s]) (fun s => s.size ≤ maxLen) :=
 show_one (g := fun s : ByteArray => .str s) fun fuel cs x hx => by
  obtain ⟨s, rfl, _, hw⟩ := DataW.trod_string ht hx
  exact ⟨_, s, rfl, hw, .val _⟩
theorem show_list {α : Type} {t e : TypeId} {es : Nat} {f : α → List D} {Q : α → Prop} (ht : P.underlying t = some (.slice e)) (hc : P.cellsOf e = es) (hpos : 0 < es) (he : Show enc P w base e es f Q) :
  Show enc P w base t 1 (fun l : List α => [.list es (l.map f)]) (fun l => l.length ≤ maxLen ∧ ∀ x ∈ l, Q x) :=
 show_one (g := fun l : List α => .list es (l.map f)) fun fuel cs x hx => by
  rcases open_slice ht hx with ⟨rfl, _⟩ | ⟨a, len, cap, m, k, Dt, Pl, rfl, hb, hl, hm, hmm, _, hf⟩
  ·exact ⟨_, [], rfl, ⟨Nat.zero_le _, by simp⟩, .nil _ _ _ (Nat.zero_le _)⟩
  ·refine ⟨.slice (some a) len cap, ?_⟩
   simp only [if_true] at hmm
   subst hmm
   rw [hc] at hf
   rcases Nat.eq_zero_or_pos len with h0 | h0
   ·subst h0
    exact ⟨[], rfl, ⟨Nat.zero_le _, by simp⟩, .nil _ _ _ hm⟩
   have h1 : ∀ i, i < len → ∃ y : α × List Value, Q y.1 ∧ w.cells? base (a.add (i * es)) es = some y.2 ∧ y.2.length = es ∧ (f y.1).length = es ∧ ∀ (j : Nat) (v : Value) (d : D), y.2[j]? = some v → (f y.1)[j]? = some d → RepD w (fun b _ => b < w.heap.size) v d := by
    intro i hi
    obtain ⟨cs, hcell, htr⟩ := hf i (by omega)
    obtain ⟨h2, y, h3, h4, h5⟩ := he _ _ _ htr
    exact ⟨(y, cs), h3, hcell, h2, h4, h5⟩
   haveI : Inhabited (α × List Value) := ⟨Classical.choose (h1 0 h0)⟩
   obtain ⟨g, hg⟩ := choose_lt h1
   obtain ⟨b, o, spot⟩ := a
   have hspot : spot = none := by
    obtain ⟨_, h2, h3, _, _⟩ := hg 0 h0
    have h4 := (World.cells?_some h2).2.2 0 hpos
    rw [List.getElem?_eq_getElem (by omega)] at h4
    simpa [Addr.add] using World.cell?_spot h4
   subst hspot
   have hblk : b < w.heap.size := by
    obtain ⟨_, h2, _⟩ := hg 0 h0
    have := World.cells?_block h2 hpos
    simpa [Addr.add] using this
   refine ⟨(List.range len).map fun i => (g i).1, rfl, ⟨?_, fun x hx => ?_⟩, ?_⟩
   ·simp only [List.length_map, List.length_range]
    omega
   ·obtain ⟨j, hj, rfl⟩ := List.mem_map.1 hx
    exact (hg j (List.mem_range.1 hj)).1
   have hval : ∀ (i j : Nat) (e : List D) (d : D), (((List.range len).map fun i => (g i).1).map f)[i]? = some e → e[j]? = some d → i < len ∧ j < es ∧ e = f (g i).1 ∧ ∃ v, (g i).2[j]? = some v := by
    intro i j e d h2 h3
    rw [List.getElem?_map, List.getElem?_map, Option.map_eq_some_iff] at h2
    obtain ⟨x, h4, rfl⟩ := h2
    rw [Option.map_eq_some_iff] at h4
    obtain ⟨k, h5, rfl⟩ := h4
    have hi : i < len := by have := (List.getElem?_eq_some_iff.1 h5).1; simpa using this
    have hk : k = i := by simpa [hi] using h5.symm
    subst hk
    obtain ⟨_, _, h6, h7, _⟩ := hg k hi
    have hj : j < es := by have := (List.getElem?_eq_some_iff.1 h3).1; omega
    exact ⟨hi, hj, rfl, _, List.getElem?_eq_getElem (by omega)⟩
   refine .list b o len m es _ (fun i j => ((g i).2[j]?).getD undef) (by simp) (fun e he => ?_) hl hm (fun i j e d h2 h3 => ?_) (fun i j e d h2 h3 => ?_)
   ·obtain ⟨x, hx, rfl⟩ := List.mem_map.1 he
    obtain ⟨j, hj, rfl⟩ := List.mem_map.1 hx
    exact (hg j (List.mem_range.1 hj)).2.2.2.1
   ·obtain ⟨hi, hj, rfl, v, hv⟩ := hval i j e d h2 h3
    refine ⟨?_, hblk⟩
    obtain ⟨_, h4, _⟩ := hg i hi
    have h5 := (World.cells?_some h4).2.2 j hj
    rw [hv, add_plain, add_plain] at h5
    rw [hv]
    exact h5
   ·obtain ⟨hi, hj, rfl, v, hv⟩ := hval i j e d h2 h3
    rw [hv]
    exact (hg i hi).2.2.2.2 j v d hv h3
def ShowFs (enc : TypeId × Value → H) (P : Program) (w : World) (base : Nat) (o : Nat) (fs : List Field) (c : Nat) {α : Type} (f : α → List D) (Q : α → Prop) : Prop :=
 ∀ (n : Nat) (cs : List Value), (∀ (i : Nat) (fl : Field), fs[i]? = some fl → ∃ y, DataW.trod enc P w base (fun _ => true) true n fl.type ((cs.drop fl.offset).take (P.cellsOf fl.type)) = some y) →
  ∃ a, Q a ∧ (f a).length = c ∧ ∀ (j : Nat) (v : Value) (d : D), cs[o + j]? = some v → (f a)[j]? = some d → RepD w (fun b _ => b < w.heap.size) v d
theorem shows_nil {o : Nat} : ShowFs enc P w base o [] 0 (fun _ : Unit => []) (fun _ => True) := fun _ _ _ => ⟨(), trivial, rfl, fun j v d _ h => by cases h⟩
theorem shows_cons {α β : Type} {fl : Field} {o c c' : Nat} {fs : List Field} {f : α → List D} {Q : α → Prop} {g : β → List D} {R : β → Prop} (h : Show enc P w base fl.type c f Q) (ho : fl.offset = o) (hc : P.cellsOf fl.type = c)
  (hr : ShowFs enc P w base (o + c) fs c' g R) : ShowFs enc P w base o (fl :: fs) (c + c') (fun x : α × β => f x.1 ++ g x.2) (fun x => Q x.1 ∧ R x.2) := by
 intro n cs hcs
 obtain ⟨y, hy⟩ := hcs 0 fl rfl
 obtain ⟨_, a, h1, h2, h3⟩ := h _ _ _ hy
 obtain ⟨b, h4, h5, h6⟩ := hr n cs fun i f hf => hcs (i + 1) f hf
 refine ⟨(a, b), ⟨h1, h4⟩, by simp [h2, h5], fun j v d hv hd => ?_⟩
 have hd : (f a ++ g b)[j]? = some d := hd
 by_cases hj : j < c
 ·rw [List.getElem?_append_left (by omega)] at hd
  refine h3 j v d ?_ hd
  rw [ho, hc, List.getElem?_take, if_pos hj, List.getElem?_drop]
  exact hv
 ·rw [List.getElem?_append_right (by omega), h2] at hd
  refine h6 (j - c) v d ?_ hd
  rw [show o + c + (j - c) = o + j by omega]
  exact hv
theorem show_struct {α : Type} {t : TypeId} {fs : Array Field} {c : Nat} {f : α → List D} {Q : α → Prop} (ht : P.underlying t = some (.struct fs)) (hc : P.cellsOf t = c) (h : ShowFs enc P w base 0 fs.toList c f Q) : Show enc P w base t c f Q := by
 intro fuel cs x hx
 obtain ⟨xs, n, _, _, hl, hlen, hf⟩ := DataW.trod_struct ht hx
 obtain ⟨a, h1, h2, h3⟩ := h n cs fun i fl hfl => by
  have hfl' : fs[i]? = some fl := by simpa using hfl
  have hi : i < fs.size := (Array.getElem?_eq_some_iff.1 hfl').1
  exact ⟨_, (hf i fl hfl').trans (List.getElem?_eq_getElem (by omega))⟩
 exact ⟨hl.trans hc, a, h1, h2, fun j v d hv hd => h3 j v d (by simpa using hv) hd⟩
theorem Show.as {α β : Type} {t : TypeId} {c : Nat} {f : α → List D} {Q : α → Prop} (h : Show enc P w base t c f Q) (g : β → List D) (R : β → Prop) (m : α → β) (hg : ∀ a, g (m a) = f a) (hR : ∀ a, Q a → R (m a)) : Show enc P w base t c g R := by
 intro fuel cs x hx
 obtain ⟨h1, a, h2, h3, h4⟩ := h fuel cs x hx
 exact ⟨h1, m a, hR a h2, by rw [hg]; exact h3, by rw [hg]; exact h4⟩
theorem open_one {α : Type} {t : TypeId} {g : α → D} {Q : α → Prop} {v : Value} {d : DataW H} {ps : List MemPlace} (h : Show enc P w base t 1 (fun a => [g a]) Q) (hv : v.cells = #[v]) (hd : DataW.Trod enc P w base (fun _ => true) true t v d ps) :
  ∃ a, Q a ∧ RepD w (fun b _ => b < w.heap.size) v (g a) := by
 obtain ⟨fuel, hf⟩ := hd
 rw [hv] at hf
 obtain ⟨_, a, h1, _, h2⟩ := h _ _ _ hf
 exact ⟨a, h1, h2 0 v (g a) rfl rfl⟩
theorem open_struct {α : Type} {t : TypeId} {c : Nat} {f : α → List D} {Q : α → Prop} {v : Value} {d : DataW H} {ps : List MemPlace} (h : Show enc P w base t c f Q) (cs : Array Value) (hv : v = .agg cs) (hd : DataW.Trod enc P w base (fun _ => true) true t v d ps) :
  ∃ a, Q a ∧ RepD w (fun b _ => b < w.heap.size) v (.agg (f a)) := by
 subst hv
 obtain ⟨fuel, hf⟩ := hd
 obtain ⟨h0, a, h1, h2, h3⟩ := h _ _ _ hf
 obtain ⟨l⟩ := cs
 have hl : l.length = c := by simpa [Value.cells] using h0
 exact ⟨a, h1, .agg l (f a) (by omega) fun i v d hv hd => h3 i v d (by simpa [Value.cells] using hv) hd⟩
end
end Go.Proofs.Ytgiacdhffklenaa
end
section
set_option linter.unusedSimpArgs false
set_option linter.unusedVariables false
namespace Go.Proofs.Ytgiacdhffklenaa
open Go.RowKit
def digitB (c : UInt8) : Bool := decide (48 ≤ (c.toNat : Int)) && decide ((c.toNat : Int) ≤ 57)
theorem digit_any (c : UInt8) : PureC 75 [.val (.int .u8 c.toNat)] (· = .bool (digitB c)) := by
 refine pure_enter Try.func75 rfl (by decide) _ Try.ntmps75 (le_ok rfl) (fun w Pr hE => ?_)
 dsimp only [slotsOf, Nat.zero_add, Nat.reduceAdd]
 repeat' (first | refine nx ?_ | (apply qr_move; refine r_move ?_) | (apply qr_assign; refine r_assign ?_) | (apply at_guard; first | refine g_go ?_ | refine g_nt ?_ | refine g_nf ?_ | refine g_nu ?_ | ((first | refine al_split_t rfl rfl (lt_ok rfl) (fun hb => ?_) (fun hb => ?_) | refine al_split_f rfl rfl (lt_ok rfl) (fun hb => ?_) (fun hb => ?_)) <;> ((try have hq := dX hb); (try (exfalso; omega))))) | (apply qr_pick; refine r_pick ?_) | (apply qr_leq; refine r_leq ?_) | (apply qr_geq; refine r_geq ?_))
 all_goals (refine ret_one rfl (.d _) ?_; simp [digitB, *])
def isBlank (c : UInt8) : Bool := decide ((c.toNat : Int) = 32) || decide ((c.toNat : Int) = 9) || decide ((c.toNat : Int) = 10)
def pre (F : UInt8 → Bool) (s : ByteArray) : Nat := (s.data.toList.takeWhile F).length
theorem takeWhile_at {α : Type} (F : α → Bool) (l : List α) (k : Nat) (hk : k ≤ l.length) (h1 : ∀ j (h : j < l.length), j < k → F l[j] = true) (h2 : k < l.length → ∃ h : k < l.length, F l[k] = false) : (l.takeWhile F).length = k := by
 induction l generalizing k with
 | nil => simp at hk; simp [hk]
 | cons x l ih =>
  cases k with
  | zero =>
   obtain ⟨_, h⟩ := h2 (by simp)
   simp at h
   simp [h]
  | succ k =>
   have h0 := h1 0 (by simp) (by omega)
   simp at h0
   rw [List.takeWhile_cons, h0]
   simp only [if_true, List.length_cons, Nat.succ.injEq]
   refine ih k (by simpa using hk) (fun j h hj => ?_) (fun h => ?_)
   ·have := h1 (j + 1) (by simpa using h) (by omega)
    simpa using this
   ·obtain ⟨h', h3⟩ := h2 (by simpa using h)
    exact ⟨h, by simpa using h3⟩
theorem bAt_eq (s : ByteArray) (i : Nat) (h : i < s.data.toList.length) : bAt s i = s.data.toList[i] := by simp [bAt, List.getD_eq_getElem?_getD, List.getElem?_eq_getElem h]
theorem pre_at (F : UInt8 → Bool) (s : ByteArray) (k : Nat) (hk : k ≤ s.size) (h1 : ∀ j, j < k → F (bAt s j) = true) (h2 : k < s.size → F (bAt s k) = false) : pre F s = k := by
 refine takeWhile_at F _ k (by simpa using hk) (fun j h hj => ?_) (fun h => ⟨h, ?_⟩)
 ·rw [← bAt_eq s j h]
  exact h1 j hj
 ·rw [← bAt_eq s k h]
  exact h2 (by simpa using h)
theorem span_any (s : ByteArray) (g : Nat) (F : UInt8 → Bool) (hs : s.size ≤ 9223372036854775807) (hF : ∀ c, PureC g [.val (.int .u8 c.toNat)] (· = .bool (F c))) : PureC 73 [.str s, .val (.func (.func g) #[] #[])] (· = .int (pre F s)) := by
 refine pure_enter Try.func73 rfl (by decide) _ Try.ntmps73 (le_ok rfl) (fun w Pr hE => ?_)
 dsimp only [slotsOf, Nat.zero_add, Nat.reduceAdd]
 repeat' (first | refine nx ?_ | (apply aq_block_y; decide) | (apply qr_move; refine r_move ?_) | (apply qr_assign; refine r_assign ?_) | (apply at_cond; first | refine c_t ?_ | refine c_f ?_ | (refine aw_cond rfl (fun hb => ?_) (fun hb => ?_) <;> ((try have hq := dX hb); (try (exfalso; omega))))) | (apply at_guard; first | refine g_go ?_ | refine g_nt ?_ | refine g_nf ?_ | refine g_nu ?_ | ((first | refine al_split_t rfl rfl (lt_ok rfl) (fun hb => ?_) (fun hb => ?_) | refine al_split_f rfl rfl (lt_ok rfl) (fun hb => ?_) (fun hb => ?_)) <;> ((try have hq := dX hb); (try (exfalso; omega))))) | (apply qr_pick; refine r_pick ?_) | (apply qr_lss; refine r_lss ?_) | (apply qr_add; refine r_add ?_) | (apply qr_len; refine r_len ?_) | (apply qr_index; refine r_index ?_))
 refine aw_lp (fun n sl ob => ∃ k : Nat, n = s.size - k ∧ k ≤ s.size ∧ (∀ j, j < k → F (bAt s j) = true) ∧ sl = [(5, .d (.int k)), (0, .d (.str s)), (1, .d (.val (.func (.func g) #[] #[])))] ∧ ob = []) (⟨0, rfl, by omega, by simp, rfl, rfl⟩) ?_
 rintro n sl ob ⟨k, rfl, hk, hp, rfl, rfl⟩
 repeat' (first | (apply at_call; refine k_call (hF _) hE ?_; rintro _ rfl) | refine nx ?_ | (apply aq_block_y; decide) | (apply qr_move; refine r_move ?_) | (apply qr_assign; refine r_assign ?_) | (apply at_cond; first | refine c_t ?_ | refine c_f ?_ | (refine aw_cond rfl (fun hb => ?_) (fun hb => ?_) <;> ((try have hq := dX hb); (try (exfalso; omega))))) | (apply at_guard; first | refine g_go ?_ | refine g_nt ?_ | refine g_nf ?_ | refine g_nu ?_ | ((first | refine al_split_t rfl rfl (lt_ok rfl) (fun hb => ?_) (fun hb => ?_) | refine al_split_f rfl rfl (lt_ok rfl) (fun hb => ?_) (fun hb => ?_)) <;> ((try have hq := dX hb); (try (exfalso; omega))))) | (apply qr_pick; refine r_pick ?_) | (apply qr_lss; refine r_lss ?_) | (apply qr_add; refine r_add ?_) | (apply qr_len; refine r_len ?_) | (apply qr_index; refine r_index ?_))
 ·skip
  refine aq_rd (⟨k + 1, rfl, by omega, fun j hj => (Nat.lt_succ_iff_lt_or_eq.1 hj).elim (hp j) (fun e => e ▸ (by assumption)), rfl, rfl⟩) (by omega)
 ·refine ret_one rfl (.d _) ?_
  rw [pre_at F s k hk hp (fun _ => by assumption)]
 ·refine ret_one rfl (.d _) ?_
  rw [pre_at F s k hk hp (fun _ => by omega)]
end Go.Proofs.Ytgiacdhffklenaa
end
section
namespace Go.Proofs.Ytgiacdhffklenaa
end Go.Proofs.Ytgiacdhffklenaa
end
