/-
  Conditions: none.
-/
import Derived.Test.YtaodngiigdbgeaaGreatDoorRows
import Derived.ProofKit
import Derived.OpenShut
import Derived.ChangeOld
import Derived.SizedLaws
import Derived.Deep.SlicePairs
import Derived.Lib.SmallJoins
import Derived.Deep.Slices
import Derived.Test.YtaodngiigdbgeaaGreatDoorMaa
import Derived.Test.YtaodngiigdbgeaaGreatDoorMaf
import Derived.Test.YtaodngiigdbgeaaGreatDoorMah
import Derived.Test.YtaodngiigdbgeaaGreatDoorMai
import Derived.Test.YtaodngiigdbgeaaGreatDoorMal
import Derived.Test.YtaodngiigdbgeaaGreatDoorMam
import Derived.Test.YtaodngiigdbgeaaGreatDoorMan
set_option maxHeartbeats 16000000
set_option maxRecDepth 20000
set_option linter.unusedSimpArgs false
set_option linter.unusedVariables false
namespace Go.Proofs.YtaodngiigdbgeaaGreatDoor
section
open Go.RowKit
section
variable {E : Entry} {sl sl' : Slots} {ob ob' : Objs} {Q : Exit → Act → World → Prop} {ops : Array Oper} {rest : List Oper}
def Imp (E : Entry) (sl : Slots) (ob : Objs) (I : Slots → Objs → Prop) : Prop := ∀ a w, Inv E sl ob a w → ∃ sl' ob', I sl' ob' ∧ Inv E sl' ob' a w
theorem Imp.one (h : Imp E sl ob fun s o => s = sl' ∧ o = ob') {a : Act} {w : World} (hi : Inv E sl ob a w) : Inv E sl' ob' a w := by
 obtain ⟨s, o, ⟨rfl, rfl⟩, h2⟩ := h a w hi
 exact h2
theorem tI (h : Imp E sl ob fun s o => s = sl' ∧ o = ob') (hk : AL E ops rest Q sl' ob') : AL E ops rest Q sl ob := ⟨fun a w hi => hk.run a w (h.one hi)⟩
theorem Imp.here {I : Slots → Objs → Prop} (h : I sl' ob') (hs : ∀ p ∈ sl', look sl p.1 = p.2) (ho : ∀ p ∈ ob', find ob p.1 = some p.2) : Imp E sl ob I := fun _ _ hi => ⟨sl', ob', h, hi.less hs ho⟩
theorem Imp.then {I J : Slots → Objs → Prop} (h : Imp E sl ob I) (hk : ∀ s o, I s o → Imp E s o J) : Imp E sl ob J := fun a w hi => by
 obtain ⟨s, o, h1, h2⟩ := h a w hi
 exact hk s o h1 a w h2
variable {a : Act} {w : World} {Pr : Prot} {β : Nat → Value} {κ : Nat → Nat}
theorem nO (i j : Nat) {r e s k : Nat} {T : TypeId} {l l' : List V} {L : List (List D)} (hf : find ob r = some (.vec e s k L)) (hi : find ob i = some (.box T l)) (hir : i ≠ r) (hj : l[j]? = some (.row r k)) (hl : l.set j (.d (.list s L)) = l') :
  Imp E sl ob fun s' o' => s' = sl ∧ o' = (i, .box T l') :: (r, .row e s k L) :: ob := by
 subst hl
 rintro a w ⟨_, β, κ, hg⟩
 obtain ⟨Pr', β', κ', h1⟩ := hg.protect hf
 exact ⟨sl, _, ⟨rfl, rfl⟩, Pr', β', κ', h1.celltold (by rw [cE hir]; exact hi) hj (.row _ _ _ _ _ (cN _ _ _))⟩
theorem Good.bump (h : Good E sl ob a w Pr β κ) {r e s k j : Nat} {L : List (List D)} (hf : find ob r = some (.vec e s k L)) (hj : look sl j = .row r k) : Inv E ((j, .row r (k + 1)) :: sl) ((r, .vec e s (k + 1) L) :: ob) a w := by
 obtain ⟨hκ, xs, hown, hls, hd, hnp⟩ := h.objs r _ hf
 have hv0 : a.tmps.getD j undef = β r := by
  have := h.slots j
  rw [hj] at this
  exact this.row_inv hκ.symm
 have hb := tV hown
 refine ⟨Pr, _, _, (h.verup (v' := β r) (o' := .vec e s (k + 1) L) hκ hb (fun g hg => h.own r _ g hf hg) (fun j oj g h1 h2 h3 h4 => h2 (h.apart j r _ _ g h1 hf h3 h4)) ⟨fA _ _ _, xs, by rw [eL]; exact hown, hls, hd, fun g hg => hnp g (by rw [eL] at hg; exact hg)⟩).slot ?_⟩
 rw [hv0]
 exact .row r (k + 1) _ hb (by rw [fA]; exact Nat.le_refl _) (fun _ => (eL _ _ _).symm)
theorem vH {x : Exit} (r j : Nat) {e s k : Nat} {L : List (List D)} (hf : find ob r = some (.vec e s k L)) (hj : look sl j = .row r k) (h : AQ E x Q ((j, .row r (k + 1)) :: sl) ((r, .vec e s (k + 1) L) :: ob)) : AQ E x Q sl ob := ⟨fun a w ⟨_, _, _, hg⟩ => h.run a w (hg.bump hf hj)⟩
end
end
section
open Go.RowKit
section
variable {E : Entry} {sl : Slots} {ob : Objs} {a : Act} {w : World} {Pr : Prot} {β : Nat → Value} {κ : Nat → Nat}
variable {d : Nat} {dd : Option Nat} {t T ty : TypeId} {p : String} {af : Array Edge} {g : Option (Nat × Bool)} {x y c : Operand} {m : Int}
theorem aHz (h : Good E sl ob a w Pr β κ) {i e s k : Nat} {l : List (List D)} (hf : find ob i = some (.vec e s k l)) (hl : l ≠ []) :
  ∃ (g cap : Nat) (cs : List Value), β i = .slice (some ⟨g, 0, none⟩) l.length cap ∧ κ i = k ∧ w.heap[g]? = some (.cells cs.toArray e (0, 0)) ∧ l.length ≤ cap ∧ cap ≤ maxLen ∧ cs.length = cap * s ∧ (∀ q, ¬ Pr g q) ∧ (∀ x ∈ l, x.length = s) ∧
   ∀ (o : Nat) (z : D), l.flatten[o]? = some z → ∃ u, cs[o]? = some u ∧ RepD w Pr u z := by
 obtain ⟨hκ, xs, hown, hls, hd, hnp⟩ := h.objs i _ hf
 have hln : l.length ≠ 0 := fun e => hl (List.eq_nil_of_length_eq_zero e)
 rcases hown.2 with ⟨_, h0⟩ | ⟨g, cap, cur, hv, _, hh, hnc, hcm, hcs, htk⟩
 ·exact absurd h0 hln
 have hg : (β i).ownBlock = some g := by rw [hv]; rfl
 refine ⟨g, cap, cur.toList, hv, hκ, by rw [Array.toArray_toList]; exact hh, hnc, hcm, by rw [Array.length_toList]; exact hcs, hnp g hg, hls, fun o z hz => ?_⟩
 obtain ⟨q, j, y, rfl, h2, h3⟩ := aEb hls hz
 obtain ⟨u, hu, hr⟩ := hd q j y z h2 h3
 rw [← htk, List.getElem?_take] at hu
 split at hu
 ·exact ⟨u, hu, hr⟩
 ·cases hu
theorem jZ {i k q e s es eb : Nat} {l : List (List D)} {ez : Value} {kk : IntKind} {r : Nat} (hx : ev sl x = .row i k) (hf : find ob i = some (.vec e s k l)) (hy : ev sl y = .d (.val (.int kk m))) (hT : ti t = .sl e es eb ez) (hi : m = (q : Int)) (hq : q < l.length) (hr : q * es = r) :
  Y E ⟨dd, .indexAddr t x y, T, p, af, g⟩ sl ob (.vp i k r) := fun a w Pr β κ h => by
 subst hi hr
 obtain ⟨_, j, _, hu, _, hj, _, hs, _⟩ := mV hT
 obtain ⟨g, cap, cs, hv, hκ, _⟩ := aHz h hf (by rintro rfl; simp at hq)
 have hav : a.eval x = β i := by
  have := bO h x
  rw [hx] at this
  exact this.row_inv hκ.symm
 rw [hv] at hav
 refine ⟨.pointer (some ⟨g, 0 + q * es, none⟩), .vp i k _ _ ⟨_, rfl⟩ zb (fun _ => ⟨g, _, _, hv, by rw [Nat.zero_add]⟩), fun w' _ => ?_⟩
 have hsz : (sizeOf e).run Tryz.prog w' = .ok es w' := by simp [sizeOf, typeInfo, hj, hs]
 simp [execOp, hav, bT h hy, Instr.indexAt, asIntOf, run_underlying hu, hsz, hq, Addr.add_lit]
theorem aRg (h : Good E sl ob a w Pr β κ) {i k o e s : Nat} {l : List (List D)} (hx : ev sl x = .vp i k o) (hf : find ob i = some (.vec e s k l)) : ∃ g n c, β i = .slice (some ⟨g, 0, none⟩) n c ∧ a.eval x = .pointer (some ⟨g, o, none⟩) := by
 have hv := bO h x
 rw [hx] at hv
 have hκ := (h.objs i _ hf).1
 generalize a.eval x = v at hv
 cases hv with
 | vp _ _ _ _ hs h1 h2 =>
  obtain ⟨g, n, c, h3, h4⟩ := h2 hκ.symm
  exact ⟨g, n, c, h3, h4⟩
theorem fN {i k o e s f off n ft : Nat} {l : List (List D)} {z : List Value} {fs : List (Nat × Nat × Nat)} (hx : ev sl x = .vp i k o) (hf : find ob i = some (.vec e s k l)) (hT : ti t = .st z fs) (hn : fs[f]? = some (off, n + 1, ft)) : Y E ⟨dd, .fieldAddr t x f, T, p, af, g⟩ sl ob (.vp i k (o + off)) := fun a w Pr β κ h => by
 obtain ⟨g, _, _, hb, hav⟩ := aRg h hx hf
 refine ⟨.pointer (some ⟨g, o + off, none⟩), .vp i k _ _ ⟨_, rfl⟩ (by have := (h.objs i _ hf).1; omega) (fun _ => ⟨g, _, _, hb, rfl⟩), fun w' _ => ?_⟩
 have := lZ w' (b := g) (o := o) hT hn
 simp [execOp, hav, this]
theorem kP {i k o e s : Nat} {l : List (List D)} {z : D} (hx : ev sl x = .vp i k o) (hf : find ob i = some (.vec e s k l)) (hz : l.flatten[o]? = some z) (hT : isOne (ti t) = true) : Y E ⟨dd, .load t x, T, p, af, g⟩ sl ob (.d z) := fun a w Pr β κ h => by
 obtain ⟨g', n, c, hb, hav⟩ := aRg h hx hf
 obtain ⟨g, cap, cs, hv, hκ, hh, _, _, _, _, _, hc⟩ := aHz h hf (by rintro rfl; simp at hz)
 rw [hv] at hb
 simp only [Value.slice.injEq, Option.some.injEq, Addr.mk.injEq, and_true] at hb
 obtain ⟨rfl, _, _⟩ := hb
 obtain ⟨u, hu, hr⟩ := hc o z hz
 refine ⟨u, .d _ _ hr, fun w' hk => ?_⟩
 have hcell : w'.cell? ⟨g, o, none⟩ = some u := by
  have h1 := hk.objs i _ g hf (by rw [hv]; rfl)
  rw [hh] at h1
  rw [cell_of_row w' g o _ _ (0, 0) h1]
  simpa using hu
 have := lG (t := t) w' hT hcell
 simp [execOp, hav, this]
theorem aRh (h : Good E sl ob a w Pr β κ) {i k o e s : Nat} {l l' : List (List D)} {z : D} (hx : ev sl x = .vp i k o) (hf : find ob i = some (.vec e s k l)) (ho : o < l.flatten.length) (hy : ToD ob (ev sl y) z) (h1 : z.one = true) (hT : isOne (ti t) = true) (hl : l'.length = l.length) (hs : ∀ q ∈ l', q.length = s) (hr : l'.flatten = l.flatten.set o z) :
  ∃ (b : Nat) (cs : Array Value), (execOp a.eval ⟨none, .store t x y, T, p, af, g⟩).run Tryz.prog w = .ok .skip (w.setRow b cs) ∧ blk (β i) = some b ∧ (∀ q, ¬ Pr b q) ∧ Good E sl ((i, .vec e s k l') :: ob) a (w.setRow b cs) Pr β κ := by
 obtain ⟨g', n, c, hb, hav⟩ := aRg h hx hf
 obtain ⟨gb, cap, cs, hv, hκ, hh, hnc, hcm, hcs, hno, hls, hc⟩ := aHz h hf (by rintro rfl; simp at ho)
 rw [hv] at hb
 simp only [Value.slice.injEq, Option.some.injEq, Addr.mk.injEq, and_true] at hb
 obtain ⟨rfl, _, _⟩ := hb
 have hz : RepD w Pr (a.eval y) z := eZ h hy _ (bO h y)
 have hone : (a.eval y).oneCell' = true := sJ (β := β) (κ := κ) (x := .d z) (.d _ _ hz) (by cases z <;> first | exact h1 | rfl)
 have hcells : (a.eval y).cells = #[a.eval y] := by
  cases hq : a.eval y <;> rw [hq] at hone <;> first | rfl | cases hone
 have hfl := xA hls
 have hle : l.length * s ≤ cap * s := Nat.mul_le_mul_right _ hnc
 have hol : o < cs.length := by omega
 have hst := run_storeCells_at Tryz.prog gb o e [a.eval y] 0 cs.toArray w hh jv (by simpa using hone)
 have hrun : (execOp a.eval ⟨none, .store t x y, T, p, af, g⟩).run Tryz.prog w = .ok .skip (w.setRow gb (cs.take o ++ [a.eval y] ++ cs.drop (o + 1)).toArray) := by
  have hsz : (sizeOf t).run Tryz.prog w = .ok 1 w := mA w hT
  simp only [Nat.add_zero, List.length_cons, List.length_nil, Nat.zero_add] at hst
  simp [execOp, hav, Instr.storeAt, Instr.sureAddr, storeVar, hsz, hcells, hst]
 have hset : cs.take o ++ [a.eval y] ++ cs.drop (o + 1) = cs.set o (a.eval y) := by
  rw [List.set_eq_take_append_cons_drop, if_pos hol]
  simp
 rw [hset] at hrun
 have hflat : ∀ (q : Nat) (v : D), l'.flatten[q]? = some v → (q = o ∧ v = z) ∨ (q ≠ o ∧ l.flatten[q]? = some v) := by
  intro q v hq
  rw [hr] at hq
  by_cases hqo : q = o
  ·subst hqo
   rw [List.getElem?_set_self ho] at hq
   cases hq
   exact .inl ⟨rfl, rfl⟩
  ·rw [List.getElem?_set_ne (fun e => hqo e.symm)] at hq
   exact .inr ⟨hqo, hq⟩
 refine ⟨gb, _, hrun, by rw [hv]; rfl, hno, h.setobj2 (b := gb) (T := e) hf (by rw [hv]; rfl) hno ⟨_, hh⟩ (fun hkeep => ?_)⟩
 refine ⟨hκ, (cs.set o (a.eval y)).take (l'.length * s), ?_, hs, fun q j xx v h2 h3 => ?_, fun g' hg' o' ho' => ?_⟩
 ·rw [hv]
  exact ⟨by rw [List.length_take, List.length_set, hl]; omega, .inr ⟨gb, cap, (cs.set o (a.eval y)).toArray, by rw [hl], Nat.zero_le _, setRow_heap w gb _ _ _ _ hh, by omega, hcm, by simp [hcs], by simp⟩⟩
 ·have h4 := xC hs h2 h3
  have hlt := (List.getElem?_eq_some_iff.1 h4).1
  have hfl' := xA hs
  rw [List.getElem?_take, if_pos zb]
  rcases hflat _ _ h4 with ⟨e1, rfl⟩ | ⟨hne, h5⟩
  ·refine ⟨a.eval y, by rw [e1, List.getElem?_set_self hol], ?_⟩
   exact (hkeep _ _ (.d _ _ hz)).d_inv
  ·obtain ⟨u, hu, hru⟩ := hc _ _ h5
   exact ⟨u, by rw [List.getElem?_set_ne (fun e => hne e.symm)]; exact hu, (hkeep _ _ (.d _ _ hru)).d_inv⟩
 ·rw [hv] at hg'
  simp only [Value.ownBlock, Option.some.injEq] at hg'
  subst hg'
  exact hno o' ho'
theorem aCv {i k o e s : Nat} {l l' : List (List D)} {z : D} (hx : ev sl x = .vp i k o) (hf : find ob i = some (.vec e s k l)) (ho : o < l.flatten.length) (hy : ToD ob (ev sl y) z) (h1 : z.one = true) (hT : isOne (ti t) = true) (hl : l'.length = l.length) (hs : ∀ q ∈ l', q.length = s) (hr : l'.flatten = l.flatten.set o z) :
  Step E ⟨none, .store t x y, T, p, af, g⟩ sl ob sl ((i, .vec e s k l') :: ob) := by
 rintro a w ⟨Pr, β, κ, h⟩ K Q hK
 obtain ⟨b, cs, hrun, _, _, hG⟩ := aRh (T := T) (p := p) (af := af) (g := g) h hx hf ho hy h1 hT hl hs hr
 unfold Oper.wp
 rw [hrun, Oper.upon_skip]
 exact hK _ _ ⟨Pr, β, κ, hG⟩
theorem kW {i k o e s : Nat} {l : List (List D)} {z : D} (hx : ev sl x = .vp i k o) (hf : find ob i = some (.vec e s k l)) (ho : l.flatten[o]? = some z) (hs : ∀ q ∈ l, q.length = s) (hy : ToD ob (ev sl y) z) (h1 : z.one = true) (hT : isOne (ti t) = true) :
  Step E ⟨none, .store t x y, T, p, af, g⟩ sl ob sl ((i, .vec e s k l) :: ob) := by
 have hlt := (List.getElem?_eq_some_iff.1 ho).1
 refine aCv hx hf hlt hy h1 hT rfl hs ?_
 apply List.ext_getElem?
 intro q
 by_cases hq : q = o
 ·subst hq
  rw [List.getElem?_set_self hlt, ho]
 ·rw [List.getElem?_set_ne (fun e => hq e.symm)]
end
theorem jJ {s : Nat} {L : List (List D)} {i j : Nat} {c : List D} {z : D} (hL : ∀ x ∈ L, x.length = s) (h1 : L[i]? = some c) (h2 : c[j]? = some z) : L.flatten[i * s + j]? = some z := xC hL h1 h2
section
variable {E : Entry} {sl sl0 : Slots} {ob ob0 : Objs} {ops : List Oper} {pl : List (Nat × Bool × Oper)} {Q : Exit → Act → World → Prop} {tail : (World → Prop) → Act → World → Prop} {g : Option (Nat × Bool)} {p : String} {af : Array Edge} {T t : TypeId} {n : Nat} {x y : Operand}
end
end
section
open Go.RowKit
noncomputable def eqTy2 (t : TypeId) (ks1 ks2 : List KD) : Bool :=
 match (Tryz.prog.fieldsOf t).toList with
 | f :: fs => (match Tryz.prog.underlying t with | some (.struct _) => true | _ => false) && !Tryz.prog.stoodInHeld t && !Tryz.prog.eqGuardType Tryz.prog.depth t && f.name != "_" && f.offset == 0 && eqTy f.type ks1 && (match aggK (ti f.type) with | some k => k == ks1.length | none => false) && fieldsOk ks1.length fs ks2
 | [] => false
theorem oA : ∀ {l : List D}, (∀ k ∈ kindsD l, k ≠ .no) → (valsD l).length = l.length ∧ (kindsD l).length = l.length
 | [], _ => ⟨rfl, rfl⟩
 | d :: l, h => by
  rcases lP d l with ⟨k, a, rfl⟩ | ⟨a, rfl⟩ | ⟨a, rfl⟩ | hd
  ·obtain ⟨h1, h2⟩ := oA (l := l) (fun k hk => h k (by simp [kindsD, hk]))
   simp [valsD, kindsD, h1, h2]
  ·obtain ⟨h1, h2⟩ := oA (l := l) (fun k hk => h k (by simp [kindsD, hk]))
   simp [valsD, kindsD, h1, h2]
  ·obtain ⟨h1, h2⟩ := oA (l := l) (fun k hk => h k (by simp [kindsD, hk]))
   simp [valsD, kindsD, h1, h2]
  ·exact absurd rfl (h .no (by rw [hd]; simp))
theorem zA {w : World} {Pr : Prot} {v : Value} {l m : List D} (h : RepD w Pr v (.agg (l ++ m))) (h1 : ∀ k ∈ kindsD l, k ≠ .no) (h2 : ∀ k ∈ kindsD m, k ≠ .no) : v = .agg (valsD l ++ valsD m).toArray := by
 cases h with
 | agg cs _ hl hd =>
  have e1 := sU l (cs.take l.length) (by simp at hl; simp; omega) (fun i v d h3 h4 => by
   rw [List.getElem?_take] at h3
   split at h3
   ·exact hd i v d h3 (by rw [List.getElem?_append_left jw]; exact h4)
   ·cases h3) h1
  have e2 := sU m (cs.drop l.length) (by simp at hl; simp; omega) (fun i v d h3 h4 => by
   rw [List.getElem?_drop] at h3
   exact hd _ v d h3 (by rw [List.getElem?_append_right zb]; simpa using h4)) h2
  rw [← e1, ← e2, List.take_append_drop]
section
variable {E : Entry} {sl : Slots} {ob : Objs} {a : Act} {w : World} {Pr : Prot} {β : Nat → Value} {κ : Nat → Nat}
variable {d : Option Nat} {t T ty : TypeId} {p : String} {af : Array Edge} {g : Option (Nat × Bool)} {x y c : Operand}
theorem uK {ks1 ks2 : List KD} (h : eqTy2 t ks1 ks2 = true) : ∃ f fs, Tryz.prog.underlying t = some (.struct (Tryz.prog.fieldsOf t)) ∧ (Tryz.prog.fieldsOf t).toList = f :: fs ∧ Tryz.prog.stoodInHeld t = false ∧ Tryz.prog.eqGuardType Tryz.prog.depth t = false ∧ f.name ≠ "_" ∧ f.offset = 0 ∧ eqTy f.type ks1 = true ∧ aggK (ti f.type) = some ks1.length ∧ fieldsOk ks1.length fs ks2 = true := by
 unfold eqTy2 at h
 cases hf : (Tryz.prog.fieldsOf t).toList with
 | nil => rw [hf] at h; cases h
 | cons f fs =>
  rw [hf] at h
  simp only [Bool.and_eq_true, Bool.not_eq_true', beq_iff_eq, bne_iff_ne, ne_eq] at h
  obtain ⟨⟨⟨⟨⟨⟨⟨h1, h2⟩, h3⟩, h4⟩, h5⟩, h6⟩, h7⟩, h8⟩ := h
  refine ⟨f, fs, ?_, rfl, h2, h3, h4, h5, h6, ?_, h8⟩
  ·unfold Program.fieldsOf
   cases hu : Tryz.prog.underlying t with
   | none => rw [hu] at h1; cases h1
   | some td => rw [hu] at h1; cases td <;> first | rfl | cases h1
  ·cases hk : aggK (ti f.type) with
   | none => rw [hk] at h7; cases h7
   | some k => rw [hk] at h7; simp at h7; rw [h7]
theorem aQj {l1 l2 m1 m2 : List D} {ks1 ks2 : List KD} (e1 : kindsD l1 = ks1) (e2 : kindsD l2 = ks2) (e3 : kindsD m1 = ks1) (e4 : kindsD m2 = ks2) (hT : eqTy2 t ks1 ks2 = true) :
  (Op.equalIn 10000 t (.agg (valsD l1 ++ valsD l2).toArray) (.agg (valsD m1 ++ valsD m2).toArray)).run Tryz.prog w = .ok (eqL l1 m1 && eqL l2 m2) w := by
 obtain ⟨f, fs, h1, h2, h3, h4, h5, h6, h7, h8, h9⟩ := uK hT
 have n1 := hZ (hH h7).2.2.2
 obtain ⟨q1, q2⟩ := oA (l := l1) (by rw [e1]; exact n1)
 obtain ⟨q3, q4⟩ := oA (l := m1) (by rw [e3]; exact n1)
 have hl : (valsD l1).length = ks1.length := by rw [q1, ← q2, e1]
 have hm : (valsD m1).length = ks1.length := by rw [q3, ← q4, e3]
 rw [run_equalIn_agg w 9999 t _ _ h1 h3, h2]
 have hp : ∀ (u v : List Value), u.length = ks1.length → (part f.type (u ++ v).toArray f.offset).run Tryz.prog w = .ok (.agg u.toArray) w := fun u v hu => by
  obtain ⟨r1, r2⟩ := nG (w := w) h8
  simp only [part, Sem.run_bind, r1, Result.andThen_ok, if_true, r2, h6, Sem.run_pure]
  congr 2
  apply Array.toList_inj.1
  simp [List.extract_eq_take_drop, ← hu]
 have hin : (Op.equalIn 9999 f.type (.agg (valsD l1).toArray) (.agg (valsD m1).toArray)).run Tryz.prog w = .ok (eqL l1 m1) w := by
  obtain ⟨k1, k2, _, k4⟩ := hH h7
  rw [run_equalIn_agg w 9998 f.type _ _ k1 k2]
  have := vZ 9997 w (Tryz.prog.fieldsOf f.type).toList l1 m1 [] [] rfl (e1.trans e3.symm) (by rw [e1]; exact k4)
  simpa using this
 simp only [Op.eqFields, if_pos h5, Sem.run_bind, hp _ _ hl, hp _ _ hm, Result.andThen_ok, hin, Sem.run_ite]
 cases eqL l1 m1
 ·simp [Sem.run_pure]
 ·simp only [Bool.not_true, Bool.false_eq_true, if_false, Bool.true_and]
  exact vZ 9998 w fs l2 m2 (valsD l1) (valsD m1) (hl.trans hm.symm) (e2.trans e4.symm) (by rw [hl, e2]; exact h9)
theorem aRt {l m l1 l2 m1 m2 : List D} {ks1 ks2 : List KD} {r : Bool} (hx : ev sl x = .d (.agg l)) (hy : ev sl y = .d (.agg m)) (hl : l = l1 ++ l2) (hm : m = m1 ++ m2) (e1 : kindsD l1 = ks1) (e2 : kindsD l2 = ks2) (e3 : kindsD m1 = ks1) (e4 : kindsD m2 = ks2) (hT : eqTy2 t ks1 ks2 = true) (hr : (!(eqL l1 m1 && eqL l2 m2)) = r) :
  Y E ⟨d, .binOp .neq t x y ty, T, p, af, g⟩ sl ob (.d (.val (.bool r))) := fun ac w Pr β κ h => by
 subst hr hl hm
 obtain ⟨f, fs, h1, h2, h3, h4, h5, h6, h7, h8, h9⟩ := uK hT
 have n1 := hZ (hH h7).2.2.2
 have n2 := hZ h9
 have k1 := zA (iA h hx) (by rw [e1]; exact n1) (by rw [e2]; exact n2)
 have k2 := zA (iA h hy) (by rw [e3]; exact n1) (by rw [e4]; exact n2)
 refine ⟨_, .d _ _ (.val _), fun w' _ => ?_⟩
 simp only [execOp, k1, k2]
 rw [Sem.run_bind, Sem.run_bind, run_eqGuard_agg w' .neq t x y _ _ h4]
 simp only [Result.andThen]
 rw [run_neq_struct, aQj e1 e2 e3 e4 hT]
 simp [Result.andThen, Sem.run_pure]
end
end
section
open Go.ChangeShapes Go.WideShapes Go.ChangeAt Go.RowKit Go.Deep Go.Joins
theorem own : ownKnob Tryz.prog.godebug = none := by kernel_rfl
theorem laidOut : laidOutB Tryz.prog = true := by kernel_rfl
section
variable {H : Type} {enc : TypeId × Value → H} {P : Program}
theorem qU (hl : laidOutB P = true) {W W' : World} (hb : Below W.heap.size W W') : ∀ {ts : List TypeId} {vs : List Value} {ds : List (DataW H)} {ps : List MemPlace},
  (ts.all fun t => P.readableRec t && decide (t < P.types.size)) = true → DataW.TrodAll enc P W 0 (fun _ => true) true ts vs ds ps → (∀ x ∈ ps, x.block < W.heap.size) →
  DataW.TrodAll enc P W' 0 (fun b => decide (b < W.heap.size)) true ts vs ds ps
 | [], vs, ds, ps, _, h, _ => by
  obtain ⟨rfl, rfl, rfl⟩ := trodAll_nil h
  exact trodAll_mk0
 | t :: ts, vs, ds, ps, hk, h, hlt => by
  obtain ⟨v, vs', d, ds', p, p', rfl, rfl, rfl, h0, hr⟩ := trodAll_cons h
  simp only [List.all_cons, Bool.and_eq_true, decide_eq_true_eq] at hk
  exact trodAll_cons_mk (Below.trod hl hk.1.1 hk.1.2 h0 hb (fun x hx => hlt x (List.mem_append_left _ hx))) (qU hl hb hk.2 hr (fun x hx => hlt x (List.mem_append_right _ hx)))
theorem law_post {f : Func} {s : ChangeSpec} {W W' : World} {args : Array Value} {ds gs : List (DataW H)} {before : List MemPlace} {tb : TypeId}
  (hl : laidOutB P = true) (hbool : P.underlying tb = some .bool) (hres : f.resultTypes = #[tb]) (hpar : (f.params.toList.all fun t => P.readableRec t && decide (t < P.types.size)) = true)
  (hvars : s.vars = []) (hW : DataW.Whole enc P f.params.toList s.vars false W args.toList ds gs before)
  (hfn : s.fn H (ds ++ gs) = { results := [.lit (.bool true)], args := ds }) (hb : Below W.heap.size W W') :
  s.post enc P f false true false false W args (.bool true) W' := by
 have hW' := hW
 obtain ⟨p, q, hA, hV, rfl, _, _⟩ := hW
 rw [hvars] at hV
 obtain ⟨rfl, rfl⟩ := trodVars_none hV
 have hA' : DataW.TrodAll enc P W 0 (fun _ => true) true f.params.toList args.toList ds p := hA
 refine ⟨ds, [], p ++ [], [], p, [], hW', ?_, ?_, ?_, hb.frame _, fun h => by cases h⟩
 ·rw [hfn, hres]
  exact trodAll_cons_mk (shut_bool hbool true) trodAll_mk0
 ·rw [hfn]
  exact qU hl hb hpar hA' hA'.lt
 ·rw [hfn, hvars]
  rfl
end
end
section
open Go.ChangeShapes Go.WideShapes Go.ChangeAt Go.RowKit Go.Deep Go.Joins
theorem open_string {H : Type} {enc : TypeId × Value → H} {P : Program} {w : World} {base : Nat} {spare : Nat → Bool} {held : Bool} {r : Reach} {b0 : Nat} {t : TypeId} {v : Value} {d : DataW H} {ps : List MemPlace} (ht : P.underlying t = some .string)
  (hval : Value.okWide P w r b0 t v) (hd : DataW.Trod enc P w base spare held t v d ps) : ∃ s : ByteArray, v = .string s ∧ d = .lit (.string s.data.toList) ∧ ps = [] ∧ s.size ≤ maxLen := by
 obtain ⟨s, rfl⟩ := okWide_string ht hval
 obtain ⟨fuel, hf⟩ := hd
 obtain ⟨s', h, hx, hw⟩ := DataW.trod_string ht hf
 simp [Value.cells] at h
 subst h
 simp only [Prod.mk.injEq] at hx
 exact ⟨s, rfl, hx.1, hx.2, hw⟩
theorem reps_nil {w : World} {Pr : Prot} : ∀ (i : Nat) (v : Value) (d : D), ([] : List Value)[i]? = some v → ([] : List D)[i]? = some d → RepD w Pr v d := by simp
theorem reps_cons {w : World} {Pr : Prot} {v : Value} {d : D} {vs : List Value} {ds : List D} (h : RepD w Pr v d) (hr : ∀ (i : Nat) (v : Value) (d : D), vs[i]? = some v → ds[i]? = some d → RepD w Pr v d) :
  ∀ (i : Nat) (u : Value) (e : D), (v :: vs)[i]? = some u → (d :: ds)[i]? = some e → RepD w Pr u e
 | 0, _, _, h1, h2 => by cases h1; cases h2; exact h
 | i + 1, u, e, h1, h2 => hr i u e h1 h2
section
variable {H : Type} {enc : TypeId × Value → H}
end
end
section
open Go.ChangeShapes Go.WideShapes Go.ChangeAt Go.RowKit Go.Deep Go.Joins
section
variable {H : Type} {enc : TypeId × Value → H} {P : Program} {w : World} {base : Nat}
def Show (enc : TypeId × Value → H) (P : Program) (w : World) (base : Nat) (t : TypeId) (c : Nat) {α : Type} (f : α → List D) (Q : α → Prop) : Prop :=
 ∀ (fuel : Nat) (cs : List Value) (x : DataW H × List MemPlace), DataW.trod enc P w base (fun _ => true) true fuel t cs = some x →
  cs.length = c ∧ ∃ a, Q a ∧ (f a).length = c ∧ ∀ (j : Nat) (v : Value) (d : D), cs[j]? = some v → (f a)[j]? = some d → RepD w (fun b _ => b < w.heap.size) v d
theorem sZ {α : Type} {t : TypeId} {g : α → D} {Q : α → Prop} (h : ∀ (fuel : Nat) (cs : List Value) (x : DataW H × List MemPlace), DataW.trod enc P w base (fun _ => true) true fuel t cs = some x → ∃ v a, cs = [v] ∧ Q a ∧ RepD w (fun b _ => b < w.heap.size) v (g a)) :
  Show enc P w base t 1 (fun a => [g a]) Q := by
 intro fuel cs x hx
 obtain ⟨v, a, rfl, ha, hr⟩ := h fuel cs x hx
 refine ⟨rfl, a, ha, rfl, fun j u d h1 h2 => ?_⟩
 cases j with
 | zero => cases h1; cases h2; exact hr
 | succ j => cases h1
theorem aQq {t : TypeId} {k : IntKind} (ht : P.underlying t = some (.int k)) : Show enc P w base t 1 (fun n : Int => [.val (.int k n)]) (fun n => k.min ≤ n ∧ n ≤ k.max) :=
 sZ (g := fun n : Int => .val (.int k n)) fun fuel cs x hx => by
  obtain ⟨n, rfl, _, hw⟩ := DataW.trod_int ht hx
  exact ⟨_, n, rfl, by simpa [Lit.wf] using hw, .val _⟩
theorem aFv {t : TypeId} (ht : P.underlying t = some .string) : Show enc P w base t 1 (fun s : ByteArray => [.str s]) (fun s => s.size ≤ maxLen) :=
 sZ (g := fun s : ByteArray => .str s) fun fuel cs x hx => by
  obtain ⟨s, rfl, _, hw⟩ := DataW.trod_string ht hx
  exact ⟨_, s, rfl, hw, .val _⟩
theorem fI {α : Type} {t e : TypeId} {es : Nat} {f : α → List D} {Q : α → Prop} (ht : P.underlying t = some (.slice e)) (hc : P.cellsOf e = es) (hpos : 0 < es) (he : Show enc P w base e es f Q) :
  Show enc P w base t 1 (fun l : List α => [.list es (l.map f)]) (fun l => l.length ≤ maxLen ∧ ∀ x ∈ l, Q x) :=
 sZ (g := fun l : List α => .list es (l.map f)) fun fuel cs x hx => by
  rcases open_slice ht hx with ⟨rfl, _⟩ | ⟨a, len, cap, m, k, Dt, Pl, rfl, hb, hl, hm, hmm, _, hf⟩
  ·exact ⟨_, [], rfl, ⟨Nat.zero_le _, by simp⟩, .nil _ _ _ (Nat.zero_le _)⟩
  ·refine ⟨.slice (some a) len cap, ?_⟩
   simp only [if_true] at hmm
   subst hmm
   rw [hc] at hf
   rcases Nat.eq_zero_or_pos len with h0 | h0
   ·subst h0
    exact ⟨[], rfl, ⟨Nat.zero_le _, by simp⟩, .nil _ _ _ hm⟩
   have h1 : ∀ i, i < len → ∃ y : α × List Value, Q y.1 ∧ w.cells? base (a.add (i * es)) es = some y.2 ∧ y.2.length = es ∧ (f y.1).length = es ∧ ∀ (j : Nat) (v : Value) (d : D), y.2[j]? = some v → (f y.1)[j]? = some d → RepD w (fun b _ => b < w.heap.size) v d := by
    intro i hi
    obtain ⟨cs, hcell, htr⟩ := hf i zb
    obtain ⟨h2, y, h3, h4, h5⟩ := he _ _ _ htr
    exact ⟨(y, cs), h3, hcell, h2, h4, h5⟩
   haveI : Inhabited (α × List Value) := ⟨Classical.choose (h1 0 h0)⟩
   obtain ⟨g, hg⟩ := choose_lt h1
   obtain ⟨b, o, spot⟩ := a
   have hspot : spot = none := by
    obtain ⟨_, h2, h3, _, _⟩ := hg 0 h0
    have h4 := (World.cells?_some h2).2.2 0 hpos
    rw [List.getElem?_eq_getElem zb] at h4
    simpa [Addr.add] using World.cell?_spot h4
   subst hspot
   have hblk : b < w.heap.size := by
    obtain ⟨_, h2, _⟩ := hg 0 h0
    have := World.cells?_block h2 hpos
    simpa [Addr.add] using this
   refine ⟨(List.range len).map fun i => (g i).1, rfl, ⟨?_, fun x hx => ?_⟩, ?_⟩
   ·simp only [List.length_map, List.length_range]
    omega
   ·obtain ⟨j, hj, rfl⟩ := List.mem_map.1 hx
    exact (hg j (List.mem_range.1 hj)).1
   have hval : ∀ (i j : Nat) (e : List D) (d : D), (((List.range len).map fun i => (g i).1).map f)[i]? = some e → e[j]? = some d → i < len ∧ j < es ∧ e = f (g i).1 ∧ ∃ v, (g i).2[j]? = some v := by
    intro i j e d h2 h3
    rw [List.getElem?_map, List.getElem?_map, Option.map_eq_some_iff] at h2
    obtain ⟨x, h4, rfl⟩ := h2
    rw [Option.map_eq_some_iff] at h4
    obtain ⟨k, h5, rfl⟩ := h4
    have hi : i < len := by have := (List.getElem?_eq_some_iff.1 h5).1; simpa using this
    have hk : k = i := by simpa [hi] using h5.symm
    subst hk
    obtain ⟨_, _, h6, h7, _⟩ := hg k hi
    have hj : j < es := by have := (List.getElem?_eq_some_iff.1 h3).1; omega
    exact ⟨hi, hj, rfl, _, List.getElem?_eq_getElem zb⟩
   refine .list b o len m es _ (fun i j => ((g i).2[j]?).getD undef) (by simp) (fun e he => ?_) hl hm (fun i j e d h2 h3 => ?_) (fun i j e d h2 h3 => ?_)
   ·obtain ⟨x, hx, rfl⟩ := List.mem_map.1 he
    obtain ⟨j, hj, rfl⟩ := List.mem_map.1 hx
    exact (hg j (List.mem_range.1 hj)).2.2.2.1
   ·obtain ⟨hi, hj, rfl, v, hv⟩ := hval i j e d h2 h3
    refine ⟨?_, hblk⟩
    obtain ⟨_, h4, _⟩ := hg i hi
    have h5 := (World.cells?_some h4).2.2 j hj
    rw [hv, add_plain, add_plain] at h5
    rw [hv]
    exact h5
   ·obtain ⟨hi, hj, rfl, v, hv⟩ := hval i j e d h2 h3
    rw [hv]
    exact (hg i hi).2.2.2.2 j v d hv h3
def ShowFs (enc : TypeId × Value → H) (P : Program) (w : World) (base : Nat) (o : Nat) (fs : List Field) (c : Nat) {α : Type} (f : α → List D) (Q : α → Prop) : Prop :=
 ∀ (n : Nat) (cs : List Value), (∀ (i : Nat) (fl : Field), fs[i]? = some fl → ∃ y, DataW.trod enc P w base (fun _ => true) true n fl.type ((cs.drop fl.offset).take (P.cellsOf fl.type)) = some y) →
  ∃ a, Q a ∧ (f a).length = c ∧ ∀ (j : Nat) (v : Value) (d : D), cs[o + j]? = some v → (f a)[j]? = some d → RepD w (fun b _ => b < w.heap.size) v d
theorem eY {o : Nat} : ShowFs enc P w base o [] 0 (fun _ : Unit => []) (fun _ => True) := fun _ _ _ => ⟨(), trivial, rfl, fun j v d _ h => by cases h⟩
theorem aQ {α β : Type} {fl : Field} {o c c' : Nat} {fs : List Field} {f : α → List D} {Q : α → Prop} {g : β → List D} {R : β → Prop} (h : Show enc P w base fl.type c f Q) (ho : fl.offset = o) (hc : P.cellsOf fl.type = c)
  (hr : ShowFs enc P w base (o + c) fs c' g R) : ShowFs enc P w base o (fl :: fs) (c + c') (fun x : α × β => f x.1 ++ g x.2) (fun x => Q x.1 ∧ R x.2) := by
 intro n cs hcs
 obtain ⟨y, hy⟩ := hcs 0 fl rfl
 obtain ⟨_, a, h1, h2, h3⟩ := h _ _ _ hy
 obtain ⟨b, h4, h5, h6⟩ := hr n cs fun i f hf => hcs (i + 1) f hf
 refine ⟨(a, b), ⟨h1, h4⟩, by simp [h2, h5], fun j v d hv hd => ?_⟩
 have hd : (f a ++ g b)[j]? = some d := hd
 by_cases hj : j < c
 ·rw [List.getElem?_append_left zb] at hd
  refine h3 j v d ?_ hd
  rw [ho, hc, List.getElem?_take, if_pos hj, List.getElem?_drop]
  exact hv
 ·rw [List.getElem?_append_right zb, h2] at hd
  refine h6 (j - c) v d ?_ hd
  rw [show o + c + (j - c) = o + j by omega]
  exact hv
theorem dE {α : Type} {t : TypeId} {fs : Array Field} {c : Nat} {f : α → List D} {Q : α → Prop} (ht : P.underlying t = some (.struct fs)) (hc : P.cellsOf t = c) (h : ShowFs enc P w base 0 fs.toList c f Q) : Show enc P w base t c f Q := by
 intro fuel cs x hx
 obtain ⟨xs, n, _, _, hl, hlen, hf⟩ := DataW.trod_struct ht hx
 obtain ⟨a, h1, h2, h3⟩ := h n cs fun i fl hfl => by
  have hfl' : fs[i]? = some fl := by simpa using hfl
  have hi : i < fs.size := (Array.getElem?_eq_some_iff.1 hfl').1
  exact ⟨_, (hf i fl hfl').trans (List.getElem?_eq_getElem zb)⟩
 exact ⟨hl.trans hc, a, h1, h2, fun j v d hv hd => h3 j v d (by simpa using hv) hd⟩
theorem Show.as {α β : Type} {t : TypeId} {c : Nat} {f : α → List D} {Q : α → Prop} (h : Show enc P w base t c f Q) (g : β → List D) (R : β → Prop) (m : α → β) (hg : ∀ a, g (m a) = f a) (hR : ∀ a, Q a → R (m a)) : Show enc P w base t c g R := by
 intro fuel cs x hx
 obtain ⟨h1, a, h2, h3, h4⟩ := h fuel cs x hx
 exact ⟨h1, m a, hR a h2, by rw [hg]; exact h3, by rw [hg]; exact h4⟩
theorem open_struct {α : Type} {t : TypeId} {c : Nat} {f : α → List D} {Q : α → Prop} {v : Value} {d : DataW H} {ps : List MemPlace} (h : Show enc P w base t c f Q) (cs : Array Value) (hv : v = .agg cs) (hd : DataW.Trod enc P w base (fun _ => true) true t v d ps) :
  ∃ a, Q a ∧ RepD w (fun b _ => b < w.heap.size) v (.agg (f a)) := by
 subst hv
 obtain ⟨fuel, hf⟩ := hd
 obtain ⟨h0, a, h1, h2, h3⟩ := h _ _ _ hf
 obtain ⟨l⟩ := cs
 have hl : l.length = c := by simpa [Value.cells] using h0
 exact ⟨a, h1, .agg l (f a) zb fun i v d hv hd => h3 i v d (by simpa [Value.cells] using hv) hd⟩
end
end
section
abbrev intsL (l : List Int) : D := .list 1 (l.map fun n => [D.int n])
structure SArc where
 f : Int
 t : Int
 lo : List Int
 hi : List Int
 deriving DecidableEq
abbrev SArc.c (a : SArc) : List D := [.int a.f, .int a.t, intsL a.lo, intsL a.hi]
structure SObs where
 s : Int
 k : Int
 deriving DecidableEq
abbrev SObs.c (a : SObs) : List D := [.int a.s, .int a.k]
abbrev obsL (l : List SObs) : D := .list 2 (l.map SObs.c)
abbrev seenC (l : List SObs) : List D := [obsL l]
structure SCar where
 ow : Int
 no : Int
 re : Int
 en : Int
 se : Int
 ch : Int
 ba : Int
 cg : Int
 fu : Int
 deriving DecidableEq
abbrev SCar.c (a : SCar) : List D := [.int a.ow, .int a.no, .int a.re, .int a.en, .int a.se, .int a.ch, .int a.ba, .int a.cg, .int a.fu]
structure SStop where
 r : Int
 p : Bool
 deriving DecidableEq
abbrev SStop.c (a : SStop) : List D := [.int a.r, .bool a.p]
structure SLeg where
 l : Int
 h : Int
 deriving DecidableEq
abbrev SLeg.c (a : SLeg) : List D := [.int a.l, .int a.h]
structure SPlan where
 car : Int
 st : List SStop
 le : List SLeg
 lv : List Int
 deriving DecidableEq
abbrev SPlan.c (a : SPlan) : List D := [.int a.car, .list 2 (a.st.map SStop.c), .list 2 (a.le.map SLeg.c), intsL a.lv]
structure SReq where
 me : Int
 f : Int
 t : Int
 ea : Int
 la : Int
 du : Int
 ri : Int
 se : Int
 ch : Int
 ba : Int
 deriving DecidableEq
abbrev SReq.c (a : SReq) : List D := [.int a.me, .int a.f, .int a.t, .int a.ea, .int a.la, .int a.du, .int a.ri, .int a.se, .int a.ch, .int a.ba]
structure SProm where
 q : SReq
 car : Int
 ve : Int
 fa : Int
 sg : Int
 ow : Int
 deriving DecidableEq
abbrev SProm.c (a : SProm) : List D := [.int a.q.me, .int a.q.f, .int a.q.t, .int a.q.ea, .int a.q.la, .int a.q.du, .int a.q.ri, .int a.q.se, .int a.q.ch, .int a.q.ba, .int a.car, .int a.ve, .int a.fa, .int a.sg, .int a.ow]
structure SPool where
 mo : Int
 pr : Int
 ms : Int
 co : Int
 wi : Int
 to : Int
 deriving DecidableEq
abbrev SPool.c (a : SPool) : List D := [.int a.mo, .int a.pr, .int a.ms, .int a.co, .int a.wi, .int a.to]
structure SVer where
 f : Int
 t : ByteArray
 deriving DecidableEq
abbrev SVer.c (a : SVer) : List D := [.int a.f, .str a.t]
structure SShare where
 x : Int
 y : Int
 deriving DecidableEq
abbrev SShare.c (a : SShare) : List D := [.int a.x, .int a.y]
structure SCard where
 me : Int
 sh : List SShare
 deriving DecidableEq
abbrev SCard.c (a : SCard) : List D := [.int a.me, .list 2 (a.sh.map SShare.c)]
structure SBal where
 t : ByteArray
 f : Int
 ca : List SCard
 cl : Bool
 deriving DecidableEq
abbrev SBal.c (a : SBal) : List D := [.str a.t, .int a.f, .list 2 (a.ca.map SCard.c), .bool a.cl]
structure SSt where
 ti : Int
 ar : List SArc
 se : List (List SObs)
 cs : List SCar
 pl : List SPlan
 dn : List Int
 at_ : List Int
 pm : List SProm
 pu : List Int
 po : SPool
 fv : List Int
 ve : List SVer
 bl : List SBal
 deriving DecidableEq
abbrev SSt.c (a : SSt) : List D := [.int a.ti, .list 4 (a.ar.map SArc.c), .list 1 (a.se.map seenC), .list 9 (a.cs.map SCar.c), .list 4 (a.pl.map SPlan.c), intsL a.dn, intsL a.at_, .list 15 (a.pm.map SProm.c), intsL a.pu, .int a.po.mo, .int a.po.pr, .int a.po.ms, .int a.po.co, .int a.po.wi, .int a.po.to, intsL a.fv, .list 2 (a.ve.map SVer.c), .list 4 (a.bl.map SBal.c)]
abbrev SSt.b (a : SSt) : O := .box 33 [.d (.int a.ti), .d (.list 4 (a.ar.map SArc.c)), .d (.list 1 (a.se.map seenC)), .d (.list 9 (a.cs.map SCar.c)), .d (.list 4 (a.pl.map SPlan.c)), .d (intsL a.dn), .d (intsL a.at_), .d (.list 15 (a.pm.map SProm.c)), .d (intsL a.pu), .d (.int a.po.mo), .d (.int a.po.pr), .d (.int a.po.ms), .d (.int a.po.co), .d (.int a.po.wi), .d (.int a.po.to), .d (intsL a.fv), .d (.list 2 (a.ve.map SVer.c)), .d (.list 4 (a.bl.map SBal.c))]
end
section
open Go.RowKit
def digitB (c : UInt8) : Bool := decide (48 ≤ (c.toNat : Int)) && decide ((c.toNat : Int) ≤ 57)
theorem iI (c : UInt8) : PureC 295 [.val (.int .u8 c.toNat)] (· = .bool (digitB c)) := by
 refine aE Tryz.func295 rfl zg _ Tryz.ntmps295 (aC rfl) (fun w Pr hE => ?_)
 dsimp only [slotsOf, Nat.zero_add, Nat.reduceAdd]
 repeat' (first | refine nx ?_ | refine vi ?_ | refine xb ?_ | (refine wQ ?_ ?_ <;> intro hb hq <;> try omega))
 all_goals (refine gG rfl (.d _) ?_; simp [digitB, *])
def isBlank (c : UInt8) : Bool := decide ((c.toNat : Int) = 32) || decide ((c.toNat : Int) = 9) || decide ((c.toNat : Int) = 10)
theorem tL (c : UInt8) : PureC 262 [.val (.int .u8 c.toNat)] (· = .bool (isBlank c)) := by
 refine aE Tryz.func262 rfl zg _ Tryz.ntmps262 (aC rfl) (fun w Pr hE => ?_)
 dsimp only [slotsOf, Nat.zero_add, Nat.reduceAdd]
 repeat' (first | refine vj ?_ | refine vr ?_ | refine vw ?_ | (refine wQ ?_ ?_ <;> intro hb hq <;> try omega))
 all_goals (refine gG rfl (.d _) ?_; simp [isBlank, *])
def pre (F : UInt8 → Bool) (s : ByteArray) : Nat := (s.data.toList.takeWhile F).length
theorem aCx {α : Type} (F : α → Bool) (l : List α) (k : Nat) (hk : k ≤ l.length) (h1 : ∀ j (h : j < l.length), j < k → F l[j] = true) (h2 : k < l.length → ∃ h : k < l.length, F l[k] = false) : (l.takeWhile F).length = k := by
 induction l generalizing k with
 | nil => simp at hk; simp [hk]
 | cons x l ih =>
  cases k with
  | zero =>
   obtain ⟨_, h⟩ := h2 (by simp)
   simp at h
   simp [h]
  | succ k =>
   have h0 := h1 0 (by simp) zb
   simp at h0
   rw [List.takeWhile_cons, h0]
   simp only [if_true, List.length_cons, Nat.succ.injEq]
   refine ih k (by simpa using hk) (fun j h hj => ?_) (fun h => ?_)
   ·have := h1 (j + 1) (by simpa using h) zb
    simpa using this
   ·obtain ⟨h', h3⟩ := h2 (by simpa using h)
    exact ⟨h, by simpa using h3⟩
theorem kY (s : ByteArray) (i : Nat) (h : i < s.data.toList.length) : bAt s i = s.data.toList[i] := by simp [bAt, List.getD_eq_getElem?_getD, List.getElem?_eq_getElem h]
theorem aCd (F : UInt8 → Bool) (s : ByteArray) (k : Nat) (hk : k ≤ s.size) (h1 : ∀ j, j < k → F (bAt s j) = true) (h2 : k < s.size → F (bAt s k) = false) : pre F s = k := by
 refine aCx F _ k (by simpa using hk) (fun j h hj => ?_) (fun h => ⟨h, ?_⟩)
 ·rw [← kY s j h]
  exact h1 j hj
 ·rw [← kY s k h]
  exact h2 (by simpa using h)
theorem iU (s : ByteArray) (g : Nat) (F : UInt8 → Bool) (hs : s.size ≤ 9223372036854775807) (hF : ∀ c, PureC g [.val (.int .u8 c.toNat)] (· = .bool (F c))) : PureC 261 [.str s, .val (.func (.func g) #[] #[])] (· = .int (pre F s)) := by
 refine aE Tryz.func261 rfl zg _ Tryz.ntmps261 (aC rfl) (fun w Pr hE => ?_)
 dsimp only [slotsOf, Nat.zero_add, Nat.reduceAdd]
 repeat' (first | refine vw ?_ | refine xg ?_ | (refine sQ ?_ ?_ <;> intro hb hq <;> try omega) | (refine wQ ?_ ?_ <;> intro hb hq <;> try omega) | (apply nT; refine qD ?_))
 refine bB (fun n sl ob => ∃ k : Nat, n = s.size - k ∧ k ≤ s.size ∧ (∀ j, j < k → F (bAt s j) = true) ∧ sl = [(5, .d (.int k)), (0, .d (.str s)), (1, .d (.val (.func (.func g) #[] #[])))] ∧ ob = []) (⟨0, rfl, by omega, by simp, rfl, rfl⟩) ?_
 rintro n sl ob ⟨k, rfl, hk, hp, rfl, rfl⟩
 repeat' (first | refine kQ (hF _) hE ?_ | refine vw ?_ | refine xg ?_ | (refine sQ ?_ ?_ <;> intro hb hq <;> try omega) | (refine wQ ?_ ?_ <;> intro hb hq <;> try omega) | (apply nT; refine qD ?_))
 ·skip
  refine bK (⟨k + 1, rfl, by omega, fun j hj => (Nat.lt_succ_iff_lt_or_eq.1 hj).elim (hp j) (fun e => e ▸ jw), rfl, rfl⟩) zb
 ·refine gG rfl (.d _) ?_
  rw [aCd F s k hk hp (fun _ => by assumption)]
 ·refine gG rfl (.d _) ?_
  rw [aCd F s k hk hp (fun _ => by omega)]
end
end Go.Proofs.YtaodngiigdbgeaaGreatDoor
