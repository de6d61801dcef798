/-
  Conditions: none.
-/
import Derived.Laws.StructEq
import Derived.ChangeKeysEq
import Derived.Laws.OwnMore
import Derived.Laws.BytesArg
import Derived.Laws.Slices
import Derived.Test.YtaodngiigdbgeaaGreatDoorMaa
import Derived.Test.YtaodngiigdbgeaaGreatDoorMae
import Derived.Test.YtaodngiigdbgeaaGreatDoorMah
set_option maxHeartbeats 16000000
set_option maxRecDepth 20000
set_option linter.unusedSimpArgs false
set_option linter.unusedVariables false
namespace Go.Proofs.YtaodngiigdbgeaaGreatDoor
section
open Go.RowKit
inductive KD where
 | i (k : IntKind)
 | s
 | b
 | no
def kindsD : List D → List KD
 | [] => []
 | .val (.int k _) :: l => .i k :: kindsD l
 | .val (.string _) :: l => .s :: kindsD l
 | .val (.bool _) :: l => .b :: kindsD l
 | _ :: l => .no :: kindsD l
def valsD : List D → List Value
 | .val v :: l => v :: valsD l
 | _ => []
def eqL : List D → List D → Bool
 | .val (.int _ a) :: l, .val (.int _ b) :: m => decide (a = b) && eqL l m
 | .val (.string a) :: l, .val (.string b) :: m => decide (a = b) && eqL l m
 | .val (.bool a) :: l, .val (.bool b) :: m => (a == b) && eqL l m
 | _, _ => true
noncomputable def fieldOk (i : Nat) (f : Field) : KD → Bool
 | .i _ => f.offset == i && f.name != "_" && Tryz.prog.plainKey f.type && (match Tryz.prog.underlying f.type with | some (.int _) => true | _ => false)
 | .s => f.offset == i && f.name != "_" && Tryz.prog.plainKey f.type && (match Tryz.prog.underlying f.type with | some .string => true | _ => false)
 | .b => f.offset == i && f.name != "_" && Tryz.prog.plainKey f.type && (match Tryz.prog.underlying f.type with | some .bool => true | _ => false)
 | .no => false
noncomputable def fieldsOk : Nat → List Field → List KD → Bool
 | _, [], [] => true
 | i, f :: fs, k :: ks => fieldOk i f k && fieldsOk (i + 1) fs ks
 | _, _, _ => false
noncomputable def eqTy (t : TypeId) (ks : List KD) : Bool :=
 (match Tryz.prog.underlying t with | some (.struct _) => true | _ => false) && !Tryz.prog.stoodInHeld t && !Tryz.prog.eqGuardType Tryz.prog.depth t && fieldsOk 0 (Tryz.prog.fieldsOf t).toList ks
theorem sU {w : World} {Pr : Prot} : ∀ (l : List D) (cs : List Value), cs.length = l.length → (∀ (i : Nat) (v : Value) (d : D), cs[i]? = some v → l[i]? = some d → RepD w Pr v d) → (∀ k ∈ kindsD l, k ≠ .no) → cs = valsD l
 | [], [], _, _, _ => rfl
 | d :: l, v :: cs, hl, hd, hk => by
  have h0 := hd 0 v d rfl rfl
  have ih : (∀ k ∈ kindsD l, k ≠ .no) → cs = valsD l := sU l cs (by simpa using hl) (fun i v d h1 h2 => hd (i + 1) v d h1 h2)
  match d, h0, hk with
  | .val u, h0, hk =>
   cases h0
   simp only [valsD]
   refine congrArg _ (ih fun k hm => hk k ?_)
   cases v <;> exact List.mem_cons_of_mem _ hm
  | .list .., _, hk => exact absurd rfl (hk .no (by simp [kindsD]))
  | .agg .., _, hk => exact absurd rfl (hk .no (by simp [kindsD]))
  | .tup .., _, hk => exact absurd rfl (hk .no (by simp [kindsD]))
  | .err, _, hk => exact absurd rfl (hk .no (by simp [kindsD]))
  | .ifc .., _, hk => exact absurd rfl (hk .no (by simp [kindsD]))
theorem hZ : ∀ {i : Nat} {fs : List Field} {ks : List KD}, fieldsOk i fs ks = true → ∀ k ∈ ks, k ≠ .no
 | _, [], [], _, _, hm => by cases hm
 | i, f :: fs, k :: ks, h, k', hm => by
  simp only [fieldsOk, Bool.and_eq_true] at h
  rcases List.mem_cons.1 hm with rfl | hm
  ·rintro rfl
   exact absurd h.1 (by simp [fieldOk])
  ·exact hZ h.2 k' hm
 | _, [], _ :: _, h, _, _ => by simp [fieldsOk] at h
 | _, _ :: _, [], h, _, _ => by simp [fieldsOk] at h
theorem lP (d : D) (l : List D) : (∃ k a, d = .val (.int k a)) ∨ (∃ s, d = .val (.string s)) ∨ (∃ b, d = .val (.bool b)) ∨ kindsD (d :: l) = .no :: kindsD l := by
 cases d with
 | val u => cases u <;> simp [kindsD]
 | list s l => simp [kindsD]
 | agg l => simp [kindsD]
 | tup l => simp [kindsD]
 | err => simp [kindsD]
 | ifc t x => simp [kindsD]
theorem vZ (n : Nat) (w : World) : ∀ (fs : List Field) (l m : List D) (px py : List Value), px.length = py.length → kindsD l = kindsD m → fieldsOk px.length fs (kindsD l) = true →
  (Op.eqFields (n + 1) (px ++ valsD l).toArray (py ++ valsD m).toArray fs).run Tryz.prog w = .ok (eqL l m) w
 | [], [], [], px, py, _, _, _ => by simp [Op.eqFields, eqL, Sem.run_pure]
 | [], [], d :: m, px, py, _, hk, h => by
  have := congrArg List.length hk
  match d with
  | .val u => cases u <;> simp [kindsD] at this
  | .list .. | .agg .. | .tup .. | .err | .ifc .. => simp [kindsD] at this
 | [], d :: l, m, px, py, _, _, h => by
  match d with
  | .val u => cases u <;> simp [kindsD, fieldsOk] at h
  | .list .. | .agg .. | .tup .. | .err | .ifc .. => simp [kindsD, fieldsOk] at h
 | f :: fs, [], m, px, py, _, _, h => by simp [kindsD, fieldsOk] at h
 | f :: fs, d :: l, [], px, py, _, hk, h => by
  have := congrArg List.length hk
  match d with
  | .val u => cases u <;> simp [kindsD] at this
  | .list .. | .agg .. | .tup .. | .err | .ifc .. => simp [kindsD] at this
 | f :: fs, d :: l, e :: m, px, py, hp, hk, h => by
  have hx : ∀ (u : Value) (r : List Value), (px ++ u :: r).toArray[px.length]? = some u := fun u r => by simp
  have hy : ∀ (u : Value) (r : List Value), (py ++ u :: r).toArray[px.length]? = some u := fun u r => by rw [hp]; simp
  have push : ∀ (p : List Value) (u : Value) (r : List Value), p ++ u :: r = (p ++ [u]) ++ r := fun p u r => by simp
  have fin : ∀ {u v : Value} (b : Bool), valsD (d :: l) = u :: valsD l → valsD (e :: m) = v :: valsD m → kindsD l = kindsD m → fieldsOk (px.length + 1) fs (kindsD l) = true → f.name ≠ "_" → Tryz.prog.plainKey f.type = true → f.offset = px.length → (∀ w, (Op.equalIn (n + 1) f.type u v).run Tryz.prog w = .ok b w) → eqL (d :: l) (e :: m) = (b && eqL l m) →
    (Op.eqFields (n + 1) (px ++ valsD (d :: l)).toArray (py ++ valsD (e :: m)).toArray (f :: fs)).run Tryz.prog w = .ok (eqL (d :: l) (e :: m)) w := by
   intro u v b e1 e2 hk2 hf hn hpl ho hr he
   rw [e1, e2, he]
   simp only [Op.eqFields, if_pos hn, Sem.run_bind, run_part_plain w hpl (show (px ++ u :: valsD l).toArray[f.offset]? = some u by rw [ho]; exact hx u _), run_part_plain w hpl (show (py ++ v :: valsD m).toArray[f.offset]? = some v by rw [ho]; exact hy v _), Result.andThen_ok, hr w, Sem.run_ite]
   cases b
   ·simp [Sem.run_pure]
   ·simp only [Bool.not_true, Bool.false_eq_true, if_false, Bool.true_and]
    rw [push px, push py]
    exact vZ n w fs l m (px ++ [u]) (py ++ [v]) (by simp [hp]) hk2 (by simpa using hf)
  rcases lP d l with ⟨k, a, rfl⟩ | ⟨a, rfl⟩ | ⟨a, rfl⟩ | hd
  ·rcases lP e m with ⟨k', b, rfl⟩ | ⟨b, rfl⟩ | ⟨b, rfl⟩ | he
   ·simp only [kindsD, List.cons.injEq, KD.i.injEq] at hk
    obtain ⟨rfl, hk⟩ := hk
    simp only [kindsD, fieldsOk, fieldOk, Bool.and_eq_true, beq_iff_eq, bne_iff_ne, ne_eq] at h
    obtain ⟨⟨⟨⟨h1, h2⟩, h3⟩, h4⟩, h5⟩ := h
    cases hu : Tryz.prog.underlying f.type with
    | none => rw [hu] at h4; cases h4
    | some td =>
     rw [hu] at h4
     cases td <;> simp at h4
     refine fin (decide (a = b)) rfl rfl hk h5 h2 h3 h1 (fun w => ?_) rfl
     rw [run_equalIn_int w n f.type k _ a b hu]
     rfl
   ·simp [kindsD] at hk
   ·simp [kindsD] at hk
   ·rw [he] at hk
    simp [kindsD] at hk
  ·rcases lP e m with ⟨k', b, rfl⟩ | ⟨b, rfl⟩ | ⟨b, rfl⟩ | he
   ·simp [kindsD] at hk
   ·simp only [kindsD, List.cons.injEq, true_and] at hk
    simp only [kindsD, fieldsOk, fieldOk, Bool.and_eq_true, beq_iff_eq, bne_iff_ne, ne_eq] at h
    obtain ⟨⟨⟨⟨h1, h2⟩, h3⟩, h4⟩, h5⟩ := h
    cases hu : Tryz.prog.underlying f.type with
    | none => rw [hu] at h4; cases h4
    | some td =>
     rw [hu] at h4
     cases td <;> simp at h4
     refine fin (decide (a = b)) rfl rfl hk h5 h2 h3 h1 (fun w => ?_) rfl
     rw [run_equalIn_string w n f.type a b hu, tN]
   ·simp [kindsD] at hk
   ·rw [he] at hk
    simp [kindsD] at hk
  ·rcases lP e m with ⟨k', b, rfl⟩ | ⟨b, rfl⟩ | ⟨b, rfl⟩ | he
   ·simp [kindsD] at hk
   ·simp [kindsD] at hk
   ·simp only [kindsD, List.cons.injEq, true_and] at hk
    simp only [kindsD, fieldsOk, fieldOk, Bool.and_eq_true, beq_iff_eq, bne_iff_ne, ne_eq] at h
    obtain ⟨⟨⟨⟨h1, h2⟩, h3⟩, h4⟩, h5⟩ := h
    cases hu : Tryz.prog.underlying f.type with
    | none => rw [hu] at h4; cases h4
    | some td =>
     rw [hu] at h4
     cases td <;> simp at h4
     exact fin (a == b) rfl rfl hk h5 h2 h3 h1 (fun w => run_equalIn_bool' w n f.type a b hu) rfl
   ·rw [he] at hk
    simp [kindsD] at hk
  ·rw [hd] at h
   exact absurd rfl (hZ h .no (List.mem_cons_self ..))
section
variable {E : Entry} {sl : Slots} {ob : Objs} {a : Act} {w : World} {Pr : Prot} {β : Nat → Value} {κ : Nat → Nat}
variable {d : Option Nat} {t T ty : TypeId} {p : String} {af : Array Edge} {g : Option (Nat × Bool)} {x y c : Operand}
theorem hH {ks : List KD} (h : eqTy t ks = true) : Tryz.prog.underlying t = some (.struct (Tryz.prog.fieldsOf t)) ∧ Tryz.prog.stoodInHeld t = false ∧ Tryz.prog.eqGuardType Tryz.prog.depth t = false ∧ fieldsOk 0 (Tryz.prog.fieldsOf t).toList ks = true := by
 simp only [eqTy, Bool.and_eq_true, Bool.not_eq_true'] at h
 obtain ⟨⟨⟨h1, h2⟩, h3⟩, h4⟩ := h
 refine ⟨?_, h2, h3, h4⟩
 unfold Program.fieldsOf
 cases hu : Tryz.prog.underlying t with
 | none => rw [hu] at h1; cases h1
 | some td => rw [hu] at h1; cases td <;> first | rfl | cases h1
theorem oU {v : Value} {l : List D} (h : RepD w Pr v (.agg l)) (hk : ∀ k ∈ kindsD l, k ≠ .no) : v = .agg (valsD l).toArray := by
 cases h with
 | agg cs _ hl hd => rw [sU l cs hl hd hk]
theorem aJm {l m : List D} {ks : List KD} (hk : kindsD l = ks) (hk' : kindsD m = ks) (hT : eqTy t ks = true) : (Op.equalIn 10000 t (.agg (valsD l).toArray) (.agg (valsD m).toArray)).run Tryz.prog w = .ok (eqL l m) w := by
 obtain ⟨h1, h2, _, h4⟩ := hH hT
 rw [run_equalIn_agg w 9999 t _ _ h1 h2]
 have := vZ 9998 w (Tryz.prog.fieldsOf t).toList l m [] [] rfl (hk.trans hk'.symm) (by rw [hk]; exact h4)
 simpa using this
theorem aRr {l m : List D} {ks : List KD} {r : Bool} (hx : ev sl x = .d (.agg l)) (hy : ev sl y = .d (.agg m)) (hk : kindsD l = ks) (hk' : kindsD m = ks) (hT : eqTy t ks = true) (hr : eqL l m = r) :
  Y E ⟨d, .binOp .eql t x y ty, T, p, af, g⟩ sl ob (.d (.val (.bool r))) := fun ac w Pr β κ h => by
 subst hr
 have hno := hZ (hH hT).2.2.2
 have h1 := oU (iA h hx) (by rw [hk]; exact hno)
 have h2 := oU (iA h hy) (by rw [hk']; exact hno)
 refine ⟨_, .d _ _ (.val _), fun w' _ => ?_⟩
 simp only [execOp, h1, h2]
 rw [Sem.run_bind, Sem.run_bind, run_eqGuard_agg w' .eql t x y _ _ (hH hT).2.2.1]
 simp only [Result.andThen]
 rw [run_eql_struct, aJm hk hk' hT]
 simp [Result.andThen, Sem.run_pure]
theorem mF {l m : List D} {ks : List KD} {r : Bool} (hx : ev sl x = .d (.agg l)) (hy : ev sl y = .d (.agg m)) (hk : kindsD l = ks) (hk' : kindsD m = ks) (hT : eqTy t ks = true) (hr : (!eqL l m) = r) :
  Y E ⟨d, .binOp .neq t x y ty, T, p, af, g⟩ sl ob (.d (.val (.bool r))) := fun ac w Pr β κ h => by
 subst hr
 have hno := hZ (hH hT).2.2.2
 have h1 := oU (iA h hx) (by rw [hk]; exact hno)
 have h2 := oU (iA h hy) (by rw [hk']; exact hno)
 refine ⟨_, .d _ _ (.val _), fun w' _ => ?_⟩
 simp only [execOp, h1, h2]
 rw [Sem.run_bind, Sem.run_bind, run_eqGuard_agg w' .neq t x y _ _ (hH hT).2.2.1]
 simp only [Result.andThen]
 rw [run_neq_struct, aJm hk hk' hT]
 simp [Result.andThen, Sem.run_pure]
end
section
variable {E : Entry} {sl : Slots} {ob : Objs} {a : Act} {w : World} {Pr : Prot} {β : Nat → Value} {κ : Nat → Nat}
variable {d : Nat} {dd : Option Nat} {t T ty : TypeId} {p : String} {af : Array Edge} {g : Option (Nat × Bool)} {x y c : Operand} {m m' : Int}
theorem mG {i o n q : Nat} {e es eb : Nat} {ez : Value} {kk : IntKind} {r : Nat} (hx : ev sl x = .sl i o n) (hy : ev sl y = .d (.val (.int kk m))) (hT : ti t = .sl e es eb ez) (hi : m = (q : Int)) (hq : q < n) (hr : o + q * es = r) :
  Y E ⟨dd, .indexAddr t x y, T, p, af, g⟩ sl ob (.box i r) := fun a w Pr β κ h => by
 subst hi hr
 obtain ⟨_, j, _, hu, _, hj, _, hs, _⟩ := mV hT
 have hv := bO h x
 rw [hx] at hv
 generalize hav : a.eval x = v at hv
 cases hv with
 | sl _ _ _ c gg hb hc hm hz =>
  refine ⟨.pointer (some ⟨gg, o + q * es, none⟩), .box i _ gg hb, fun w' _ => ?_⟩
  have hsz : (sizeOf e).run Tryz.prog w' = .ok es w' := by simp [sizeOf, typeInfo, hj, hs]
  simp [execOp, hav, bT h hy, Instr.indexAt, asIntOf, run_underlying hu, hsz, hq, Addr.add_lit]
theorem mX {i o n : Nat} {t0 : TypeId} {A : Array TypeId} (hx : ev sl x = .sl i o n) (hA : A = #[t0]) (hT : ∃ e es eb ez, ti t0 = .sl e es eb ez) :
  Y E ⟨dd, .call { callee := .builtin .len, args := #[x], argTypes := A }, T, p, af, g⟩ sl ob (.d (.val (.int .i64 n))) := fun a w Pr β κ h => by
 subst hA
 obtain ⟨e, es, eb, ez, hT⟩ := hT
 obtain ⟨_, _, _, hu, _⟩ := mV hT
 have hv := bO h x
 rw [hx] at hv
 generalize hav : a.eval x = v at hv
 cases hv with
 | sl _ _ _ c gg hb hc hm hz => exact ⟨_, .d _ _ (.val _), fun w' _ => by simp [execOp, hav, resolve, invoke, builtin, Builtin.len_, run_underlying hu, goInt]⟩
def natsD : List (List D) → List Int
 | [.val (.int _ n)] :: l => n :: natsD l
 | _ => []
theorem aUe {A : Option Addr} {n c s : Nat} {l : List (List D)} {lo hi : Nat} (h : RepD w Pr (.slice A n c) (.list s l)) (h1 : lo ≤ hi) (h2 : hi ≤ l.length) : RepD w Pr (sliced A lo hi c s) (.list s ((l.take hi).drop lo)) := by
 cases h with
 | nil _ _ _ hm =>
  have e1 : hi = 0 := by simpa using h2
  subst e1
  have e2 : lo = 0 := by omega
  subst e2
  exact .nil _ _ _ zb
 | list b o _ _ _ _ u hn hs hc hm hr hd =>
  subst hn
  by_cases he : hi - lo = 0
  ·have e0 : (l.take hi).drop lo = [] := by rw [List.drop_eq_nil_iff, List.length_take]; omega
   rw [e0]
   unfold sliced
   rw [he]
   exact .nil _ _ _ zb
  ·have hne : c ≠ lo := by omega
   unfold sliced
   rw [if_neg hne]
   simp only [Option.map_some, Addr.add_lit]
   have hget : ∀ (i : Nat) (e : List D), ((l.take hi).drop lo)[i]? = some e → l[lo + i]? = some e := by
    intro i e h3
    rw [List.getElem?_drop, List.getElem?_take] at h3
    split at h3
    ·exact h3
    ·cases h3
   refine .list b (o + lo * s) (hi - lo) (c - lo) s _ (fun i j => u (lo + i) j) jv (fun e he' => hs e (List.mem_of_mem_take (List.mem_of_mem_drop he'))) zb zb (fun i j e z h3 h4 => ?_) (fun i j e z h3 h4 => ?_)
   ·have := hr (lo + i) j e z (hget i e h3) h4
    rw [show o + lo * s + i * s + j = o + (lo + i) * s + j by rw [Nat.add_mul]; omega]
    exact this
   ·exact hd (lo + i) j e z (hget i e h3) h4
theorem aJw {l r : List (List D)} {lo hi : Option Operand} {l1 h1 e s eb : Nat} {ez : Value} (hx : ToD ob (ev sl x) (.list s l)) (hT : ti t = .sl e s eb ez) (hl : lowAt sl lo l1) (hh : highAt sl hi l.length h1) (k1 : l1 ≤ h1) (k2 : h1 ≤ l.length) (hr : (l.take h1).drop l1 = r) :
  Y E ⟨dd, .slice t x lo hi none, T, p, af, g⟩ sl ob (.d (.list s r)) := fun a w Pr β κ h => by
 subst hr
 obtain ⟨_, j, _, hu, _, hj, _, hs, _⟩ := mV hT
 have hrep := eZ h hx _ (bO h x)
 obtain ⟨A, c, hv, hc, hm⟩ := qA hrep
 rw [hv] at hrep
 refine ⟨_, .d _ _ (aUe hrep k1 k2), fun w' _ => ?_⟩
 have hsz : (sizeOf e).run Tryz.prog w' = .ok s w' := by simp [sizeOf, typeInfo, hj, hs]
 simp [execOp, hv, Instr.sliceAt, Instr.slice, run_underlying hu, yC h hl hh k1 k2 hc, hsz, sliced]
theorem Good.freeze (h : Good E sl ob a w Pr β κ) {i j n : Nat} {e : TypeId} {ds : List D} (hf : find ob i = some (.box e (ds.map V.d))) (hj : look sl j = .sl i 0 n) (hn : ds.length = n) : Inv E ((j, .d (.list 1 (ds.map fun z => [z]))) :: sl) (dropK [i] ob) a w := by
 subst hn
 obtain ⟨g, cs, hb, hB, hh, hl, hv, hno⟩ := h.objs i _ hf
 have hg : blk (β i) = some g := by rw [hb]; rfl
 have hlt := ((h.objs i _ hf).blkLt g hg).2
 have hown := h.own i _ g hf hg
 let Pr' : Prot := fun b o => Pr b o ∨ (b = g ∧ o < cs.length)
 have hs : Stays Pr w w := fun _ _ _ => rfl
 have hp : ∀ b o, Pr b o → Pr' b o := fun _ _ h => .inl h
 have hcell : ∀ (q : Nat) (u : Value), cs[q]? = some u → w.cell? ⟨g, q, none⟩ = some u := fun q u hq => by
  rw [cell_of_row w g q _ _ (0, 0) hh]
  simpa using hq
 have hdr : ∀ (q : Nat) (x : D) (u : Value), ds[q]? = some x → cs[q]? = some u → RepD w Pr' u x := fun q x u h1 h2 => by
  have := hv q u (.d x) h2 (by simp [h1])
  exact this.d_inv.keep hs hp
 refine ⟨Pr', β, κ, h.below, h.st0, fun b o ho => hp b o (h.pr0 b o ho), fun b o ho => ?_, fun b o ho => ?_, h.size, h.defers, fun q => ?_, fun q o ho => ?_, fun q r oq or gg hq hr => ?_, fun q o gg hq => ?_, h.keeps, h.fresh⟩
 ·rcases ho with ho | ⟨rfl, _⟩
  ·exact h.prn b o ho
  ·exact .inr (hown.elim .inr .inl)
 ·rcases ho with ho | ⟨rfl, _⟩
  ·exact h.prl b o ho
  ·exact hlt
 ·by_cases hq : q = j
  ·subst hq
   rw [iK]
   have hsl := h.slots q
   rw [hj] at hsl
   generalize a.tmps.getD q undef = v at hsl
   cases hsl with
   | sl _ _ _ c gg hb' hc hm hz =>
    rw [hb] at hb'
    simp only [Value.pointer.injEq, Option.some.injEq, Addr.mk.injEq, and_true] at hb'
    subst hb'
    have hcl : cs.length = ds.length := by simpa using hl
    refine .d _ _ (.list g 0 ds.length c 1 _ (fun p _ => cs.getD p undef) (by simp) (fun x hx => ?_) hc hm (fun p r x z h1 h2 => ?_) (fun p r x z h1 h2 => ?_))
    ·obtain ⟨y, _, rfl⟩ := List.mem_map.1 hx
     rfl
    ·simp only [List.getElem?_map, Option.map_eq_some_iff] at h1
     obtain ⟨y, hy, rfl⟩ := h1
     have hr : r = 0 := by have := (List.getElem?_eq_some_iff.1 h2).1; simp at this; exact this
     subst hr
     have hp1 : p < cs.length := by rw [hcl]; exact (List.getElem?_eq_some_iff.1 hy).1
     rw [Nat.zero_add, Nat.mul_one, Nat.add_zero]
     exact ⟨hcell p _ (by simp [hp1]), .inr ⟨rfl, hp1⟩⟩
    ·simp only [List.getElem?_map, Option.map_eq_some_iff] at h1
     obtain ⟨y, hy, rfl⟩ := h1
     have hr : r = 0 := by have := (List.getElem?_eq_some_iff.1 h2).1; simp at this; exact this
     subst hr
     cases h2
     have hp1 : p < cs.length := by rw [hcl]; exact (List.getElem?_eq_some_iff.1 hy).1
     exact hdr p _ _ hy (by simp [hp1])
  ·rw [jS hq]
   exact (h.slots q).keep hs hp
 ·obtain ⟨h1, h2⟩ := dN ho
  refine (h.objs q o h2).keep2 hs hp (fun gg hgg r hr => ?_) (fun _ _ => rfl)
  rcases hr with hr | ⟨rfl, _⟩
  ·exact hr
  ·exact absurd (h.apart q i _ _ _ h2 hf hgg hg) (fun e => h1 (by simp [e]))
 ·exact h.apart q r oq or gg (dN hq).2 (dN hr).2
 ·exact h.own q o gg (dN hq).2
inductive PartsV (sl : Slots) : Nat → List (Nat × Operand) → List V → Prop where
 | nil (i : Nat) : PartsV sl i [] []
 | cons {i : Nat} {x : Operand} {xs : List (Nat × Operand)} {v : V} {vs : List V} (h : Cf (ev sl x) v) (h1 : v.one = true) (hr : PartsV sl (i + 1) xs vs) : PartsV sl i ((i, x) :: xs) (v :: vs)
def numb : Nat → List Value → List (Nat × Value)
 | _, [] => []
 | i, v :: vs => (i, v) :: numb (i + 1) vs
theorem aAk {v : Value} (h : v.oneCell' = true) : v.cells = #[v] := by cases v <;> first | rfl | cases h
theorem aDz : ∀ (vs q cs : List Value), (∀ v ∈ vs, v.oneCell' = true) → cs.length = vs.length → Instr.fill (fun k => some (k * 1, 1)) (q ++ cs).toArray (numb q.length vs) = some (q ++ vs).toArray
 | [], q, [], _, _ => rfl
 | [], q, _ :: _, _, h => by simp at h
 | _ :: _, q, [], _, h => by simp at h
 | v :: vs, q, c :: cs, h1, h => by
  have hc := aAk (h1 v (by simp))
  have ih := aDz vs (q ++ [v]) cs (fun u hu => h1 u (by simp [hu])) (by simpa using h)
  rw [List.length_append, List.length_singleton, List.append_assoc, List.append_assoc, List.singleton_append, List.singleton_append] at ih
  simp only [numb, Instr.fill, hc]
  have hz : (#[v] : Array Value).zipIdx.foldl (fun (cs : Array Value) (p : Value × Nat) => cs.setIfInBounds (q.length * 1 + p.2) p.1) (q ++ c :: cs).toArray = (q ++ v :: cs).toArray := by
   simp [List.setIfInBounds_toArray, List.set_append]
  split
  ·rename_i hh
   exact absurd hh (by simp)
  ·exact (congrArg (fun z => Instr.fill (fun k => some (k * 1, 1)) z (numb (q.length + 1) vs)) hz).trans ih
theorem PartsV.rep (h : Good E sl ob a w Pr β κ) {i : Nat} {xs : List (Nat × Operand)} {vs : List V} (hp : PartsV sl i xs vs) : ∃ us : List Value, xs.map (fun q => (q.1, a.eval q.2)) = numb i us ∧ us.length = vs.length ∧ xs.length = us.length ∧ (∀ u ∈ us, u.oneCell' = true) ∧ ∀ (j : Nat) (u : Value) (v : V), us[j]? = some u → vs[j]? = some v → RepV w Pr β κ u v := by
 induction hp with
 | nil i => exact ⟨[], rfl, rfl, rfl, by simp, by simp⟩
 | @cons i x xs v vs hc h1 hr ih =>
  obtain ⟨us, e1, e2, e4, e5, e3⟩ := ih
  have hv : RepV w Pr β κ (a.eval x) v := hc.eq ▸ bO h x
  refine ⟨a.eval x :: us, by simp [numb, e1], by simp [e2], by simp [e4], fun u hu => ?_, fun j u z h2 h3 => ?_⟩
  ·rcases List.mem_cons.1 hu with rfl | hu
   ·exact sJ hv h1
   ·exact e5 u hu
  ·cases j with
   | zero => simp at h2 h3; subst h2 h3; exact hv
   | succ j => exact e3 j u z (by simpa using h2) (by simpa using h3)
theorem yD (w : World) {n e : Nat} {z : List Value} {us : List Value} (hT : ti t = .ar n e 1 z) (h1 : ∀ u ∈ us, u.oneCell' = true) (hl : z.length = us.length) : (Instr.build t (numb 0 us).toArray).run Tryz.prog w = .ok (.agg us.toArray) w := by
 obtain ⟨i, j, k1, k2, _, k4, k5, k6⟩ := aGb hT
 refine run_build (P := Tryz.prog) w t _ us.toArray ?_
 simp only [Program.built, k1, k2, k4, k5, k6, Value.cells]
 exact aDz us [] z h1 hl
theorem fF {parts : List (Nat × Operand)} {n e : Nat} {z : List Value} {l : List V} (hT : ti t = .ar n e 1 z) (hp : PartsV sl 0 parts l) (hl : parts.length = z.length) : Y E ⟨dd, .build t parts.toArray, T, p, af, g⟩ sl ob (.agg l) := fun a w Pr β κ h => by
 obtain ⟨us, e1, e2, e4, e5, e3⟩ := hp.rep h
 refine ⟨.agg us.toArray, .agg us l e2 e3, fun w' _ => ?_⟩
 have hr := yD (t := t) w' hT e5 zb
 have e : (parts.toArray.map fun x => (x.1, a.eval x.2)) = (numb 0 us).toArray := by rw [← e1]; simp
 simp only [execOp, e, Sem.run_bind, hr]
 rfl
def vDs : List V → Option (List D)
 | [] => some []
 | .d x :: l => (vDs l).map (x :: ·)
 | _ :: _ => none
theorem aJv : ∀ {l : List V} {r : List D}, vDs l = some r → l = r.map V.d
 | [], r, h => by cases h; rfl
 | .d x :: l, r, h => by
  simp only [vDs, Option.map_eq_some_iff] at h
  obtain ⟨q, h1, rfl⟩ := h
  rw [aJv h1]
  rfl
 | .und :: _, _, h | .ep .. :: _, _, h | .box .. :: _, _, h | .sl .. :: _, _, h | .mp .. :: _, _, h | .row .. :: _, _, h | .vp .. :: _, _, h | .agg .. :: _, _, h | .clo .. :: _, _, h | .mv .. :: _, _, h | .tup .. :: _, _, h => by cases h
theorem fE {parts : List (Nat × Operand)} {n e : Nat} {z : List Value} {l : List V} {r : List D} (hT : ti t = .ar n e 1 z) (hp : PartsV sl 0 parts l) (hl : parts.length = z.length) (hr : vDs l = some r) : Y E ⟨dd, .build t parts.toArray, T, p, af, g⟩ sl ob (.d (.agg r)) := fun a w Pr β κ h => by
 have hv := aJv hr
 obtain ⟨us, e1, e2, e4, e5, e3⟩ := hp.rep h
 refine ⟨.agg us.toArray, .d _ _ (.agg us r (by rw [e2, hv]; simp) fun j u x h1 h2 => ?_), fun w' _ => ?_⟩
 ·exact (e3 j u (.d x) h1 (by rw [hv]; simp [h2])).d_inv
 ·have hr := yD (t := t) w' hT e5 zb
  have e : (parts.toArray.map fun x => (x.1, a.eval x.2)) = (numb 0 us).toArray := by rw [← e1]; simp
  simp only [execOp, e, Sem.run_bind, hr]
  rfl
end
end
section
open Go.RowKit
inductive Tree where
 | tail | stop
 | free (i : Nat) (t : Tree)
 | only (i : Nat) (t : Tree)
 | fork (u : Tree)
 | alt (i : Nat) (t u : Tree)
def Tree.heads : Tree → List Nat
 | .alt i _ u => i :: u.heads
 | _ => []
def Tree.isAlt : Tree → Bool
 | .alt .. | .stop => true
 | _ => false
def Tree.height : Tree → Nat
 | .free _ t | .only _ t => t.height + 1
 | .fork u => u.height
 | .alt _ t u => max (t.height + 1) u.height
 | _ => 0
def treeOk (ops : Array Oper) (tail : List Nat) : Tree → Array Bool → Bool
 | .tail, listed => tailOk ops tail tail listed
 | .stop, _ => true
 | .free i t, listed => !tail.contains i && (Region.ready .any ops listed).contains i && Region.free .any ops listed i && !t.isAlt && treeOk ops tail t (listed.setIfInBounds i true)
 | .only i t, listed => !tail.contains i && (Region.ready .any ops listed == [i]) && !t.isAlt && treeOk ops tail t (listed.setIfInBounds i true)
 | .fork u, listed => u.isAlt && (Region.ready .any ops listed == u.heads) && !u.heads.isEmpty && treeOk ops tail u listed
 | .alt i t u, listed => !t.isAlt && u.isAlt && treeOk ops tail t (listed.setIfInBounds i true) && treeOk ops tail u listed
def wpTree (P : Program) (ops : List Oper) (S : World → Prop) (Q : Exit → Act → World → Prop) (R : Act → World → Prop) : Tree → Act → World → Prop
 | .tail, a, w => R a w
 | .stop, _, _ => True
 | .free i t, a, w => match ops[i]? with | none => False | some o => ∃ v, YieldsIf P ops.toArray S o v a ∧ wpTree P ops S Q R t (a.put o.dst v) w
 | .only i t, a, w => wpOp P ops.toArray Q i (fun a' w' => S w' ∧ (S w' → wpTree P ops S Q R t a' w')) a w
 | .fork u, a, w => wpTree P ops S Q R u a w
 | .alt i t u, a, w => wpOp P ops.toArray Q i (fun a' w' => S w' ∧ (S w' → wpTree P ops S Q R t a' w')) a w ∧ wpTree P ops S Q R u a w
section
variable {P : Program} {S : World → Prop} {Q : Exit → Act → World → Prop} {tail : List Nat}
theorem aBf {ops : List Oper} (hs : Region.noSelect ops.toArray = true) (hw : waitsAll ops.toArray tail = true) (hQ : ∀ c a d v w, Q (.panic c) (Act.put a d v) w → Q (.panic c) a w) :
  ∀ (t : Tree) (fuel : Nat) (listed : Array Bool) (a : Act) (w : World), treeOk ops.toArray tail t listed = true → t.height + tail.length ≤ fuel → S w →
   wpTree P ops S Q (wpList P ops.toArray Q (tailed ops tail)) t a w →
   (t.isAlt = false → wpAnyT P ops.toArray Q S tail fuel listed a w) ∧
   (t.isAlt = true → ∀ f', fuel = f' + 1 → ∀ i ∈ t.heads, wpOp P ops.toArray Q i (fun a' w' => (i ∉ tail → S w') ∧ wpAnyT P ops.toArray Q S tail f' (listed.setIfInBounds i true) a' w') a w) := by
 intro t
 induction t with
 | tail => exact fun fuel listed a w hok hf _ h => ⟨fun _ => tK tail fuel listed a w hok (by simpa [Tree.height] using hf) (fun _ hi => hi) h, fun hc => (by cases hc)⟩
 | stop => exact fun fuel listed a w _ _ _ _ => ⟨fun hc => (by cases hc), fun _ f' _ i hi => by simp [Tree.heads] at hi⟩
 | free i t ih =>
  intro fuel listed a w hok hf hS h
  refine ⟨fun _ => ?_, fun hc => (by cases hc)⟩
  simp only [treeOk, Bool.and_eq_true, Bool.not_eq_true'] at hok
  obtain ⟨⟨⟨⟨ht, hr⟩, hk⟩, hna⟩, hok'⟩ := hok
  cases fuel with
  | zero => simp [Tree.height] at hf
  | succ fuel =>
   have hlen : t.height + tail.length ≤ fuel := by simp [Tree.height] at hf; omega
   have hri : i ∈ Region.ready .any ops.toArray listed := by simpa using hr
   obtain ⟨_, o, ho, _⟩ := mem_ready.1 hri
   have hl : ops[i]? = some o := by simpa using ho
   have hit : i ∉ tail := by simpa using ht
   simp only [wpTree, hl] at h
   obtain ⟨v, hy, h'⟩ := h
   exact zH ho hs hw hit hQ fuel listed a w (Region.free_spec ho hk) hri hy hS ((ih fuel _ _ w hok' hlen hS h').1 hna)
 | only i t ih =>
  intro fuel listed a w hok hf hS h
  refine ⟨fun _ => ?_, fun hc => (by cases hc)⟩
  simp only [treeOk, Bool.and_eq_true, Bool.not_eq_true', beq_iff_eq] at hok
  obtain ⟨⟨⟨ht, he⟩, hna⟩, hok'⟩ := hok
  cases fuel with
  | zero => simp [Tree.height] at hf
  | succ fuel =>
   have hlen : t.height + tail.length ≤ fuel := by simp [Tree.height] at hf; omega
   exact tJ he (wpOp_mono (fun a' w' ⟨hS', hW⟩ => ⟨fun _ => hS', (ih fuel _ a' w' hok' hlen hS' (hW hS')).1 hna⟩) h)
 | fork u ih =>
  intro fuel listed a w hok hf hS h
  refine ⟨fun _ => ?_, fun hc => (by cases hc)⟩
  simp only [treeOk, Bool.and_eq_true, Bool.not_eq_true', beq_iff_eq] at hok
  obtain ⟨⟨⟨hna, he⟩, hem⟩, hok'⟩ := hok
  have hne : u.heads ≠ [] := by intro e; rw [e] at hem; simp at hem
  cases fuel with
  | zero =>
   exfalso
   simp only [Tree.height] at hf
   cases u with
   | alt i t u => simp [Tree.height] at hf
   | stop => exact hne rfl
   | _ => cases hna
  | succ fuel =>
   have hall := (ih (fuel + 1) listed a w hok' hf hS h).2 hna fuel rfl
   refine ⟨fun h0 => ?_, fun i hi => hall i (by rw [← he]; exact hi)⟩
   rw [he] at h0
   exact absurd h0 hne
 | alt i t u iht ihu =>
  intro fuel listed a w hok hf hS h
  refine ⟨fun hc => (by cases hc), fun _ f' hf' j hj => ?_⟩
  simp only [treeOk, Bool.and_eq_true, Bool.not_eq_true'] at hok
  obtain ⟨⟨⟨hna, hua⟩, hok'⟩, hoku⟩ := hok
  simp only [Tree.height] at hf
  simp only [Tree.heads, List.mem_cons] at hj
  rcases hj with rfl | hj
  ·exact wpOp_mono (fun a' w' ⟨hS', hW⟩ => ⟨fun _ => hS', (iht f' _ a' w' hok' zb hS' (hW hS')).1 hna⟩) h.1
  ·exact (ihu fuel listed a w hoku zb hS h.2).2 hua f' hf' j hj
theorem yO {id : Nat} {ops : List Oper} {a : Act} {w : World} (t : Tree) (tail : List Nat) (S : World → Prop) (hm : P.follows .mixedOrders = true) (hs : Region.noSelect ops.toArray = true)
  (hw : waitsAll ops.toArray tail = true) (hok : treeOk ops.toArray tail t (Array.replicate ops.length false) = true) (hna : t.isAlt = false) (hlen : t.height + tail.length ≤ ops.length) (hS : S w.drew)
  (h : S w.drew → wpTree P ops S (NoPanic Q) (wpList P ops.toArray (NoPanic Q) (tailed ops tail)) t a w.drew) : (Code.region id ops.toArray true).wp P Q a w := by
 refine wp_region_noPanic ?_
 refine wp_region_any hm (mI (S := S) (tail := tail) _ _ _ _ ?_)
 have := (aBf (P := P) (S := S) (Q := NoPanic Q) hs hw (fun _ _ _ _ _ h => h) t ops.length (Array.replicate ops.length false) a w.drew hok hlen hS (h hS)).1 hna
 simpa using this
variable {R : Act → World → Prop}
variable {ops : List Oper} {a : Act} {w : World} {i : Nat} {o : Oper} {t u : Tree}
end
theorem SB.turned {base B : Nat} {we w0 w1 w2 : World} {row : Option Nat} (h : SB base we B row w0 w1) (hx : Below base w1 w2) (hB : B ≤ base) : SB base we B row w0 w2 :=
 ⟨fun b o hb hr => ((uI hx).1 b o (Nat.lt_of_lt_of_le hb hB)).trans (h.cell b o hb hr), fun b o hb hr => ((uI hx).2 b o (Nat.lt_of_lt_of_le hb hB)).trans (h.frozen b o hb hr), Nat.le_trans h.size hx.size, h.below.trans hx⟩
end
section
open Go.RowKit
section
variable {E : Entry} {sl sl0 sl' : Slots} {ob ob0 ob' : Objs} {ops : List Oper} {pl : List (Nat × Bool × Oper)} {Q : Exit → Act → World → Prop} {i : Nat}
def treeR (ops : List Oper) (tl : List Oper) (Q : Exit → Act → World → Prop) (t : Tree) : (World → Prop) → Act → World → Prop := fun S => wpTree Tryz.prog ops S Q (wpList Tryz.prog ops.toArray Q tl) t
variable {tl : List Oper} {t u : Tree} {o : Oper}
theorem vC (ho : ops[i]? = some o) (h : AM E ops (treeR ops tl Q t) Q [(i, true, o)] sl0 ob0 sl ob) : AM E ops (treeR ops tl Q (.free i t)) Q [] sl0 ob0 sl ob := ⟨fun a w0 w Pr Pr1 β β1 κ κ1 h0 h1 hn => by
 have := h.run a w0 w Pr Pr1 β β1 κ κ1 h0 h1 hn
 simp only [wpMix] at this ⊢
 obtain ⟨v, hv, hr⟩ := this (by simpa using ho)
 simp only [treeR, wpTree, ho]
 exact ⟨v, hv, hr⟩⟩
theorem vF (ho : ops[i]? = some o) (h : AM E ops (treeR ops tl Q t) Q [(i, false, o)] sl0 ob0 sl ob) : AM E ops (treeR ops tl Q (.only i t)) Q [] sl0 ob0 sl ob := ⟨fun a w0 w Pr Pr1 β β1 κ κ1 h0 h1 hn => by
 have := h.run a w0 w Pr Pr1 β β1 κ κ1 h0 h1 hn
 simp only [wpMix] at this ⊢
 exact this (by simpa using ho)⟩
theorem vB (h : AM E ops (treeR ops tl Q u) Q [] sl0 ob0 sl ob) : AM E ops (treeR ops tl Q (.fork u)) Q [] sl0 ob0 sl ob := ⟨h.run⟩
theorem aBe (h : AM E ops (treeR ops tl Q (.only i t)) Q [] sl0 ob0 sl ob) (h' : AM E ops (treeR ops tl Q u) Q [] sl0 ob0 sl ob) : AM E ops (treeR ops tl Q (.alt i t u)) Q [] sl0 ob0 sl ob :=
 ⟨fun a w0 w Pr Pr1 β β1 κ κ1 h0 h1 hn => ⟨h.run a w0 w Pr Pr1 β β1 κ κ1 h0 h1 hn, h'.run a w0 w Pr Pr1 β β1 κ κ1 h0 h1 hn⟩⟩
theorem vG : AM E ops (treeR ops tl Q .stop) Q [] sl0 ob0 sl ob := ⟨fun _ _ _ _ _ _ _ _ _ _ _ _ => trivial⟩
theorem vD (h : AL E ops.toArray tl Q sl' ob') (hs : ∀ p ∈ sl', look sl p.1 = p.2) (ho : ∀ p ∈ ob', find ob p.1 = some p.2) : AM E ops (treeR ops tl Q .tail) Q [] sl0 ob0 sl ob :=
 ⟨fun _ _ _ _ _ _ _ _ _ _ h1 _ => h.run _ _ (Inv.less ⟨_, _, _, h1⟩ hs ho)⟩
theorem aWh {S : World → Prop} {R : Act → World → Prop} {a : Act} {w : World} (h : wpMix Tryz.prog ops.toArray S Q R [] a w) : R a w := h
theorem wW {ob0 ob : Objs} (ho : ∀ p ∈ ob0, find ob p.1 = some p.2) : ∀ i x, find ob0 i = some x → find ob i = some x := by
 have : ∀ (r : Objs), (∀ p ∈ r, find ob p.1 = some p.2) → ∀ j x, find r j = some x → find ob j = some x := by
  intro r
  induction r with
  | nil => intro _ j x h; cases h
  | cons p r ih =>
   obtain ⟨k, y⟩ := p
   intro hr j x hj
   by_cases hjk : j = k
   ·subst hjk
    rw [cN] at hj
    cases hj
    exact hr (j, y) (by simp)
   ·rw [cE hjk] at hj
    exact ih (fun p hp => hr p (by simp [hp])) j x hj
 exact this _ ho
theorem vJ {id : Nat} (t : Tree) (tail : List Nat) (ob0 : Objs) (sl' : Slots) (ob' : Objs) (hs : Region.noSelect ops.toArray = true) (hw : waitsAll ops.toArray tail = true) (hok : treeOk ops.toArray tail t (Array.replicate ops.length false) = true) (hna : t.isAlt = false) (hlen : t.height + tail.length ≤ ops.length)
  (ho : ∀ p ∈ ob0, find ob p.1 = some p.2)
  (h : AL E ops.toArray (tailed ops tail) (NoPanic Q) sl' ob' → AM E ops (treeR ops (tailed ops tail) (NoPanic Q) t) (NoPanic Q) [] sl ob0 sl ob) (hrest : AL E ops.toArray (tailed ops tail) (NoPanic Q) sl' ob') : AW E (.region id ops.toArray true) Q sl ob := by
 have h := h hrest
 refine ⟨fun a w hi => ?_⟩
 obtain ⟨Pr, β, κ, hg⟩ := hi
 have hg2 : Good E sl ob a w.drew Pr β κ := hg.grow (Below.refl _ _).drew (fun _ _ h => h) (fun _ _ h => .inl h)
 have hf := wW ho
 have hg3 : Good E sl ob0 a w.drew Pr β κ := ⟨hg2.below, hg2.st0, hg2.pr0, hg2.prn, hg2.prl, hg2.size, hg2.defers, hg2.slots, fun i o hi => hg2.objs i o (hf i o hi), fun i j oi oj g h1 h2 => hg2.apart i j oi oj g (hf i oi h1) (hf j oj h2), fun i o g h1 => hg2.own i o g (hf i o h1), hg2.keeps, hg2.fresh⟩
 exact yO t tail (Kept Pr β ob0 w.drew) gZ hs hw hok hna hlen (Kept.refl _ _ _ _) (fun _ => aWh (h.run a w.drew w.drew Pr Pr β β κ κ hg3 hg2 ⟨Kept.refl _ _ _ _, fun _ _ h => h, .refl _ _, fun i o h => ⟨hf i o h, rfl⟩⟩))
theorem Good.rename {a : Act} {w : World} {Pr : Prot} {β : Nat → Value} {κ : Nat → Nat} (h : Good E sl ob a w Pr β κ) {d : Nat} (hd : d < E.n) (hno : noneOf d sl ob = true) (hk : find ob d = none) (v : Value) (k : Nat) : Good E sl ob a w Pr (updV β d v) (updN κ d k) := by
 have e3 := cL β d v
 have e4 := fM κ d k
 have hne : ∀ i o, find ob i = some o → i ≠ d := fun i o hi e => by rw [e, hk] at hi; cases hi
 have hfr : ∀ i o, find E.ob0 i = some o → i ≠ d := fun i o hi e => by have := h.fresh i o hi; omega
 refine ⟨h.below, h.st0, h.pr0, h.prn, h.prl, h.size, h.defers, fun i => (h.slots i).other (jM hno i) e3 e4, fun i o hi => (h.objs i o hi).other (iE hno hi) (hne i o hi) e3 e4, fun i j oi oj g h1 h2 h3 h4 => ?_, fun i o g h1 h2 => ?_, fun i o hi => ?_, h.fresh⟩
 ·rw [e3 i (hne i oi h1)] at h3
  rw [e3 j (hne j oj h2)] at h4
  exact h.apart i j oi oj g h1 h2 h3 h4
 ·rw [e3 i (hne i o h1)] at h2
  exact h.own i o g h1 h2
 ·rw [e3 i (hfr i o hi), e4 i (hfr i o hi)]
  exact h.keeps i o hi
theorem kU {Pr : Prot} {β : Nat → Value} {w : World} {d : Nat} {v : Value} (hk : find ob0 d = none) : Kept Pr (updV β d v) ob0 w = Kept Pr β ob0 w := by
 have hne : ∀ i o, find ob0 i = some o → i ≠ d := fun i o hi e => by rw [e, hk] at hi; cases hi
 funext w'
 refine propext ⟨fun h => ⟨h.stays, fun i o g h1 h2 => h.objs i o g h1 (by rw [cL β d v i (hne i o h1)]; exact h2), h.size⟩, fun h => ⟨h.stays, fun i o g h1 h2 => h.objs i o g h1 (by rw [cL β d v i (hne i o h1)] at h2; exact h2), h.size⟩⟩
variable {tail : (World → Prop) → Act → World → Prop} {g : Option (Nat × Bool)} {p : String} {af : Array Edge} {ty : TypeId} {d : Nat}
theorem rI {l l0 : List V} {e : TypeId} (hw : Want ops sl true g) (hT : zeroV (ti e) = some l0) (hl : l0 = l) (hsl : isSl (ti e) = false) (hd : d < E.n) (hno : noneOf d sl ob = true) (hno0 : noneOf d sl0 ob0 = true) (hk0 : find ob0 d = none)
  (hK : AM E ops tail Q pl ((d, .und) :: sl0) ob0 ((d, .box d 0) :: sl) ((d, .box e l) :: ob)) : AM E ops tail Q ((i, false, ⟨some d, .alloc e, ty, p, af, g⟩) :: pl) sl0 ob0 sl ob := by
 subst hl
 refine ⟨fun a w0 w Pr Pr1 β β1 κ κ1 h0 h1 hn => ?_⟩
 refine gU (hw.is h1) (fun K hKK => ?_)
 obtain ⟨z, hz, hzl⟩ := aMo w hT hsl
 subst hzl
 have hrun : (execOp a.eval ⟨some d, .alloc e, ty, p, af, g⟩).run Tryz.prog w = .ok (.value (.pointer (some ⟨w.heap.size, 0, none⟩))) (w.alloc (.cells z.cells e)) := by
  simp [execOp, Instr.alloc, hz, newVar, newRow]
 unfold Oper.wp
 rw [hrun, Oper.upon_value]
 have hx : Below w.heap.size w (w.alloc (.cells z.cells e)) := (Below.refl _ _).alloc (Nat.le_refl _) _
 have hG := h1.newobjG (o := .box e (z.cells.toList.map fun u => .d (.val u))) (x := .box d 0) (u := .pointer (some ⟨w.heap.size, 0, none⟩)) hd hno (Pr' := Pr1) (v := .pointer (some ⟨w.heap.size, 0, none⟩)) hx (fun _ _ h => h) (fun _ _ h => .inl h) (fun g hg => by simp [blk] at hg; omega)
  (fun β' κ' e1 e2 e3 e4 => by
   refine ⟨w.heap.size, z.cells.toList, e1, Nat.zero_le _, ?_, by simp, fun j v x h2 h3 => ?_, fun o ho => ?_⟩
   ·rw [Array.toArray_toList]; exact heap_alloc_new w _
   ·exact aJk _ j v x h2 h3
   ·have := h1.prl _ _ ho
    omega)
  (fun β' κ' e1 _ _ _ => .box d 0 _ e1)
 have h0' := (h0.rename hd hno0 hk0 (.pointer (some ⟨w.heap.size, 0, none⟩)) 0).put hd (v := .pointer (some ⟨w.heap.size, 0, none⟩)) (.und _)
 have hn1 := hn.grow (Pr2 := Pr1) h1 hx (fun _ _ h => h)
 have hne : ∀ i o, find ob0 i = some o → i ≠ d := fun i o hi e => by rw [e, hk0] at hi; cases hi
 have hn2 : Now ob0 ((d, .box e (z.cells.toList.map fun u => .d (.val u))) :: ob) w0 (w.alloc (.cells z.cells e)) Pr Pr1 (updV β d (.pointer (some ⟨w.heap.size, 0, none⟩))) (updV β1 d (.pointer (some ⟨w.heap.size, 0, none⟩))) (updN κ d 0) (updN κ1 d 0) := by
  refine ⟨by rw [kU hk0]; exact hn1.kept, hn1.pr, fun j => ?_, fun j o hj => ?_⟩
  ·by_cases hj : j = d
   ·subst hj
    exact .inl ⟨by rw [eL, eL], by rw [fA, fA]⟩
   ·rw [cL _ d _ j hj, cL _ d _ j hj, fM _ d _ j hj, fM _ d _ j hj]
    exact hn1.then_ j
  ·have hjd := hne j o hj
   rw [cL _ d _ j hjd, cL _ d _ j hjd, cE hjd]
   exact hn1.sub j o hj
 refine hKK.out _ _ hn1.kept fun _ => ?_
 have := hK.run _ w0 _ Pr Pr1 _ _ _ _ h0' hG hn2
 rw [kU hk0] at this
 exact this
theorem dU {t T T' : TypeId} {x y : Operand} {j o k : Nat} {l l' n : List V} {v : V} (hw : Want ops sl true g) (hx : ev sl x = .box j o) (hf : find ob j = some (.box T' l)) (hk0 : find ob0 j = none) (hv : ev sl y = v) (hu : v ≠ .und) (hn : cellsV v = n) (h1 : ∀ z ∈ n, z.one = true) (hT : (isOne (ti t) = true ∧ k = 1) ∨ aggK (ti t) = some k) (hk : n.length = k) (hl : o + n.length ≤ l.length) (hr : put l o n = l')
  (hK : AM E ops tail Q pl sl0 ob0 sl ((j, .box T' l') :: ob)) : AM E ops tail Q ((i, false, ⟨none, .store t x y, T, p, af, g⟩) :: pl) sl0 ob0 sl ob := by
 refine ⟨fun a w0 w Pr Pr1 β β1 κ κ1 h0 hg1 hnw => ?_⟩
 refine gU (hw.is hg1) (fun K hKK => ?_)
 obtain ⟨b, cs, hrun, hb, hno, hG⟩ := aAs (T := T) (p := p) (af := af) (g := g) hg1 hx hf hv hu hn h1 hT hk hl hr
 unfold Oper.wp
 rw [hrun, Oper.upon_skip]
 have hne : ∀ i o, find ob0 i = some o → i ≠ j := fun i o hi e => by rw [e, hk0] at hi; cases hi
 have hkept : Kept Pr β ob0 w0 (w.setRow b cs) := hnw.kept.trans (Pr1 := Pr1) ⟨fun b' q hq => World.cell?_of_block (a := ⟨b', q, none⟩) (setRow_other w b b' cs (by rintro rfl; exact hno q hq)), fun i o g h2 h3 => setRow_other w b g cs (by
   rintro rfl
   have h4 := (hnw.sub i o h2)
   exact hne i o h2 (hg1.apart i j o _ _ h4.1 hf (by rw [h4.2]; exact h3) (by rw [hb]; rfl))), by simp [World.setRow]⟩ hnw.pr
 refine hKK.out _ _ hkept fun _ => ?_
 exact hK.run _ w0 _ Pr Pr1 _ _ _ _ h0 hG ⟨hkept, hnw.pr, hnw.then_, fun i o hi => by rw [cE (hne i o hi)]; exact hnw.sub i o hi⟩
end
end
end Go.Proofs.YtaodngiigdbgeaaGreatDoor
