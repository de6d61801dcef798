/-
  Conditions: none.
-/
import Derived.Laws.StructEq
import Derived.ChangeKeysEq
import Derived.Laws.OwnMore
import Derived.Laws.BytesArg
import Derived.Laws.Slices
import Derived.Maps.RangeRun
import Derived.Maps.Keyed
import Derived.Lib.SliceRun
import Derived.Laws.Cover3
import Derived.Test.YtgiacdhffklenaaMae
set_option maxHeartbeats 16000000
set_option maxRecDepth 20000
namespace Go.Proofs.Ytgiacdhffklenaa
section
open Go.RowKit
inductive KD where
 | i (k : IntKind)
 | s
 | b
 | no
def kindsD : List D → List KD
 | [] => []
 | .val (.int k _) :: l => .i k :: kindsD l
 | .val (.string _) :: l => .s :: kindsD l
 | .val (.bool _) :: l => .b :: kindsD l
 | _ :: l => .no :: kindsD l
def valsD : List D → List Value
 | .val v :: l => v :: valsD l
 | _ => []
def eqL : List D → List D → Bool
 | .val (.int _ a) :: l, .val (.int _ b) :: m => decide (a = b) && eqL l m
 | .val (.string a) :: l, .val (.string b) :: m => decide (a = b) && eqL l m
 | .val (.bool a) :: l, .val (.bool b) :: m => (a == b) && eqL l m
 | _, _ => true
noncomputable def fieldOk (i : Nat) (f : Field) : KD → Bool
 | .i _ => f.offset == i && f.name != "_" && Try.prog.plainKey f.type && (match Try.prog.underlying f.type with | some (.int _) => true | _ => false)
 | .s => f.offset == i && f.name != "_" && Try.prog.plainKey f.type && (match Try.prog.underlying f.type with | some .string => true | _ => false)
 | .b => f.offset == i && f.name != "_" && Try.prog.plainKey f.type && (match Try.prog.underlying f.type with | some .bool => true | _ => false)
 | .no => false
noncomputable def fieldsOk : Nat → List Field → List KD → Bool
 | _, [], [] => true
 | i, f :: fs, k :: ks => fieldOk i f k && fieldsOk (i + 1) fs ks
 | _, _, _ => false
noncomputable def eqTy (t : TypeId) (ks : List KD) : Bool :=
 (match Try.prog.underlying t with | some (.struct _) => true | _ => false) && !Try.prog.stoodInHeld t && !Try.prog.eqGuardType Try.prog.depth t && fieldsOk 0 (Try.prog.fieldsOf t).toList ks
theorem rep_vals {w : World} {Pr : Prot} : ∀ (l : List D) (cs : List Value), cs.length = l.length → (∀ (i : Nat) (v : Value) (d : D), cs[i]? = some v → l[i]? = some d → RepD w Pr v d) → (∀ k ∈ kindsD l, k ≠ .no) → cs = valsD l
 | [], [], _, _, _ => rfl
 | d :: l, v :: cs, hl, hd, hk => by
  have h0 := hd 0 v d rfl rfl
  have ih : (∀ k ∈ kindsD l, k ≠ .no) → cs = valsD l := rep_vals l cs (by simpa using hl) (fun i v d h1 h2 => hd (i + 1) v d h1 h2)
  match d, h0, hk with
  | .val u, h0, hk =>
   cases h0
   simp only [valsD]
   refine congrArg _ (ih fun k hm => hk k ?_)
   cases v <;> exact List.mem_cons_of_mem _ hm
  | .list .., _, hk => exact absurd rfl (hk .no (by simp [kindsD]))
  | .agg .., _, hk => exact absurd rfl (hk .no (by simp [kindsD]))
  | .tup .., _, hk => exact absurd rfl (hk .no (by simp [kindsD]))
  | .err, _, hk => exact absurd rfl (hk .no (by simp [kindsD]))
  | .ifc .., _, hk => exact absurd rfl (hk .no (by simp [kindsD]))
theorem fieldsOk_no : ∀ {i : Nat} {fs : List Field} {ks : List KD}, fieldsOk i fs ks = true → ∀ k ∈ ks, k ≠ .no
 | _, [], [], _, _, hm => by cases hm
 | i, f :: fs, k :: ks, h, k', hm => by
  simp only [fieldsOk, Bool.and_eq_true] at h
  rcases List.mem_cons.1 hm with rfl | hm
  ·rintro rfl
   exact absurd h.1 (by simp [fieldOk])
  ·exact fieldsOk_no h.2 k' hm
 | _, [], _ :: _, h, _, _ => by simp [fieldsOk] at h
 | _, _ :: _, [], h, _, _ => by simp [fieldsOk] at h
theorem kind_shape (d : D) (l : List D) : (∃ k a, d = .val (.int k a)) ∨ (∃ s, d = .val (.string s)) ∨ (∃ b, d = .val (.bool b)) ∨ kindsD (d :: l) = .no :: kindsD l := by
 cases d with
 | val u => cases u <;> simp [kindsD]
 | list s l => simp [kindsD]
 | agg l => simp [kindsD]
 | tup l => simp [kindsD]
 | err => simp [kindsD]
 | ifc t x => simp [kindsD]
theorem run_eqf (n : Nat) (w : World) : ∀ (fs : List Field) (l m : List D) (px py : List Value), px.length = py.length → kindsD l = kindsD m → fieldsOk px.length fs (kindsD l) = true →
  (Op.eqFields (n + 1) (px ++ valsD l).toArray (py ++ valsD m).toArray fs).run Try.prog w = .ok (eqL l m) w
 | [], [], [], px, py, _, _, _ => by simp [Op.eqFields, eqL, Sem.run_pure]
 | [], [], d :: m, px, py, _, hk, h => by
  have := congrArg List.length hk
  match d with
  | .val u => cases u <;> simp [kindsD] at this
  | .list .. | .agg .. | .tup .. | .err | .ifc .. => simp [kindsD] at this
 | [], d :: l, m, px, py, _, _, h => by
  match d with
  | .val u => cases u <;> simp [kindsD, fieldsOk] at h
  | .list .. | .agg .. | .tup .. | .err | .ifc .. => simp [kindsD, fieldsOk] at h
 | f :: fs, [], m, px, py, _, _, h => by simp [kindsD, fieldsOk] at h
 | f :: fs, d :: l, [], px, py, _, hk, h => by
  have := congrArg List.length hk
  match d with
  | .val u => cases u <;> simp [kindsD] at this
  | .list .. | .agg .. | .tup .. | .err | .ifc .. => simp [kindsD] at this
 | f :: fs, d :: l, e :: m, px, py, hp, hk, h => by
  have hx : ∀ (u : Value) (r : List Value), (px ++ u :: r).toArray[px.length]? = some u := fun u r => by simp
  have hy : ∀ (u : Value) (r : List Value), (py ++ u :: r).toArray[px.length]? = some u := fun u r => by rw [hp]; simp
  have push : ∀ (p : List Value) (u : Value) (r : List Value), p ++ u :: r = (p ++ [u]) ++ r := fun p u r => by simp
  have fin : ∀ {u v : Value} (b : Bool), valsD (d :: l) = u :: valsD l → valsD (e :: m) = v :: valsD m → kindsD l = kindsD m → fieldsOk (px.length + 1) fs (kindsD l) = true → f.name ≠ "_" → Try.prog.plainKey f.type = true → f.offset = px.length → (∀ w, (Op.equalIn (n + 1) f.type u v).run Try.prog w = .ok b w) → eqL (d :: l) (e :: m) = (b && eqL l m) →
    (Op.eqFields (n + 1) (px ++ valsD (d :: l)).toArray (py ++ valsD (e :: m)).toArray (f :: fs)).run Try.prog w = .ok (eqL (d :: l) (e :: m)) w := by
   intro u v b e1 e2 hk2 hf hn hpl ho hr he
   rw [e1, e2, he]
   simp only [Op.eqFields, if_pos hn, Sem.run_bind, run_part_plain w hpl (show (px ++ u :: valsD l).toArray[f.offset]? = some u by rw [ho]; exact hx u _), run_part_plain w hpl (show (py ++ v :: valsD m).toArray[f.offset]? = some v by rw [ho]; exact hy v _), Result.andThen_ok, hr w, Sem.run_ite]
   cases b
   ·simp [Sem.run_pure]
   ·simp only [Bool.not_true, Bool.false_eq_true, if_false, Bool.true_and]
    rw [push px, push py]
    exact run_eqf n w fs l m (px ++ [u]) (py ++ [v]) (by simp [hp]) hk2 (by simpa using hf)
  rcases kind_shape d l with ⟨k, a, rfl⟩ | ⟨a, rfl⟩ | ⟨a, rfl⟩ | hd
  ·rcases kind_shape e m with ⟨k', b, rfl⟩ | ⟨b, rfl⟩ | ⟨b, rfl⟩ | he
   ·simp only [kindsD, List.cons.injEq, KD.i.injEq] at hk
    obtain ⟨rfl, hk⟩ := hk
    simp only [kindsD, fieldsOk, fieldOk, Bool.and_eq_true, beq_iff_eq, bne_iff_ne, ne_eq] at h
    obtain ⟨⟨⟨⟨h1, h2⟩, h3⟩, h4⟩, h5⟩ := h
    cases hu : Try.prog.underlying f.type with
    | none => rw [hu] at h4; cases h4
    | some td =>
     rw [hu] at h4
     cases td <;> simp at h4
     refine fin (decide (a = b)) rfl rfl hk h5 h2 h3 h1 (fun w => ?_) rfl
     rw [run_equalIn_int w n f.type k _ a b hu]
     rfl
   ·simp [kindsD] at hk
   ·simp [kindsD] at hk
   ·rw [he] at hk
    simp [kindsD] at hk
  ·rcases kind_shape e m with ⟨k', b, rfl⟩ | ⟨b, rfl⟩ | ⟨b, rfl⟩ | he
   ·simp [kindsD] at hk
   ·simp only [kindsD, List.cons.injEq, true_and] at hk
    simp only [kindsD, fieldsOk, fieldOk, Bool.and_eq_true, beq_iff_eq, bne_iff_ne, ne_eq] at h
    obtain ⟨⟨⟨⟨h1, h2⟩, h3⟩, h4⟩, h5⟩ := h
    cases hu : Try.prog.underlying f.type with
    | none => rw [hu] at h4; cases h4
    | some td =>
     rw [hu] at h4
     cases td <;> simp at h4
     refine fin (decide (a = b)) rfl rfl hk h5 h2 h3 h1 (fun w => ?_) rfl
     rw [run_equalIn_string w n f.type a b hu, bytes_beq]
   ·simp [kindsD] at hk
   ·rw [he] at hk
    simp [kindsD] at hk
  ·rcases kind_shape e m with ⟨k', b, rfl⟩ | ⟨b, rfl⟩ | ⟨b, rfl⟩ | he
   ·simp [kindsD] at hk
   ·simp [kindsD] at hk
   ·simp only [kindsD, List.cons.injEq, true_and] at hk
    simp only [kindsD, fieldsOk, fieldOk, Bool.and_eq_true, beq_iff_eq, bne_iff_ne, ne_eq] at h
    obtain ⟨⟨⟨⟨h1, h2⟩, h3⟩, h4⟩, h5⟩ := h
    cases hu : Try.prog.underlying f.type with
    | none => rw [hu] at h4; cases h4
    | some td =>
     rw [hu] at h4
     cases td <;> simp at h4
     exact fin (a == b) rfl rfl hk h5 h2 h3 h1 (fun w => run_equalIn_bool' w n f.type a b hu) rfl
   ·rw [he] at hk
    simp [kindsD] at hk
  ·rw [hd] at h
   exact absurd rfl (fieldsOk_no h .no (List.mem_cons_self ..))
section
variable {E : Entry} {sl : Slots} {ob : Objs} {a : Act} {w : World} {Pr : Prot} {β : Nat → Value} {κ : Nat → Nat}
variable {d : Option Nat} {t T ty : TypeId} {p : String} {af : Array Edge} {g : Option (Nat × Bool)} {x y c : Operand}
theorem eqTy_parts {ks : List KD} (h : eqTy t ks = true) : Try.prog.underlying t = some (.struct (Try.prog.fieldsOf t)) ∧ Try.prog.stoodInHeld t = false ∧ Try.prog.eqGuardType Try.prog.depth t = false ∧ fieldsOk 0 (Try.prog.fieldsOf t).toList ks = true := by
 simp only [eqTy, Bool.and_eq_true, Bool.not_eq_true'] at h
 obtain ⟨⟨⟨h1, h2⟩, h3⟩, h4⟩ := h
 refine ⟨?_, h2, h3, h4⟩
 unfold Program.fieldsOf
 cases hu : Try.prog.underlying t with
 | none => rw [hu] at h1; cases h1
 | some td => rw [hu] at h1; cases td <;> first | rfl | cases h1
theorem agg_vals {v : Value} {l : List D} (h : RepD w Pr v (.agg l)) (hk : ∀ k ∈ kindsD l, k ≠ .no) : v = .agg (valsD l).toArray := by
 cases h with
 | agg cs _ hl hd => rw [rep_vals l cs hl hd hk]
theorem run_eqs {l m : List D} {ks : List KD} (hk : kindsD l = ks) (hk' : kindsD m = ks) (hT : eqTy t ks = true) : (Op.equalIn 10000 t (.agg (valsD l).toArray) (.agg (valsD m).toArray)).run Try.prog w = .ok (eqL l m) w := by
 obtain ⟨h1, h2, _, h4⟩ := eqTy_parts hT
 rw [run_equalIn_agg w 9999 t _ _ h1 h2]
 have := run_eqf 9998 w (Try.prog.fieldsOf t).toList l m [] [] rfl (hk.trans hk'.symm) (by rw [hk]; exact h4)
 simpa using this
theorem y_eqs {l m : List D} {ks : List KD} {r : Bool} (hx : ev sl x = .d (.agg l)) (hy : ev sl y = .d (.agg m)) (hk : kindsD l = ks) (hk' : kindsD m = ks) (hT : eqTy t ks = true) (hr : eqL l m = r) :
  Y E ⟨d, .binOp .eql t x y ty, T, p, af, g⟩ sl ob (.d (.val (.bool r))) := fun ac w Pr β κ h => by
 subst hr
 have hno := fieldsOk_no (eqTy_parts hT).2.2.2
 have h1 := agg_vals (good_rep h hx) (by rw [hk]; exact hno)
 have h2 := agg_vals (good_rep h hy) (by rw [hk']; exact hno)
 refine ⟨_, .d _ _ (.val _), fun w' _ => ?_⟩
 simp only [execOp, h1, h2]
 rw [Sem.run_bind, Sem.run_bind, run_eqGuard_agg w' .eql t x y _ _ (eqTy_parts hT).2.2.1]
 simp only [Result.andThen]
 rw [run_eql_struct, run_eqs hk hk' hT]
 simp [Result.andThen, Sem.run_pure]
theorem y_neqs {l m : List D} {ks : List KD} {r : Bool} (hx : ev sl x = .d (.agg l)) (hy : ev sl y = .d (.agg m)) (hk : kindsD l = ks) (hk' : kindsD m = ks) (hT : eqTy t ks = true) (hr : (!eqL l m) = r) :
  Y E ⟨d, .binOp .neq t x y ty, T, p, af, g⟩ sl ob (.d (.val (.bool r))) := fun ac w Pr β κ h => by
 subst hr
 have hno := fieldsOk_no (eqTy_parts hT).2.2.2
 have h1 := agg_vals (good_rep h hx) (by rw [hk]; exact hno)
 have h2 := agg_vals (good_rep h hy) (by rw [hk']; exact hno)
 refine ⟨_, .d _ _ (.val _), fun w' _ => ?_⟩
 simp only [execOp, h1, h2]
 rw [Sem.run_bind, Sem.run_bind, run_eqGuard_agg w' .neq t x y _ _ (eqTy_parts hT).2.2.1]
 simp only [Result.andThen]
 rw [run_neq_struct, run_eqs hk hk' hT]
 simp [Result.andThen, Sem.run_pure]
end
section
variable {E : Entry} {sl : Slots} {ob : Objs} {a : Act} {w : World} {Pr : Prot} {β : Nat → Value} {κ : Nat → Nat}
variable {d : Nat} {dd : Option Nat} {t T ty : TypeId} {p : String} {af : Array Edge} {g : Option (Nat × Bool)} {x y c : Operand} {m m' : Int}
theorem y_slix {i o n q : Nat} {e es eb : Nat} {ez : Value} {kk : IntKind} {r : Nat} (hx : ev sl x = .sl i o n) (hy : ev sl y = .d (.val (.int kk m))) (hT : ti t = .sl e es eb ez) (hi : m = (q : Int)) (hq : q < n) (hr : o + q * es = r) :
  Y E ⟨dd, .indexAddr t x y, T, p, af, g⟩ sl ob (.box i r) := fun a w Pr β κ h => by
 subst hi hr
 obtain ⟨_, j, _, hu, _, hj, _, hs, _⟩ := ti_sl hT
 have hv := good_ev h x
 rw [hx] at hv
 generalize hav : a.eval x = v at hv
 cases hv with
 | sl _ _ _ c gg hb hc hm hz =>
  refine ⟨.pointer (some ⟨gg, o + q * es, none⟩), .box i _ gg hb, fun w' _ => ?_⟩
  have hsz : (sizeOf e).run Try.prog w' = .ok es w' := by simp [sizeOf, typeInfo, hj, hs]
  simp [execOp, hav, good_val h hy, Instr.indexAt, asIntOf, run_underlying hu, hsz, hq, Addr.add_lit]
theorem y_sllen {i o n : Nat} {t0 : TypeId} {A : Array TypeId} (hx : ev sl x = .sl i o n) (hA : A = #[t0]) (hT : ∃ e es eb ez, ti t0 = .sl e es eb ez) :
  Y E ⟨dd, .call { callee := .builtin .len, args := #[x], argTypes := A }, T, p, af, g⟩ sl ob (.d (.val (.int .i64 n))) := fun a w Pr β κ h => by
 subst hA
 obtain ⟨e, es, eb, ez, hT⟩ := hT
 obtain ⟨_, _, _, hu, _⟩ := ti_sl hT
 have hv := good_ev h x
 rw [hx] at hv
 generalize hav : a.eval x = v at hv
 cases hv with
 | sl _ _ _ c gg hb hc hm hz => exact ⟨_, .d _ _ (.val _), fun w' _ => by simp [execOp, hav, resolve, invoke, builtin, Builtin.len_, run_underlying hu, goInt]⟩
def natsD : List (List D) → List Int
 | [.val (.int _ n)] :: l => n :: natsD l
 | _ => []
theorem rep_sub {A : Option Addr} {n c s : Nat} {l : List (List D)} {lo hi : Nat} (h : RepD w Pr (.slice A n c) (.list s l)) (h1 : lo ≤ hi) (h2 : hi ≤ l.length) : RepD w Pr (sliced A lo hi c s) (.list s ((l.take hi).drop lo)) := by
 cases h with
 | nil _ _ _ hm =>
  have e1 : hi = 0 := by simpa using h2
  subst e1
  have e2 : lo = 0 := by omega
  subst e2
  exact .nil _ _ _ (by omega)
 | list b o _ _ _ _ u hn hs hc hm hr hd =>
  subst hn
  by_cases he : hi - lo = 0
  ·have e0 : (l.take hi).drop lo = [] := by rw [List.drop_eq_nil_iff, List.length_take]; omega
   rw [e0]
   unfold sliced
   rw [he]
   exact .nil _ _ _ (by omega)
  ·have hne : c ≠ lo := by omega
   unfold sliced
   rw [if_neg hne]
   simp only [Option.map_some, Addr.add_lit]
   have hget : ∀ (i : Nat) (e : List D), ((l.take hi).drop lo)[i]? = some e → l[lo + i]? = some e := by
    intro i e h3
    rw [List.getElem?_drop, List.getElem?_take] at h3
    split at h3
    ·exact h3
    ·cases h3
   refine .list b (o + lo * s) (hi - lo) (c - lo) s _ (fun i j => u (lo + i) j) (by simp; omega) (fun e he' => hs e (List.mem_of_mem_take (List.mem_of_mem_drop he'))) (by omega) (by omega) (fun i j e z h3 h4 => ?_) (fun i j e z h3 h4 => ?_)
   ·have := hr (lo + i) j e z (hget i e h3) h4
    rw [show o + lo * s + i * s + j = o + (lo + i) * s + j by rw [Nat.add_mul]; omega]
    exact this
   ·exact hd (lo + i) j e z (hget i e h3) h4
theorem y_sub_l {l r : List (List D)} {lo hi : Option Operand} {l1 h1 e s eb : Nat} {ez : Value} (hx : ToD ob (ev sl x) (.list s l)) (hT : ti t = .sl e s eb ez) (hl : lowAt sl lo l1) (hh : highAt sl hi l.length h1) (k1 : l1 ≤ h1) (k2 : h1 ≤ l.length) (hr : (l.take h1).drop l1 = r) :
  Y E ⟨dd, .slice t x lo hi none, T, p, af, g⟩ sl ob (.d (.list s r)) := fun a w Pr β κ h => by
 subst hr
 obtain ⟨_, j, _, hu, _, hj, _, hs, _⟩ := ti_sl hT
 have hrep := toD_rep h hx _ (good_ev h x)
 obtain ⟨A, c, hv, hc, hm⟩ := list_form hrep
 rw [hv] at hrep
 refine ⟨_, .d _ _ (rep_sub hrep k1 k2), fun w' _ => ?_⟩
 have hsz : (sizeOf e).run Try.prog w' = .ok s w' := by simp [sizeOf, typeInfo, hj, hs]
 simp [execOp, hv, Instr.sliceAt, Instr.slice, run_underlying hu, run_bounds h hl hh k1 k2 hc, hsz, sliced]
inductive PartsV (sl : Slots) : Nat → List (Nat × Operand) → List V → Prop where
 | nil (i : Nat) : PartsV sl i [] []
 | cons {i : Nat} {x : Operand} {xs : List (Nat × Operand)} {v : V} {vs : List V} (h : Cf (ev sl x) v) (h1 : v.one = true) (hr : PartsV sl (i + 1) xs vs) : PartsV sl i ((i, x) :: xs) (v :: vs)
def numb : Nat → List Value → List (Nat × Value)
 | _, [] => []
 | i, v :: vs => (i, v) :: numb (i + 1) vs
theorem one_cells {v : Value} (h : v.oneCell' = true) : v.cells = #[v] := by cases v <;> first | rfl | cases h
theorem fill_row : ∀ (vs q cs : List Value), (∀ v ∈ vs, v.oneCell' = true) → cs.length = vs.length → Instr.fill (fun k => some (k * 1, 1)) (q ++ cs).toArray (numb q.length vs) = some (q ++ vs).toArray
 | [], q, [], _, _ => rfl
 | [], q, _ :: _, _, h => by simp at h
 | _ :: _, q, [], _, h => by simp at h
 | v :: vs, q, c :: cs, h1, h => by
  have hc := one_cells (h1 v (by simp))
  have ih := fill_row vs (q ++ [v]) cs (fun u hu => h1 u (by simp [hu])) (by simpa using h)
  rw [List.length_append, List.length_singleton, List.append_assoc, List.append_assoc, List.singleton_append, List.singleton_append] at ih
  simp only [numb, Instr.fill, hc]
  have hz : (#[v] : Array Value).zipIdx.foldl (fun (cs : Array Value) (p : Value × Nat) => cs.setIfInBounds (q.length * 1 + p.2) p.1) (q ++ c :: cs).toArray = (q ++ v :: cs).toArray := by
   simp [List.setIfInBounds_toArray, List.set_append]
  split
  ·rename_i hh
   exact absurd hh (by simp)
  ·exact (congrArg (fun z => Instr.fill (fun k => some (k * 1, 1)) z (numb (q.length + 1) vs)) hz).trans ih
theorem PartsV.rep (h : Good E sl ob a w Pr β κ) {i : Nat} {xs : List (Nat × Operand)} {vs : List V} (hp : PartsV sl i xs vs) : ∃ us : List Value, xs.map (fun q => (q.1, a.eval q.2)) = numb i us ∧ us.length = vs.length ∧ xs.length = us.length ∧ (∀ u ∈ us, u.oneCell' = true) ∧ ∀ (j : Nat) (u : Value) (v : V), us[j]? = some u → vs[j]? = some v → RepV w Pr β κ u v := by
 induction hp with
 | nil i => exact ⟨[], rfl, rfl, rfl, by simp, by simp⟩
 | @cons i x xs v vs hc h1 hr ih =>
  obtain ⟨us, e1, e2, e4, e5, e3⟩ := ih
  have hv : RepV w Pr β κ (a.eval x) v := hc.eq ▸ good_ev h x
  refine ⟨a.eval x :: us, by simp [numb, e1], by simp [e2], by simp [e4], fun u hu => ?_, fun j u z h2 h3 => ?_⟩
  ·rcases List.mem_cons.1 hu with rfl | hu
   ·exact one_cell hv h1
   ·exact e5 u hu
  ·cases j with
   | zero => simp at h2 h3; subst h2 h3; exact hv
   | succ j => exact e3 j u z (by simpa using h2) (by simpa using h3)
theorem run_buildA (w : World) {n e : Nat} {z : List Value} {us : List Value} (hT : ti t = .ar n e 1 z) (h1 : ∀ u ∈ us, u.oneCell' = true) (hl : z.length = us.length) : (Instr.build t (numb 0 us).toArray).run Try.prog w = .ok (.agg us.toArray) w := by
 obtain ⟨i, j, k1, k2, _, k4, k5, k6⟩ := ti_ar hT
 refine run_build (P := Try.prog) w t _ us.toArray ?_
 simp only [Program.built, k1, k2, k4, k5, k6, Value.cells]
 exact fill_row us [] z h1 hl
theorem y_buildV {parts : List (Nat × Operand)} {n e : Nat} {z : List Value} {l : List V} (hT : ti t = .ar n e 1 z) (hp : PartsV sl 0 parts l) (hl : parts.length = z.length) : Y E ⟨dd, .build t parts.toArray, T, p, af, g⟩ sl ob (.agg l) := fun a w Pr β κ h => by
 obtain ⟨us, e1, e2, e4, e5, e3⟩ := hp.rep h
 refine ⟨.agg us.toArray, .agg us l e2 e3, fun w' _ => ?_⟩
 have hr := run_buildA (t := t) w' hT e5 (by omega)
 have e : (parts.toArray.map fun x => (x.1, a.eval x.2)) = (numb 0 us).toArray := by rw [← e1]; simp
 simp only [execOp, e, Sem.run_bind, hr]
 rfl
def vDs : List V → Option (List D)
 | [] => some []
 | .d x :: l => (vDs l).map (x :: ·)
 | _ :: _ => none
theorem vDs_map : ∀ {l : List V} {r : List D}, vDs l = some r → l = r.map V.d
 | [], r, h => by cases h; rfl
 | .d x :: l, r, h => by
  simp only [vDs, Option.map_eq_some_iff] at h
  obtain ⟨q, h1, rfl⟩ := h
  rw [vDs_map h1]
  rfl
 | .und :: _, _, h | .ep .. :: _, _, h | .box .. :: _, _, h | .sl .. :: _, _, h | .mp .. :: _, _, h | .row .. :: _, _, h | .agg .. :: _, _, h | .clo .. :: _, _, h | .mv .. :: _, _, h | .tup .. :: _, _, h => by cases h
theorem y_buildA {parts : List (Nat × Operand)} {n e : Nat} {z : List Value} {l : List V} {r : List D} (hT : ti t = .ar n e 1 z) (hp : PartsV sl 0 parts l) (hl : parts.length = z.length) (hr : vDs l = some r) : Y E ⟨dd, .build t parts.toArray, T, p, af, g⟩ sl ob (.d (.agg r)) := fun a w Pr β κ h => by
 have hv := vDs_map hr
 obtain ⟨us, e1, e2, e4, e5, e3⟩ := hp.rep h
 refine ⟨.agg us.toArray, .d _ _ (.agg us r (by rw [e2, hv]; simp) fun j u x h1 h2 => ?_), fun w' _ => ?_⟩
 ·exact (e3 j u (.d x) h1 (by rw [hv]; simp [h2])).d_inv
 ·have hr := run_buildA (t := t) w' hT e5 (by omega)
  have e : (parts.toArray.map fun x => (x.1, a.eval x.2)) = (numb 0 us).toArray := by rw [← e1]; simp
  simp only [execOp, e, Sem.run_bind, hr]
  rfl
end
end
section
open Go.RowKit
inductive Tree where
 | tail | stop
 | free (i : Nat) (t : Tree)
 | only (i : Nat) (t : Tree)
 | fork (u : Tree)
 | alt (i : Nat) (t u : Tree)
def Tree.heads : Tree → List Nat
 | .alt i _ u => i :: u.heads
 | _ => []
def Tree.isAlt : Tree → Bool
 | .alt .. | .stop => true
 | _ => false
def Tree.height : Tree → Nat
 | .free _ t | .only _ t => t.height + 1
 | .fork u => u.height
 | .alt _ t u => max (t.height + 1) u.height
 | _ => 0
def treeOk (ops : Array Oper) (tail : List Nat) : Tree → Array Bool → Bool
 | .tail, listed => tailOk ops tail tail listed
 | .stop, _ => true
 | .free i t, listed => !tail.contains i && (Region.ready .any ops listed).contains i && Region.free .any ops listed i && !t.isAlt && treeOk ops tail t (listed.setIfInBounds i true)
 | .only i t, listed => !tail.contains i && (Region.ready .any ops listed == [i]) && !t.isAlt && treeOk ops tail t (listed.setIfInBounds i true)
 | .fork u, listed => u.isAlt && (Region.ready .any ops listed == u.heads) && !u.heads.isEmpty && treeOk ops tail u listed
 | .alt i t u, listed => !t.isAlt && u.isAlt && treeOk ops tail t (listed.setIfInBounds i true) && treeOk ops tail u listed
def wpTree (P : Program) (ops : List Oper) (S : World → Prop) (Q : Exit → Act → World → Prop) (R : Act → World → Prop) : Tree → Act → World → Prop
 | .tail, a, w => R a w
 | .stop, _, _ => True
 | .free i t, a, w => match ops[i]? with | none => False | some o => ∃ v, YieldsIf P ops.toArray S o v a ∧ wpTree P ops S Q R t (a.put o.dst v) w
 | .only i t, a, w => wpOp P ops.toArray Q i (fun a' w' => S w' ∧ (S w' → wpTree P ops S Q R t a' w')) a w
 | .fork u, a, w => wpTree P ops S Q R u a w
 | .alt i t u, a, w => wpOp P ops.toArray Q i (fun a' w' => S w' ∧ (S w' → wpTree P ops S Q R t a' w')) a w ∧ wpTree P ops S Q R u a w
section
variable {P : Program} {S : World → Prop} {Q : Exit → Act → World → Prop} {tail : List Nat}
theorem anyT_of_tree {ops : List Oper} (hs : Region.noSelect ops.toArray = true) (hw : waitsAll ops.toArray tail = true) (hQ : ∀ c a d v w, Q (.panic c) (Act.put a d v) w → Q (.panic c) a w) :
  ∀ (t : Tree) (fuel : Nat) (listed : Array Bool) (a : Act) (w : World), treeOk ops.toArray tail t listed = true → t.height + tail.length ≤ fuel → S w →
   wpTree P ops S Q (wpList P ops.toArray Q (tailed ops tail)) t a w →
   (t.isAlt = false → wpAnyT P ops.toArray Q S tail fuel listed a w) ∧
   (t.isAlt = true → ∀ f', fuel = f' + 1 → ∀ i ∈ t.heads, wpOp P ops.toArray Q i (fun a' w' => (i ∉ tail → S w') ∧ wpAnyT P ops.toArray Q S tail f' (listed.setIfInBounds i true) a' w') a w) := by
 intro t
 induction t with
 | tail => exact fun fuel listed a w hok hf _ h => ⟨fun _ => anyT_tail tail fuel listed a w hok (by simpa [Tree.height] using hf) (fun _ hi => hi) h, fun hc => (by cases hc)⟩
 | stop => exact fun fuel listed a w _ _ _ _ => ⟨fun hc => (by cases hc), fun _ f' _ i hi => by simp [Tree.heads] at hi⟩
 | free i t ih =>
  intro fuel listed a w hok hf hS h
  refine ⟨fun _ => ?_, fun hc => (by cases hc)⟩
  simp only [treeOk, Bool.and_eq_true, Bool.not_eq_true'] at hok
  obtain ⟨⟨⟨⟨ht, hr⟩, hk⟩, hna⟩, hok'⟩ := hok
  cases fuel with
  | zero => simp [Tree.height] at hf
  | succ fuel =>
   have hlen : t.height + tail.length ≤ fuel := by simp [Tree.height] at hf; omega
   have hri : i ∈ Region.ready .any ops.toArray listed := by simpa using hr
   obtain ⟨_, o, ho, _⟩ := mem_ready.1 hri
   have hl : ops[i]? = some o := by simpa using ho
   have hit : i ∉ tail := by simpa using ht
   simp only [wpTree, hl] at h
   obtain ⟨v, hy, h'⟩ := h
   exact anyT_take ho hs hw hit hQ fuel listed a w (Region.free_spec ho hk) hri hy hS ((ih fuel _ _ w hok' hlen hS h').1 hna)
 | only i t ih =>
  intro fuel listed a w hok hf hS h
  refine ⟨fun _ => ?_, fun hc => (by cases hc)⟩
  simp only [treeOk, Bool.and_eq_true, Bool.not_eq_true', beq_iff_eq] at hok
  obtain ⟨⟨⟨ht, he⟩, hna⟩, hok'⟩ := hok
  cases fuel with
  | zero => simp [Tree.height] at hf
  | succ fuel =>
   have hlen : t.height + tail.length ≤ fuel := by simp [Tree.height] at hf; omega
   exact anyT_only he (wpOp_mono (fun a' w' ⟨hS', hW⟩ => ⟨fun _ => hS', (ih fuel _ a' w' hok' hlen hS' (hW hS')).1 hna⟩) h)
 | fork u ih =>
  intro fuel listed a w hok hf hS h
  refine ⟨fun _ => ?_, fun hc => (by cases hc)⟩
  simp only [treeOk, Bool.and_eq_true, Bool.not_eq_true', beq_iff_eq] at hok
  obtain ⟨⟨⟨hna, he⟩, hem⟩, hok'⟩ := hok
  have hne : u.heads ≠ [] := by intro e; rw [e] at hem; simp at hem
  cases fuel with
  | zero =>
   exfalso
   simp only [Tree.height] at hf
   cases u with
   | alt i t u => simp [Tree.height] at hf
   | stop => exact hne rfl
   | _ => cases hna
  | succ fuel =>
   have hall := (ih (fuel + 1) listed a w hok' hf hS h).2 hna fuel rfl
   refine ⟨fun h0 => ?_, fun i hi => hall i (by rw [← he]; exact hi)⟩
   rw [he] at h0
   exact absurd h0 hne
 | alt i t u iht ihu =>
  intro fuel listed a w hok hf hS h
  refine ⟨fun hc => (by cases hc), fun _ f' hf' j hj => ?_⟩
  simp only [treeOk, Bool.and_eq_true, Bool.not_eq_true'] at hok
  obtain ⟨⟨⟨hna, hua⟩, hok'⟩, hoku⟩ := hok
  simp only [Tree.height] at hf
  simp only [Tree.heads, List.mem_cons] at hj
  rcases hj with rfl | hj
  ·exact wpOp_mono (fun a' w' ⟨hS', hW⟩ => ⟨fun _ => hS', (iht f' _ a' w' hok' (by omega) hS' (hW hS')).1 hna⟩) h.1
  ·exact (ihu fuel listed a w hoku (by omega) hS h.2).2 hua f' hf' j hj
theorem wp_region_tree {id : Nat} {ops : List Oper} {a : Act} {w : World} (t : Tree) (tail : List Nat) (S : World → Prop) (hm : P.follows .mixedOrders = true) (hs : Region.noSelect ops.toArray = true)
  (hw : waitsAll ops.toArray tail = true) (hok : treeOk ops.toArray tail t (Array.replicate ops.length false) = true) (hna : t.isAlt = false) (hlen : t.height + tail.length ≤ ops.length) (hS : S w.drew)
  (h : S w.drew → wpTree P ops S (NoPanic Q) (wpList P ops.toArray (NoPanic Q) (tailed ops tail)) t a w.drew) : (Code.region id ops.toArray true).wp P Q a w := by
 refine wp_region_noPanic ?_
 refine wp_region_any hm (any_of_anyT (S := S) (tail := tail) _ _ _ _ ?_)
 have := (anyT_of_tree (P := P) (S := S) (Q := NoPanic Q) hs hw (fun _ _ _ _ _ h => h) t ops.length (Array.replicate ops.length false) a w.drew hok hlen hS (h hS)).1 hna
 simpa using this
variable {R : Act → World → Prop}
variable {ops : List Oper} {a : Act} {w : World} {i : Nat} {o : Oper} {t u : Tree}
end
theorem SB.turned {base B : Nat} {we w0 w1 w2 : World} {row : Option Nat} (h : SB base we B row w0 w1) (hx : Below base w1 w2) (hB : B ≤ base) : SB base we B row w0 w2 :=
 ⟨fun b o hb hr => ((bcell hx).1 b o (Nat.lt_of_lt_of_le hb hB)).trans (h.cell b o hb hr), fun b o hb hr => ((bcell hx).2 b o (Nat.lt_of_lt_of_le hb hB)).trans (h.frozen b o hb hr), Nat.le_trans h.size hx.size, h.below.trans hx⟩
end
section
open Go.RowKit
section
variable {E : Entry} {sl sl0 sl' : Slots} {ob ob0 ob' : Objs} {ops : List Oper} {pl : List (Nat × Bool × Oper)} {Q : Exit → Act → World → Prop} {i : Nat}
def treeR (ops : List Oper) (tl : List Oper) (Q : Exit → Act → World → Prop) (t : Tree) : (World → Prop) → Act → World → Prop := fun S => wpTree Try.prog ops S Q (wpList Try.prog ops.toArray Q tl) t
variable {tl : List Oper} {t u : Tree} {o : Oper}
theorem am_free (ho : ops[i]? = some o) (h : AM E ops (treeR ops tl Q t) Q [(i, true, o)] sl0 ob0 sl ob) : AM E ops (treeR ops tl Q (.free i t)) Q [] sl0 ob0 sl ob := ⟨fun a w0 w Pr Pr1 β β1 κ κ1 h0 h1 hn => by
 have := h.run a w0 w Pr Pr1 β β1 κ κ1 h0 h1 hn
 simp only [wpMix] at this ⊢
 obtain ⟨v, hv, hr⟩ := this (by simpa using ho)
 simp only [treeR, wpTree, ho]
 exact ⟨v, hv, hr⟩⟩
theorem am_only (ho : ops[i]? = some o) (h : AM E ops (treeR ops tl Q t) Q [(i, false, o)] sl0 ob0 sl ob) : AM E ops (treeR ops tl Q (.only i t)) Q [] sl0 ob0 sl ob := ⟨fun a w0 w Pr Pr1 β β1 κ κ1 h0 h1 hn => by
 have := h.run a w0 w Pr Pr1 β β1 κ κ1 h0 h1 hn
 simp only [wpMix] at this ⊢
 exact this (by simpa using ho)⟩
theorem am_fork (h : AM E ops (treeR ops tl Q u) Q [] sl0 ob0 sl ob) : AM E ops (treeR ops tl Q (.fork u)) Q [] sl0 ob0 sl ob := ⟨h.run⟩
theorem am_alt (h : AM E ops (treeR ops tl Q (.only i t)) Q [] sl0 ob0 sl ob) (h' : AM E ops (treeR ops tl Q u) Q [] sl0 ob0 sl ob) : AM E ops (treeR ops tl Q (.alt i t u)) Q [] sl0 ob0 sl ob :=
 ⟨fun a w0 w Pr Pr1 β β1 κ κ1 h0 h1 hn => ⟨h.run a w0 w Pr Pr1 β β1 κ κ1 h0 h1 hn, h'.run a w0 w Pr Pr1 β β1 κ κ1 h0 h1 hn⟩⟩
theorem am_stop : AM E ops (treeR ops tl Q .stop) Q [] sl0 ob0 sl ob := ⟨fun _ _ _ _ _ _ _ _ _ _ _ _ => trivial⟩
theorem am_leaf (h : AL E ops.toArray tl Q sl' ob') (hs : ∀ p ∈ sl', look sl p.1 = p.2) (ho : ∀ p ∈ ob', find ob p.1 = some p.2) : AM E ops (treeR ops tl Q .tail) Q [] sl0 ob0 sl ob :=
 ⟨fun _ _ _ _ _ _ _ _ _ _ h1 _ => h.run _ _ (Inv.less ⟨_, _, _, h1⟩ hs ho)⟩
theorem mix_of {S : World → Prop} {R : Act → World → Prop} {a : Act} {w : World} (h : wpMix Try.prog ops.toArray S Q R [] a w) : R a w := h
theorem find_sub {ob0 ob : Objs} (ho : ∀ p ∈ ob0, find ob p.1 = some p.2) : ∀ i x, find ob0 i = some x → find ob i = some x := by
 have : ∀ (r : Objs), (∀ p ∈ r, find ob p.1 = some p.2) → ∀ j x, find r j = some x → find ob j = some x := by
  intro r
  induction r with
  | nil => intro _ j x h; cases h
  | cons p r ih =>
   obtain ⟨k, y⟩ := p
   intro hr j x hj
   by_cases hjk : j = k
   ·subst hjk
    rw [find_eq] at hj
    cases hj
    exact hr (j, y) (by simp)
   ·rw [find_ne hjk] at hj
    exact ih (fun p hp => hr p (by simp [hp])) j x hj
 exact this _ ho
theorem aw_tree {id : Nat} (t : Tree) (tail : List Nat) (ob0 : Objs) (sl' : Slots) (ob' : Objs) (hs : Region.noSelect ops.toArray = true) (hw : waitsAll ops.toArray tail = true) (hok : treeOk ops.toArray tail t (Array.replicate ops.length false) = true) (hna : t.isAlt = false) (hlen : t.height + tail.length ≤ ops.length)
  (ho : ∀ p ∈ ob0, find ob p.1 = some p.2)
  (h : AL E ops.toArray (tailed ops tail) (NoPanic Q) sl' ob' → AM E ops (treeR ops (tailed ops tail) (NoPanic Q) t) (NoPanic Q) [] sl ob0 sl ob) (hrest : AL E ops.toArray (tailed ops tail) (NoPanic Q) sl' ob') : AW E (.region id ops.toArray true) Q sl ob := by
 have h := h hrest
 refine ⟨fun a w hi => ?_⟩
 obtain ⟨Pr, β, κ, hg⟩ := hi
 have hg2 : Good E sl ob a w.drew Pr β κ := hg.grow (Below.refl _ _).drew (fun _ _ h => h) (fun _ _ h => .inl h)
 have hf := find_sub ho
 have hg3 : Good E sl ob0 a w.drew Pr β κ := ⟨hg2.below, hg2.st0, hg2.pr0, hg2.prn, hg2.prl, hg2.size, hg2.defers, hg2.slots, fun i o hi => hg2.objs i o (hf i o hi), fun i j oi oj g h1 h2 => hg2.apart i j oi oj g (hf i oi h1) (hf j oj h2), fun i o g h1 => hg2.own i o g (hf i o h1), hg2.keeps, hg2.fresh⟩
 exact wp_region_tree t tail (Kept Pr β ob0 w.drew) follows_mixed hs hw hok hna hlen (Kept.refl _ _ _ _) (fun _ => mix_of (h.run a w.drew w.drew Pr Pr β β κ κ hg3 hg2 ⟨Kept.refl _ _ _ _, fun _ _ h => h, .refl _ _, fun i o h => ⟨hf i o h, rfl⟩⟩))
theorem Good.rename {a : Act} {w : World} {Pr : Prot} {β : Nat → Value} {κ : Nat → Nat} (h : Good E sl ob a w Pr β κ) {d : Nat} (hd : d < E.n) (hno : noneOf d sl ob = true) (hk : find ob d = none) (v : Value) (k : Nat) : Good E sl ob a w Pr (updV β d v) (updN κ d k) := by
 have e3 := updV_other β d v
 have e4 := updN_other κ d k
 have hne : ∀ i o, find ob i = some o → i ≠ d := fun i o hi e => by rw [e, hk] at hi; cases hi
 have hfr : ∀ i o, find E.ob0 i = some o → i ≠ d := fun i o hi e => by have := h.fresh i o hi; omega
 refine ⟨h.below, h.st0, h.pr0, h.prn, h.prl, h.size, h.defers, fun i => (h.slots i).other (noneOf_slot hno i) e3 e4, fun i o hi => (h.objs i o hi).other (noneOf_obj hno hi) (hne i o hi) e3 e4, fun i j oi oj g h1 h2 h3 h4 => ?_, fun i o g h1 h2 => ?_, fun i o hi => ?_, h.fresh⟩
 ·rw [e3 i (hne i oi h1)] at h3
  rw [e3 j (hne j oj h2)] at h4
  exact h.apart i j oi oj g h1 h2 h3 h4
 ·rw [e3 i (hne i o h1)] at h2
  exact h.own i o g h1 h2
 ·rw [e3 i (hfr i o hi), e4 i (hfr i o hi)]
  exact h.keeps i o hi
theorem kept_upd {Pr : Prot} {β : Nat → Value} {w : World} {d : Nat} {v : Value} (hk : find ob0 d = none) : Kept Pr (updV β d v) ob0 w = Kept Pr β ob0 w := by
 have hne : ∀ i o, find ob0 i = some o → i ≠ d := fun i o hi e => by rw [e, hk] at hi; cases hi
 funext w'
 refine propext ⟨fun h => ⟨h.stays, fun i o g h1 h2 => h.objs i o g h1 (by rw [updV_other β d v i (hne i o h1)]; exact h2), h.size⟩, fun h => ⟨h.stays, fun i o g h1 h2 => h.objs i o g h1 (by rw [updV_other β d v i (hne i o h1)] at h2; exact h2), h.size⟩⟩
variable {tail : (World → Prop) → Act → World → Prop} {g : Option (Nat × Bool)} {p : String} {af : Array Edge} {ty : TypeId} {d : Nat}
theorem am_alloc {l l0 : List V} {e : TypeId} (hw : Want ops sl true g) (hT : zeroV (ti e) = some l0) (hl : l0 = l) (hsl : isSl (ti e) = false) (hd : d < E.n) (hno : noneOf d sl ob = true) (hno0 : noneOf d sl0 ob0 = true) (hk0 : find ob0 d = none)
  (hK : AM E ops tail Q pl ((d, .und) :: sl0) ob0 ((d, .box d 0) :: sl) ((d, .box e l) :: ob)) : AM E ops tail Q ((i, false, ⟨some d, .alloc e, ty, p, af, g⟩) :: pl) sl0 ob0 sl ob := by
 subst hl
 refine ⟨fun a w0 w Pr Pr1 β β1 κ κ1 h0 h1 hn => ?_⟩
 refine mix_move (hw.is h1) (fun K hKK => ?_)
 obtain ⟨z, hz, hzl⟩ := zeroV_run w hT hsl
 subst hzl
 have hrun : (execOp a.eval ⟨some d, .alloc e, ty, p, af, g⟩).run Try.prog w = .ok (.value (.pointer (some ⟨w.heap.size, 0, none⟩))) (w.alloc (.cells z.cells e)) := by
  simp [execOp, Instr.alloc, hz, newVar, newRow]
 unfold Oper.wp
 rw [hrun, Oper.upon_value]
 have hx : Below w.heap.size w (w.alloc (.cells z.cells e)) := (Below.refl _ _).alloc (Nat.le_refl _) _
 have hG := h1.newobjG (o := .box e (z.cells.toList.map fun u => .d (.val u))) (x := .box d 0) (u := .pointer (some ⟨w.heap.size, 0, none⟩)) hd hno (Pr' := Pr1) (v := .pointer (some ⟨w.heap.size, 0, none⟩)) hx (fun _ _ h => h) (fun _ _ h => .inl h) (fun g hg => by simp [blk] at hg; omega)
  (fun β' κ' e1 e2 e3 e4 => by
   refine ⟨w.heap.size, z.cells.toList, e1, Nat.zero_le _, ?_, by simp, fun j v x h2 h3 => ?_, fun o ho => ?_⟩
   ·rw [Array.toArray_toList]; exact heap_alloc_new w _
   ·exact rep_val _ j v x h2 h3
   ·have := h1.prl _ _ ho
    omega)
  (fun β' κ' e1 _ _ _ => .box d 0 _ e1)
 have h0' := (h0.rename hd hno0 hk0 (.pointer (some ⟨w.heap.size, 0, none⟩)) 0).put hd (v := .pointer (some ⟨w.heap.size, 0, none⟩)) (.und _)
 have hn1 := hn.grow (Pr2 := Pr1) h1 hx (fun _ _ h => h)
 have hne : ∀ i o, find ob0 i = some o → i ≠ d := fun i o hi e => by rw [e, hk0] at hi; cases hi
 have hn2 : Now ob0 ((d, .box e (z.cells.toList.map fun u => .d (.val u))) :: ob) w0 (w.alloc (.cells z.cells e)) Pr Pr1 (updV β d (.pointer (some ⟨w.heap.size, 0, none⟩))) (updV β1 d (.pointer (some ⟨w.heap.size, 0, none⟩))) (updN κ d 0) (updN κ1 d 0) := by
  refine ⟨by rw [kept_upd hk0]; exact hn1.kept, hn1.pr, fun j => ?_, fun j o hj => ?_⟩
  ·by_cases hj : j = d
   ·subst hj
    exact .inl ⟨by rw [updV_same, updV_same], by rw [updN_same, updN_same]⟩
   ·rw [updV_other _ d _ j hj, updV_other _ d _ j hj, updN_other _ d _ j hj, updN_other _ d _ j hj]
    exact hn1.then_ j
  ·have hjd := hne j o hj
   rw [updV_other _ d _ j hjd, updV_other _ d _ j hjd, find_ne hjd]
   exact hn1.sub j o hj
 refine hKK.out _ _ hn1.kept fun _ => ?_
 have := hK.run _ w0 _ Pr Pr1 _ _ _ _ h0' hG hn2
 rw [kept_upd hk0] at this
 exact this
theorem am_store {t T T' : TypeId} {x y : Operand} {j o k : Nat} {l l' n : List V} {v : V} (hw : Want ops sl true g) (hx : ev sl x = .box j o) (hf : find ob j = some (.box T' l)) (hk0 : find ob0 j = none) (hv : ev sl y = v) (hu : v ≠ .und) (hn : cellsV v = n) (h1 : ∀ z ∈ n, z.one = true) (hT : (isOne (ti t) = true ∧ k = 1) ∨ aggK (ti t) = some k) (hk : n.length = k) (hl : o + n.length ≤ l.length) (hr : put l o n = l')
  (hK : AM E ops tail Q pl sl0 ob0 sl ((j, .box T' l') :: ob)) : AM E ops tail Q ((i, false, ⟨none, .store t x y, T, p, af, g⟩) :: pl) sl0 ob0 sl ob := by
 refine ⟨fun a w0 w Pr Pr1 β β1 κ κ1 h0 hg1 hnw => ?_⟩
 refine mix_move (hw.is hg1) (fun K hKK => ?_)
 obtain ⟨b, cs, hrun, hb, hno, hG⟩ := store_now (T := T) (p := p) (af := af) (g := g) hg1 hx hf hv hu hn h1 hT hk hl hr
 unfold Oper.wp
 rw [hrun, Oper.upon_skip]
 have hne : ∀ i o, find ob0 i = some o → i ≠ j := fun i o hi e => by rw [e, hk0] at hi; cases hi
 have hkept : Kept Pr β ob0 w0 (w.setRow b cs) := hnw.kept.trans (Pr1 := Pr1) ⟨fun b' q hq => World.cell?_of_block (a := ⟨b', q, none⟩) (setRow_other w b b' cs (by rintro rfl; exact hno q hq)), fun i o g h2 h3 => setRow_other w b g cs (by
   rintro rfl
   have h4 := (hnw.sub i o h2)
   exact hne i o h2 (hg1.apart i j o _ _ h4.1 hf (by rw [h4.2]; exact h3) (by rw [hb]; rfl))), by simp [World.setRow]⟩ hnw.pr
 refine hKK.out _ _ hkept fun _ => ?_
 exact hK.run _ w0 _ Pr Pr1 _ _ _ _ h0 hG ⟨hkept, hnw.pr, hnw.then_, fun i o hi => by rw [find_ne (hne i o hi)]; exact hnw.sub i o hi⟩
end
end
section
open Go.RowKit Go.ChangeMaps
def keyL : List D → Option (List Value)
 | [] => some []
 | .val v :: l => (keyL l).map (v :: ·)
 | _ :: _ => none
def keyV : V → Option Value
 | .d (.val v) => some v
 | .d (.agg l) => (keyL l).map fun cs => .agg cs.toArray
 | _ => none
def keyD : Value → D
 | .agg cs => .agg (cs.toList.map D.val)
 | v => .val v
structure MapT (t kt et : TypeId) (z : D) (zv : Value) : Prop where
 u : Try.prog.underlying t = some (.map kt et)
 K : Maps.Keyed Try.prog kt
 zero : ∀ w, (zeroValue et).run Try.prog w = .ok zv w
 zr : ∀ w Pr, RepD w Pr zv z
abbrev ME := Nat × Value × D
inductive Hit (l : List ME) (k : Value) (z : D) : D → Bool → Prop where
 | yes (j n : Nat) (d : D) (h : l[j]? = some (n, k, d)) : Hit l k z d true
 | no (h : ∀ q ∈ l, q.2.1 ≠ k) : Hit l k z z false
inductive Put (c : Nat) (l : List ME) (k : Value) (d : D) : Nat → List ME → Prop where
 | old (j n : Nat) (d0 : D) (h : l[j]? = some (n, k, d0)) : Put c l k d c (l.set j (n, k, d))
 | new (h : ∀ q ∈ l, q.2.1 ≠ k) : Put c l k d (c + 1) (l ++ [(c, k, d)])
inductive Del (l : List ME) (k : Value) : List ME → Prop where
 | old (j n : Nat) (d0 : D) (h : l[j]? = some (n, k, d0)) : Del l k (l.eraseIdx j)
 | no (h : ∀ q ∈ l, q.2.1 ≠ k) : Del l k l
def Ents (es : List MapEntry) (l : List ME) : Prop := es.map (fun x => (x.born, x.key)) = l.map (fun q => (q.1, q.2.1))
theorem Ents.len {es : List MapEntry} {l : List ME} (h : Ents es l) : es.length = l.length := by have := congrArg List.length h; simpa using this
theorem Ents.get {es : List MapEntry} {l : List ME} (h : Ents es l) {j : Nat} {q : ME} (hj : l[j]? = some q) : ∃ x, es[j]? = some x ∧ x.born = q.1 ∧ x.key = q.2.1 := by
 have h1 : (es.map (fun x => (x.born, x.key)))[j]? = some (q.1, q.2.1) := by rw [h, List.getElem?_map, hj]; rfl
 rw [List.getElem?_map, Option.map_eq_some_iff] at h1
 obtain ⟨x, hx, e⟩ := h1
 simp only [Prod.mk.injEq] at e
 exact ⟨x, hx, e.1, e.2⟩
theorem Ents.put {es : List MapEntry} {l : List ME} (h : Ents es l) {j : Nat} {x : MapEntry} (hj : es[j]? = some x) : ∃ q, l[j]? = some q ∧ x.born = q.1 ∧ x.key = q.2.1 := by
 have h1 : (l.map (fun q => (q.1, q.2.1)))[j]? = some (x.born, x.key) := by rw [← h, List.getElem?_map, hj]; rfl
 rw [List.getElem?_map, Option.map_eq_some_iff] at h1
 obtain ⟨q, hq, e⟩ := h1
 simp only [Prod.mk.injEq] at e
 exact ⟨q, hq, e.1.symm, e.2.symm⟩
section
variable {t kt et : TypeId} {z : D} {zv : Value}
theorem KeyOk.lit (M : MapT t kt et z zv) {k : Value} (h : KeyOk t k) : ∃ lit, keyOf Try.prog kt k = some lit := by
 obtain ⟨kt', et', lit, h1, h2⟩ := h
 rw [M.u] at h1
 cases h1
 exact ⟨lit, h2⟩
theorem KeyOk.of (M : MapT t kt et z zv) {k : Value} {lit : Lit} (h : keyOf Try.prog kt k = some lit) : KeyOk t k := ⟨kt, et, lit, M.u, h⟩
variable {E : Entry} {sl : Slots} {ob : Objs} {a : Act} {w : World} {Pr : Prot} {β : Nat → Value} {κ : Nat → Nat}
variable {d : Nat} {dd : Option Nat} {T ty : TypeId} {p : String} {af : Array Edge} {g : Option (Nat × Bool)} {x y c : Operand}
theorem nodup_set {α β : Type} {f : α → β} {l : List α} {j : Nat} {q r : α} (hj : l[j]? = some q) (e : f r = f q) : (l.set j r).map f = l.map f := by
 rw [List.map_set]
 refine List.ext_getElem? fun i => ?_
 rw [List.getElem?_set]
 split
 ·rename_i h
  subst h
  have hlt := (List.getElem?_eq_some_iff.1 hj).1
  rw [List.length_map, if_pos hlt, List.getElem?_map, hj, Option.map_some, e]
 ·rfl
theorem MapOk.put {clock c' : Nat} {l l' : List ME} {k : Value} {dv : D} (h : MapOk t clock l) (hk : KeyOk t k) (hp : Put clock l k dv c' l') : MapOk t c' l' := by
 cases hp with
 | old j n d0 hj =>
  refine ⟨by rw [nodup_set (f := fun q : ME => q.1) (r := (n, k, dv)) hj rfl]; exact h.nodup, fun q hq => ?_, by rw [nodup_set (f := fun q : ME => q.2.1) (r := (n, k, dv)) hj rfl]; exact h.keys, fun q hq => ?_⟩
  ·rcases List.mem_or_eq_of_mem_set hq with hq | rfl
   ·exact h.lt q hq
   ·exact h.lt (n, k, d0) (List.mem_of_getElem? hj)
  ·rcases List.mem_or_eq_of_mem_set hq with hq | rfl
   ·exact h.ok q hq
   ·exact hk
 | new hn =>
  refine ⟨?_, fun q hq => ?_, ?_, fun q hq => ?_⟩
  ·rw [List.map_append, List.nodup_append]
   refine ⟨h.nodup, by simp, fun a ha b hb => ?_⟩
   obtain ⟨q, hq, rfl⟩ := List.mem_map.1 ha
   simp at hb
   have := h.lt q hq
   omega
  ·rcases List.mem_append.1 hq with hq | hq
   ·have := h.lt q hq
    omega
   ·simp at hq
    subst hq
    exact Nat.lt_succ_self _
  ·rw [List.map_append, List.nodup_append]
   refine ⟨h.keys, by simp, fun a ha b hb => ?_⟩
   obtain ⟨q, hq, rfl⟩ := List.mem_map.1 ha
   simp at hb
   rw [hb]
   exact hn q hq
  ·rcases List.mem_append.1 hq with hq | hq
   ·exact h.ok q hq
   ·simp at hq
    subst hq
    exact hk
end
section
variable {E : Entry} {sl sl0 : Slots} {ob ob0 : Objs} {ops : List Oper} {pl : List (Nat × Bool × Oper)} {Q : Exit → Act → World → Prop} {tail : (World → Prop) → Act → World → Prop} {g : Option (Nat × Bool)} {p : String} {af : Array Edge} {T ty t : TypeId} {d n : Nat}
theorem am_append {x y : Operand} {i k e es eb : Nat} {ez : Value} {l l2 : List (List D)} {A : Array TypeId} (hw : Want ops sl true g) (hx : ev sl x = .row i k) (hf : find ob i = some (.row e es k l)) (hk0 : find ob0 i = none) (hy : ToD ob (ev sl y) (.list es l2)) (hA : A = #[t, t]) (hT : ti t = .sl e es eb ez)
  (h1 : ∀ q ∈ l2, ∀ z ∈ q, D.one z = true) (hes : 0 < es) (hb : (l.length + l2.length) * eb ≤ 140737488355328) (hm : l.length + l2.length ≤ 140737488355328) (hd : d < E.n)
  (hK : AM E ops tail Q pl ((d, .und) :: sl0) ob0 ((d, .row i (k + 1)) :: sl) ((i, .row e es (k + 1) (l ++ l2)) :: ob)) :
  AM E ops tail Q ((n, false, ⟨some d, .call { callee := .builtin .append, args := #[x, y], argTypes := A }, T, p, af, g⟩) :: pl) sl0 ob0 sl ob := by
 subst hA
 refine ⟨fun a w0 w Pr Pr1 β β1 κ κ1 h0 h hnw => ?_⟩
 refine mix_move (hw.is h) (fun K hKK => ?_)
 obtain ⟨v', w', Pr', β', κ', hrun, hG, hp, hs, e3, e4, hlt, hbs, hgr⟩ := app_now (o := ⟨some d, .call { callee := .builtin .append, args := #[x, y], argTypes := #[t, t] }, T, p, af, g⟩) (l2 := l2) h hf hd (fun xs hown => by
  obtain ⟨hκ, _⟩ := h.objs i _ hf
  have hxv : a.eval x = β1 i := by
   have := good_ev h x
   rw [hx] at this
   exact this.row_inv hκ.symm
  have hyv := toD_rep h hy _ (good_ev h y)
  obtain ⟨v', w', news, hrun, hown', hgr, hoff, hkeep, hnl, hl2, hnr⟩ := run_app (T := T) (κ := κ1) h hown hyv hT h1 hes hb hm
  exact ⟨v', w', news, by simp [execOp, resolve, invoke, builtin, hxv, hrun], hown', hgr, hoff, hkeep, hnl, hl2, hnr⟩)
 unfold Oper.wp
 rw [hrun, Oper.upon_value]
 have hbb : blk (β1 i) = (β1 i).ownBlock := by obtain ⟨_, _, _, q⟩ := hbs; exact ownBlock_blk q
 have hne : ∀ j o, find ob0 j = some o → j ≠ i := fun j o hj q => by rw [q, hk0] at hj; cases hj
 have hkept : Kept Pr β ob0 w0 w' := hnw.kept.trans (Pr1 := Pr1) ⟨hs, fun j o g h2 h3 => by
  have h4 := hnw.sub j o h2
  have hlt := ((h.objs j o h4.1).blkLt g (by rw [h4.2]; exact h3)).2
  refine hgr.block g hlt (fun q => hne j o h2 ?_)
  exact h.apart j i o _ g h4.1 hf (by rw [h4.2]; exact h3) (by rw [hbb]; exact q.symm), hgr.size⟩ hnw.pr
 refine hKK.out _ _ hkept fun _ => ?_
 refine hK.run _ w0 _ Pr Pr' _ _ _ _ (h0.put hd (.und _)) hG ⟨hkept, fun b o ho => hp b o (hnw.pr b o ho), hnw.then_.trans (fun j => ?_), fun j o hj => ?_⟩
 ·by_cases hj : j = i
  ·subst hj
   exact .inr ⟨hlt, hbs⟩
  ·exact .inl ⟨e3 j hj, e4 j hj⟩
 ·have h4 := hnw.sub j o hj
  have hji := hne j o hj
  exact ⟨by rw [find_ne hji]; exact h4.1, (e3 j hji).trans h4.2⟩
end
theorem dfill_len {place : Nat → Option (Nat × Nat)} : ∀ {dp : List (Nat × D)} {ds r : List D}, dfill place ds dp = some r → r.length = ds.length
 | [], ds, r, h => by simp only [dfill, Option.some.injEq] at h; rw [h]
 | (i, z) :: dp, ds, r, h => by
  simp only [dfill] at h
  split at h
  ·cases h
  ·split at h
   ·rename_i hc
    rw [dfill_len h]
    simp [putD]
    omega
   ·cases h
section
variable {E : Entry} {sl : Slots} {ob : Objs} {a : Act} {w : World} {Pr : Prot} {β : Nat → Value} {κ : Nat → Nat}
variable {d : Nat} {t T ty : TypeId} {p : String} {af : Array Edge} {g : Option (Nat × Bool)} {x y c : Operand}
theorem litR_now (h : Good E sl ob a w Pr β κ) {parts : List (Nat × Operand)} {dp : List (Nat × D)} {l : List D} {l2 : List (List D)} {e es eb n : Nat} {ez : Value} (hT : ti t = .sl e es eb ez) (hp : PartsD sl ob parts dp) (hl : dfill (fun i => some (i * es, es)) (zerosD es n ez) dp = some l) (hc2 : chunk es n l = l2) (hn : n * es ≤ 1000) (hn2 : n ≤ 1000) (hd : d < E.n) (hno : noneOf d sl ob = true) :
  ∃ v w' Pr', (execOp a.eval ⟨some d, .buildSlice t n parts.toArray, T, p, af, g⟩).run Try.prog w = .ok (.value v) w' ∧ Below w.heap.size w w' ∧ (∀ b o, Pr b o → Pr' b o) ∧
   Good E ((d, .row d 0) :: sl) ((d, .row e es 0 l2) :: ob) (a.put (some d) v) w' Pr' (updV β d v) (updN κ d 0) := by
 subst hc2
 obtain ⟨cs, hc, hr⟩ := run_lit h hT hp hl hn
 have hrun : (execOp a.eval ⟨some d, .buildSlice t n parts.toArray, T, p, af, g⟩).run Try.prog w = .ok (.value (.slice (some ⟨w.heap.size, 0, none⟩) n n)) (w.alloc (.cells cs.toArray e)) := by
  simp only [execOp, parts_map, Sem.run_bind, hr]
  rfl
 have hx : Below w.heap.size w (w.alloc (.cells cs.toArray e)) := (Below.refl _ _).alloc (Nat.le_refl _) _
 have hlen : l.length = n * es := by rw [dfill_len hl]; simp [zerosD]
 have hcl : (chunk es n l).length = n := chunk_len es n l
 refine ⟨_, _, fun b o => Pr b o ∨ (b = w.heap.size ∧ o < n * es), hrun, hx, fun _ _ h => .inl h, h.newobjG (v := .slice (some ⟨w.heap.size, 0, none⟩) n n) hd hno hx (fun _ _ h => .inl h) (fun b o ho => ho.imp id fun h1 => by simp [h1.1]) (fun g hg => by simp [blk] at hg; omega) (fun β' κ' e1 e2 e3 e4 => ?_) (fun β' κ' e1 e2 _ _ => .row d 0 _ ⟨_, _, _, rfl⟩ (Nat.zero_le _) (fun _ => e1.symm))⟩
 refine ⟨e2, cs, ?_, chunk_all es n l hlen, fun q j x z h3 h4 => ?_, fun b hb o => ?_⟩
 ·rw [e1, hcl]
  refine ⟨by rw [hc.1, hlen], .inr ⟨w.heap.size, n, cs.toArray, rfl, Nat.zero_le _, heap_alloc_new w _, Nat.le_refl _, by unfold maxLen; omega, by simp; rw [hc.1, hlen], ?_⟩⟩
  show cs.take (n * es) = cs
  exact List.take_of_length_le (by rw [hc.1, hlen]; exact Nat.le_refl _)
 ·obtain ⟨hi, hj, hz⟩ := chunk_get es n l q j x z h3 h4
  have hlt : q * es + j < cs.length := by rw [hc.1]; exact (List.getElem?_eq_some_iff.1 hz).1
  exact ⟨cs[q * es + j], List.getElem?_eq_getElem hlt, (hc.2 (q * es + j) _ z (List.getElem?_eq_getElem hlt) hz).keep (stays_below h hx) (fun _ _ h => .inl h)⟩
 ·rw [e1] at hb
  simp only [Value.ownBlock, Option.some.injEq] at hb
  subst hb
  rw [hcl]
  refine ⟨fun ho => ho.elim (fun h1 => ?_) (·.2), fun ho => .inr ⟨rfl, ho⟩⟩
  have := h.prl _ _ h1
  omega
theorem st_litR {parts : List (Nat × Operand)} {dp : List (Nat × D)} {l : List D} {l2 : List (List D)} {e es eb n : Nat} {ez : Value} (hT : ti t = .sl e es eb ez) (hp : PartsD sl ob parts dp) (hl : dfill (fun i => some (i * es, es)) (zerosD es n ez) dp = some l) (hc2 : chunk es n l = l2) (hn : n * es ≤ 1000) (hn2 : n ≤ 1000) (hd : d < E.n) (hno : noneOf d sl ob = true) :
  Step E ⟨some d, .buildSlice t n parts.toArray, T, p, af, g⟩ sl ob ((d, .row d 0) :: sl) ((d, .row e es 0 l2) :: ob) := by
 rintro a w ⟨Pr, β, κ, h⟩ K Q hK
 obtain ⟨v, w', Pr', hrun, _, _, hG⟩ := litR_now (d := d) (T := T) (p := p) (af := af) (g := g) h hT hp hl hc2 hn hn2 hd hno
 unfold Oper.wp
 rw [hrun, Oper.upon_value]
 exact hK _ _ ⟨_, _, _, hG⟩
theorem st_litR0 {e es eb : Nat} {ez : Value} (hT : ti t = .sl e es eb ez) (hd : d < E.n) (hno : noneOf d sl ob = true) :
  Step E ⟨some d, .buildSlice t 0 #[], T, p, af, g⟩ sl ob ((d, .row d 0) :: sl) ((d, .row e es 0 []) :: ob) :=
 st_litR (parts := []) (dp := []) (l := []) (n := 0) hT .nil (by simp [dfill, zerosD]) rfl (by simp) (by simp) hd hno
theorem al_slnil {s : Nat} {l : List (List D)} {se : TypeId} {ops : Array Oper} {rest : List Oper} {Q : Exit → Act → World → Prop} (hx : ToD ob (ev sl x) (.list s l)) (ht : Try.prog.underlying t = some (.slice se)) (hd : d < E.n)
  (hK : ∀ b : Bool, (b = true → l = []) → AL E ops rest Q ((d, .d (.val (.bool b))) :: sl) ob) : AL E ops (⟨some d, .binOp .eql t x (.const (.slice none 0 0)) ty, T, p, af, none⟩ :: rest) Q sl ob := by
 refine ⟨fun a w hi => ?_⟩
 obtain ⟨Pr, β, κ, h⟩ := hi
 have hrep := toD_rep h hx _ (good_ev h x)
 obtain ⟨A, n, c, hv⟩ : ∃ A n c, a.eval x = .slice A n c := by
  obtain ⟨A, c, hv, _⟩ := list_form hrep
  exact ⟨_, _, _, hv⟩
 rw [hv] at hrep
 have hc : a.eval (.const (.slice none 0 0)) = Value.slice none 0 0 := rfl
 have hrun : (execOp a.eval ⟨some d, .binOp .eql t x (.const (.slice none 0 0)) ty, T, p, af, none⟩).run Try.prog w = .ok (.value (.bool A.isNone)) w := by
  simp [execOp, hv, hc, eqGuard_at_slice, Lib.run_eql_slice_nil w t se A n c 0 0 ht]
 refine wpList_plain rfl fun K hKK => ?_
 unfold Oper.wp
 rw [hrun, Oper.upon_value]
 refine hKK _ _ ((hK A.isNone fun hb => ?_).run _ _ ⟨Pr, β, κ, h.put hd (.d _ _ (.val _))⟩)
 cases hrep with
 | nil => rfl
 | list => cases hb
def Yw (E : Entry) (o : Oper) (sl : Slots) (ob : Objs) (x : V) : Prop :=
 ∀ a w Pr β κ, Good E sl ob a w Pr β κ → ∃ v, RepV w Pr β κ v x ∧ ∀ w', (execOp a.eval o).run Try.prog w' = .ok (.value v) w'
inductive PartsS (sl : Slots) (fs : List (Nat × Nat × Nat)) : List (Nat × Operand) → List (Nat × V) → Prop where
 | nil : PartsS sl fs [] []
 | cons {i off ft : Nat} {x : Operand} {xs : List (Nat × Operand)} {v : V} {vs : List (Nat × V)} (hf : fs[i]? = some (off, 1, ft)) (h : Cf (ev sl x) v) (h1 : v.one = true) (hr : PartsS sl fs xs vs) : PartsS sl fs ((i, x) :: xs) ((off, v) :: vs)
def sfill (l : List V) : List (Nat × V) → List V
 | [] => l
 | (o, v) :: r => sfill (l.set o v) r
theorem aq_adopt {x : Exit} {Q : Exit → Act → World → Prop} (j r e s : Nat) (hx : look sl j = .d (.val (.slice none 0 0))) (hno : noneOf r sl ob = true) (hr : r < E.n) (h : AQ E x Q ((j, .row r 0) :: sl) ((r, .row e s 0 []) :: ob)) : AQ E x Q sl ob := by
 refine ⟨fun a w hi => ?_⟩
 obtain ⟨Pr, β, κ, hg⟩ := hi
 exact h.run a w (hg.adopt hx hno hr)
end
section
variable {E : Entry} {sl sl0 : Slots} {ob ob0 : Objs} {ops : List Oper} {pl : List (Nat × Bool × Oper)} {Q : Exit → Act → World → Prop} {tail : (World → Prop) → Act → World → Prop} {g : Option (Nat × Bool)} {p : String} {af : Array Edge} {T ty t : TypeId} {d i : Nat}
end
section
variable {E : Entry} {sl sl0 : Slots} {ob ob0 : Objs} {ops : List Oper} {pl : List (Nat × Bool × Oper)} {Q : Exit → Act → World → Prop} {tail : (World → Prop) → Act → World → Prop} {g : Option (Nat × Bool)} {p : String} {af : Array Edge} {T ty t : TypeId} {d i : Nat}
theorem am_ocall1 {f : FuncId} {args : List V} {ob1 : Objs} {n : Nat} {Post : V → Objs → Prop} {c : Operand} {xs : List Operand} {ats : Array TypeId} (l : List (Nat × Nat)) (hc : ObC f args ob1 [n] Post) (hw : Want ops sl true g) (hf : ev sl c = .d (.val (.func (.func f) #[] #[]))) (hE : Fine E) (hd : d < E.n) (ha : ArgsV l sl ob xs args)
  (hL : Lends E sl ob l ob1 [n]) (hfree : ((keys ob0).all fun j => !(mem ((keys ob1).map (rn l)) j)) = true) (hno0 : noneOf (rn l n) sl0 ob0 = true) (hk0 : find ob0 (rn l n) = none) (hnn : rn l n < E.n)
  (hK : ∀ x ob', Post x ob' → ∀ y ob2, x.ren l = y → renO l ob' ++ dropK ((keys ob1).map (rn l)) ob = ob2 → AM E ops tail Q pl ((d, .und) :: sl0) ob0 ((d, y) :: sl) ob2) : AM E ops tail Q ((i, false, ⟨some d, .call { callee := .value c, args := xs.toArray, argTypes := ats }, ty, p, af, g⟩) :: pl) sl0 ob0 sl ob := by
 refine ⟨fun a w0 w Pr Pr1 β β1 κ κ1 h0 h h2 => ?_⟩
 refine mix_move (hw.is h) (fun K hKK => ?_)
 obtain ⟨hlen, hr⟩ := ha.rep h
 have hfo := hL.find
 obtain ⟨ho, hl, hk, hk2, hn⟩ := hL
 have hcall := hc.2 w Pr1 (xs.map a.eval) _ _ h.prl (env_now hE h) hlen hr (fun i o hi => repO_in (h.objs _ _ (hfo i o hi))) (fun i j oi oj g hi hj hgi hgj => by
  have e := h.apart _ _ _ _ g (hfo i oi hi) (hfo j oj hj) hgi hgj
  have k1 := okRen_at hl (mem_iff.1 (List.all_eq_true.1 hk i (List.mem_append_left _ (find_mem hi))))
  have k2 := okRen_at hl (mem_iff.1 (List.all_eq_true.1 hk j (List.mem_append_left _ (find_mem hj))))
  rw [e, k2] at k1
  cases k1
  rfl)
 have hrun : (execOp a.eval ⟨some d, .call { callee := .value c, args := xs.toArray, argTypes := ats }, ty, p, af, g⟩).run Try.prog w = .ok (.enter f (xs.map a.eval).toArray) w := by
  simp [execOp, resolve, Deferred.ofValue, invoke, good_val h hf, run_callFunc hc.1]
 unfold Oper.wp
 rw [hrun, Oper.upon_enter]
 refine hcall.mono fun e w' ⟨v, x, ob', Pr', β', κ', he, hp, hA⟩ => ?_
 subst he
 obtain ⟨Pr2, β2, κ2, hG, e1, e2, e3⟩ := h.ocalled2' hd hA ho hl hk hk2 hn
 have hnot : ∀ i o, find ob0 i = some o → i ∉ (keys ob1).map (rn l) := by
  intro i o hi hm
  have := List.all_eq_true.1 hfree i (find_mem hi)
  rw [mem_iff.2 hm] at this
  cases this
 have hne : ∀ i o, find ob0 i = some o → i ≠ rn l n := fun i o hi e => by rw [e, hk0] at hi; cases hi
 have hnot2 : ∀ i o, find ob0 i = some o → i ∉ (keys ob1 ++ [n]).map (rn l) := by
  intro i o hi hm
  rw [List.map_append] at hm
  rcases List.mem_append.1 hm with hm | hm
  ·exact hnot i o hi hm
  ·simp at hm
   exact hne i o hi hm
 have hkept : Kept Pr β ob0 w0 w' := h2.kept.trans (Pr1 := Pr1) ⟨by rw [e1] at *; exact hA.st, fun i o g h3 h4 => by
   obtain ⟨q1, q2⟩ := h2.sub i o h3
   have hlt := (h.objs i o q1).blkLt g (by rw [q2]; exact h4)
   refine hA.under.block g hlt.2 ?_
   rintro ⟨j, oj, h5, h6⟩
   have := h.apart i (rn l j) o _ g q1 (hfo j oj h5) (by rw [q2]; exact h4) h6
   exact hnot i o h3 (List.mem_map.2 ⟨j, find_mem h5, this.symm⟩), hA.under.size⟩ h2.pr
 have hnow : Now ob0 (renO l ob' ++ dropK ((keys ob1).map (rn l)) ob) w0 w' Pr Pr2 (updV β (rn l n) (β2 (rn l n))) β2 (updN κ (rn l n) (κ2 (rn l n))) κ2 := by
  refine ⟨by rw [kept_upd hk0]; exact hkept, fun b o hb => by rw [e1]; exact hA.pr0 b o (h2.pr b o hb), fun j => ?_, fun i o hi => ?_⟩
  ·by_cases hj : j = rn l n
   ·subst hj
    exact .inl ⟨by rw [updV_same], by rw [updN_same]⟩
   ·rw [updV_other _ _ _ j hj, updN_other _ _ _ j hj]
    have hq1 := h2.then_ j
    have hq2 := e2 j (fun i hi => by simp at hi; subst hi; exact fun e => hj e.symm)
    rcases hq1 with ⟨k1, k2⟩ | ⟨k1, k2⟩
    ·rcases hq2 with ⟨q1, q2⟩ | ⟨q1, q2⟩
     ·exact .inl ⟨q1.trans k1, q2.trans k2⟩
     ·exact .inr ⟨by omega, by rw [← k1]; exact q2⟩
    ·rcases hq2 with ⟨q1, q2⟩ | ⟨q1, q2⟩
     ·exact .inr ⟨by omega, k2⟩
     ·exact .inr ⟨by omega, k2⟩
  ·obtain ⟨q1, q2⟩ := h2.sub i o hi
   have hnr : ∀ k ∈ keys ob', rn l k ≠ i := by
    intro k hk' e
    obtain ⟨o', ho'⟩ := find_of_mem hk'
    exact hnot2 i o hi (List.mem_map.2 ⟨k, (hA.wo k o' ho').1, e⟩)
   rw [updV_other _ _ _ i (hne i o hi)]
   refine ⟨find_new hl (fun k hk' => ?_) hnr (hnot i o hi) q1, (e3 i (hnot2 i o hi)).1.trans q2⟩
   obtain ⟨o', ho'⟩ := find_of_mem hk'
   exact mem_iff.1 (List.all_eq_true.1 hk k (hA.wo k o' ho').1)
 refine hKK.out _ _ hkept fun _ => ?_
 have h0' := (h0.rename hnn hno0 hk0 (β2 (rn l n)) (κ2 (rn l n))).put hd (v := v) (.und _)
 have := (hK x ob' hp _ _ rfl rfl).run _ w0 w' Pr Pr2 _ _ _ _ h0' hG hnow
 rw [kept_upd hk0] at this
 exact this
end
end
end Go.Proofs.Ytgiacdhffklenaa
