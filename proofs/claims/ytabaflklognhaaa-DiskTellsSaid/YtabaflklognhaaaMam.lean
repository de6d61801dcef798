/-
  Copies of maps; structs with objects in them, loaded whole; over abstract states. Conditions: none.
  From a walk of a law to what its row asks: it returns true, and each argument reads as it did. Conditions: only memory of the call's own has turned.
  From data that came in to what the abstract walks read. Conditions: none.
  What cells of a type show, type by type. Conditions: none.
  Bytes of a string that are changed: []byte(s), append, a byte put, back to a string. Conditions: none.
-/
import Derived.Laws.Externs
import Derived.Laws.Cover3
import Derived.MapKept
import Derived.WalkKit
import Derived.Test.YtabaflklognhaaaRows
import Derived.ProofKit
import Derived.OpenShut
import Derived.ChangeOld
import Derived.SizedLaws
import Derived.Deep.SlicePairs
import Derived.Lib.SmallJoins
import Derived.Deep.Slices
import Derived.Lib.ConvBytes
import Derived.Laws.IdiomStrings
import Derived.Test.YtabaflklognhaaaMal
section
namespace Go.Proofs.Ytabaflklognhaaa
open Go.RowKit Go.ChangeMaps

theorem run_mnil (w : World) {t k e : TypeId} (p : Option Nat) (h : Try.prog.underlying t = some (.map k e)) : (binOp .eql t (.map p) (.map none)).run Try.prog w = .ok (.bool p.isNone) w := by
  have := run_equalIn_map_nil (P := Try.prog) (w := w) 9999 t k e p h
  simp only [binOp]
  simp [show Op.equal t (.map p) (.map none) = Op.equalIn (9999 + 1) t (.map p) (.map none) from rfl, this]
theorem run_massert (w : World) {t xT k e : TypeId} (v : Value) (h : Try.prog.underlying t = some (.map k e)) : (Instr.typeAssert (.iface t v) xT t false).run Try.prog w = .ok v w := by
  simp [Instr.typeAssert, run_underlying h, go_sem, Result.andThen]
theorem run_mclone (w : World) {r : Nat} {es : Array MapEntry} {clock : Nat} (t : TypeId) (hb : w.heap[r]? = some (.map es clock)) :
    (Extern.MapsClone.clone #[.iface t (.map (some r))]).run Try.prog w = .ok (.iface t (.map (some w.heap.size))) (w.alloc (.map es clock)) := by
  show ((getObj r >>= fun o => match o with
      | .map entries clock => (newObj (.map entries clock) >>= fun n => pure (.iface t (.map (some n))))
      | _ => stuck "maps.clone: a map expected") : Sem Value).run Try.prog w = _
  simp [MapKept.run_getObj_map hb, Result.andThen, go_sem]
/-- maps.Clone, from its run -/
theorem clone_obc {f : FuncId} {T : TypeId} (hf : FnOk f) (hrun : ∀ (b : Nat) (es : Array MapEntry) (clock : Nat) (w : World), w.heap[b]? = some (.map es clock) → Calls Try.prog f #[.map (some b)] w fun e w' => e = .returned (.map (some w.heap.size)) ∧ w' = w.alloc (.map es clock)) (c : Nat) (l : List ME) :
    ObC f [.mp 1000] [(1000, .map T c l)] [3] (fun x o => x = .mp 3 ∧ o = [(3, .map T c l), (1000, .map T c l)]) := by
  refine ⟨hf, fun w Pr vs β κ hp hE hl hv ho hap => ?_⟩
  match vs, hl with
  | [v], _ =>
    have h1 := hv 0 v _ rfl rfl
    obtain ⟨g, es, q1, q2, q3, q4, q5, q6⟩ := ho 1000 _ rfl
    cases h1 with
    | mp _ g' hb =>
      rw [q1] at hb
      simp only [Value.map.injEq, Option.some.injEq] at hb
      subst hb
      refine (hrun g es.toArray c w q3).mono fun e w' ⟨he, hw⟩ => ?_
      subst hw
      have hx : Below w.heap.size w (w.alloc (.map es.toArray c)) := (Below.refl _ _).alloc (Nat.le_refl _) _
      have hst : Stays Pr w (w.alloc (.map es.toArray c)) := fun b o hb => hx.cell (p := ⟨b, o, none⟩) (hp b o hb)
      have hgl : g < w.heap.size := (Array.getElem?_eq_some_iff.1 q3).1
      have e3 : updV β 3 (.map (some w.heap.size)) 3 = .map (some w.heap.size) := updV_same _ _ _
      have e1 : updV β 3 (.map (some w.heap.size)) 1000 = .map (some g) := (updV_other β 3 _ 1000 (by decide)).trans q1
      have hcase : ∀ i o, find [(3, O.map T c l), (1000, O.map T c l)] i = some o → (i = 3 ∧ o = .map T c l) ∨ (i = 1000 ∧ o = .map T c l) := by
        intro i o hi
        by_cases h3 : i = 3
        · subst h3; rw [find_eq] at hi; cases hi; exact .inl ⟨rfl, rfl⟩
        · rw [find_ne h3] at hi
          by_cases h4 : i = 1000
          · subst h4; rw [find_eq] at hi; cases hi; exact .inr ⟨rfl, rfl⟩
          · rw [find_ne h4] at hi; cases hi
      refine ⟨_, _, _, Pr, updV β 3 (.map (some w.heap.size)), κ, he, ⟨rfl, rfl⟩, Under.of_below _ hx, hst, fun _ _ h => h, fun _ _ h => .inl h, fun b o h => Nat.lt_of_lt_of_le (hp b o h) hx.size, .mp 3 _ e3, fun i o hi => ?_, fun i j oi oj gg hi hj h2 h3 => ?_, fun i o gg hi hg => ?_, fun i o hi => ?_, rfl, fun i o hi => ?_⟩
      · rcases hcase i o hi with ⟨rfl, rfl⟩ | ⟨rfl, rfl⟩
        · exact ⟨w.heap.size, es, e3, Nat.zero_le _, heap_alloc_new w _, q4, fun j x q h2 h3 => (q5 j x q h2 h3).keep hst (fun _ _ h => h), fun o ho => by have := hp _ _ ho; omega⟩
        · exact ⟨g, es, e1, Nat.zero_le _, (hx.block g hgl).trans q3, q4, fun j x q h2 h3 => (q5 j x q h2 h3).keep hst (fun _ _ h => h), q6⟩
      · rcases hcase i oi hi with ⟨rfl, _⟩ | ⟨rfl, _⟩ <;> rcases hcase j oj hj with ⟨rfl, _⟩ | ⟨rfl, _⟩
        · rfl
        · rw [e3] at h2; rw [e1] at h3; simp only [blk, Option.some.injEq] at h2 h3; omega
        · rw [e1] at h2; rw [e3] at h3; simp only [blk, Option.some.injEq] at h2 h3; omega
        · rfl
      · rcases hcase i o hi with ⟨rfl, _⟩ | ⟨rfl, _⟩
        · rw [e3] at hg; simp only [blk, Option.some.injEq] at hg; exact .inr (by omega)
        · rw [e1] at hg; simp only [blk, Option.some.injEq] at hg; exact .inl ⟨1000, _, rfl, by rw [q1, ← hg]; rfl⟩
      · have : i = 1000 := by
          by_cases h4 : i = 1000
          · exact h4
          · rw [find_ne h4] at hi; cases hi
        subst this
        exact .inl ⟨updV_other β 3 _ 1000 (by decide), rfl⟩
      · rcases hcase i o hi with ⟨rfl, rfl⟩ | ⟨rfl, rfl⟩
        · exact ⟨by simp [keys], rfl⟩
        · exact ⟨by simp [keys], rfl⟩
section
variable {E : Entry} {sl : Slots} {ob : Objs} {a : Act} {w : World} {Pr : Prot} {β : Nat → Value} {κ : Nat → Nat}
variable {d : Option Nat} {t T ty : TypeId} {p : String} {af : Array Edge} {g : Option (Nat × Bool)} {x y c : Operand} {m : Int}
/-- a struct that holds objects, loaded whole -/
theorem y_bloadV {i o k : Nat} {T' : TypeId} {l l2 : List V} (hx : ev sl x = .box i o) (hf : find ob i = some (.box T' l)) (hT : aggK (ti t) = some k) (hl : (l.drop o).take k = l2) (hk : l2.length = k) (h0 : 0 < k) :
    Y E ⟨d, .load t x, T, p, af, g⟩ sl ob (.agg l2) := fun a w Pr β κ h => by
  obtain ⟨b, cs, hav, _, _, hcl, hv, hc⟩ := box_at h hx hf
  have hget : ∀ (j : Nat) (z : V), l2[j]? = some z → l[o + j]? = some z := by
    intro j z hj
    rw [← hl, List.getElem?_take] at hj
    split at hj
    · rw [List.getElem?_drop] at hj
      exact hj
    · cases hj
  have hlen : o + k ≤ l.length := by
    have hz : l2[k - 1]? = some (l2[k - 1]'(by omega)) := List.getElem?_eq_getElem (by omega)
    have := (List.getElem?_eq_some_iff.1 (hget _ _ hz)).1
    omega
  have hcs : ((cs.drop o).take k).length = k := by simp; omega
  have hget2 : ∀ (j : Nat) (v : Value), ((cs.drop o).take k)[j]? = some v → j < k ∧ cs[o + j]? = some v := by
    intro j v hj
    have hjl : j < k := by have := (List.getElem?_eq_some_iff.1 hj).1; omega
    rw [List.getElem?_take, if_pos hjl, List.getElem?_drop] at hj
    exact ⟨hjl, hj⟩
  refine ⟨.agg ((cs.drop o).take k).toArray, .agg _ l2 (by omega) fun j v z h1 h2 => ?_, fun w' hkept => ?_⟩
  · exact hv _ v _ (hget2 j v h1).2 (hget j z h2)
  · have := run_load_agg (t := t) w' (b := b) (o := o) hT hcs (fun j v hj => hc w' hkept _ v (hget2 j v hj).2)
    simp [execOp, hav, this]
end
end Go.Proofs.Ytabaflklognhaaa
end
section
namespace Go.Proofs.Ytabaflklognhaaa
open Go.ChangeShapes Go.WideShapes Go.ChangeAt Go.RowKit Go.Deep Go.Joins

theorem own : ownKnob Try.prog.godebug = none := by kernel_rfl
theorem laidOut : laidOutB Try.prog = true := by kernel_rfl

section
variable {H : Type} {enc : TypeId × Value → H} {P : Program}
theorem trodAll_below (hl : laidOutB P = true) {W W' : World} (hb : Below W.heap.size W W') : ∀ {ts : List TypeId} {vs : List Value} {ds : List (DataW H)} {ps : List MemPlace},
    (ts.all fun t => P.readableRec t && decide (t < P.types.size)) = true → DataW.TrodAll enc P W 0 (fun _ => true) true ts vs ds ps → (∀ x ∈ ps, x.block < W.heap.size) →
    DataW.TrodAll enc P W' 0 (fun b => decide (b < W.heap.size)) true ts vs ds ps
  | [], vs, ds, ps, _, h, _ => by
    obtain ⟨rfl, rfl, rfl⟩ := trodAll_nil h
    exact trodAll_mk0
  | t :: ts, vs, ds, ps, hk, h, hlt => by
    obtain ⟨v, vs', d, ds', p, p', rfl, rfl, rfl, h0, hr⟩ := trodAll_cons h
    simp only [List.all_cons, Bool.and_eq_true, decide_eq_true_eq] at hk
    exact trodAll_cons_mk (Below.trod hl hk.1.1 hk.1.2 h0 hb (fun x hx => hlt x (List.mem_append_left _ hx))) (trodAll_below hl hb hk.2 hr (fun x hx => hlt x (List.mem_append_right _ hx)))

/-- A law's post: true; the arguments read as they did. -/
theorem law_post {f : Func} {s : ChangeSpec} {W W' : World} {args : Array Value} {ds gs : List (DataW H)} {before : List MemPlace} {tb : TypeId}
    (hl : laidOutB P = true) (hbool : P.underlying tb = some .bool) (hres : f.resultTypes = #[tb]) (hpar : (f.params.toList.all fun t => P.readableRec t && decide (t < P.types.size)) = true)
    (hvars : s.vars = []) (hW : DataW.Whole enc P f.params.toList s.vars false W args.toList ds gs before)
    (hfn : s.fn H (ds ++ gs) = { results := [.lit (.bool true)], args := ds }) (hb : Below W.heap.size W W') :
    s.post enc P f false true false false W args (.bool true) W' := by
  have hW' := hW
  obtain ⟨p, q, hA, hV, rfl, _, _⟩ := hW
  rw [hvars] at hV
  obtain ⟨rfl, rfl⟩ := trodVars_none hV
  have hA' : DataW.TrodAll enc P W 0 (fun _ => true) true f.params.toList args.toList ds p := hA
  refine ⟨ds, [], p ++ [], [], p, [], hW', ?_, ?_, ?_, hb.frame _, fun h => by cases h⟩
  · rw [hfn, hres]
    exact trodAll_cons_mk (shut_bool hbool true) trodAll_mk0
  · rw [hfn]
    exact trodAll_below hl hb hpar hA' hA'.lt
  · rw [hfn, hvars]
    rfl

/-- A slice of structs of two ints that came in. -/
theorem open_two {w : World} {base : Nat} {t e ti : TypeId} {f0 f1 : Field} {fuel : Nat} {A : Option Addr} {n c : Nat} {x : DataW H × List MemPlace} {B : Nat}
    (ht : P.underlying t = some (.slice e)) (he : P.underlying e = some (.struct #[f0, f1])) (h0 : f0.type = ti) (h1 : f1.type = ti) (hi : P.underlying ti = some (.int .i64))
    (ce : P.cellsOf e = 2) (o0 : f0.offset = 0) (o1 : f1.offset = 1) (ci : P.cellsOf ti = 1)
    (hlt : ∀ y ∈ x.2, y.block < B) (h : DataW.trod enc P w base (fun _ => true) true fuel t [.slice A n c] = some x) :
    ∃ l : List P2, l.length = n ∧ Two w B A l ∧ n ≤ c ∧ c ≤ maxLen := by
  rcases open_slice_pairs ht he ce o0 o1 (by rw [h0]; exact ci) (by rw [h1]; exact ci) h with ⟨hcs, _⟩ | ⟨a, len, cap, m, k, V0, V1, D0, D1, P0, P1, hcs, hb, hl, hm, hmm, hx, hf⟩
  · simp only [List.cons.injEq, Value.slice.injEq, and_true] at hcs
    obtain ⟨rfl, rfl, rfl⟩ := hcs
    exact ⟨[], rfl, Shows.empty _ _ _ _, Nat.le_refl _, Nat.zero_le _⟩
  · simp only [List.cons.injEq, Value.slice.injEq, and_true] at hcs
    obtain ⟨rfl, rfl, rfl⟩ := hcs
    simp only [if_true] at hmm
    subst hmm
    have hint : ∀ i, i < n → ∃ p : P2, V0 i = .int .i64 p.a ∧ V1 i = .int .i64 p.b := by
      intro i hin
      obtain ⟨_, _, g0, g1⟩ := hf i (by omega)
      rw [h0] at g0
      rw [h1] at g1
      obtain ⟨z0, e0, _⟩ := DataW.trod_int hi g0
      obtain ⟨z1, e1, _⟩ := DataW.trod_int hi g1
      simp only [List.cons.injEq, and_true] at e0 e1
      exact ⟨⟨z0, z1⟩, e0, e1⟩
    haveI : Inhabited P2 := ⟨⟨0, 0⟩⟩
    obtain ⟨p, hp⟩ := choose_lt hint
    have hlen : ((List.range n).map p).length = n := by simp
    refine ⟨(List.range n).map p, hlen, ⟨P2.length _, fun hn => ?_⟩, hl, hm⟩
    rw [hlen] at hn
    obtain ⟨b, o, spot⟩ := a
    have hc0 := (hf 0 (by omega)).1
    have hspot : spot = none := by simpa [Addr.add] using World.cell?_spot hc0
    subst hspot
    refine ⟨b, o, rfl, hlt (.cell b o) ?_, fun j u hu => ?_⟩
    · rw [hx]
      exact List.mem_append_left _ (MemPlace.mem_row.2 ⟨0, by omega, by simp⟩)
    · have hj : j < n * 2 := by
        have := (List.getElem?_eq_some_iff.1 hu).1
        rw [P2.length, hlen] at this
        exact this
      obtain ⟨k, hk⟩ : ∃ k, j = k * 2 ∨ j = k * 2 + 1 := ⟨j / 2, by omega⟩
      have hkn : k < n := by omega
      have hg := P2.get ((List.range n).map p) k (by rw [hlen]; exact hkn)
      obtain ⟨c0, c1, _, _⟩ := hf k (by omega)
      rw [add_plain] at c0 c1
      rcases hk with rfl | rfl
      · rw [hg.1] at hu
        cases hu
        rw [c0, (hp k hkn).1]
        simp
      · rw [hg.2] at hu
        cases hu
        rw [show o + (k * 2 + 1) = o + (k * 2 + 1) from rfl, c1, (hp k hkn).2]
        simp

/-- A slice of ints of one kind that came in. -/
theorem open_nums {k : IntKind} {w : World} {base : Nat} {t e : TypeId} {fuel : Nat} {A : Option Addr} {n c : Nat} {x : DataW H × List MemPlace} {B : Nat}
    (ht : P.underlying t = some (.slice e)) (he : P.underlying e = some (.int k)) (ce : P.cellsOf e = 1)
    (hlt : ∀ y ∈ x.2, y.block < B) (h : DataW.trod enc P w base (fun _ => true) true fuel t [.slice A n c] = some x) :
    ∃ l : List Int, l.length = n ∧ Shows w B 1 A l.length (l.map (Value.int k)) ∧ n ≤ c ∧ c ≤ maxLen ∧ ∀ z ∈ l, (Lit.int k z).wf = true := by
  rcases open_ints ht he ce h with ⟨hcs, _⟩ | ⟨a, len, cap, zs, hcs, hb, hl, hm, hz, hx, hc, hwf⟩
  · simp only [List.cons.injEq, Value.slice.injEq, and_true] at hcs
    obtain ⟨rfl, rfl, rfl⟩ := hcs
    exact ⟨[], rfl, Shows.empty _ _ _ _, Nat.le_refl _, Nat.zero_le _, fun z hz => by simp at hz⟩
  · simp only [List.cons.injEq, Value.slice.injEq, and_true] at hcs
    obtain ⟨rfl, rfl, rfl⟩ := hcs
    simp only [if_true] at hz
    have hlen : (zs.take n).length = n := by simp; omega
    refine ⟨zs.take n, hlen, ⟨by simp, fun hn => ?_⟩, hl, hm, fun z hz => hwf z (List.mem_of_mem_take hz)⟩
    rw [hlen] at hn
    obtain ⟨b, o, spot⟩ := a
    have hspot : spot = none := by simpa [Addr.add] using World.cell?_spot (hc 0 (by omega))
    subst hspot
    refine ⟨b, o, rfl, hlt (.cell b o) ?_, fun j u hu => ?_⟩
    · rw [hx]
      exact MemPlace.mem_row.2 ⟨0, by omega, by simp⟩
    · have hj : j < n := by
        have := (List.getElem?_eq_some_iff.1 hu).1
        simp only [List.length_map, hlen] at this
        exact this
      have := hc j (by omega)
      rw [add_plain] at this
      rw [this]
      simp only [List.getElem?_map, List.getElem?_take, hj, if_true] at hu
      rw [← hu]
      simp [List.getD, List.getElem?_eq_getElem (show j < zs.length by omega)]
end
end Go.Proofs.Ytabaflklognhaaa
end
section
namespace Go.Proofs.Ytabaflklognhaaa
open Go.ChangeShapes Go.WideShapes Go.ChangeAt Go.RowKit Go.Deep Go.Joins

theorem open_string {H : Type} {enc : TypeId × Value → H} {P : Program} {w : World} {base : Nat} {spare : Nat → Bool} {held : Bool} {r : Reach} {b0 : Nat} {t : TypeId} {v : Value} {d : DataW H} {ps : List MemPlace} (ht : P.underlying t = some .string)
    (hval : Value.okWide P w r b0 t v) (hd : DataW.Trod enc P w base spare held t v d ps) : ∃ s : ByteArray, v = .string s ∧ d = .lit (.string s.data.toList) ∧ ps = [] ∧ s.size ≤ maxLen := by
  obtain ⟨s, rfl⟩ := okWide_string ht hval
  obtain ⟨fuel, hf⟩ := hd
  obtain ⟨s', h, hx, hw⟩ := DataW.trod_string ht hf
  simp [Value.cells] at h
  subst h
  simp only [Prod.mk.injEq] at hx
  exact ⟨s, rfl, hx.1, hx.2, hw⟩
theorem reps_nil {w : World} {Pr : Prot} : ∀ (i : Nat) (v : Value) (d : D), ([] : List Value)[i]? = some v → ([] : List D)[i]? = some d → RepD w Pr v d := by simp
theorem reps_cons {w : World} {Pr : Prot} {v : Value} {d : D} {vs : List Value} {ds : List D} (h : RepD w Pr v d) (hr : ∀ (i : Nat) (v : Value) (d : D), vs[i]? = some v → ds[i]? = some d → RepD w Pr v d) :
    ∀ (i : Nat) (u : Value) (e : D), (v :: vs)[i]? = some u → (d :: ds)[i]? = some e → RepD w Pr u e
  | 0, _, _, h1, h2 => by cases h1; cases h2; exact h
  | i + 1, u, e, h1, h2 => hr i u e h1 h2
section
variable {H : Type} {enc : TypeId × Value → H}
/-- Elements that are shown by lists of scalars make a list. -/
theorem rep_rows {α : Type} [Inhabited α] {w : World} {base es n c : Nat} {a : Addr} (f : α → List D) (Q : α → Prop) (hpos : 0 < es) (hc : n ≤ c) (hm : c ≤ maxLen)
    (h : ∀ i, i < n → ∃ (x : α) (cs : List Value), Q x ∧ w.cells? base (a.add (i * es)) es = some cs ∧ (f x).length = es ∧ ∀ j, j < es → ∃ v, cs[j]? = some v ∧ (f x)[j]? = some (.val v)) :
    ∃ l : List α, l.length = n ∧ (∀ x ∈ l, Q x) ∧ RepD w (fun b _ => b < w.heap.size) (.slice (some a) n c) (.list es (l.map f)) := by
  rcases Nat.eq_zero_or_pos n with h0 | h0
  · subst h0
    exact ⟨[], rfl, by simp, .nil _ _ _ hm⟩
  have h' : ∀ i, ∃ x : α, i < n → ∃ (cs : List Value), Q x ∧ w.cells? base (a.add (i * es)) es = some cs ∧ (f x).length = es ∧ ∀ j, j < es → ∃ v, cs[j]? = some v ∧ (f x)[j]? = some (.val v) := by
    intro i
    by_cases hi : i < n
    · obtain ⟨x, cs, hx⟩ := h i hi
      exact ⟨x, fun _ => ⟨cs, hx⟩⟩
    · exact ⟨default, fun h => absurd h hi⟩
  let g : Nat → α := fun i => Classical.choose (h' i)
  have hg : ∀ i, i < n → ∃ (cs : List Value), Q (g i) ∧ w.cells? base (a.add (i * es)) es = some cs ∧ (f (g i)).length = es ∧ ∀ j, j < es → ∃ v, cs[j]? = some v ∧ (f (g i))[j]? = some (.val v) := fun i hi => Classical.choose_spec (h' i) hi
  obtain ⟨b, o, spot⟩ := a
  have hspot : spot = none := by
    obtain ⟨cs, _, h1, hl, h2⟩ := hg 0 h0
    obtain ⟨v, h3, hv⟩ := h2 0 hpos
    have hc0 := (World.cells?_some h1).2.2 0 hpos
    rw [h3] at hc0
    simpa [Addr.add] using World.cell?_spot hc0
  subst hspot
  have hcell : ∀ i j v, i < n → j < es → (f (g i))[j]? = some (.val v) → w.cell? ⟨b, o + (i * es + j), none⟩ = some v := by
    intro i j v hi hj hv
    obtain ⟨cs, _, h1, _, h2⟩ := hg i hi
    obtain ⟨u, h3, h4⟩ := h2 j hj
    rw [hv] at h4
    cases h4
    have h5 := (World.cells?_some h1).2.2 j hj
    rw [h3, add_plain, add_plain, Nat.add_assoc] at h5
    exact h5
  have hb : b < w.heap.size := by
    obtain ⟨cs, _, h1, _, _⟩ := hg 0 h0
    have := World.cells?_block h1 hpos
    simpa [Addr.add] using this
  refine ⟨(List.range n).map g, by simp, fun x hx => ?_, ?_⟩
  · obtain ⟨j, hj, rfl⟩ := List.mem_map.1 hx
    obtain ⟨_, h1, _⟩ := hg j (List.mem_range.1 hj)
    exact h1
  · have hval : ∀ (i j : Nat) (e : List D) (d : D), (((List.range n).map g).map f)[i]? = some e → e[j]? = some d → i < n ∧ j < es ∧ e = f (g i) ∧ ∃ v, d = .val v := by
      intro i j e d h1 h2
      rw [List.getElem?_map, List.getElem?_map, Option.map_eq_some_iff] at h1
      obtain ⟨x, h3, rfl⟩ := h1
      rw [Option.map_eq_some_iff] at h3
      obtain ⟨k, h4, rfl⟩ := h3
      have hi : i < n := by have := (List.getElem?_eq_some_iff.1 h4).1; simpa using this
      have hk : k = i := by simpa [hi] using h4.symm
      subst hk
      obtain ⟨_, _, _, hl, h5⟩ := hg k hi
      have hj : j < es := by have := (List.getElem?_eq_some_iff.1 h2).1; omega
      obtain ⟨v, _, h6⟩ := h5 j hj
      rw [h2] at h6
      cases h6
      exact ⟨hi, hj, rfl, v, rfl⟩
    refine .list b o n c es _ (fun i j => match (f (g i))[j]? with | some (.val v) => v | _ => undef) (by simp) (fun e he => ?_) hc hm (fun i j e d h1 h2 => ?_) (fun i j e d h1 h2 => ?_)
    · obtain ⟨x, hx, rfl⟩ := List.mem_map.1 he
      obtain ⟨j, hj, rfl⟩ := List.mem_map.1 hx
      obtain ⟨_, _, _, h1, _⟩ := hg j (List.mem_range.1 hj)
      exact h1
    · obtain ⟨hi, hj, rfl, v, rfl⟩ := hval i j e d h1 h2
      have := hcell i j v hi hj h2
      refine ⟨?_, hb⟩
      rw [h2, Nat.add_assoc]
      exact this
    · obtain ⟨hi, hj, rfl, v, rfl⟩ := hval i j e d h1 h2
      rw [h2]
      exact .val v
end
end Go.Proofs.Ytabaflklognhaaa
end
section
namespace Go.Proofs.Ytabaflklognhaaa
open Go.ChangeShapes Go.WideShapes Go.ChangeAt Go.RowKit Go.Deep Go.Joins

section
variable {H : Type} {enc : TypeId × Value → H} {P : Program} {w : World} {base : Nat}
/-- Cells that read at type t show some a, by f. -/
def Show (enc : TypeId × Value → H) (P : Program) (w : World) (base : Nat) (t : TypeId) (c : Nat) {α : Type} (f : α → List D) (Q : α → Prop) : Prop :=
  ∀ (fuel : Nat) (cs : List Value) (x : DataW H × List MemPlace), DataW.trod enc P w base (fun _ => true) true fuel t cs = some x →
    cs.length = c ∧ ∃ a, Q a ∧ (f a).length = c ∧ ∀ (j : Nat) (v : Value) (d : D), cs[j]? = some v → (f a)[j]? = some d → RepD w (fun b _ => b < w.heap.size) v d
theorem show_one {α : Type} {t : TypeId} {g : α → D} {Q : α → Prop} (h : ∀ (fuel : Nat) (cs : List Value) (x : DataW H × List MemPlace), DataW.trod enc P w base (fun _ => true) true fuel t cs = some x → ∃ v a, cs = [v] ∧ Q a ∧ RepD w (fun b _ => b < w.heap.size) v (g a)) :
    Show enc P w base t 1 (fun a => [g a]) Q := by
  intro fuel cs x hx
  obtain ⟨v, a, rfl, ha, hr⟩ := h fuel cs x hx
  refine ⟨rfl, a, ha, rfl, fun j u d h1 h2 => ?_⟩
  cases j with
  | zero => cases h1; cases h2; exact hr
  | succ j => cases h1
theorem show_int {t : TypeId} {k : IntKind} (ht : P.underlying t = some (.int k)) : Show enc P w base t 1 (fun n : Int => [.val (.int k n)]) (fun n => k.min ≤ n ∧ n ≤ k.max) :=
  show_one (g := fun n : Int => .val (.int k n)) fun fuel cs x hx => by
    obtain ⟨n, rfl, _, hw⟩ := DataW.trod_int ht hx
    exact ⟨_, n, rfl, by simpa [Lit.wf] using hw, .val _⟩
theorem show_string {t : TypeId} (ht : P.underlying t = some .string) : Show enc P w base t 1 (fun s : ByteArray => [.str s]) (fun s => s.size ≤ maxLen) :=
  show_one (g := fun s : ByteArray => .str s) fun fuel cs x hx => by
    obtain ⟨s, rfl, _, hw⟩ := DataW.trod_string ht hx
    exact ⟨_, s, rfl, hw, .val _⟩
/-- A list of what its elements show. -/
theorem show_list {α : Type} {t e : TypeId} {es : Nat} {f : α → List D} {Q : α → Prop} (ht : P.underlying t = some (.slice e)) (hc : P.cellsOf e = es) (hpos : 0 < es) (he : Show enc P w base e es f Q) :
    Show enc P w base t 1 (fun l : List α => [.list es (l.map f)]) (fun l => l.length ≤ maxLen ∧ ∀ x ∈ l, Q x) :=
  show_one (g := fun l : List α => .list es (l.map f)) fun fuel cs x hx => by
    rcases open_slice ht hx with ⟨rfl, _⟩ | ⟨a, len, cap, m, k, Dt, Pl, rfl, hb, hl, hm, hmm, _, hf⟩
    · exact ⟨_, [], rfl, ⟨Nat.zero_le _, by simp⟩, .nil _ _ _ (Nat.zero_le _)⟩
    · refine ⟨.slice (some a) len cap, ?_⟩
      simp only [if_true] at hmm
      subst hmm
      rw [hc] at hf
      rcases Nat.eq_zero_or_pos len with h0 | h0
      · subst h0
        exact ⟨[], rfl, ⟨Nat.zero_le _, by simp⟩, .nil _ _ _ hm⟩
      have h1 : ∀ i, i < len → ∃ y : α × List Value, Q y.1 ∧ w.cells? base (a.add (i * es)) es = some y.2 ∧ y.2.length = es ∧ (f y.1).length = es ∧ ∀ (j : Nat) (v : Value) (d : D), y.2[j]? = some v → (f y.1)[j]? = some d → RepD w (fun b _ => b < w.heap.size) v d := by
        intro i hi
        obtain ⟨cs, hcell, htr⟩ := hf i (by omega)
        obtain ⟨h2, y, h3, h4, h5⟩ := he _ _ _ htr
        exact ⟨(y, cs), h3, hcell, h2, h4, h5⟩
      haveI : Inhabited (α × List Value) := ⟨Classical.choose (h1 0 h0)⟩
      obtain ⟨g, hg⟩ := choose_lt h1
      obtain ⟨b, o, spot⟩ := a
      have hspot : spot = none := by
        obtain ⟨_, h2, h3, _, _⟩ := hg 0 h0
        have h4 := (World.cells?_some h2).2.2 0 hpos
        rw [List.getElem?_eq_getElem (by omega)] at h4
        simpa [Addr.add] using World.cell?_spot h4
      subst hspot
      have hblk : b < w.heap.size := by
        obtain ⟨_, h2, _⟩ := hg 0 h0
        have := World.cells?_block h2 hpos
        simpa [Addr.add] using this
      refine ⟨(List.range len).map fun i => (g i).1, rfl, ⟨?_, fun x hx => ?_⟩, ?_⟩
      · simp only [List.length_map, List.length_range]
        omega
      · obtain ⟨j, hj, rfl⟩ := List.mem_map.1 hx
        exact (hg j (List.mem_range.1 hj)).1
      have hval : ∀ (i j : Nat) (e : List D) (d : D), (((List.range len).map fun i => (g i).1).map f)[i]? = some e → e[j]? = some d → i < len ∧ j < es ∧ e = f (g i).1 ∧ ∃ v, (g i).2[j]? = some v := by
        intro i j e d h2 h3
        rw [List.getElem?_map, List.getElem?_map, Option.map_eq_some_iff] at h2
        obtain ⟨x, h4, rfl⟩ := h2
        rw [Option.map_eq_some_iff] at h4
        obtain ⟨k, h5, rfl⟩ := h4
        have hi : i < len := by have := (List.getElem?_eq_some_iff.1 h5).1; simpa using this
        have hk : k = i := by simpa [hi] using h5.symm
        subst hk
        obtain ⟨_, _, h6, h7, _⟩ := hg k hi
        have hj : j < es := by have := (List.getElem?_eq_some_iff.1 h3).1; omega
        exact ⟨hi, hj, rfl, _, List.getElem?_eq_getElem (by omega)⟩
      refine .list b o len m es _ (fun i j => ((g i).2[j]?).getD undef) (by simp) (fun e he => ?_) hl hm (fun i j e d h2 h3 => ?_) (fun i j e d h2 h3 => ?_)
      · obtain ⟨x, hx, rfl⟩ := List.mem_map.1 he
        obtain ⟨j, hj, rfl⟩ := List.mem_map.1 hx
        exact (hg j (List.mem_range.1 hj)).2.2.2.1
      · obtain ⟨hi, hj, rfl, v, hv⟩ := hval i j e d h2 h3
        refine ⟨?_, hblk⟩
        obtain ⟨_, h4, _⟩ := hg i hi
        have h5 := (World.cells?_some h4).2.2 j hj
        rw [hv, add_plain, add_plain] at h5
        rw [hv]
        exact h5
      · obtain ⟨hi, hj, rfl, v, hv⟩ := hval i j e d h2 h3
        rw [hv]
        exact (hg i hi).2.2.2.2 j v d hv h3
/-- Fields from an offset on. -/
def ShowFs (enc : TypeId × Value → H) (P : Program) (w : World) (base : Nat) (o : Nat) (fs : List Field) (c : Nat) {α : Type} (f : α → List D) (Q : α → Prop) : Prop :=
  ∀ (n : Nat) (cs : List Value), (∀ (i : Nat) (fl : Field), fs[i]? = some fl → ∃ y, DataW.trod enc P w base (fun _ => true) true n fl.type ((cs.drop fl.offset).take (P.cellsOf fl.type)) = some y) →
    ∃ a, Q a ∧ (f a).length = c ∧ ∀ (j : Nat) (v : Value) (d : D), cs[o + j]? = some v → (f a)[j]? = some d → RepD w (fun b _ => b < w.heap.size) v d
theorem shows_nil {o : Nat} : ShowFs enc P w base o [] 0 (fun _ : Unit => []) (fun _ => True) := fun _ _ _ => ⟨(), trivial, rfl, fun j v d _ h => by cases h⟩
theorem shows_cons {α β : Type} {fl : Field} {o c c' : Nat} {fs : List Field} {f : α → List D} {Q : α → Prop} {g : β → List D} {R : β → Prop} (h : Show enc P w base fl.type c f Q) (ho : fl.offset = o) (hc : P.cellsOf fl.type = c)
    (hr : ShowFs enc P w base (o + c) fs c' g R) : ShowFs enc P w base o (fl :: fs) (c + c') (fun x : α × β => f x.1 ++ g x.2) (fun x => Q x.1 ∧ R x.2) := by
  intro n cs hcs
  obtain ⟨y, hy⟩ := hcs 0 fl rfl
  obtain ⟨_, a, h1, h2, h3⟩ := h _ _ _ hy
  obtain ⟨b, h4, h5, h6⟩ := hr n cs fun i f hf => hcs (i + 1) f hf
  refine ⟨(a, b), ⟨h1, h4⟩, by simp [h2, h5], fun j v d hv hd => ?_⟩
  have hd : (f a ++ g b)[j]? = some d := hd
  by_cases hj : j < c
  · rw [List.getElem?_append_left (by omega)] at hd
    refine h3 j v d ?_ hd
    rw [ho, hc, List.getElem?_take, if_pos hj, List.getElem?_drop]
    exact hv
  · rw [List.getElem?_append_right (by omega), h2] at hd
    refine h6 (j - c) v d ?_ hd
    rw [show o + c + (j - c) = o + j by omega]
    exact hv
theorem show_struct {α : Type} {t : TypeId} {fs : Array Field} {c : Nat} {f : α → List D} {Q : α → Prop} (ht : P.underlying t = some (.struct fs)) (hc : P.cellsOf t = c) (h : ShowFs enc P w base 0 fs.toList c f Q) : Show enc P w base t c f Q := by
  intro fuel cs x hx
  obtain ⟨xs, n, _, _, hl, hlen, hf⟩ := DataW.trod_struct ht hx
  obtain ⟨a, h1, h2, h3⟩ := h n cs fun i fl hfl => by
    have hfl' : fs[i]? = some fl := by simpa using hfl
    have hi : i < fs.size := (Array.getElem?_eq_some_iff.1 hfl').1
    exact ⟨_, (hf i fl hfl').trans (List.getElem?_eq_getElem (by omega))⟩
  exact ⟨hl.trans hc, a, h1, h2, fun j v d hv hd => h3 j v d (by simpa using hv) hd⟩
theorem Show.as {α β : Type} {t : TypeId} {c : Nat} {f : α → List D} {Q : α → Prop} (h : Show enc P w base t c f Q) (g : β → List D) (R : β → Prop) (m : α → β) (hg : ∀ a, g (m a) = f a) (hR : ∀ a, Q a → R (m a)) : Show enc P w base t c g R := by
  intro fuel cs x hx
  obtain ⟨h1, a, h2, h3, h4⟩ := h fuel cs x hx
  exact ⟨h1, m a, hR a h2, by rw [hg]; exact h3, by rw [hg]; exact h4⟩
/-- A value that came in, of one cell. -/
theorem open_one {α : Type} {t : TypeId} {g : α → D} {Q : α → Prop} {v : Value} {d : DataW H} {ps : List MemPlace} (h : Show enc P w base t 1 (fun a => [g a]) Q) (hv : v.cells = #[v]) (hd : DataW.Trod enc P w base (fun _ => true) true t v d ps) :
    ∃ a, Q a ∧ RepD w (fun b _ => b < w.heap.size) v (g a) := by
  obtain ⟨fuel, hf⟩ := hd
  rw [hv] at hf
  obtain ⟨_, a, h1, _, h2⟩ := h _ _ _ hf
  exact ⟨a, h1, h2 0 v (g a) rfl rfl⟩
/-- A struct that came in. -/
theorem open_struct {α : Type} {t : TypeId} {c : Nat} {f : α → List D} {Q : α → Prop} {v : Value} {d : DataW H} {ps : List MemPlace} (h : Show enc P w base t c f Q) (cs : Array Value) (hv : v = .agg cs) (hd : DataW.Trod enc P w base (fun _ => true) true t v d ps) :
    ∃ a, Q a ∧ RepD w (fun b _ => b < w.heap.size) v (.agg (f a)) := by
  subst hv
  obtain ⟨fuel, hf⟩ := hd
  obtain ⟨h0, a, h1, h2, h3⟩ := h _ _ _ hf
  obtain ⟨l⟩ := cs
  have hl : l.length = c := by simpa [Value.cells] using h0
  exact ⟨a, h1, .agg l (f a) (by omega) fun i v d hv hd => h3 i v d (by simpa [Value.cells] using hv) hd⟩
end
end Go.Proofs.Ytabaflklognhaaa
end
section
namespace Go.Proofs.Ytabaflklognhaaa
open Go.RowKit

/-- the values of bytes -/
def bytV (l : List UInt8) : List Value := l.map fun b => .int .u8 (b.toNat : Int)
theorem bytV_len (l : List UInt8) : (bytV l).length = l.length := by simp [bytV]
theorem bytV_app (a b : List UInt8) : bytV (a ++ b) = bytV a ++ bytV b := by simp [bytV]
/-- one value into a row of which no cell is shut -/
theorem run_storeCells_one (P : Program) (w : World) {g n cap : Nat} {t : TypeId} {fz : Nat × Nat} {cur : Array Value} {u : Value} (hg : w.heap[g]? = some (.cells cur t fz)) (hfz : fz = (0, 0) ∨ cap ≤ fz.1) (hn : n < cap) (hc : cur.size = cap) (h1 : u.oneCell' = true) :
    (store ⟨g, n, none⟩ u).run P w = .ok () (w.setRow g (cur.setIfInBounds n u)) := by
  have hi : n < cur.size := by omega
  have hcell : w.cell? ⟨g, n, none⟩ = some cur[n] := by simp [World.cell?, hg, hi]
  have hfro : w.frozen? ⟨g, n, none⟩ = false := by
    obtain ⟨lo, hi'⟩ := fz
    simp only [World.frozen?, hg, Bool.and_eq_false_iff, decide_eq_false_iff_not]
    rcases hfz with h | h
    · cases h
      right
      omega
    · left
      simp only at h
      omega
  rw [run_store P w _ u _ h1, hcell]
  simp [hfro, setCell_eq_setRow w g n cur t fz u hg]
section
variable {E : Entry} {sl : Slots} {ob : Objs} {a : Act} {w : World} {Pr : Prot} {β : Nat → Value} {κ : Nat → Nat}
theorem Good.grownb (h : Good E sl ob a w Pr β κ) {i e k : Nat} {l : List Value} {w' : World} (hf : find ob i = some (.byt e k l)) (hgr : ∀ g, blk (β i) = some g → w.grownBy w' (some g)) : Good E sl (dropK [i] ob) a w' Pr β κ ∧ Stays Pr w w' := by
  obtain ⟨hκ, g0, cap, cur, fz, hb, hB, hh, hfz, hc, hno⟩ := h.objs i _ hf
  have hbb : blk (β i) = some g0 := by rw [hb]; rfl
  have hgr := hgr g0 hbb
  have hs : Stays Pr w w' := fun b o ho => World.cell?_of_block (a := ⟨b, o, none⟩) (hgr.block b (h.prl b o ho) (fun e => by
    cases e
    exact hno o ho))
  have hbel : Under (fun g => some g0 = some g) w w' := ⟨hgr.os, hgr.tape, hgr.output, hgr.size, fun k hk hn => hgr.block k hk (fun e => hn e.symm)⟩
  refine ⟨⟨h.below.then hbel (fun g hg => h.own i _ g hf (by rw [hbb]; exact hg)), fun b o ho => (hs b o (h.pr0 b o ho)).trans (h.st0 b o ho), h.pr0, h.prn, fun b o ho => Nat.lt_of_lt_of_le (h.prl b o ho) hgr.size, h.size, h.defers, fun j => (h.slots j).keep hs (fun _ _ h => h), fun j oj hj => ?_, fun m j om oj g h1 h2 => h.apart m j om oj g (find_dropK h1).2 (find_dropK h2).2, fun m om g h1 => h.own m om g (find_dropK h1).2, h.keeps, h.fresh⟩, hs⟩
  obtain ⟨h1, h2⟩ := find_dropK hj
  have hji : j ≠ i := fun e => h1 (by simp [e])
  exact (h.objs j oj h2).keep2 hs (fun _ _ h => h) (fun _ _ _ h => h) (fun g hg => hgr.block g ((h.objs j oj h2).blkLt g hg).2 (fun e => hji (h.apart j i oj _ g h2 hf hg (by rw [hbb]; exact e.symm))))
/-- a new version of bytes, in the block that they had or in a new one -/
theorem Good.newbyt (h : Good E sl ob a w Pr β κ) {i e k : Nat} {l l' : List Value} {w' : World} {g g' cap' : Nat} {cur' : Array Value} {fz' : Nat × Nat} (hf : find ob i = some (.byt e k l)) (hb : blk (β i) = some g) (hgr : w.grownBy w' (some g)) (hg' : g' = g ∨ w.heap.size ≤ g')
    (hh : w'.heap[g']? = some (.cells cur' e fz')) (hfz : fz' = (0, 0) ∨ cap' ≤ fz'.1) (hc : l'.length ≤ cap' ∧ cap' ≤ maxLen ∧ cur'.size = cap' ∧ cur'.toList.take l'.length = l') :
    Good E sl ((i, .byt e (k + 1) l') :: dropK [i] ob) a w' Pr (updV β i (.slice (some ⟨g', 0, none⟩) l'.length cap')) (updN κ i (k + 1)) := by
  obtain ⟨hκ, g0, cap, cur, fz, hb0, hB, hh0, hfz0, hc0, hno⟩ := h.objs i _ hf
  have e0 : g0 = g := by rw [hb0] at hb; simpa [blk] using hb
  subst e0
  obtain ⟨hG, hs⟩ := h.grownb hf (fun g2 h2 => by rw [hb] at h2; cases h2; exact hgr)
  refine hG.verup hκ ⟨_, _, _, hb0⟩ (fun g2 h2 => ?_) (fun j oj g2 h1 hji h2 h3 => ?_) ⟨updN_same _ _ _, g', cap', cur', fz', updV_same _ _ _, Nat.zero_le _, hh, hfz, hc, fun o ho => ?_⟩
  · simp only [blk, Option.some.injEq] at h2
    subst h2
    rcases hg' with rfl | hg'
    · exact h.own i _ _ hf hb
    · exact .inr (Nat.le_trans h.below.size hg')
  · simp only [blk, Option.some.injEq] at h3
    subst h3
    obtain ⟨_, h4⟩ := find_dropK h1
    rcases hg' with rfl | hg'
    · exact hji (h.apart j i oj _ _ h4 hf h2 hb)
    · have := ((h.objs j oj h4).blkLt _ h2).2
      omega
  · rcases hg' with rfl | hg'
    · exact hno o ho
    · have := h.prl _ _ ho
      omega
end
/-- one byte appended: what append does -/
theorem run_append_byt {w : World} {t ty e : TypeId} {i : TypeInfo} {z : Value} (ht : Try.prog.underlying t = some (.slice e)) (hi : Try.prog.info? e = some i) (hz : i.zero = some z) (hs1 : i.size = 1) (hby : i.bytes = 1) (hzs : z.cells.size = 1)
    {g cap : Nat} {cur : Array Value} {fz : Nat × Nat} {l : List Value} (hg : w.heap[g]? = some (.cells cur e fz)) (hfz : fz = (0, 0) ∨ cap ≤ fz.1) (hc : l.length ≤ cap ∧ cap ≤ maxLen ∧ cur.size = cap ∧ cur.toList.take l.length = l)
    (a : Addr) (c : Nat) (u : Value) (hu : w.cell? a = some u) (h1 : u.oneCell' = true) (hm : l.length + 1 ≤ 140737488355328) :
    ∃ (g' cap' : Nat) (cur' : Array Value) (fz' : Nat × Nat) (w' : World), (Builtin.append_ #[t, t] ty #[.slice (some ⟨g, 0, none⟩) l.length cap, .slice (some a) 1 c]).run Try.prog w = .ok (.slice (some ⟨g', 0, none⟩) (l ++ [u]).length cap') w' ∧ w.grownBy w' (some g) ∧ (g' = g ∨ w.heap.size ≤ g') ∧
      w'.heap[g']? = some (.cells cur' e fz') ∧ (fz' = (0, 0) ∨ cap' ≤ fz'.1) ∧ ((l ++ [u]).length ≤ cap' ∧ cap' ≤ maxLen ∧ cur'.size = cap' ∧ cur'.toList.take (l ++ [u]).length = l ++ [u]) := by
  obtain ⟨c1, c2, c3, c4⟩ := hc
  have hnews : ∀ j v, [u][j]? = some v → w.cell? (a.add j) = some v := by
    intro j v hj
    match j with
    | 0 =>
      cases hj
      rw [show a.add 0 = a by cases a; simp [Addr.add]]
      exact hu
    | j + 1 => simp at hj
  have hlt : (cur.toList.take l.length).length = l.length := by rw [c4]
  by_cases hroom : l.length + 1 ≤ cap
  · refine ⟨g, cap, cur.setIfInBounds l.length u, fz, w.setRow g (cur.setIfInBounds l.length u), ?_, ⟨rfl, rfl, rfl, by simp, fun k _ hk => setRow_other w g k _ (fun e => hk (by rw [e]))⟩, .inl rfl, setRow_heap w g cur _ e _ hg, hfz, by simp; omega, c2, by simp [c3], ?_⟩
    · have hf := run_firstCells_some (P := Try.prog) w i.size 1 a 1 c [u] (by simp [hs1]) hnews
      rw [hs1] at hf
      have hst := run_storeCells_one Try.prog w (u := u) hg hfz (by omega : l.length < cap) c3 h1
      simp [Builtin.append_, run_underlying ht, sizeOf, typeInfo, hi, Builtin.lenOf, hroom, hf, Addr.add_lit, hs1, storeCells, hst]
    · simp only [Array.toList_setIfInBounds, List.length_append, List.length_singleton]
      apply List.ext_getElem?
      intro j
      rw [List.getElem?_take, List.getElem?_set]
      by_cases hj : j < l.length + 1
      · rw [if_pos hj]
        by_cases hj2 : l.length = j
        · rw [if_pos hj2, if_pos (by simp; omega), ← hj2]
          simp
        · rw [if_neg hj2, List.getElem?_append_left (by omega)]
          conv => rhs; rw [← c4]
          rw [List.getElem?_take, if_pos (by omega)]
      · rw [if_neg hj, List.getElem?_eq_none (by simp; omega)]
  · have holds : ∀ j v, l[j]? = some v → w.cell? ((⟨g, 0, none⟩ : Addr).add j) = some v := by
      intro j v hj
      have hjl := (List.getElem?_eq_some_iff.1 hj).1
      rw [← c4, List.getElem?_take, if_pos hjl] at hj
      rw [Addr.add_lit, Nat.zero_add]
      simp only [World.cell?, hg]
      simpa using hj
    have hsmall : l.length + 1 ≤ 9223372036854775807 := by omega
    have hr := run_append_grow (P := Try.prog) w t ty e i z ht hi hz ⟨g, 0, none⟩ l.length cap l (by rw [hs1]; omega) holds a 1 c [u] (by simp [hs1]) hnews (by omega) (by omega) (growslice_fits (by omega) (by rw [hby]; omega))
    have hge := grownCap_ge w (l.length + 1) cap e
    have hcm2 : grownCap w (l.length + 1) cap e ≤ maxLen := grownCap_le_maxLen w (l.length + 1) cap e (by unfold maxLen; omega)
    refine ⟨w.heap.size, grownCap w (l.length + 1) cap e, l.toArray ++ [u].toArray ++ Builtin.zeroCells z.cells (grownCap w (l.length + 1) cap e - (l.length + 1)), (0, 0), w.drew.alloc (.cells (l.toArray ++ [u].toArray ++ Builtin.zeroCells z.cells (grownCap w (l.length + 1) cap e - (l.length + 1))) e), by rw [List.length_append]; exact hr, ⟨rfl, rfl, rfl, by simp, fun k hk _ => heap_alloc_old w.drew _ hk⟩, .inr (Nat.le_refl _), heap_alloc_new w.drew _, .inl rfl, by simpa using hge, hcm2, ?_, ?_⟩
    · simp only [Array.size_append, List.size_toArray, size_zeroCells, hzs]
      simp
      omega
    · simp only [Array.toList_append, List.append_assoc]
      rw [← List.append_assoc]
      exact List.take_left
section
variable {E : Entry} {sl : Slots} {ob : Objs} {d : Nat} {x y : Operand} {t T : TypeId} {p : String} {af : Array Edge}
/-- []byte(s) -/
theorem st_bytes {src dst e : TypeId} {s : ByteArray} {g : Option (Nat × Bool)} (hx : ev sl x = .d (.val (.string s))) (hs : Try.prog.underlying src = some .string) (hdst : Try.prog.underlying dst = some (.slice e)) (he : Try.prog.underlying e = some (.int .u8)) (hlen : s.size ≤ 140737488355328) (hd : d < E.n) (hno : noneOf d sl ob = true) :
    Step E ⟨some d, .convert src dst x, T, p, af, g⟩ sl ob ((d, .row d 0) :: sl) ((d, .byt e 0 (bytV s.data.toList)) :: ob) := by
  rintro a w ⟨Pr, β, κ, h⟩ K Q hK
  have hrun := Go.Lib.run_convert_string_bytes (P := Try.prog) w src dst e s hs hdst he
  have hl : (bytV s.data.toList).length = s.size := by rw [bytV_len]; exact (Lib.size_eq s).symm
  have hge := grownCap_ge w s.size 0 e
  have hcm : grownCap w s.size 0 e ≤ maxLen := grownCap_le_maxLen w s.size 0 e (by unfold maxLen; omega)
  unfold Oper.wp
  have hrun2 : (execOp a.eval ⟨some d, .convert src dst x, T, p, af, g⟩).run Try.prog w = .ok (.value (.slice (some ⟨w.heap.size, 0, none⟩) s.size (grownCap w s.size 0 e))) (Go.Lib.bytesWorld w e s) := by
    simp only [execOp, good_val h hx, Sem.run_bind, hrun]
    rfl
  rw [hrun2, Oper.upon_value]
  have hx' : Below w.heap.size w (Go.Lib.bytesWorld w e s) := ⟨rfl, rfl, rfl, by rw [Go.Lib.bytesWorld_size]; omega, fun k hk => Go.Lib.bytesWorld_at_old w e s k hk⟩
  refine hK _ _ (h.newobj hd hno (Pr' := Pr) (v := .slice (some ⟨w.heap.size, 0, none⟩) s.size (grownCap w s.size 0 e)) hx' (fun _ _ h => h) (fun _ _ h => .inl h) (fun g hg => by simp [blk] at hg; omega) ?_ (fun β' κ' e1 e2 _ _ => .row d 0 _ ⟨_, _, _, rfl⟩ (Nat.zero_le _) (fun _ => e1.symm)))
  intro β' κ' e1 e2 e3 e4
  have hbs : (Go.Lib.bytesCells w e s).size = grownCap w s.size 0 e := by
    unfold Go.Lib.bytesCells
    simp
    have : s.data.size = s.size := rfl
    omega
  refine ⟨e2, w.heap.size, grownCap w s.size 0 e, Go.Lib.bytesCells w e s, _, by rw [e1, hl], Nat.zero_le _, Go.Lib.bytesWorld_at_new w e s, .inr (by rw [hbs]; exact Nat.le_refl _), ⟨by omega, hcm, hbs, ?_⟩, fun o ho => ?_⟩
  · unfold Go.Lib.bytesCells
    rw [Array.toList_append, List.take_append_of_le_length (by simp [bytV])]
    rw [List.take_of_length_le (by simp [bytV])]
    simp [bytV]
  · have := h.prl _ _ ho
    omega
theorem byt_val {a : Act} {w : World} {Pr : Prot} {β : Nat → Value} {κ : Nat → Nat} (h : Good E sl ob a w Pr β κ) {i k e : Nat} {l : List Value} (hx : ev sl x = .row i k) (hf : find ob i = some (.byt e k l)) : a.eval x = β i := by
  have := good_ev h x
  rw [hx] at this
  exact this.row_inv (h.objs i _ hf).1.symm
theorem y_bytlen {i k e n : Nat} {l : List Value} {t0 dd : TypeId} {A : Array TypeId} {g : Option (Nat × Bool)} (hx : ev sl x = .row i k) (hf : find ob i = some (.byt e k l)) (hA : A = #[t0]) (hT : ∃ e es eb ez, ti t0 = .sl e es eb ez) (hn : l.length = n) :
    Y E ⟨some dd, .call { callee := .builtin .len, args := #[x], argTypes := A }, T, p, af, g⟩ sl ob (.d (.val (.int .i64 n))) := fun a w Pr β κ h => by
  subst hA hn
  obtain ⟨e, es, eb, ez, hT⟩ := hT
  obtain ⟨_, _, _, hu, _⟩ := ti_sl hT
  have hxv := byt_val h hx hf
  obtain ⟨_, g', cap, cur, fz, hb, _⟩ := h.objs i _ hf
  exact ⟨_, .d _ _ (.val _), fun w' _ => by simp [execOp, hxv, hb, resolve, invoke, builtin, Builtin.len_, run_underlying hu, goInt]⟩
/-- append(b, u) -/
theorem st_bytapp {i k e : Nat} {ez : Value} {l : List Value} {u : Value} {A : Array TypeId} {g : Option (Nat × Bool)} (hx : ev sl x = .row i k) (hf : find ob i = some (.byt e k l)) (hy : ToD ob (ev sl y) (.list 1 [[.val u]])) (hA : A = #[t, t]) (hT : ti t = .sl e 1 1 ez)
    (h1 : u.oneCell' = true) (hm : l.length + 1 ≤ 140737488355328) (hd : d < E.n) :
    Step E ⟨some d, .call { callee := .builtin .append, args := #[x, y], argTypes := A }, T, p, af, g⟩ sl ob ((d, .row i (k + 1)) :: sl) ((i, .byt e (k + 1) (l ++ [u])) :: dropK [i] ob) := by
  subst hA
  rintro a w ⟨Pr, β, κ, h⟩ K Q hK
  obtain ⟨_, j, _, hu, _, hj, hz, hs, hby, hsz⟩ := ti_sl hT
  have hxv := byt_val h hx hf
  obtain ⟨hκ, gb, cap, cur, fz, hb, hB, hh, hfz, hc, hno⟩ := h.objs i _ hf
  have hrep := toD_rep h hy _ (good_ev h y)
  generalize hav : a.eval y = v at hrep
  cases hrep with
  | list b o n c _ _ q hn hss hcc hmm hr hdd =>
    have hn1 : n = 1 := by simpa using hn.symm
    subst hn1
    obtain ⟨r1, _⟩ := hr 0 0 _ _ rfl rfl
    have r2 := hdd 0 0 _ _ rfl rfl
    generalize q 0 0 = v0 at r1 r2
    cases r2
    obtain ⟨g', cap', cur', fz', w', hrun, hgr, hg', hh', hfz', hc'⟩ := run_append_byt (ty := T) (w := w) hu hj hz hs hby (by simpa using hsz) hh hfz hc ⟨b, o, none⟩ c u (by simpa using r1) h1 hm
    have hG := h.newbyt (l' := l ++ [u]) hf (by rw [hb]; rfl) hgr hg' hh' hfz' hc'
    unfold Oper.wp
    have hrun2 : (execOp a.eval ⟨some d, .call { callee := .builtin .append, args := #[x, y], argTypes := #[t, t] }, T, p, af, g⟩).run Try.prog w = .ok (.value (.slice (some ⟨g', 0, none⟩) (l ++ [u]).length cap')) w' := by
      simp only [execOp, resolve, invoke, builtin, Sem.run_bind, Sem.run_pure, Result.andThen_ok, List.map_toArray, List.map_cons, List.map_nil, hxv, hb, hav, hrun]
    rw [hrun2, Oper.upon_value]
    exact hK _ _ ⟨_, _, _, hG.put hd (.row i (k + 1) _ ⟨_, _, _, rfl⟩ (by rw [updN_same]; exact Nat.le_refl _) (fun _ => (updV_same _ _ _).symm))⟩
/-- string(b) -/
theorem st_bytstr {i k e eb : Nat} {ez : Value} {L : List UInt8} {src dst : TypeId} {r : ByteArray} {g : Option (Nat × Bool)} (hx : ev sl x = .row i k) (hf : find ob i = some (.byt e k (bytV L))) (hT : ti src = .sl e 1 eb ez) (he : Try.prog.underlying e = some (.int .u8)) (hdst : Try.prog.underlying dst = some .string) (hr : ⟨L.toArray⟩ = r) (hd : d < E.n) :
    Step E ⟨some d, .convert src dst x, T, p, af, g⟩ sl ob ((d, .d (.val (.string r))) :: sl) ob := by
  subst hr
  rintro a w ⟨Pr, β, κ, h⟩ K Q hK
  obtain ⟨_, j, _, hu, _⟩ := ti_sl hT
  have hxv := byt_val h hx hf
  obtain ⟨hκ, gb, cap, cur, fz, hb, hB, hh, hfz, ⟨c1, c2, c3, c4⟩, hno⟩ := h.objs i _ hf
  have hrun := run_convert_bytes_back (P := Try.prog) w src dst e ⟨gb, 0, none⟩ cap L hu he hdst (fun j hj => by
    rw [Addr.add_lit, Nat.zero_add]
    have e1 : (bytV L)[j]? = some (.int .u8 (L[j].toNat : Int)) := by simp [bytV, hj]
    rw [← c4, List.getElem?_take, if_pos (by rw [bytV_len]; exact hj)] at e1
    simp only [World.cell?, hh]
    simpa using e1)
  unfold Oper.wp
  have hrun2 : (execOp a.eval ⟨some d, .convert src dst x, T, p, af, g⟩).run Try.prog w = .ok (.value (.string ⟨L.toArray⟩)) w := by
    rw [bytV_len] at hb
    simp only [execOp, hxv, hb, Sem.run_bind, hrun]
    rfl
  rw [hrun2, Oper.upon_value]
  exact hK _ _ ⟨_, _, _, h.put hd (.d _ _ (.val _))⟩
/-- the bytes have turned, in their block -/
theorem Good.putbyt {a : Act} {w w' : World} {Pr : Prot} {β : Nat → Value} {κ : Nat → Nat} (h : Good E sl ob a w Pr β κ) {i e k gb cap : Nat} {l l' : List Value} {cur' : Array Value} {fz : Nat × Nat} (hf : find ob i = some (.byt e k l)) (hb : β i = .slice (some ⟨gb, 0, none⟩) l.length cap) (hgr : w.grownBy w' (some gb)) (hh : w'.heap[gb]? = some (.cells cur' e fz)) (hfz : fz = (0, 0) ∨ cap ≤ fz.1) (hl : l'.length = l.length) (hc : l'.length ≤ cap ∧ cap ≤ maxLen ∧ cur'.size = cap ∧ cur'.toList.take l'.length = l') :
    Good E sl ((i, .byt e k l') :: dropK [i] ob) a w' Pr β κ := by
  obtain ⟨hκ, g0, cap0, cur, fz0, hb0, hB, hh0, hfz0, hc0, hno⟩ := h.objs i _ hf
  have e0 : g0 = gb := by rw [hb0] at hb; simp at hb; exact hb.1
  subst e0
  obtain ⟨hG, hs⟩ := h.grownb hf (fun g2 h2 => by rw [hb] at h2; simp only [blk, Option.some.injEq] at h2; subst h2; exact hgr)
  have old : ∀ m om, find ((i, O.byt e k l') :: dropK [i] ob) m = some om → ∃ om', find ob m = some om' := fun m om hm => by
    rcases keyCase hm with ⟨rfl, _⟩ | ⟨_, hm⟩
    · exact ⟨_, hf⟩
    · exact ⟨_, (find_dropK hm).2⟩
  refine ⟨hG.below, hG.st0, hG.pr0, hG.prn, hG.prl, hG.size, hG.defers, hG.slots, fun m om hm => ?_, fun m j om oj g h1 h2 h3 h4 => ?_, fun m om g h1 h2 => ?_, hG.keeps, hG.fresh⟩
  · rcases keyCase hm with ⟨rfl, rfl⟩ | ⟨_, hm⟩
    · exact ⟨hκ, g0, cap, cur', fz, by rw [hl]; exact hb, Nat.zero_le _, hh, hfz, hc, hno⟩
    · exact hG.objs m om hm
  · obtain ⟨_, k1⟩ := old m om h1
    obtain ⟨_, k2⟩ := old j oj h2
    exact h.apart m j _ _ g k1 k2 h3 h4
  · obtain ⟨_, k1⟩ := old m om h1
    exact h.own m _ g k1 h2
/-- b[q] = u: the address, then the store -/
theorem al_bytput {ops : Array Oper} {rest : List Oper} {Q : Exit → Act → World → Prop} {i k e q d1 eb : Nat} {ez : Value} {kk : IntKind} {m : Int} {l : List Value} {u : Value} {T1 T2 t2 : TypeId} {p1 p2 : String} {af1 af2 : Array Edge} {z : Operand} (hx : ev sl x = .row i k) (hf : find ob i = some (.byt e k l)) (hy : ev sl y = .d (.val (.int kk m))) (hz : ev ((d1, .und) :: sl) z = .d (.val u)) (hT : ti t = .sl e 1 eb ez) (hi : m = (q : Int)) (hq : q < l.length) (h1 : u.oneCell' = true) (ht2 : isOne (ti t2) = true) (hd : d1 < E.n)
    (hK : AL E ops rest Q ((d1, .und) :: sl) ((i, .byt e k (l.set q u)) :: dropK [i] ob)) :
    AL E ops (⟨some d1, .indexAddr t x y, T1, p1, af1, none⟩ :: ⟨none, .store t2 (.tmp d1) z, T2, p2, af2, none⟩ :: rest) Q sl ob := by
  subst hi
  refine ⟨fun a w ⟨Pr, β, κ, h⟩ => wpList_plain rfl fun K hKK => ?_⟩
  obtain ⟨_, j, _, hu, _, hj, _, hs, _⟩ := ti_sl hT
  have hxv := byt_val h hx hf
  obtain ⟨hκ, gb, cap, cur, fz, hb, hB, hh, hfz, ⟨c1, c2, c3, c4⟩, hno⟩ := h.objs i _ hf
  have hrun1 : (execOp a.eval ⟨some d1, .indexAddr t x y, T1, p1, af1, none⟩).run Try.prog w = .ok (.value (.pointer (some ⟨gb, q, none⟩))) w := by
    have hsz : (sizeOf e).run Try.prog w = .ok 1 w := by simp [sizeOf, typeInfo, hj, hs]
    simp [execOp, hxv, hb, good_val h hy, Instr.indexAt, asIntOf, run_underlying hu, hsz, hq, Addr.add_lit]
  unfold Oper.wp
  rw [hrun1, Oper.upon_value]
  refine hKK _ _ (wpList_plain rfl fun K2 hKK2 => ?_)
  have h2 := h.put hd (v := .pointer (some ⟨gb, q, none⟩)) (.und _)
  have hst := run_storeCells_one Try.prog w (u := u) hh hfz (by omega : q < cap) c3 h1
  have hzv := good_val h2 hz
  have hcl : u.cells = #[u] := by cases u <;> first | rfl | cases h1
  have hadr : (a.put (some d1) (.pointer (some ⟨gb, q, none⟩))).eval (.tmp d1) = .pointer (some ⟨gb, q, none⟩) := by
    show (a.put (some d1) (.pointer (some ⟨gb, q, none⟩))).tmps.getD d1 undef = _
    rw [Act.getD_put a d1 d1 _ (by rw [h.size]; exact hd), if_pos rfl]
  have hrun2 : (execOp (a.put (some d1) (.pointer (some ⟨gb, q, none⟩))).eval ⟨none, .store t2 (.tmp d1) z, T2, p2, af2, none⟩).run Try.prog w = .ok .skip (w.setRow gb (cur.setIfInBounds q u)) := by
    have hsz := run_sizeOf_one w ht2
    simp [execOp, hadr, hzv, Instr.storeAt, Instr.sureAddr, storeVar, hsz, hcl, storeCells, Addr.add_lit, hst]
  unfold Oper.wp
  rw [hrun2, Oper.upon_skip]
  refine hKK2 _ _ (hK.run _ _ ⟨Pr, β, κ, h2.putbyt (cur' := cur.setIfInBounds q u) hf hb ⟨rfl, rfl, rfl, by simp, fun k _ hk => setRow_other w gb k _ (fun e => hk (by rw [e]))⟩ (setRow_heap w gb cur _ e _ hh) hfz (by simp) ⟨by simpa using c1, c2, by simp [c3], ?_⟩⟩)
  simp only [Array.toList_setIfInBounds, List.length_set]
  rw [List.take_set, c4]
end
end Go.Proofs.Ytabaflklognhaaa
end
