/-
  Copies of maps; structs with objects in them, loaded whole; over abstract states. Conditions: none.
-/
import Derived.Test.YtabaflklognhaaaAbsView
import Derived.Laws.Externs
import Derived.Laws.Cover3
import Derived.MapKept
import Derived.WalkKit
namespace Go.Proofs.Ytabaflklognhaaa
open Go.RowKit Go.ChangeMaps

theorem run_mnil (w : World) {t k e : TypeId} (p : Option Nat) (h : Try.prog.underlying t = some (.map k e)) : (binOp .eql t (.map p) (.map none)).run Try.prog w = .ok (.bool p.isNone) w := by
  have := run_equalIn_map_nil (P := Try.prog) (w := w) 9999 t k e p h
  simp only [binOp]
  simp [show Op.equal t (.map p) (.map none) = Op.equalIn (9999 + 1) t (.map p) (.map none) from rfl, this]
theorem run_massert (w : World) {t xT k e : TypeId} (v : Value) (h : Try.prog.underlying t = some (.map k e)) : (Instr.typeAssert (.iface t v) xT t false).run Try.prog w = .ok v w := by
  simp [Instr.typeAssert, run_underlying h, go_sem, Result.andThen]
theorem run_mclone (w : World) {r : Nat} {es : Array MapEntry} {clock : Nat} (t : TypeId) (hb : w.heap[r]? = some (.map es clock)) :
    (Extern.MapsClone.clone #[.iface t (.map (some r))]).run Try.prog w = .ok (.iface t (.map (some w.heap.size))) (w.alloc (.map es clock)) := by
  show ((getObj r >>= fun o => match o with
      | .map entries clock => (newObj (.map entries clock) >>= fun n => pure (.iface t (.map (some n))))
      | _ => stuck "maps.clone: a map expected") : Sem Value).run Try.prog w = _
  simp [MapKept.run_getObj_map hb, Result.andThen, go_sem]
/-- maps.Clone, from its run -/
theorem clone_obc {f : FuncId} {T : TypeId} (hf : FnOk f) (hrun : ∀ (b : Nat) (es : Array MapEntry) (clock : Nat) (w : World), w.heap[b]? = some (.map es clock) → Calls Try.prog f #[.map (some b)] w fun e w' => e = .returned (.map (some w.heap.size)) ∧ w' = w.alloc (.map es clock)) (c : Nat) (l : List ME) :
    ObC f [.mp 1000] [(1000, .map T c l)] [3] (fun x o => x = .mp 3 ∧ o = [(3, .map T c l), (1000, .map T c l)]) := by
  refine ⟨hf, fun w Pr vs β κ hp hE hl hv ho hap => ?_⟩
  match vs, hl with
  | [v], _ =>
    have h1 := hv 0 v _ rfl rfl
    obtain ⟨g, es, q1, q2, q3, q4, q5, q6⟩ := ho 1000 _ rfl
    cases h1 with
    | mp _ g' hb =>
      rw [q1] at hb
      simp only [Value.map.injEq, Option.some.injEq] at hb
      subst hb
      refine (hrun g es.toArray c w q3).mono fun e w' ⟨he, hw⟩ => ?_
      subst hw
      have hx : Below w.heap.size w (w.alloc (.map es.toArray c)) := (Below.refl _ _).alloc (Nat.le_refl _) _
      have hst : Stays Pr w (w.alloc (.map es.toArray c)) := fun b o hb => hx.cell (p := ⟨b, o, none⟩) (hp b o hb)
      have hgl : g < w.heap.size := (Array.getElem?_eq_some_iff.1 q3).1
      have e3 : updV β 3 (.map (some w.heap.size)) 3 = .map (some w.heap.size) := updV_same _ _ _
      have e1 : updV β 3 (.map (some w.heap.size)) 1000 = .map (some g) := (updV_other β 3 _ 1000 (by decide)).trans q1
      have hcase : ∀ i o, find [(3, O.map T c l), (1000, O.map T c l)] i = some o → (i = 3 ∧ o = .map T c l) ∨ (i = 1000 ∧ o = .map T c l) := by
        intro i o hi
        by_cases h3 : i = 3
        · subst h3; rw [find_eq] at hi; cases hi; exact .inl ⟨rfl, rfl⟩
        · rw [find_ne h3] at hi
          by_cases h4 : i = 1000
          · subst h4; rw [find_eq] at hi; cases hi; exact .inr ⟨rfl, rfl⟩
          · rw [find_ne h4] at hi; cases hi
      refine ⟨_, _, _, Pr, updV β 3 (.map (some w.heap.size)), κ, he, ⟨rfl, rfl⟩, Under.of_below _ hx, hst, fun _ _ h => h, fun _ _ h => .inl h, fun b o h => Nat.lt_of_lt_of_le (hp b o h) hx.size, .mp 3 _ e3, fun i o hi => ?_, fun i j oi oj gg hi hj h2 h3 => ?_, fun i o gg hi hg => ?_, fun i o hi => ?_, rfl, fun i o hi => ?_⟩
      · rcases hcase i o hi with ⟨rfl, rfl⟩ | ⟨rfl, rfl⟩
        · exact ⟨w.heap.size, es, e3, Nat.zero_le _, heap_alloc_new w _, q4, fun j x q h2 h3 => (q5 j x q h2 h3).keep hst (fun _ _ h => h), fun o ho => by have := hp _ _ ho; omega⟩
        · exact ⟨g, es, e1, Nat.zero_le _, (hx.block g hgl).trans q3, q4, fun j x q h2 h3 => (q5 j x q h2 h3).keep hst (fun _ _ h => h), q6⟩
      · rcases hcase i oi hi with ⟨rfl, _⟩ | ⟨rfl, _⟩ <;> rcases hcase j oj hj with ⟨rfl, _⟩ | ⟨rfl, _⟩
        · rfl
        · rw [e3] at h2; rw [e1] at h3; simp only [blk, Option.some.injEq] at h2 h3; omega
        · rw [e1] at h2; rw [e3] at h3; simp only [blk, Option.some.injEq] at h2 h3; omega
        · rfl
      · rcases hcase i o hi with ⟨rfl, _⟩ | ⟨rfl, _⟩
        · rw [e3] at hg; simp only [blk, Option.some.injEq] at hg; exact .inr (by omega)
        · rw [e1] at hg; simp only [blk, Option.some.injEq] at hg; exact .inl ⟨1000, _, rfl, by rw [q1, ← hg]; rfl⟩
      · have : i = 1000 := by
          by_cases h4 : i = 1000
          · exact h4
          · rw [find_ne h4] at hi; cases hi
        subst this
        exact .inl ⟨updV_other β 3 _ 1000 (by decide), rfl⟩
      · rcases hcase i o hi with ⟨rfl, rfl⟩ | ⟨rfl, rfl⟩
        · exact ⟨by simp [keys], rfl⟩
        · exact ⟨by simp [keys], rfl⟩
section
variable {E : Entry} {sl : Slots} {ob : Objs} {a : Act} {w : World} {Pr : Prot} {β : Nat → Value} {κ : Nat → Nat}
variable {d : Option Nat} {t T ty : TypeId} {p : String} {af : Array Edge} {g : Option (Nat × Bool)} {x y c : Operand} {m : Int}
/-- a struct that holds objects, loaded whole -/
theorem y_bloadV {i o k : Nat} {T' : TypeId} {l l2 : List V} (hx : ev sl x = .box i o) (hf : find ob i = some (.box T' l)) (hT : aggK (ti t) = some k) (hl : (l.drop o).take k = l2) (hk : l2.length = k) (h0 : 0 < k) :
    Y E ⟨d, .load t x, T, p, af, g⟩ sl ob (.agg l2) := fun a w Pr β κ h => by
  obtain ⟨b, cs, hav, _, _, hcl, hv, hc⟩ := box_at h hx hf
  have hget : ∀ (j : Nat) (z : V), l2[j]? = some z → l[o + j]? = some z := by
    intro j z hj
    rw [← hl, List.getElem?_take] at hj
    split at hj
    · rw [List.getElem?_drop] at hj
      exact hj
    · cases hj
  have hlen : o + k ≤ l.length := by
    have hz : l2[k - 1]? = some (l2[k - 1]'(by omega)) := List.getElem?_eq_getElem (by omega)
    have := (List.getElem?_eq_some_iff.1 (hget _ _ hz)).1
    omega
  have hcs : ((cs.drop o).take k).length = k := by simp; omega
  have hget2 : ∀ (j : Nat) (v : Value), ((cs.drop o).take k)[j]? = some v → j < k ∧ cs[o + j]? = some v := by
    intro j v hj
    have hjl : j < k := by have := (List.getElem?_eq_some_iff.1 hj).1; omega
    rw [List.getElem?_take, if_pos hjl, List.getElem?_drop] at hj
    exact ⟨hjl, hj⟩
  refine ⟨.agg ((cs.drop o).take k).toArray, .agg _ l2 (by omega) fun j v z h1 h2 => ?_, fun w' hkept => ?_⟩
  · exact hv _ v _ (hget2 j v h1).2 (hget j z h2)
  · have := run_load_agg (t := t) w' (b := b) (o := o) hT hcs (fun j v hj => hc w' hkept _ v (hget2 j v hj).2)
    simp [execOp, hav, this]
end
end Go.Proofs.Ytabaflklognhaaa
