/-
  Copies of maps; structs with objects in them, loaded whole; over abstract states. Conditions: none.
  Functions with labels that no goto jumps to, over abstract states. Conditions: none.
  A slice that is made, filled by copy from a list, and handed out; over abstract states. Conditions: elements of one cell.
  From a walk of a law to what its row asks: it returns true, and each argument reads as it did. Conditions: only memory of the call's own has turned.
  From data that came in to what the abstract walks read. Conditions: none.
  What cells of a type show, type by type. Conditions: none.
-/
import Derived.Laws.Externs
import Derived.Laws.Cover3
import Derived.MapKept
import Derived.WalkKit
import Derived.WalkMore
import Derived.Laws.CopyRow
import Derived.Laws.IdiomCopy
import Derived.Test.YtfgibalcdjlnhaaDoorRows
import Derived.ProofKit
import Derived.OpenShut
import Derived.ChangeOld
import Derived.SizedLaws
import Derived.Deep.SlicePairs
import Derived.Lib.SmallJoins
import Derived.Deep.Slices
import Derived.Test.YtfgibalcdjlnhaaDoorMal
section
namespace Go.Proofs.YtfgibalcdjlnhaaDoor
open Go.RowKit Go.ChangeMaps

theorem run_mnil (w : World) {t k e : TypeId} (p : Option Nat) (h : Tryd.prog.underlying t = some (.map k e)) : (binOp .eql t (.map p) (.map none)).run Tryd.prog w = .ok (.bool p.isNone) w := by
  have := run_equalIn_map_nil (P := Tryd.prog) (w := w) 9999 t k e p h
  simp only [binOp]
  simp [show Op.equal t (.map p) (.map none) = Op.equalIn (9999 + 1) t (.map p) (.map none) from rfl, this]
theorem run_massert (w : World) {t xT k e : TypeId} (v : Value) (h : Tryd.prog.underlying t = some (.map k e)) : (Instr.typeAssert (.iface t v) xT t false).run Tryd.prog w = .ok v w := by
  simp [Instr.typeAssert, run_underlying h, go_sem, Result.andThen]
theorem run_mclone (w : World) {r : Nat} {es : Array MapEntry} {clock : Nat} (t : TypeId) (hb : w.heap[r]? = some (.map es clock)) :
    (Extern.MapsClone.clone #[.iface t (.map (some r))]).run Tryd.prog w = .ok (.iface t (.map (some w.heap.size))) (w.alloc (.map es clock)) := by
  show ((getObj r >>= fun o => match o with
      | .map entries clock => (newObj (.map entries clock) >>= fun n => pure (.iface t (.map (some n))))
      | _ => stuck "maps.clone: a map expected") : Sem Value).run Tryd.prog w = _
  simp [MapKept.run_getObj_map hb, Result.andThen, go_sem]
/-- maps.Clone, from its run -/
theorem clone_obc {f : FuncId} {T : TypeId} (hf : FnOk f) (hrun : ∀ (b : Nat) (es : Array MapEntry) (clock : Nat) (w : World), w.heap[b]? = some (.map es clock) → Calls Tryd.prog f #[.map (some b)] w fun e w' => e = .returned (.map (some w.heap.size)) ∧ w' = w.alloc (.map es clock)) (c : Nat) (l : List ME) :
    ObC f [.mp 1000] [(1000, .map T c l)] [3] (fun x o => x = .mp 3 ∧ o = [(3, .map T c l), (1000, .map T c l)]) := by
  refine ⟨hf, fun w Pr vs β κ hp hE hl hv ho hap => ?_⟩
  match vs, hl with
  | [v], _ =>
    have h1 := hv 0 v _ rfl rfl
    obtain ⟨g, es, q1, q2, q3, q4, q5, q6⟩ := ho 1000 _ rfl
    cases h1 with
    | mp _ g' hb =>
      rw [q1] at hb
      simp only [Value.map.injEq, Option.some.injEq] at hb
      subst hb
      refine (hrun g es.toArray c w q3).mono fun e w' ⟨he, hw⟩ => ?_
      subst hw
      have hx : Below w.heap.size w (w.alloc (.map es.toArray c)) := (Below.refl _ _).alloc (Nat.le_refl _) _
      have hst : Stays Pr w (w.alloc (.map es.toArray c)) := fun b o hb => hx.cell (p := ⟨b, o, none⟩) (hp b o hb)
      have hgl : g < w.heap.size := (Array.getElem?_eq_some_iff.1 q3).1
      have e3 : updV β 3 (.map (some w.heap.size)) 3 = .map (some w.heap.size) := updV_same _ _ _
      have e1 : updV β 3 (.map (some w.heap.size)) 1000 = .map (some g) := (updV_other β 3 _ 1000 (by decide)).trans q1
      have hcase : ∀ i o, find [(3, O.map T c l), (1000, O.map T c l)] i = some o → (i = 3 ∧ o = .map T c l) ∨ (i = 1000 ∧ o = .map T c l) := by
        intro i o hi
        by_cases h3 : i = 3
        · subst h3; rw [find_eq] at hi; cases hi; exact .inl ⟨rfl, rfl⟩
        · rw [find_ne h3] at hi
          by_cases h4 : i = 1000
          · subst h4; rw [find_eq] at hi; cases hi; exact .inr ⟨rfl, rfl⟩
          · rw [find_ne h4] at hi; cases hi
      refine ⟨_, _, _, Pr, updV β 3 (.map (some w.heap.size)), κ, he, ⟨rfl, rfl⟩, Under.of_below _ hx, hst, fun _ _ h => h, fun _ _ h => .inl h, fun b o h => Nat.lt_of_lt_of_le (hp b o h) hx.size, .mp 3 _ e3, fun i o hi => ?_, fun i j oi oj gg hi hj h2 h3 => ?_, fun i o gg hi hg => ?_, fun i o hi => ?_, rfl, fun i o hi => ?_⟩
      · rcases hcase i o hi with ⟨rfl, rfl⟩ | ⟨rfl, rfl⟩
        · exact ⟨w.heap.size, es, e3, Nat.zero_le _, heap_alloc_new w _, q4, fun j x q h2 h3 => (q5 j x q h2 h3).keep hst (fun _ _ h => h), fun o ho => by have := hp _ _ ho; omega⟩
        · exact ⟨g, es, e1, Nat.zero_le _, (hx.block g hgl).trans q3, q4, fun j x q h2 h3 => (q5 j x q h2 h3).keep hst (fun _ _ h => h), q6⟩
      · rcases hcase i oi hi with ⟨rfl, _⟩ | ⟨rfl, _⟩ <;> rcases hcase j oj hj with ⟨rfl, _⟩ | ⟨rfl, _⟩
        · rfl
        · rw [e3] at h2; rw [e1] at h3; simp only [blk, Option.some.injEq] at h2 h3; omega
        · rw [e1] at h2; rw [e3] at h3; simp only [blk, Option.some.injEq] at h2 h3; omega
        · rfl
      · rcases hcase i o hi with ⟨rfl, _⟩ | ⟨rfl, _⟩
        · rw [e3] at hg; simp only [blk, Option.some.injEq] at hg; exact .inr (by omega)
        · rw [e1] at hg; simp only [blk, Option.some.injEq] at hg; exact .inl ⟨1000, _, rfl, by rw [q1, ← hg]; rfl⟩
      · have : i = 1000 := by
          by_cases h4 : i = 1000
          · exact h4
          · rw [find_ne h4] at hi; cases hi
        subst this
        exact .inl ⟨updV_other β 3 _ 1000 (by decide), rfl⟩
      · rcases hcase i o hi with ⟨rfl, rfl⟩ | ⟨rfl, rfl⟩
        · exact ⟨by simp [keys], rfl⟩
        · exact ⟨by simp [keys], rfl⟩
section
variable {E : Entry} {sl : Slots} {ob : Objs} {a : Act} {w : World} {Pr : Prot} {β : Nat → Value} {κ : Nat → Nat}
variable {d : Option Nat} {t T ty : TypeId} {p : String} {af : Array Edge} {g : Option (Nat × Bool)} {x y c : Operand} {m : Int}
/-- a struct that holds objects, loaded whole -/
theorem y_bloadV {i o k : Nat} {T' : TypeId} {l l2 : List V} (hx : ev sl x = .box i o) (hf : find ob i = some (.box T' l)) (hT : aggK (ti t) = some k) (hl : (l.drop o).take k = l2) (hk : l2.length = k) (h0 : 0 < k) :
    Y E ⟨d, .load t x, T, p, af, g⟩ sl ob (.agg l2) := fun a w Pr β κ h => by
  obtain ⟨b, cs, hav, _, _, hcl, hv, hc⟩ := box_at h hx hf
  have hget : ∀ (j : Nat) (z : V), l2[j]? = some z → l[o + j]? = some z := by
    intro j z hj
    rw [← hl, List.getElem?_take] at hj
    split at hj
    · rw [List.getElem?_drop] at hj
      exact hj
    · cases hj
  have hlen : o + k ≤ l.length := by
    have hz : l2[k - 1]? = some (l2[k - 1]'(by omega)) := List.getElem?_eq_getElem (by omega)
    have := (List.getElem?_eq_some_iff.1 (hget _ _ hz)).1
    omega
  have hcs : ((cs.drop o).take k).length = k := by simp; omega
  have hget2 : ∀ (j : Nat) (v : Value), ((cs.drop o).take k)[j]? = some v → j < k ∧ cs[o + j]? = some v := by
    intro j v hj
    have hjl : j < k := by have := (List.getElem?_eq_some_iff.1 hj).1; omega
    rw [List.getElem?_take, if_pos hjl, List.getElem?_drop] at hj
    exact ⟨hjl, hj⟩
  refine ⟨.agg ((cs.drop o).take k).toArray, .agg _ l2 (by omega) fun j v z h1 h2 => ?_, fun w' hkept => ?_⟩
  · exact hv _ v _ (hget2 j v h1).2 (hget j z h2)
  · have := run_load_agg (t := t) w' (b := b) (o := o) hT hcs (fun j v hj => hc w' hkept _ v (hget2 j v hj).2)
    simp [execOp, hav, this]
end
end Go.Proofs.YtfgibalcdjlnhaaDoor
end
section
namespace Go.Proofs.YtfgibalcdjlnhaaDoor
open Go.RowKit

section
variable {E : Entry} {sl : Slots} {ob : Objs} {Q : Exit → Go.Act → World → Prop} {x : Code} {id n : Nat}
theorem aw_scope (h : AW E x (Exit.noGoto Q) sl ob) : AW E (.scope x) Q sl ob := ⟨fun a w hi => wp_scope_straight (h.run a w hi)⟩
theorem aw_label (h : AQ E .normal Q sl ob) : AW E (.label n) Q sl ob := ⟨fun a w hi => wp_label (h.run a w hi)⟩
theorem aq_ng_n (h : AQ E .normal Q sl ob) : AQ E .normal (Exit.noGoto Q) sl ob := ⟨h.run⟩
theorem aq_ng_r (h : AQ E .ret Q sl ob) : AQ E .ret (Exit.noGoto Q) sl ob := ⟨h.run⟩
theorem aq_ng_x (h : AQ E (.exit id) Q sl ob) : AQ E (.exit id) (Exit.noGoto Q) sl ob := ⟨h.run⟩
end
end Go.Proofs.YtfgibalcdjlnhaaDoor
end
section
namespace Go.Proofs.YtfgibalcdjlnhaaDoor
open Go.RowKit

section
variable {E : Entry} {sl : Slots} {ob : Objs} {a : Go.Act} {w : World} {Pr : Prot} {β : Nat → Value} {κ : Nat → Nat}
variable {d : Nat} {dd : Option Nat} {t T ty : TypeId} {p : String} {af : Array Edge} {g : Option (Nat × Bool)} {x y c : Operand} {m m' : Int}
theorem Good.setobj2 (h : Good E sl ob a w Pr β κ) {i b : Nat} {o o' : O} (hf : find ob i = some o) (hb : blk (β i) = some b) {cs : Array Value} {T : TypeId} (hno : ∀ q, ¬ Pr b q) (hold : ∃ c0, w.heap[b]? = some (.cells c0 T (0, 0)))
    (ho : (∀ (v : Value) (x : V), RepV w Pr β κ v x → RepV (w.setRow b cs) Pr β κ v x) → RepO (w.setRow b cs) Pr 0 β κ i o') : Good E sl ((i, o') :: ob) a (w.setRow b cs) Pr β κ := by
  obtain ⟨c0, hold⟩ := hold
  have hs : Stays Pr w (w.setRow b cs) := fun b' q hq => World.cell?_of_block (a := ⟨b', q, none⟩) (setRow_other w b b' cs (by rintro rfl; exact hno q hq))
  have hE := h.below.size
  have hbo := h.own i o b hf hb
  have hx : Under (fun g => g = b) w (w.setRow b cs) := ⟨rfl, rfl, rfl, by simp [World.setRow], fun k _ hn => setRow_other w b k cs hn⟩
  refine ⟨h.below.then hx (fun g hg => hg ▸ hbo), fun b' q hq => (hs b' q (h.pr0 b' q hq)).trans (h.st0 b' q hq), h.pr0, h.prn, fun b' q hq => by have := h.prl b' q hq; simpa [World.setRow] using this, h.size, h.defers, fun j => (h.slots j).keep hs (fun _ _ h => h), fun j oj hj => ?_, fun j k oj ok g hj hk => ?_, fun j oj g hj hg => ?_, h.keeps, h.fresh⟩
  rotate_right 1
  · by_cases hji : j = i
    · subst hji
      exact h.own j o g hf hg
    · exact h.own j oj g (find_other hji hj) hg
  · by_cases hji : j = i
    · subst hji
      rw [find_eq] at hj
      cases hj
      exact ho (fun v x hv => hv.keep hs (fun _ _ h => h))
    · have hj' := find_other hji hj
      refine (h.objs j oj hj').keep hs (fun _ _ h => h) (fun _ _ h => .inl h) (fun g hg => setRow_other w b g cs ?_)
      rintro rfl
      exact hji (h.apart j i oj o _ hj' hf hg hb)
  · have key : ∀ m om, find ((i, o') :: ob) m = some om → ∃ om', find ob m = some om' := by
      intro m om hm
      by_cases hmi : m = i
      · exact ⟨o, hmi ▸ hf⟩
      · exact ⟨om, find_other hmi hm⟩
    obtain ⟨oj', hj'⟩ := key j oj hj
    obtain ⟨ok', hk'⟩ := key k ok hk
    exact h.apart j k oj' ok' g hj' hk'
theorem Good.twice (h : Good E sl ob a w Pr β κ) {i : Nat} {o : O} (hf : find ob i = some o) : Good E sl ((i, o) :: ob) a w Pr β κ := by
  have e : ∀ j, find ((i, o) :: ob) j = find ob j := fun j => by
    by_cases hj : j = i
    · subst hj
      rw [find_eq, hf]
    · rw [find_ne hj]
  exact ⟨h.below, h.st0, h.pr0, h.prn, h.prl, h.size, h.defers, h.slots, fun j oj hj => h.objs j oj (by rw [← e]; exact hj), fun j k oj ok g hj hk => h.apart j k oj ok g (by rw [← e]; exact hj) (by rw [← e]; exact hk), fun j oj g hj => h.own j oj g (by rw [← e]; exact hj), h.keeps, h.fresh⟩
set_option maxRecDepth 20000 in
/-- make([]T, n) -/
theorem st_mkvec {n e eb : Nat} {ez : Value} {k k' : IntKind} {l : List (List D)} (hx : ev sl x = .d (.val (.int k m))) (hy : ev sl y = .d (.val (.int k' m'))) (hT : ti t = .sl e 1 eb ez) (h1 : ez.oneCell' = true) (hm : m = (n : Int)) (hm' : m' = (n : Int)) (hb : eb * n ≤ 281474976710656) (hn : n ≤ 9223372036854775807) (hl : List.replicate n [.val ez] = l) (hd : d < E.n) (hno : noneOf d sl ob = true) :
    Step E ⟨some d, .makeSlice t x y, T, p, af, g⟩ sl ob ((d, .row d 0) :: sl) ((d, .vec e 1 0 l) :: ob) := by
  subst hl
  rintro a w ⟨Pr, β, κ, h⟩ K Q hK
  obtain ⟨hrun, hes, hc⟩ := mk_now w (k := k) (k' := k') hT h1 hm hm' hb hn
  have hx' : Below w.heap.size w (w.alloc (.cells (List.replicate n ez).toArray e)) := (Below.refl _ _).alloc (Nat.le_refl _) _
  unfold Oper.wp
  have hrun2 : (execOp a.eval ⟨some d, .makeSlice t x y, T, p, af, g⟩).run Tryd.prog w = .ok (.value (.slice (some ⟨w.heap.size, 0, none⟩) n n)) (w.alloc (.cells (List.replicate n ez).toArray e)) := by
    simp only [execOp, good_val h hx, good_val h hy, Sem.run_bind, hrun]
    rfl
  rw [hrun2, Oper.upon_value]
  refine hK _ _ (h.newobj hd hno (Pr' := Pr) (v := .slice (some ⟨w.heap.size, 0, none⟩) n n) hx' (fun _ _ h => h) (fun _ _ h => .inl h) (fun g hg => by simp [blk] at hg; omega) ?_ (fun β' κ' e1 e2 _ _ => .row d 0 _ ⟨_, _, _, rfl⟩ (Nat.zero_le _) (fun _ => e1.symm)))
  intro β' κ' e1 e2 e3 e4
  refine ⟨e2, List.replicate n ez, ⟨by simp, .inr ⟨w.heap.size, n, (List.replicate n ez).toArray, by rw [e1, List.length_replicate], Nat.zero_le _, heap_alloc_new w _, by simp, hn, by simp, by simp⟩⟩, fun x hx => ?_, fun q j x z h3 h4 => ?_, fun g hg o ho => ?_⟩
  · rw [List.mem_replicate] at hx
    rw [hx.2]
    rfl
  · obtain ⟨hq, rfl⟩ := rep_get h3
    have hj : j = 0 := by have := (List.getElem?_eq_some_iff.1 h4).1; simp at this; exact this
    subst hj
    simp at h4
    subst h4
    exact ⟨ez, by simp [hq], .val _⟩
  · rw [e1] at hg
    simp only [Value.ownBlock, Option.some.injEq] at hg
    subst hg
    have := h.prl _ _ ho
    omega
theorem aq_prot {x : Exit} {Q : Exit → Go.Act → World → Prop} (r : Nat) {e s k : Nat} {l : List (List D)} (hf : find ob r = some (.vec e s k l)) (h : AQ E x Q sl ((r, .row e s k l) :: ob)) : AQ E x Q sl ob := ⟨fun a w ⟨_, _, _, hg⟩ => h.run a w (hg.protect hf)⟩
set_option maxRecDepth 20000 in
/-- copy(out, l), into all of a slice of one's own -/
theorem st_copyvec {i k e eb : Nat} {ez : Value} {t0 t1 : TypeId} {l : List (List D)} {ds : List D} {A : Array TypeId} (hx : ev sl x = .row i k) (hf : find ob i = some (.vec e 1 k l)) (hy : ToD ob (ev sl y) (.list 1 (ds.map fun z => [z]))) (hA : A = #[t0, t1]) (hT : ti t0 = .sl e 1 eb ez) (hl : ds.length = l.length) (h1 : ∀ z ∈ ds, ∃ v, z = .val v ∧ v.oneCell' = true) (hd : d < E.n) :
    Step E ⟨some d, .call { callee := .builtin .copy, args := #[x, y], argTypes := A }, T, p, af, g⟩ sl ob ((d, .d (.val (.int .i64 ds.length))) :: sl) ((i, .vec e 1 k (ds.map fun z => [z])) :: ob) := by
  subst hA
  rintro a w ⟨Pr, β, κ, h⟩ K Q hK
  obtain ⟨_, j, _, hu, _, hj, _, hsz, _⟩ := ti_sl hT
  have hs1 : (Tryd.prog.info? e).map (·.size) = some 1 := by simp [hj, hsz]
  obtain ⟨hκ, xs, hown, hls, hds, hnp⟩ := h.objs i _ hf
  have hv := good_ev h x
  rw [hx] at hv
  generalize hav : a.eval x = v at hv
  have hvb : v = β i := hv.row_inv hκ.symm
  have hrep := toD_rep h hy (a.eval y) (good_ev h y)
  generalize hay : a.eval y = u at hrep
  generalize hdl : (ds.map fun z => [z]) = dl at hrep
  have hvs : ∃ vs : List Value, vs.length = ds.length ∧ (∀ (q : Nat) (v : Value), vs[q]? = some v → ds[q]? = some (D.val v)) ∧ (∀ v ∈ vs, v.oneCell' = true) := by
    refine ⟨ds.map fun z : D => match z with | D.val v => v | _ => undef, by simp, fun q v hq => ?_, fun v hv => ?_⟩
    · rw [List.getElem?_map, Option.map_eq_some_iff] at hq
      obtain ⟨z, hz, rfl⟩ := hq
      obtain ⟨v, rfl, _⟩ := h1 z (List.mem_of_getElem? hz)
      exact hz
    · obtain ⟨z, hz, rfl⟩ := List.mem_map.1 hv
      obtain ⟨v, rfl, hv1⟩ := h1 z hz
      exact hv1
  obtain ⟨vs, hvl, hvd, hv1⟩ := hvs
  by_cases h0 : ds = []
  · subst h0
    obtain rfl : l = [] := List.eq_nil_of_length_eq_zero hl.symm
    obtain rfl : dl = [] := hdl.symm
    have hrun : (execOp a.eval ⟨some d, .call { callee := .builtin .copy, args := #[x, y], argTypes := #[t0, t1] }, T, p, af, g⟩).run Tryd.prog w = .ok (.value (goInt 0)) w := by
      rcases hown.2 with ⟨hb, _⟩ | ⟨g', cap, cur, hb, hB, hh, hc, hm, hcs, htk⟩
      · rw [hvb, hb] at hav
        cases hrep with
        | nil A' c' _ hc' => simp [execOp, resolve, invoke, builtin, hav, hay, run_copy_none w t0 t1 T e none A' 0 0 0 c' hu hs1 (by simp)]
        | list b o n c' _ _ uu hn _ hc' hm' _ _ =>
          simp at hn
          subst hn
          simp [execOp, resolve, invoke, builtin, hav, hay, run_copy_none w t0 t1 T e none (some ⟨b, o, none⟩) 0 0 0 c' hu hs1 (by simp)]
      · rw [hvb, hb] at hav
        cases hrep with
        | nil A' c' _ hc' => simp [execOp, resolve, invoke, builtin, hav, hay, run_copy_none w t0 t1 T e _ A' 0 cap 0 c' hu hs1 (by simp)]
        | list b o n c' _ _ uu hn _ hc' hm' _ _ =>
          simp at hn
          subst hn
          simp [execOp, resolve, invoke, builtin, hav, hay, run_copy_none w t0 t1 T e _ (some ⟨b, o, none⟩) 0 cap 0 c' hu hs1 (by simp)]
    unfold Oper.wp
    rw [hrun, Oper.upon_value]
    exact hK _ _ ⟨Pr, β, κ, (h.twice hf).put hd (.d _ _ (.val _))⟩
  · have hlp : 0 < l.length := by
      have : 0 < ds.length := List.length_pos_iff.2 h0
      omega
    rcases hown.2 with ⟨_, hb0⟩ | ⟨g', cap, cur, hb, hB, hh, hc, hm, hcs, htk⟩
    · omega
    · rw [hvb, hb] at hav
      cases hrep with
      | nil A' c' _ hc' => exact absurd (List.map_eq_nil_iff.1 hdl) h0
      | list b o n c' _ _ uu hn _ hc' hm' hr' hd' =>
        have hn2 : n = ds.length := by rw [← hn, ← hdl, List.length_map]
        subst hn2
        have hsrc : ∀ q v, vs[q]? = some v → w.cell? ((⟨b, o, none⟩ : Addr).add q) = some v := fun q v hq => by
          have hz := hvd q v hq
          have h2 : dl[q]? = some [.val v] := by rw [← hdl, List.getElem?_map, hz]; rfl
          have h3 := (hr' q 0 _ (.val v) h2 rfl).1
          have h4 := hd' q 0 _ (.val v) h2 rfl
          have h5 : uu q 0 = v := by
            generalize uu q 0 = z at h4
            cases h4
            rfl
          rw [Addr.add_lit, ← h5]
          simpa using h3
        have hcur : cur.size = cap := by rw [hcs, Nat.mul_one]
        have hrun := run_copy_row (P := Tryd.prog) w t0 t1 T e g' 0 l.length cap ⟨b, o, none⟩ ds.length c' cur e vs hu hs1 hh (by rw [hvl, hl]; exact (Nat.min_self _).symm) hsrc (by omega) hv1
        have hrun2 : (execOp a.eval ⟨some d, .call { callee := .builtin .copy, args := #[x, y], argTypes := #[t0, t1] }, T, p, af, g⟩).run Tryd.prog w = .ok (.value (goInt ds.length)) (w.setRow g' (vs ++ cur.toList.drop ds.length).toArray) := by
          have hv3 : vs.length = ds.length := hvl
          simp [execOp, resolve, invoke, builtin, hav, hay, hrun, hv3]
        unfold Oper.wp
        rw [hrun2, Oper.upon_value]
        have hG : Good E sl ((i, .vec e 1 k (ds.map fun z => [z])) :: ob) a (w.setRow g' (vs ++ cur.toList.drop ds.length).toArray) Pr β κ := by
          refine h.setobj2 (T := e) hf (by rw [hb]; rfl) (fun q => hnp g' (by rw [hb]; rfl) q) ⟨_, hh⟩ (fun hkeep => ?_)
          refine ⟨hκ, vs, ⟨by simp [hvl], .inr ⟨g', cap, (vs ++ cur.toList.drop ds.length).toArray, by rw [hb, List.length_map, hl], hB, setRow_heap w g' _ _ _ _ hh, by rw [List.length_map]; omega, hm, by simp [hvl]; omega, ?_⟩⟩, fun x hx => ?_, fun q j x z h3 h4 => ?_, hnp⟩
          · simp only [List.length_map, Nat.mul_one]
            exact List.take_left' hvl
          · obtain ⟨z, _, rfl⟩ := List.mem_map.1 hx
            rfl
          · rw [List.getElem?_map, Option.map_eq_some_iff] at h3
            obtain ⟨z2, hz2, rfl⟩ := h3
            have hj : j = 0 := by have := (List.getElem?_eq_some_iff.1 h4).1; simp at this; exact this
            subst hj
            simp at h4
            subst h4
            have hq : q < vs.length := by rw [hvl]; exact (List.getElem?_eq_some_iff.1 hz2).1
            have hq2 := hvd q _ (List.getElem?_eq_getElem hq)
            rw [hz2] at hq2
            cases hq2
            exact ⟨vs[q], by simp [hq], .val _⟩
        exact hK _ _ ⟨Pr, β, κ, hG.put hd (.d _ _ (.val _))⟩
variable {ops : List Oper} {tail : (World → Prop) → Go.Act → World → Prop} {Q : Exit → Go.Act → World → Prop} {i : Nat} {op : Op} {pl : List (Nat × Bool × Oper)} {sl0 : Slots} {ob0 : Objs}
/-- an operation where it stands; what it says without memory is known later -/
theorem am_nowd {x : V} (hw : Want ops sl true g) (h : Y E ⟨some d, op, ty, p, af, g⟩ sl ob x) (hd : d < E.n) (hK : AM E ops tail Q pl ((d, flatV x) :: sl0) ob0 ((d, x) :: sl) ob) : AM E ops tail Q ((i, false, ⟨some d, op, ty, p, af, g⟩) :: pl) sl0 ob0 sl ob :=
  ⟨fun a w0 w Pr Pr1 β β1 κ κ1 h0 h1 hn => by
    obtain ⟨v, hv, hr⟩ := h a w Pr1 β1 κ1 h1
    refine mix_move (hw.is h1) (fun K hKK => ?_)
    unfold Oper.wp
    rw [hr w (Kept.refl _ _ _ _), Oper.upon_value]
    refine hKK.out _ _ hn.kept fun _ => hK.run _ w0 w Pr Pr1 β β1 κ κ1 (h0.put hd ?_) (h1.put hd hv) hn
    cases x with
    | d z => exact rep_flat hv.d_inv
    | _ => exact .und _⟩
end
end Go.Proofs.YtfgibalcdjlnhaaDoor
end
section
namespace Go.Proofs.YtfgibalcdjlnhaaDoor
open Go.ChangeShapes Go.WideShapes Go.ChangeAt Go.RowKit Go.Deep Go.Joins

theorem own : ownKnob Tryd.prog.godebug = none := by kernel_rfl
theorem laidOut : laidOutB Tryd.prog = true := by kernel_rfl

section
variable {H : Type} {enc : TypeId × Value → H} {P : Program}
theorem trodAll_below (hl : laidOutB P = true) {W W' : World} (hb : Below W.heap.size W W') : ∀ {ts : List TypeId} {vs : List Value} {ds : List (DataW H)} {ps : List MemPlace},
    (ts.all fun t => P.readableRec t && decide (t < P.types.size)) = true → DataW.TrodAll enc P W 0 (fun _ => true) true ts vs ds ps → (∀ x ∈ ps, x.block < W.heap.size) →
    DataW.TrodAll enc P W' 0 (fun b => decide (b < W.heap.size)) true ts vs ds ps
  | [], vs, ds, ps, _, h, _ => by
    obtain ⟨rfl, rfl, rfl⟩ := trodAll_nil h
    exact trodAll_mk0
  | t :: ts, vs, ds, ps, hk, h, hlt => by
    obtain ⟨v, vs', d, ds', p, p', rfl, rfl, rfl, h0, hr⟩ := trodAll_cons h
    simp only [List.all_cons, Bool.and_eq_true, decide_eq_true_eq] at hk
    exact trodAll_cons_mk (Below.trod hl hk.1.1 hk.1.2 h0 hb (fun x hx => hlt x (List.mem_append_left _ hx))) (trodAll_below hl hb hk.2 hr (fun x hx => hlt x (List.mem_append_right _ hx)))

/-- A law's post: true; the arguments read as they did. -/
theorem law_post {f : Func} {s : ChangeSpec} {W W' : World} {args : Array Value} {ds gs : List (DataW H)} {before : List MemPlace} {tb : TypeId}
    (hl : laidOutB P = true) (hbool : P.underlying tb = some .bool) (hres : f.resultTypes = #[tb]) (hpar : (f.params.toList.all fun t => P.readableRec t && decide (t < P.types.size)) = true)
    (hvars : s.vars = []) (hW : DataW.Whole enc P f.params.toList s.vars false W args.toList ds gs before)
    (hfn : s.fn H (ds ++ gs) = { results := [.lit (.bool true)], args := ds }) (hb : Below W.heap.size W W') :
    s.post enc P f false true false false W args (.bool true) W' := by
  have hW' := hW
  obtain ⟨p, q, hA, hV, rfl, _, _⟩ := hW
  rw [hvars] at hV
  obtain ⟨rfl, rfl⟩ := trodVars_none hV
  have hA' : DataW.TrodAll enc P W 0 (fun _ => true) true f.params.toList args.toList ds p := hA
  refine ⟨ds, [], p ++ [], [], p, [], hW', ?_, ?_, ?_, hb.frame _, fun h => by cases h⟩
  · rw [hfn, hres]
    exact trodAll_cons_mk (shut_bool hbool true) trodAll_mk0
  · rw [hfn]
    exact trodAll_below hl hb hpar hA' hA'.lt
  · rw [hfn, hvars]
    rfl

/-- A slice of structs of two ints that came in. -/
theorem open_two {w : World} {base : Nat} {t e ti : TypeId} {f0 f1 : Field} {fuel : Nat} {A : Option Addr} {n c : Nat} {x : DataW H × List MemPlace} {B : Nat}
    (ht : P.underlying t = some (.slice e)) (he : P.underlying e = some (.struct #[f0, f1])) (h0 : f0.type = ti) (h1 : f1.type = ti) (hi : P.underlying ti = some (.int .i64))
    (ce : P.cellsOf e = 2) (o0 : f0.offset = 0) (o1 : f1.offset = 1) (ci : P.cellsOf ti = 1)
    (hlt : ∀ y ∈ x.2, y.block < B) (h : DataW.trod enc P w base (fun _ => true) true fuel t [.slice A n c] = some x) :
    ∃ l : List P2, l.length = n ∧ Two w B A l ∧ n ≤ c ∧ c ≤ maxLen := by
  rcases open_slice_pairs ht he ce o0 o1 (by rw [h0]; exact ci) (by rw [h1]; exact ci) h with ⟨hcs, _⟩ | ⟨a, len, cap, m, k, V0, V1, D0, D1, P0, P1, hcs, hb, hl, hm, hmm, hx, hf⟩
  · simp only [List.cons.injEq, Value.slice.injEq, and_true] at hcs
    obtain ⟨rfl, rfl, rfl⟩ := hcs
    exact ⟨[], rfl, Shows.empty _ _ _ _, Nat.le_refl _, Nat.zero_le _⟩
  · simp only [List.cons.injEq, Value.slice.injEq, and_true] at hcs
    obtain ⟨rfl, rfl, rfl⟩ := hcs
    simp only [if_true] at hmm
    subst hmm
    have hint : ∀ i, i < n → ∃ p : P2, V0 i = .int .i64 p.a ∧ V1 i = .int .i64 p.b := by
      intro i hin
      obtain ⟨_, _, g0, g1⟩ := hf i (by omega)
      rw [h0] at g0
      rw [h1] at g1
      obtain ⟨z0, e0, _⟩ := DataW.trod_int hi g0
      obtain ⟨z1, e1, _⟩ := DataW.trod_int hi g1
      simp only [List.cons.injEq, and_true] at e0 e1
      exact ⟨⟨z0, z1⟩, e0, e1⟩
    haveI : Inhabited P2 := ⟨⟨0, 0⟩⟩
    obtain ⟨p, hp⟩ := choose_lt hint
    have hlen : ((List.range n).map p).length = n := by simp
    refine ⟨(List.range n).map p, hlen, ⟨P2.length _, fun hn => ?_⟩, hl, hm⟩
    rw [hlen] at hn
    obtain ⟨b, o, spot⟩ := a
    have hc0 := (hf 0 (by omega)).1
    have hspot : spot = none := by simpa [Addr.add] using World.cell?_spot hc0
    subst hspot
    refine ⟨b, o, rfl, hlt (.cell b o) ?_, fun j u hu => ?_⟩
    · rw [hx]
      exact List.mem_append_left _ (MemPlace.mem_row.2 ⟨0, by omega, by simp⟩)
    · have hj : j < n * 2 := by
        have := (List.getElem?_eq_some_iff.1 hu).1
        rw [P2.length, hlen] at this
        exact this
      obtain ⟨k, hk⟩ : ∃ k, j = k * 2 ∨ j = k * 2 + 1 := ⟨j / 2, by omega⟩
      have hkn : k < n := by omega
      have hg := P2.get ((List.range n).map p) k (by rw [hlen]; exact hkn)
      obtain ⟨c0, c1, _, _⟩ := hf k (by omega)
      rw [add_plain] at c0 c1
      rcases hk with rfl | rfl
      · rw [hg.1] at hu
        cases hu
        rw [c0, (hp k hkn).1]
        simp
      · rw [hg.2] at hu
        cases hu
        rw [show o + (k * 2 + 1) = o + (k * 2 + 1) from rfl, c1, (hp k hkn).2]
        simp

/-- A slice of ints of one kind that came in. -/
theorem open_nums {k : IntKind} {w : World} {base : Nat} {t e : TypeId} {fuel : Nat} {A : Option Addr} {n c : Nat} {x : DataW H × List MemPlace} {B : Nat}
    (ht : P.underlying t = some (.slice e)) (he : P.underlying e = some (.int k)) (ce : P.cellsOf e = 1)
    (hlt : ∀ y ∈ x.2, y.block < B) (h : DataW.trod enc P w base (fun _ => true) true fuel t [.slice A n c] = some x) :
    ∃ l : List Int, l.length = n ∧ Shows w B 1 A l.length (l.map (Value.int k)) ∧ n ≤ c ∧ c ≤ maxLen ∧ ∀ z ∈ l, (Lit.int k z).wf = true := by
  rcases open_ints ht he ce h with ⟨hcs, _⟩ | ⟨a, len, cap, zs, hcs, hb, hl, hm, hz, hx, hc, hwf⟩
  · simp only [List.cons.injEq, Value.slice.injEq, and_true] at hcs
    obtain ⟨rfl, rfl, rfl⟩ := hcs
    exact ⟨[], rfl, Shows.empty _ _ _ _, Nat.le_refl _, Nat.zero_le _, fun z hz => by simp at hz⟩
  · simp only [List.cons.injEq, Value.slice.injEq, and_true] at hcs
    obtain ⟨rfl, rfl, rfl⟩ := hcs
    simp only [if_true] at hz
    have hlen : (zs.take n).length = n := by simp; omega
    refine ⟨zs.take n, hlen, ⟨by simp, fun hn => ?_⟩, hl, hm, fun z hz => hwf z (List.mem_of_mem_take hz)⟩
    rw [hlen] at hn
    obtain ⟨b, o, spot⟩ := a
    have hspot : spot = none := by simpa [Addr.add] using World.cell?_spot (hc 0 (by omega))
    subst hspot
    refine ⟨b, o, rfl, hlt (.cell b o) ?_, fun j u hu => ?_⟩
    · rw [hx]
      exact MemPlace.mem_row.2 ⟨0, by omega, by simp⟩
    · have hj : j < n := by
        have := (List.getElem?_eq_some_iff.1 hu).1
        simp only [List.length_map, hlen] at this
        exact this
      have := hc j (by omega)
      rw [add_plain] at this
      rw [this]
      simp only [List.getElem?_map, List.getElem?_take, hj, if_true] at hu
      rw [← hu]
      simp [List.getD, List.getElem?_eq_getElem (show j < zs.length by omega)]
end
end Go.Proofs.YtfgibalcdjlnhaaDoor
end
section
namespace Go.Proofs.YtfgibalcdjlnhaaDoor
open Go.ChangeShapes Go.WideShapes Go.ChangeAt Go.RowKit Go.Deep Go.Joins

theorem open_string {H : Type} {enc : TypeId × Value → H} {P : Program} {w : World} {base : Nat} {spare : Nat → Bool} {held : Bool} {r : Reach} {b0 : Nat} {t : TypeId} {v : Value} {d : DataW H} {ps : List MemPlace} (ht : P.underlying t = some .string)
    (hval : Value.okWide P w r b0 t v) (hd : DataW.Trod enc P w base spare held t v d ps) : ∃ s : ByteArray, v = .string s ∧ d = .lit (.string s.data.toList) ∧ ps = [] ∧ s.size ≤ maxLen := by
  obtain ⟨s, rfl⟩ := okWide_string ht hval
  obtain ⟨fuel, hf⟩ := hd
  obtain ⟨s', h, hx, hw⟩ := DataW.trod_string ht hf
  simp [Value.cells] at h
  subst h
  simp only [Prod.mk.injEq] at hx
  exact ⟨s, rfl, hx.1, hx.2, hw⟩
theorem reps_nil {w : World} {Pr : Prot} : ∀ (i : Nat) (v : Value) (d : D), ([] : List Value)[i]? = some v → ([] : List D)[i]? = some d → RepD w Pr v d := by simp
theorem reps_cons {w : World} {Pr : Prot} {v : Value} {d : D} {vs : List Value} {ds : List D} (h : RepD w Pr v d) (hr : ∀ (i : Nat) (v : Value) (d : D), vs[i]? = some v → ds[i]? = some d → RepD w Pr v d) :
    ∀ (i : Nat) (u : Value) (e : D), (v :: vs)[i]? = some u → (d :: ds)[i]? = some e → RepD w Pr u e
  | 0, _, _, h1, h2 => by cases h1; cases h2; exact h
  | i + 1, u, e, h1, h2 => hr i u e h1 h2
section
variable {H : Type} {enc : TypeId × Value → H}
/-- Elements that are shown by lists of scalars make a list. -/
theorem rep_rows {α : Type} [Inhabited α] {w : World} {base es n c : Nat} {a : Addr} (f : α → List D) (Q : α → Prop) (hpos : 0 < es) (hc : n ≤ c) (hm : c ≤ maxLen)
    (h : ∀ i, i < n → ∃ (x : α) (cs : List Value), Q x ∧ w.cells? base (a.add (i * es)) es = some cs ∧ (f x).length = es ∧ ∀ j, j < es → ∃ v, cs[j]? = some v ∧ (f x)[j]? = some (.val v)) :
    ∃ l : List α, l.length = n ∧ (∀ x ∈ l, Q x) ∧ RepD w (fun b _ => b < w.heap.size) (.slice (some a) n c) (.list es (l.map f)) := by
  rcases Nat.eq_zero_or_pos n with h0 | h0
  · subst h0
    exact ⟨[], rfl, by simp, .nil _ _ _ hm⟩
  have h' : ∀ i, ∃ x : α, i < n → ∃ (cs : List Value), Q x ∧ w.cells? base (a.add (i * es)) es = some cs ∧ (f x).length = es ∧ ∀ j, j < es → ∃ v, cs[j]? = some v ∧ (f x)[j]? = some (.val v) := by
    intro i
    by_cases hi : i < n
    · obtain ⟨x, cs, hx⟩ := h i hi
      exact ⟨x, fun _ => ⟨cs, hx⟩⟩
    · exact ⟨default, fun h => absurd h hi⟩
  let g : Nat → α := fun i => Classical.choose (h' i)
  have hg : ∀ i, i < n → ∃ (cs : List Value), Q (g i) ∧ w.cells? base (a.add (i * es)) es = some cs ∧ (f (g i)).length = es ∧ ∀ j, j < es → ∃ v, cs[j]? = some v ∧ (f (g i))[j]? = some (.val v) := fun i hi => Classical.choose_spec (h' i) hi
  obtain ⟨b, o, spot⟩ := a
  have hspot : spot = none := by
    obtain ⟨cs, _, h1, hl, h2⟩ := hg 0 h0
    obtain ⟨v, h3, hv⟩ := h2 0 hpos
    have hc0 := (World.cells?_some h1).2.2 0 hpos
    rw [h3] at hc0
    simpa [Addr.add] using World.cell?_spot hc0
  subst hspot
  have hcell : ∀ i j v, i < n → j < es → (f (g i))[j]? = some (.val v) → w.cell? ⟨b, o + (i * es + j), none⟩ = some v := by
    intro i j v hi hj hv
    obtain ⟨cs, _, h1, _, h2⟩ := hg i hi
    obtain ⟨u, h3, h4⟩ := h2 j hj
    rw [hv] at h4
    cases h4
    have h5 := (World.cells?_some h1).2.2 j hj
    rw [h3, add_plain, add_plain, Nat.add_assoc] at h5
    exact h5
  have hb : b < w.heap.size := by
    obtain ⟨cs, _, h1, _, _⟩ := hg 0 h0
    have := World.cells?_block h1 hpos
    simpa [Addr.add] using this
  refine ⟨(List.range n).map g, by simp, fun x hx => ?_, ?_⟩
  · obtain ⟨j, hj, rfl⟩ := List.mem_map.1 hx
    obtain ⟨_, h1, _⟩ := hg j (List.mem_range.1 hj)
    exact h1
  · have hval : ∀ (i j : Nat) (e : List D) (d : D), (((List.range n).map g).map f)[i]? = some e → e[j]? = some d → i < n ∧ j < es ∧ e = f (g i) ∧ ∃ v, d = .val v := by
      intro i j e d h1 h2
      rw [List.getElem?_map, List.getElem?_map, Option.map_eq_some_iff] at h1
      obtain ⟨x, h3, rfl⟩ := h1
      rw [Option.map_eq_some_iff] at h3
      obtain ⟨k, h4, rfl⟩ := h3
      have hi : i < n := by have := (List.getElem?_eq_some_iff.1 h4).1; simpa using this
      have hk : k = i := by simpa [hi] using h4.symm
      subst hk
      obtain ⟨_, _, _, hl, h5⟩ := hg k hi
      have hj : j < es := by have := (List.getElem?_eq_some_iff.1 h2).1; omega
      obtain ⟨v, _, h6⟩ := h5 j hj
      rw [h2] at h6
      cases h6
      exact ⟨hi, hj, rfl, v, rfl⟩
    refine .list b o n c es _ (fun i j => match (f (g i))[j]? with | some (.val v) => v | _ => undef) (by simp) (fun e he => ?_) hc hm (fun i j e d h1 h2 => ?_) (fun i j e d h1 h2 => ?_)
    · obtain ⟨x, hx, rfl⟩ := List.mem_map.1 he
      obtain ⟨j, hj, rfl⟩ := List.mem_map.1 hx
      obtain ⟨_, _, _, h1, _⟩ := hg j (List.mem_range.1 hj)
      exact h1
    · obtain ⟨hi, hj, rfl, v, rfl⟩ := hval i j e d h1 h2
      have := hcell i j v hi hj h2
      refine ⟨?_, hb⟩
      rw [h2, Nat.add_assoc]
      exact this
    · obtain ⟨hi, hj, rfl, v, rfl⟩ := hval i j e d h1 h2
      rw [h2]
      exact .val v
end
end Go.Proofs.YtfgibalcdjlnhaaDoor
end
section
namespace Go.Proofs.YtfgibalcdjlnhaaDoor
open Go.ChangeShapes Go.WideShapes Go.ChangeAt Go.RowKit Go.Deep Go.Joins

section
variable {H : Type} {enc : TypeId × Value → H} {P : Program} {w : World} {base : Nat}
/-- Cells that read at type t show some a, by f. -/
def Show (enc : TypeId × Value → H) (P : Program) (w : World) (base : Nat) (t : TypeId) (c : Nat) {α : Type} (f : α → List D) (Q : α → Prop) : Prop :=
  ∀ (fuel : Nat) (cs : List Value) (x : DataW H × List MemPlace), DataW.trod enc P w base (fun _ => true) true fuel t cs = some x →
    cs.length = c ∧ ∃ a, Q a ∧ (f a).length = c ∧ ∀ (j : Nat) (v : Value) (d : D), cs[j]? = some v → (f a)[j]? = some d → RepD w (fun b _ => b < w.heap.size) v d
theorem show_one {α : Type} {t : TypeId} {g : α → D} {Q : α → Prop} (h : ∀ (fuel : Nat) (cs : List Value) (x : DataW H × List MemPlace), DataW.trod enc P w base (fun _ => true) true fuel t cs = some x → ∃ v a, cs = [v] ∧ Q a ∧ RepD w (fun b _ => b < w.heap.size) v (g a)) :
    Show enc P w base t 1 (fun a => [g a]) Q := by
  intro fuel cs x hx
  obtain ⟨v, a, rfl, ha, hr⟩ := h fuel cs x hx
  refine ⟨rfl, a, ha, rfl, fun j u d h1 h2 => ?_⟩
  cases j with
  | zero => cases h1; cases h2; exact hr
  | succ j => cases h1
theorem show_int {t : TypeId} {k : IntKind} (ht : P.underlying t = some (.int k)) : Show enc P w base t 1 (fun n : Int => [.val (.int k n)]) (fun n => k.min ≤ n ∧ n ≤ k.max) :=
  show_one (g := fun n : Int => .val (.int k n)) fun fuel cs x hx => by
    obtain ⟨n, rfl, _, hw⟩ := DataW.trod_int ht hx
    exact ⟨_, n, rfl, by simpa [Lit.wf] using hw, .val _⟩
theorem show_string {t : TypeId} (ht : P.underlying t = some .string) : Show enc P w base t 1 (fun s : ByteArray => [.str s]) (fun s => s.size ≤ maxLen) :=
  show_one (g := fun s : ByteArray => .str s) fun fuel cs x hx => by
    obtain ⟨s, rfl, _, hw⟩ := DataW.trod_string ht hx
    exact ⟨_, s, rfl, hw, .val _⟩
/-- A list of what its elements show. -/
theorem show_list {α : Type} {t e : TypeId} {es : Nat} {f : α → List D} {Q : α → Prop} (ht : P.underlying t = some (.slice e)) (hc : P.cellsOf e = es) (hpos : 0 < es) (he : Show enc P w base e es f Q) :
    Show enc P w base t 1 (fun l : List α => [.list es (l.map f)]) (fun l => l.length ≤ maxLen ∧ ∀ x ∈ l, Q x) :=
  show_one (g := fun l : List α => .list es (l.map f)) fun fuel cs x hx => by
    rcases open_slice ht hx with ⟨rfl, _⟩ | ⟨a, len, cap, m, k, Dt, Pl, rfl, hb, hl, hm, hmm, _, hf⟩
    · exact ⟨_, [], rfl, ⟨Nat.zero_le _, by simp⟩, .nil _ _ _ (Nat.zero_le _)⟩
    · refine ⟨.slice (some a) len cap, ?_⟩
      simp only [if_true] at hmm
      subst hmm
      rw [hc] at hf
      rcases Nat.eq_zero_or_pos len with h0 | h0
      · subst h0
        exact ⟨[], rfl, ⟨Nat.zero_le _, by simp⟩, .nil _ _ _ hm⟩
      have h1 : ∀ i, i < len → ∃ y : α × List Value, Q y.1 ∧ w.cells? base (a.add (i * es)) es = some y.2 ∧ y.2.length = es ∧ (f y.1).length = es ∧ ∀ (j : Nat) (v : Value) (d : D), y.2[j]? = some v → (f y.1)[j]? = some d → RepD w (fun b _ => b < w.heap.size) v d := by
        intro i hi
        obtain ⟨cs, hcell, htr⟩ := hf i (by omega)
        obtain ⟨h2, y, h3, h4, h5⟩ := he _ _ _ htr
        exact ⟨(y, cs), h3, hcell, h2, h4, h5⟩
      haveI : Inhabited (α × List Value) := ⟨Classical.choose (h1 0 h0)⟩
      obtain ⟨g, hg⟩ := choose_lt h1
      obtain ⟨b, o, spot⟩ := a
      have hspot : spot = none := by
        obtain ⟨_, h2, h3, _, _⟩ := hg 0 h0
        have h4 := (World.cells?_some h2).2.2 0 hpos
        rw [List.getElem?_eq_getElem (by omega)] at h4
        simpa [Addr.add] using World.cell?_spot h4
      subst hspot
      have hblk : b < w.heap.size := by
        obtain ⟨_, h2, _⟩ := hg 0 h0
        have := World.cells?_block h2 hpos
        simpa [Addr.add] using this
      refine ⟨(List.range len).map fun i => (g i).1, rfl, ⟨?_, fun x hx => ?_⟩, ?_⟩
      · simp only [List.length_map, List.length_range]
        omega
      · obtain ⟨j, hj, rfl⟩ := List.mem_map.1 hx
        exact (hg j (List.mem_range.1 hj)).1
      have hval : ∀ (i j : Nat) (e : List D) (d : D), (((List.range len).map fun i => (g i).1).map f)[i]? = some e → e[j]? = some d → i < len ∧ j < es ∧ e = f (g i).1 ∧ ∃ v, (g i).2[j]? = some v := by
        intro i j e d h2 h3
        rw [List.getElem?_map, List.getElem?_map, Option.map_eq_some_iff] at h2
        obtain ⟨x, h4, rfl⟩ := h2
        rw [Option.map_eq_some_iff] at h4
        obtain ⟨k, h5, rfl⟩ := h4
        have hi : i < len := by have := (List.getElem?_eq_some_iff.1 h5).1; simpa using this
        have hk : k = i := by simpa [hi] using h5.symm
        subst hk
        obtain ⟨_, _, h6, h7, _⟩ := hg k hi
        have hj : j < es := by have := (List.getElem?_eq_some_iff.1 h3).1; omega
        exact ⟨hi, hj, rfl, _, List.getElem?_eq_getElem (by omega)⟩
      refine .list b o len m es _ (fun i j => ((g i).2[j]?).getD undef) (by simp) (fun e he => ?_) hl hm (fun i j e d h2 h3 => ?_) (fun i j e d h2 h3 => ?_)
      · obtain ⟨x, hx, rfl⟩ := List.mem_map.1 he
        obtain ⟨j, hj, rfl⟩ := List.mem_map.1 hx
        exact (hg j (List.mem_range.1 hj)).2.2.2.1
      · obtain ⟨hi, hj, rfl, v, hv⟩ := hval i j e d h2 h3
        refine ⟨?_, hblk⟩
        obtain ⟨_, h4, _⟩ := hg i hi
        have h5 := (World.cells?_some h4).2.2 j hj
        rw [hv, add_plain, add_plain] at h5
        rw [hv]
        exact h5
      · obtain ⟨hi, hj, rfl, v, hv⟩ := hval i j e d h2 h3
        rw [hv]
        exact (hg i hi).2.2.2.2 j v d hv h3
/-- Fields from an offset on. -/
def ShowFs (enc : TypeId × Value → H) (P : Program) (w : World) (base : Nat) (o : Nat) (fs : List Field) (c : Nat) {α : Type} (f : α → List D) (Q : α → Prop) : Prop :=
  ∀ (n : Nat) (cs : List Value), (∀ (i : Nat) (fl : Field), fs[i]? = some fl → ∃ y, DataW.trod enc P w base (fun _ => true) true n fl.type ((cs.drop fl.offset).take (P.cellsOf fl.type)) = some y) →
    ∃ a, Q a ∧ (f a).length = c ∧ ∀ (j : Nat) (v : Value) (d : D), cs[o + j]? = some v → (f a)[j]? = some d → RepD w (fun b _ => b < w.heap.size) v d
theorem shows_nil {o : Nat} : ShowFs enc P w base o [] 0 (fun _ : Unit => []) (fun _ => True) := fun _ _ _ => ⟨(), trivial, rfl, fun j v d _ h => by cases h⟩
theorem shows_cons {α β : Type} {fl : Field} {o c c' : Nat} {fs : List Field} {f : α → List D} {Q : α → Prop} {g : β → List D} {R : β → Prop} (h : Show enc P w base fl.type c f Q) (ho : fl.offset = o) (hc : P.cellsOf fl.type = c)
    (hr : ShowFs enc P w base (o + c) fs c' g R) : ShowFs enc P w base o (fl :: fs) (c + c') (fun x : α × β => f x.1 ++ g x.2) (fun x => Q x.1 ∧ R x.2) := by
  intro n cs hcs
  obtain ⟨y, hy⟩ := hcs 0 fl rfl
  obtain ⟨_, a, h1, h2, h3⟩ := h _ _ _ hy
  obtain ⟨b, h4, h5, h6⟩ := hr n cs fun i f hf => hcs (i + 1) f hf
  refine ⟨(a, b), ⟨h1, h4⟩, by simp [h2, h5], fun j v d hv hd => ?_⟩
  have hd : (f a ++ g b)[j]? = some d := hd
  by_cases hj : j < c
  · rw [List.getElem?_append_left (by omega)] at hd
    refine h3 j v d ?_ hd
    rw [ho, hc, List.getElem?_take, if_pos hj, List.getElem?_drop]
    exact hv
  · rw [List.getElem?_append_right (by omega), h2] at hd
    refine h6 (j - c) v d ?_ hd
    rw [show o + c + (j - c) = o + j by omega]
    exact hv
theorem show_struct {α : Type} {t : TypeId} {fs : Array Field} {c : Nat} {f : α → List D} {Q : α → Prop} (ht : P.underlying t = some (.struct fs)) (hc : P.cellsOf t = c) (h : ShowFs enc P w base 0 fs.toList c f Q) : Show enc P w base t c f Q := by
  intro fuel cs x hx
  obtain ⟨xs, n, _, _, hl, hlen, hf⟩ := DataW.trod_struct ht hx
  obtain ⟨a, h1, h2, h3⟩ := h n cs fun i fl hfl => by
    have hfl' : fs[i]? = some fl := by simpa using hfl
    have hi : i < fs.size := (Array.getElem?_eq_some_iff.1 hfl').1
    exact ⟨_, (hf i fl hfl').trans (List.getElem?_eq_getElem (by omega))⟩
  exact ⟨hl.trans hc, a, h1, h2, fun j v d hv hd => h3 j v d (by simpa using hv) hd⟩
theorem Show.as {α β : Type} {t : TypeId} {c : Nat} {f : α → List D} {Q : α → Prop} (h : Show enc P w base t c f Q) (g : β → List D) (R : β → Prop) (m : α → β) (hg : ∀ a, g (m a) = f a) (hR : ∀ a, Q a → R (m a)) : Show enc P w base t c g R := by
  intro fuel cs x hx
  obtain ⟨h1, a, h2, h3, h4⟩ := h fuel cs x hx
  exact ⟨h1, m a, hR a h2, by rw [hg]; exact h3, by rw [hg]; exact h4⟩
/-- A value that came in, of one cell. -/
theorem open_one {α : Type} {t : TypeId} {g : α → D} {Q : α → Prop} {v : Value} {d : DataW H} {ps : List MemPlace} (h : Show enc P w base t 1 (fun a => [g a]) Q) (hv : v.cells = #[v]) (hd : DataW.Trod enc P w base (fun _ => true) true t v d ps) :
    ∃ a, Q a ∧ RepD w (fun b _ => b < w.heap.size) v (g a) := by
  obtain ⟨fuel, hf⟩ := hd
  rw [hv] at hf
  obtain ⟨_, a, h1, _, h2⟩ := h _ _ _ hf
  exact ⟨a, h1, h2 0 v (g a) rfl rfl⟩
/-- A struct that came in. -/
theorem open_struct {α : Type} {t : TypeId} {c : Nat} {f : α → List D} {Q : α → Prop} {v : Value} {d : DataW H} {ps : List MemPlace} (h : Show enc P w base t c f Q) (cs : Array Value) (hv : v = .agg cs) (hd : DataW.Trod enc P w base (fun _ => true) true t v d ps) :
    ∃ a, Q a ∧ RepD w (fun b _ => b < w.heap.size) v (.agg (f a)) := by
  subst hv
  obtain ⟨fuel, hf⟩ := hd
  obtain ⟨h0, a, h1, h2, h3⟩ := h _ _ _ hf
  obtain ⟨l⟩ := cs
  have hl : l.length = c := by simpa [Value.cells] using h0
  exact ⟨a, h1, .agg l (f a) (by omega) fun i v d hv hd => h3 i v d (by simpa [Value.cells] using hv) hd⟩
end
end Go.Proofs.YtfgibalcdjlnhaaDoor
end
