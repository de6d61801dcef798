/-
  From a walk of a law to what its row asks: it returns true, and each argument reads as it did. Conditions: only memory of the call's own has turned.
-/
import Derived.Test.YtabaflklognhaaaRows
import Derived.Test.YtabaflklognhaaaBase
import Derived.ProofKit
import Derived.OpenShut
import Derived.ChangeOld
import Derived.SizedLaws
import Derived.Deep.SlicePairs
import Derived.Lib.SmallJoins
namespace Go.Proofs.Ytabaflklognhaaa
open Go.ChangeShapes Go.WideShapes Go.ChangeAt Go.RowKit Go.Deep Go.Joins

theorem own : ownKnob Try.prog.godebug = none := by kernel_rfl
theorem laidOut : laidOutB Try.prog = true := by kernel_rfl

section
variable {H : Type} {enc : TypeId × Value → H} {P : Program}
theorem trodAll_below (hl : laidOutB P = true) {W W' : World} (hb : Below W.heap.size W W') : ∀ {ts : List TypeId} {vs : List Value} {ds : List (DataW H)} {ps : List MemPlace},
    (ts.all fun t => P.readableRec t && decide (t < P.types.size)) = true → DataW.TrodAll enc P W 0 (fun _ => true) true ts vs ds ps → (∀ x ∈ ps, x.block < W.heap.size) →
    DataW.TrodAll enc P W' 0 (fun b => decide (b < W.heap.size)) true ts vs ds ps
  | [], vs, ds, ps, _, h, _ => by
    obtain ⟨rfl, rfl, rfl⟩ := trodAll_nil h
    exact trodAll_mk0
  | t :: ts, vs, ds, ps, hk, h, hlt => by
    obtain ⟨v, vs', d, ds', p, p', rfl, rfl, rfl, h0, hr⟩ := trodAll_cons h
    simp only [List.all_cons, Bool.and_eq_true, decide_eq_true_eq] at hk
    exact trodAll_cons_mk (Below.trod hl hk.1.1 hk.1.2 h0 hb (fun x hx => hlt x (List.mem_append_left _ hx))) (trodAll_below hl hb hk.2 hr (fun x hx => hlt x (List.mem_append_right _ hx)))

/-- A law's post: true; the arguments read as they did. -/
theorem law_post {f : Func} {s : ChangeSpec} {W W' : World} {args : Array Value} {ds gs : List (DataW H)} {before : List MemPlace} {tb : TypeId}
    (hl : laidOutB P = true) (hbool : P.underlying tb = some .bool) (hres : f.resultTypes = #[tb]) (hpar : (f.params.toList.all fun t => P.readableRec t && decide (t < P.types.size)) = true)
    (hvars : s.vars = []) (hW : DataW.Whole enc P f.params.toList s.vars false W args.toList ds gs before)
    (hfn : s.fn H (ds ++ gs) = { results := [.lit (.bool true)], args := ds }) (hb : Below W.heap.size W W') :
    s.post enc P f false true false false W args (.bool true) W' := by
  have hW' := hW
  obtain ⟨p, q, hA, hV, rfl, _, _⟩ := hW
  rw [hvars] at hV
  obtain ⟨rfl, rfl⟩ := trodVars_none hV
  have hA' : DataW.TrodAll enc P W 0 (fun _ => true) true f.params.toList args.toList ds p := hA
  refine ⟨ds, [], p ++ [], [], p, [], hW', ?_, ?_, ?_, hb.frame _, fun h => by cases h⟩
  · rw [hfn, hres]
    exact trodAll_cons_mk (shut_bool hbool true) trodAll_mk0
  · rw [hfn]
    exact trodAll_below hl hb hpar hA' hA'.lt
  · rw [hfn, hvars]
    rfl

/-- A slice of structs of two ints that came in. -/
theorem open_two {w : World} {base : Nat} {t e ti : TypeId} {f0 f1 : Field} {fuel : Nat} {A : Option Addr} {n c : Nat} {x : DataW H × List MemPlace} {B : Nat}
    (ht : P.underlying t = some (.slice e)) (he : P.underlying e = some (.struct #[f0, f1])) (h0 : f0.type = ti) (h1 : f1.type = ti) (hi : P.underlying ti = some (.int .i64))
    (ce : P.cellsOf e = 2) (o0 : f0.offset = 0) (o1 : f1.offset = 1) (ci : P.cellsOf ti = 1)
    (hlt : ∀ y ∈ x.2, y.block < B) (h : DataW.trod enc P w base (fun _ => true) true fuel t [.slice A n c] = some x) :
    ∃ l : List P2, l.length = n ∧ Two w B A l ∧ n ≤ c ∧ c ≤ maxLen := by
  rcases open_slice_pairs ht he ce o0 o1 (by rw [h0]; exact ci) (by rw [h1]; exact ci) h with ⟨hcs, _⟩ | ⟨a, len, cap, m, k, V0, V1, D0, D1, P0, P1, hcs, hb, hl, hm, hmm, hx, hf⟩
  · simp only [List.cons.injEq, Value.slice.injEq, and_true] at hcs
    obtain ⟨rfl, rfl, rfl⟩ := hcs
    exact ⟨[], rfl, Shows.empty _ _ _ _, Nat.le_refl _, Nat.zero_le _⟩
  · simp only [List.cons.injEq, Value.slice.injEq, and_true] at hcs
    obtain ⟨rfl, rfl, rfl⟩ := hcs
    simp only [if_true] at hmm
    subst hmm
    have hint : ∀ i, i < n → ∃ p : P2, V0 i = .int .i64 p.a ∧ V1 i = .int .i64 p.b := by
      intro i hin
      obtain ⟨_, _, g0, g1⟩ := hf i (by omega)
      rw [h0] at g0
      rw [h1] at g1
      obtain ⟨z0, e0, _⟩ := DataW.trod_int hi g0
      obtain ⟨z1, e1, _⟩ := DataW.trod_int hi g1
      simp only [List.cons.injEq, and_true] at e0 e1
      exact ⟨⟨z0, z1⟩, e0, e1⟩
    haveI : Inhabited P2 := ⟨⟨0, 0⟩⟩
    obtain ⟨p, hp⟩ := choose_lt hint
    have hlen : ((List.range n).map p).length = n := by simp
    refine ⟨(List.range n).map p, hlen, ⟨P2.length _, fun hn => ?_⟩, hl, hm⟩
    rw [hlen] at hn
    obtain ⟨b, o, spot⟩ := a
    have hc0 := (hf 0 (by omega)).1
    have hspot : spot = none := by simpa [Addr.add] using World.cell?_spot hc0
    subst hspot
    refine ⟨b, o, rfl, hlt (.cell b o) ?_, fun j u hu => ?_⟩
    · rw [hx]
      exact List.mem_append_left _ (MemPlace.mem_row.2 ⟨0, by omega, by simp⟩)
    · have hj : j < n * 2 := by
        have := (List.getElem?_eq_some_iff.1 hu).1
        rw [P2.length, hlen] at this
        exact this
      obtain ⟨k, hk⟩ : ∃ k, j = k * 2 ∨ j = k * 2 + 1 := ⟨j / 2, by omega⟩
      have hkn : k < n := by omega
      have hg := P2.get ((List.range n).map p) k (by rw [hlen]; exact hkn)
      obtain ⟨c0, c1, _, _⟩ := hf k (by omega)
      rw [add_plain] at c0 c1
      rcases hk with rfl | rfl
      · rw [hg.1] at hu
        cases hu
        rw [c0, (hp k hkn).1]
        simp
      · rw [hg.2] at hu
        cases hu
        rw [show o + (k * 2 + 1) = o + (k * 2 + 1) from rfl, c1, (hp k hkn).2]
        simp

/-- A slice of ints of one kind that came in. -/
theorem open_nums {k : IntKind} {w : World} {base : Nat} {t e : TypeId} {fuel : Nat} {A : Option Addr} {n c : Nat} {x : DataW H × List MemPlace} {B : Nat}
    (ht : P.underlying t = some (.slice e)) (he : P.underlying e = some (.int k)) (ce : P.cellsOf e = 1)
    (hlt : ∀ y ∈ x.2, y.block < B) (h : DataW.trod enc P w base (fun _ => true) true fuel t [.slice A n c] = some x) :
    ∃ l : List Int, l.length = n ∧ Shows w B 1 A l.length (l.map (Value.int k)) ∧ n ≤ c ∧ c ≤ maxLen ∧ ∀ z ∈ l, (Lit.int k z).wf = true := by
  rcases open_ints ht he ce h with ⟨hcs, _⟩ | ⟨a, len, cap, zs, hcs, hb, hl, hm, hz, hx, hc, hwf⟩
  · simp only [List.cons.injEq, Value.slice.injEq, and_true] at hcs
    obtain ⟨rfl, rfl, rfl⟩ := hcs
    exact ⟨[], rfl, Shows.empty _ _ _ _, Nat.le_refl _, Nat.zero_le _, fun z hz => by simp at hz⟩
  · simp only [List.cons.injEq, Value.slice.injEq, and_true] at hcs
    obtain ⟨rfl, rfl, rfl⟩ := hcs
    simp only [if_true] at hz
    have hlen : (zs.take n).length = n := by simp; omega
    refine ⟨zs.take n, hlen, ⟨by simp, fun hn => ?_⟩, hl, hm, fun z hz => hwf z (List.mem_of_mem_take hz)⟩
    rw [hlen] at hn
    obtain ⟨b, o, spot⟩ := a
    have hspot : spot = none := by simpa [Addr.add] using World.cell?_spot (hc 0 (by omega))
    subst hspot
    refine ⟨b, o, rfl, hlt (.cell b o) ?_, fun j u hu => ?_⟩
    · rw [hx]
      exact MemPlace.mem_row.2 ⟨0, by omega, by simp⟩
    · have hj : j < n := by
        have := (List.getElem?_eq_some_iff.1 hu).1
        simp only [List.length_map, hlen] at this
        exact this
      have := hc j (by omega)
      rw [add_plain] at this
      rw [this]
      simp only [List.getElem?_map, List.getElem?_take, hj, if_true] at hu
      rw [← hu]
      simp [List.getD, List.getElem?_eq_getElem (show j < zs.length by omega)]
end
end Go.Proofs.Ytabaflklognhaaa
