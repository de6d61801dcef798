/-
  A ring and the reference's beside it: what turns one leaves the other; a slice of pairs that came in. Conditions: none.
-/
import Derived.Test.YtappligfampdjaaWalkH
import Derived.Test.YtappligfampdjaaSmall
import Derived.Test.YtappligfampdjaaTree
namespace Go.Proofs.Ytappligfampdjaa
open Go.RowKit Go.WideMaps Go.ChangeShapes Go.WideShapes Go.ChangeAt Go.Deep Go.Joins

theorem open_string {H : Type} {enc : TypeId × Value → H} {P : Program} {w : World} {base : Nat} {spare : Nat → Bool} {held : Bool} {r : Reach} {b0 : Nat} {t : TypeId} {v : Value} {d : DataW H} {ps : List MemPlace} (ht : P.underlying t = some .string)
    (hval : Value.okWide P w r b0 t v) (hd : DataW.Trod enc P w base spare held t v d ps) : ∃ s : ByteArray, v = .string s ∧ d = .lit (.string s.data.toList) ∧ ps = [] ∧ s.size ≤ maxLen := by
  obtain ⟨s, rfl⟩ := okWide_string ht hval
  obtain ⟨fuel, hf⟩ := hd
  obtain ⟨s', h, hx, hw⟩ := DataW.trod_string ht hf
  simp [Value.cells] at h
  subst h
  simp only [Prod.mk.injEq] at hx
  exact ⟨s, rfl, hx.1, hx.2, hw⟩
section
variable {H : Type} {enc : TypeId × Value → H} {P : Program}
/-- A slice of pairs of an int and a string that came in. -/
theorem open_seals {w : World} {base : Nat} {t e ti ts : TypeId} {f0 f1 : Field} {fuel : Nat} {A : Option Addr} {n c : Nat} {x : DataW H × List MemPlace} {B : Nat}
    (ht : P.underlying t = some (.slice e)) (he : P.underlying e = some (.struct #[f0, f1])) (h0 : f0.type = ti) (h1 : f1.type = ts) (hi : P.underlying ti = some (.int .i64)) (hs : P.underlying ts = some .string)
    (ce : P.cellsOf e = 2) (o0 : f0.offset = 0) (o1 : f1.offset = 1) (ci : P.cellsOf ti = 1) (cs : P.cellsOf ts = 1)
    (hlt : ∀ y ∈ x.2, y.block < B) (h : DataW.trod enc P w base (fun _ => true) true fuel t [.slice A n c] = some x) :
    ∃ l : List SE, l.length = n ∧ Seals w B A l ∧ n ≤ c ∧ c ≤ maxLen ∧ ∀ x ∈ l, x.ok := by
  rcases open_slice_pairs ht he ce o0 o1 (by rw [h0]; exact ci) (by rw [h1]; exact cs) h with ⟨hcs, _⟩ | ⟨a, len, cap, m, k, V0, V1, D0, D1, P0, P1, hcs, hb, hl, hm, hmm, hx, hf⟩
  · simp only [List.cons.injEq, Value.slice.injEq, and_true] at hcs
    obtain ⟨rfl, rfl, rfl⟩ := hcs
    exact ⟨[], rfl, Shows.empty _ _ _ _, Nat.le_refl _, Nat.zero_le _, by simp⟩
  · simp only [List.cons.injEq, Value.slice.injEq, and_true] at hcs
    obtain ⟨rfl, rfl, rfl⟩ := hcs
    simp only [if_true] at hmm
    subst hmm
    have hint : ∀ i, i < n → ∃ p : SE, V0 i = .int .i64 p.a ∧ V1 i = .string p.s ∧ p.ok := by
      intro i hin
      obtain ⟨_, _, g0, g1⟩ := hf i (by omega)
      rw [h0] at g0
      rw [h1] at g1
      obtain ⟨z0, e0, _, hwf⟩ := DataW.trod_int hi g0
      obtain ⟨z1, e1, _, hsz⟩ := DataW.trod_string hs g1
      simp only [List.cons.injEq, and_true] at e0 e1
      exact ⟨⟨z0, z1⟩, e0, e1, by simpa [Lit.wf, IntKind.min, IntKind.max, IntKind.signed, IntKind.bits] using hwf, hsz⟩
    haveI : Inhabited SE := ⟨⟨0, ⟨#[]⟩⟩⟩
    obtain ⟨p, hp⟩ := choose_lt hint
    have hlen : ((List.range n).map p).length = n := by simp
    refine ⟨(List.range n).map p, hlen, ⟨SE.length _, fun hn => ?_⟩, hl, hm, fun x hx => ?_⟩
    · rw [hlen] at hn
      obtain ⟨b, o, spot⟩ := a
      have hc0 := (hf 0 (by omega)).1
      have hspot : spot = none := by simpa [Addr.add] using World.cell?_spot hc0
      subst hspot
      refine ⟨b, o, rfl, hlt (.cell b o) ?_, fun j u hu => ?_⟩
      · rw [hx]
        exact List.mem_append_left _ (MemPlace.mem_row.2 ⟨0, by omega, by simp⟩)
      · have hj : j < n * 2 := by
          have := (List.getElem?_eq_some_iff.1 hu).1
          rw [SE.length, hlen] at this
          exact this
        obtain ⟨k, hk⟩ : ∃ k, j = k * 2 ∨ j = k * 2 + 1 := ⟨j / 2, by omega⟩
        have hkn : k < n := by omega
        have hg := SE.get ((List.range n).map p) k (by rw [hlen]; exact hkn)
        obtain ⟨c0, c1, _, _⟩ := hf k (by omega)
        rw [add_plain] at c0 c1
        rcases hk with rfl | rfl
        · rw [hg.1] at hu
          cases hu
          rw [c0, (hp k hkn).1]
          simp
        · rw [hg.2] at hu
          cases hu
          rw [show o + (k * 2 + 1) = o + (k * 2 + 1) from rfl, c1, (hp k hkn).2.1]
          simp
    · obtain ⟨j, hj, rfl⟩ := List.mem_map.1 hx
      exact (hp j (List.mem_range.1 hj)).2.2
end

theorem own_at {w : World} {base s n k : Nat} {e : TypeId} {v : Value} {xs : List Value} (h : w.ownsRow base e s v n xs) (hv : v.ownBlock = some k) : ∃ cur, w.heap[k]? = some (.cells cur e (0, 0)) := by
  rcases h.2 with ⟨rfl, _⟩ | ⟨q, cap, cur, rfl, _, hq, _⟩
  · simp [Value.ownBlock] at hv
  · simp only [Value.ownBlock, Option.some.injEq] at hv
    subst hv
    exact ⟨cur, hq⟩
/-- blocks of two kinds -/
theorem kinds {w : World} {a b : Nat} {x y : Array Value} {e f : TypeId} (h1 : w.heap[a]? = some (.cells x e (0, 0))) (h2 : w.heap[b]? = some (.cells y f (0, 0))) (hne : e ≠ f) : a ≠ b := by
  rintro rfl
  rw [h1] at h2
  simp only [Option.some.injEq, Obj.cells.injEq] at h2
  exact hne h2.2.1
theorem mapKind {w : World} {a b : Nat} {x : Array Value} {e : TypeId} {L : List SE} (h1 : w.heap[a]? = some (.cells x e (0, 0))) (h2 : MapAt w b L) : a ≠ b := by
  rintro rfl
  obtain ⟨es, clock, h, _⟩ := h2
  rw [h1] at h
  simp at h
/-- A ring and the reference's, apart. -/
structure Both (w : World) (base g b : Nat) (v : Value) (q : Nat) (u : Value) (L : List SE) : Prop where
  ring : RingAt w base g b v L
  ref : RefAt w base q u L
  apart : Apart v u
theorem keep_ref {w w' : World} {base g b q : Nat} {v v2 u : Value} {L L' : List SE} (hm : Moved base w w' g b v v2) (hr : RingAt w base g b v L) (hq : RefAt w base q u L') (ha : Apart v u) : RefAt w' base q u L' ∧ Apart v2 u := by
  refine ⟨hq.keep fun k hk hor => hm.other k hk ?_ ?_ ?_, Apart.off ha hq.row hm.off⟩
  · rcases hor with rfl | hv
    · exact kinds hq.box hr.box (by decide)
    · obtain ⟨cur, hc⟩ := own_at hq.row hv
      exact kinds hc hr.box (by decide)
  · rcases hor with rfl | hv
    · exact mapKind hq.box hr.map
    · obtain ⟨cur, hc⟩ := own_at hq.row hv
      exact mapKind hc hr.map
  · intro hv2
    rcases hor with rfl | hv
    · obtain ⟨cur, hc⟩ := own_at hr.row hv2
      exact kinds hc hq.box (by decide) rfl
    · exact ha k hv2 hv
theorem keep_ring {w w' : World} {base g b q : Nat} {v u u2 : Value} {L L' : List SE} (hm : Moved base w w' q q u u2) (hr : RingAt w base g b v L) (hq : RefAt w base q u L') (ha : Apart v u) : RingAt w' base g b v L ∧ Apart v u2 := by
  have hne : ∀ k, k < w.heap.size → (k = g ∨ k = b ∨ v.ownBlock = some k) → k ≠ q := by
    intro k hk hor
    rcases hor with rfl | rfl | hv
    · exact kinds hr.box hq.box (by decide)
    · exact fun e => mapKind hq.box hr.map e.symm
    · obtain ⟨cur, hc⟩ := own_at hr.row hv
      exact kinds hc hq.box (by decide)
  refine ⟨hr.keep fun k hk hor => hm.other k hk (hne k hk hor) (hne k hk hor) ?_, (Apart.off ha.comm hr.row hm.off).comm⟩
  intro hv2
  obtain ⟨cur, hc⟩ := own_at hq.row hv2
  rcases hor with rfl | rfl | hv
  · exact kinds hc hr.box (by decide) rfl
  · exact mapKind hc hr.map rfl
  · exact ha k hv hv2
theorem Both.ext {w w' : World} {base g b q : Nat} {v u : Value} {L : List SE} (h : Both w base g b v q u L) (hx : Below w.heap.size w w') : Both w' base g b v q u L := ⟨h.ring.ext hx, h.ref.ext hx, h.apart⟩
theorem RefAt.low {w : World} {base base' g : Nat} {v : Value} {L : List SE} (h : RefAt w base g v L) (hb : base' ≤ base) : RefAt w base' g v L := ⟨h.box, own_mono h.row hb, Nat.le_trans hb h.hg⟩
theorem RingAt.low {w : World} {base base' g b : Nat} {v : Value} {L : List SE} (h : RingAt w base g b v L) (hb : base' ≤ base) : RingAt w base' g b v L := ⟨h.box, h.map, own_mono h.row hb, h.nodup, h.ok, Nat.le_trans hb h.hg, Nat.le_trans hb h.hb⟩
theorem signV_form (L : List SE) (e : SE) : ∃ a s m, signV L e = .agg #[.int .i64 a, .string s, .int .i64 m] := by
  unfold signV
  split <;> exact ⟨_, _, _, rfl⟩
theorem same_signed (a : Int) (s : ByteArray) (m : Int) (w : World) : (binOp .neq 24 (.agg #[.int .i64 a, .string s, .int .i64 m]) (.agg #[.int .i64 a, .string s, .int .i64 m])).run Try.prog w = .ok (.bool false) w := by
  rw [neq_signed]
  simp
end Go.Proofs.Ytappligfampdjaa
