/-
  A statement that reads a row of the call's own and appends onto it. Conditions: none.
-/
import Derived.Test.YtabaflklognhaaaRow
import Derived.Test.YtabaflklognhaaaMix
namespace Go.Proofs.Ytabaflklognhaaa
open Go.RowKit

theorem own_mono {w : World} {base base' s n : Nat} {e : TypeId} {v : Value} {xs : List Value} (h : w.ownsRow base e s v n xs) (hb : base' ≤ base) : w.ownsRow base' e s v n xs :=
  ⟨h.1, h.2.imp id fun ⟨g, cap, cur, h1, h2, h3⟩ => ⟨g, cap, cur, h1, Nat.le_trans hb h2, h3⟩⟩

theorem append_keeps {P : Program} (w : World) (base : Nat) (t ty e : TypeId) (i : TypeInfo) (z : Value) (size bytes : Nat) (ht : P.underlying t = some (.slice e)) (hi : P.info? e = some i) (hz : i.zero = some z)
    (hsize : i.size = size) (hby : i.bytes = bytes)
    (g n cap : Nat) (xs : List Value) (hown : w.ownsRow base e size (.slice (some ⟨g, 0, none⟩) n cap) n xs)
    (a : Addr) (m c : Nat) (news : List Value) (hl : news.length = m * size) (hnews : ∀ j u, news[j]? = some u → w.cell? (a.add j) = some u) (h1 : ∀ u ∈ news, u.oneCell' = true)
    (h63 : n + m ≤ maxLen) (hbytes : (n + m) * bytes ≤ 140737488355328) {v' : Value} {w' : World}
    (h : (Builtin.append_ #[t, t] ty #[.slice (some ⟨g, 0, none⟩) n cap, .slice (some a) m c]).run P w = .ok v' w') (hown' : w'.ownsRow base e size v' (n + m) (xs ++ news)) :
    ∀ j, j < n * size → w'.cell? ⟨g, j, none⟩ = w.cell? ⟨g, j, none⟩ := by
  intro j hj
  subst hsize
  subst hby
  simp only [maxLen] at h63
  rcases hown.2 with ⟨h0, _⟩ | ⟨g', cap', cur, h0, hbg, hg, hnc, hcm, hcs, htake⟩
  · simp at h0
  · simp only [Value.slice.injEq, Option.some.injEq, Addr.mk.injEq, and_true, true_and] at h0
    obtain ⟨rfl, rfl⟩ := h0
    by_cases hroom : n + m ≤ cap
    · have hfit : n * i.size + news.length ≤ cur.size := by rw [hl, hcs, ← Nat.add_mul]; exact Nat.mul_le_mul_right _ hroom
      have hr := run_append_room (P := P) w t ty e i ht hi g n cap cur hg a m c news hl hnews h1 hroom hfit
      rw [hr] at h
      cases h
      rw [hown'.cellAt j (by rw [Nat.add_mul]; omega), hown.cellAt j hj, List.getElem?_append_left (by rw [hown.1]; exact hj)]
    · have holds : ∀ j u, xs[j]? = some u → w.cell? ((⟨g, 0, none⟩ : Addr).add j) = some u := hown.cells (g := g) rfl
      have hr := run_append_grow (P := P) w t ty e i z ht hi hz ⟨g, 0, none⟩ n cap xs hown.1 holds a m c news hl hnews (by omega) (by omega) (growslice_fits (by omega) hbytes)
      rw [hr] at h
      cases h
      have hlt := (Array.getElem?_eq_some_iff.1 hg).1
      exact (bcell (((Below.refl w.heap.size w).drew).alloc (by simp) _)).1 g j hlt

/-- append of what a slice literal has just made, onto a row of the call's own; what stays in the row. -/
theorem wp_push3 {P : Program} {o : Oper} {a : Act} {K : Act → World → Prop} {Q : Exit → Act → World → Prop} (s x : Operand) (t : TypeId)
    (ho : o.op = .call { callee := .builtin .append, args := #[s, x], argTypes := #[t, t] })
    (base : Nat) (e : TypeId) (i : TypeInfo) (z : Value) (size bytes : Nat) (ht : P.underlying t = some (.slice e)) (hi : P.info? e = some i) (hz : i.zero = some z)
    (hsize : i.size = size) (hby : i.bytes = bytes) (hzs : z.cells.size = size) (hsz : 0 < size) (w : World)
    (g n cap : Nat) (xs : List Value) (hs : a.eval s = .slice (some ⟨g, 0, none⟩) n cap) (hown : w.ownsRow base e size (.slice (some ⟨g, 0, none⟩) n cap) n xs)
    (m c : Nat) (news : List Value) (hx : a.eval x = .slice (some ⟨w.heap.size, 0, none⟩) m c) (hl : news.length = m * size) (h1 : ∀ u ∈ news, u.oneCell' = true)
    (hbase : base ≤ w.heap.size) (h63 : n + m ≤ 140737488355328) (hbytes : (n + m) * bytes ≤ 140737488355328)
    (h : ∀ v' w', w'.ownsRow base e size v' (n + m) (xs ++ news) → Below base (w.alloc (.cells news.toArray e)) w' →
      ((w.alloc (.cells news.toArray e)).grownBy w' (some g) ∧ (∀ j, j < n * size → w'.cell? ⟨g, j, none⟩ = (w.alloc (.cells news.toArray e)).cell? ⟨g, j, none⟩)) → K (a.put o.dst v') w') :
    o.wp P a (w.alloc (.cells news.toArray e)) K Q := by
  have hn : ∀ j u, news[j]? = some u → (w.alloc (.cells news.toArray e)).cell? ((⟨w.heap.size, 0, none⟩ : Addr).add j) = some u := fun j u hu => cell_alloc_add w news e j u hu
  obtain ⟨v', w', hr, h2, h3, h4⟩ := run_append_own (P := P) (w.alloc (.cells news.toArray e)) base t o.type e i z size bytes ht hi hz hsize hby hzs hsz _ n xs (hown.alloc _) ⟨w.heap.size, 0, none⟩ m c news hl hn h1 (by unfold maxLen; omega) hbytes (by simp; omega)
  have hk := append_keeps (P := P) (w.alloc (.cells news.toArray e)) base t o.type e i z size bytes ht hi hz hsize hby g n cap xs (hown.alloc _) ⟨w.heap.size, 0, none⟩ m c news hl hn h1 (by unfold maxLen; omega) hbytes hr h2
  unfold Oper.wp execOp
  simp only [ho, resolve, invoke, builtin, Sem.run_bind, Sem.run_pure, Result.andThen_ok, List.map_toArray, List.map_cons, List.map_nil, hs, hx, hr]
  exact h v' w' h2 ((Below.refl base _).grown h3 (by simp; omega) (fun k e => (hown.lt k e).1)) ⟨h3, hk⟩

/-- As SB, where one row may grow: its first n cells stay. -/
structure SG (base : Nat) (we : World) (B : Nat) (g n : Nat) (w0 w' : World) : Prop where
  cell : ∀ b o, b < B → b ≠ g → w'.cell? ⟨b, o, none⟩ = w0.cell? ⟨b, o, none⟩
  kept : ∀ o, o < n → w'.cell? ⟨g, o, none⟩ = w0.cell? ⟨g, o, none⟩
  size : B ≤ w'.heap.size
  inB : g < B
  below : Below base we w'

section
variable {base B g n : Nat} {we w0 w1 w2 : World}
theorem SG.start (hb : Below base we w0) (hB : B ≤ w0.heap.size) (hg : g < B) : SG base we B g n w0 w0.drew := ⟨fun _ _ _ _ => rfl, fun _ _ => rfl, hB, hg, hb.drew⟩
theorem SG.step (h : SG base we B g n w0 w1) (hx : Below w1.heap.size w1 w2) (hB : base ≤ B) : SG base we B g n w0 w2 :=
  ⟨fun b o hb hr => ((bcell hx).1 b o (Nat.lt_of_lt_of_le hb h.size)).trans (h.cell b o hb hr), fun o ho => ((bcell hx).1 g o (Nat.lt_of_lt_of_le h.inB h.size)).trans (h.kept o ho),
    Nat.le_trans h.size hx.size, h.inB, h.below.trans (hx.mono (Nat.le_trans hB h.size))⟩
theorem SG.alloc (h : SG base we B g n w0 w1) (o : Obj) (hB : base ≤ B) : SG base we B g n w0 (w1.alloc o) := h.step ((Below.refl _ _).alloc (Nat.le_refl _) o) hB
theorem SG.grown (h : SG base we B g n w0 w1) (hg : w1.grownBy w2 (some g) ∧ ∀ j, j < n → w2.cell? ⟨g, j, none⟩ = w1.cell? ⟨g, j, none⟩) (hb : Below base w1 w2) : SG base we B g n w0 w2 :=
  ⟨fun b o hb hr => (World.cell?_of_block (a := ⟨b, o, none⟩) (hg.1.block b (Nat.lt_of_lt_of_le hb h.size) (fun e => hr (by simpa using e)))).trans (h.cell b o hb hr),
    fun o ho => (hg.2 o ho).trans (h.kept o ho), Nat.le_trans h.size hg.1.size, h.inB, h.below.trans hb⟩
end
end Go.Proofs.Ytabaflklognhaaa
