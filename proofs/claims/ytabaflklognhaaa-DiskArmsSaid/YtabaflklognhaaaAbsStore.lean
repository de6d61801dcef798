/-
  Stores into boxes of the call's own, over abstract states. Conditions: none.
-/
import Derived.Test.YtabaflklognhaaaAbsBox
namespace Go.Proofs.Ytabaflklognhaaa
open Go.RowKit

section
variable {E : Entry} {sl : Slots} {ob : Objs} {a : Act} {w : World} {Pr : Prot} {β : Nat → Value} {κ : Nat → Nat}
/-- An object's block is set anew. -/
theorem Good.setobj (h : Good E sl ob a w Pr β κ) {i b : Nat} {o o' : O} (hf : find ob i = some o) (hb : β i = .pointer (some ⟨b, 0, none⟩)) {cs : Array Value} {T : TypeId} (hno : ∀ q, ¬ Pr b q) (hold : ∃ c0, w.heap[b]? = some (.cells c0 T (0, 0)))
    (ho : (∀ (v : Value) (x : V), RepV w Pr β κ v x → RepV (w.setRow b cs) Pr β κ v x) → RepO (w.setRow b cs) Pr 0 β κ i o') : Good E sl ((i, o') :: ob) a (w.setRow b cs) Pr β κ := by
  obtain ⟨c0, hold⟩ := hold
  have hs : Stays Pr w (w.setRow b cs) := fun b' q hq => World.cell?_of_block (a := ⟨b', q, none⟩) (setRow_other w b b' cs (by rintro rfl; exact hno q hq))
  have hE := h.below.size
  have hbo := h.own i o b hf (by rw [hb]; rfl)
  have hx : Under (fun g => g = b) w (w.setRow b cs) := ⟨rfl, rfl, rfl, by simp [World.setRow], fun k _ hn => setRow_other w b k cs hn⟩
  refine ⟨h.below.then hx (fun g hg => hg ▸ hbo), fun b' q hq => (hs b' q (h.pr0 b' q hq)).trans (h.st0 b' q hq), h.pr0, h.prn, fun b' q hq => by have := h.prl b' q hq; simpa [World.setRow] using this, h.size, h.defers, fun j => (h.slots j).keep hs (fun _ _ h => h), fun j oj hj => ?_, fun j k oj ok g hj hk => ?_, fun j oj g hj hg => ?_, h.keeps, h.fresh⟩
  rotate_right 1
  · by_cases hji : j = i
    · subst hji
      exact h.own j o g hf hg
    · exact h.own j oj g (find_other hji hj) hg
  · by_cases hji : j = i
    · subst hji
      rw [find_eq] at hj
      cases hj
      exact ho (fun v x hv => hv.keep hs (fun _ _ h => h))
    · have hj' := find_other hji hj
      refine (h.objs j oj hj').keep hs (fun _ _ h => h) (fun _ _ h => .inl h) (fun g hg => setRow_other w b g cs ?_)
      rintro rfl
      exact hji (h.apart j i oj o _ hj' hf hg (by rw [hb]; rfl))
  · have key : ∀ m om, find ((i, o') :: ob) m = some om → ∃ om', find ob m = some om' := by
      intro m om hm
      by_cases hmi : m = i
      · exact ⟨o, hmi ▸ hf⟩
      · exact ⟨om, find_other hmi hm⟩
    obtain ⟨oj', hj'⟩ := key j oj hj
    obtain ⟨ok', hk'⟩ := key k ok hk
    exact h.apart j k oj' ok' g hj' hk'
def put (l : List V) (o : Nat) (n : List V) : List V := l.take o ++ n ++ l.drop (o + n.length)
variable {d : Nat} {t T T' ty : TypeId} {p : String} {af : Array Edge} {g : Option (Nat × Bool)} {x y c : Operand}
/-- A store into a box. -/
theorem store_now (h : Good E sl ob a w Pr β κ) {i o k : Nat} {l l' n : List V} {v : V} (hx : ev sl x = .box i o) (hf : find ob i = some (.box T' l)) (hv : ev sl y = v) (hu : v ≠ .und) (hn : cellsV v = n) (h1 : ∀ z ∈ n, z.one = true) (hT : (isOne (ti t) = true ∧ k = 1) ∨ aggK (ti t) = some k) (hk : n.length = k) (hl : o + n.length ≤ l.length) (hr : put l o n = l') :
    ∃ (b : Nat) (cs : Array Value), (execOp a.eval ⟨none, .store t x y, T, p, af, g⟩).run Try.prog w = .ok .skip (w.setRow b cs) ∧ β i = .pointer (some ⟨b, 0, none⟩) ∧ (∀ q, ¬ Pr b q) ∧ Good E sl ((i, .box T' l') :: ob) a (w.setRow b cs) Pr β κ := by
  subst hr
  obtain ⟨b, cs, hav, hb, hh, hcl, hcv, _⟩ := box_at h hx hf
  obtain ⟨b', cs', hb', hB, _, _, _, hno⟩ := h.objs i _ hf
  rw [hb] at hb'
  simp only [Value.pointer.injEq, Option.some.injEq, Addr.mk.injEq, and_true] at hb'
  subst hb'
  have hrep := good_ev h y
  rw [hv] at hrep
  obtain ⟨c1, c2⟩ := cells_rep hrep hu
  rw [hn] at c1 c2
  have hone : ∀ u ∈ (a.eval y).cells.toList, u.oneCell' = true := by
    intro u hu'
    obtain ⟨j, hj, rfl⟩ := List.getElem_of_mem hu'
    have hj2 : n[j]? = some (n[j]'(by omega)) := List.getElem?_eq_getElem (by omega)
    exact one_cell (c2 j _ _ (List.getElem?_eq_getElem hj) hj2) (h1 _ (List.getElem_mem _))
  have hsz : (sizeOf t).run Try.prog w = .ok k w := by
    rcases hT with ⟨h2, rfl⟩ | h2
    · exact run_sizeOf_one w h2
    · exact (run_isAgg_agg w h2).2
  have hsz2 : (a.eval y).cells.size = k := by
    have : (a.eval y).cells.toList.length = k := by omega
    simpa using this
  have hst := run_storeCells_at Try.prog b o T' (a.eval y).cells.toList 0 cs.toArray w hh (by simp; omega) hone
  have hrun : (execOp a.eval ⟨none, .store t x y, T, p, af, g⟩).run Try.prog w = .ok .skip (w.setRow b (cs.take o ++ (a.eval y).cells.toList ++ cs.drop (o + (a.eval y).cells.toList.length)).toArray) := by
    simp only [Nat.add_zero] at hst
    simp [execOp, hav, Instr.storeAt, Instr.sureAddr, storeVar, hsz, hsz2, hst]
  have hgood : Good E sl ((i, .box T' (put l o n)) :: ob) a (w.setRow b (cs.take o ++ (a.eval y).cells.toList ++ cs.drop (o + (a.eval y).cells.toList.length)).toArray) Pr β κ := by
    refine h.setobj (T := T') hf hb hno ⟨_, hh⟩ (fun hkeep => ?_)
    refine ⟨b, cs.take o ++ (a.eval y).cells.toList ++ cs.drop (o + (a.eval y).cells.toList.length), hb, hB, setRow_heap w b _ _ _ _ hh, by simp [put]; omega, fun j u z h2 h3 => hkeep u z ?_, hno⟩
    simp only [put] at h3
    rw [List.append_assoc] at h2 h3
    by_cases hj1 : j < o
    · rw [List.getElem?_append_left (by simp; omega), List.getElem?_take, if_pos hj1] at h2 h3
      exact hcv j u z h2 h3
    · rw [List.getElem?_append_right (by simp; omega)] at h2 h3
      have e1 : (cs.take o).length = o := by simp; omega
      have e2 : (l.take o).length = o := by simp; omega
      rw [e1] at h2
      rw [e2] at h3
      by_cases hj2 : j - o < n.length
      · rw [List.getElem?_append_left (by omega)] at h2 h3
        exact c2 _ u z h2 h3
      · rw [List.getElem?_append_right (by omega), List.getElem?_drop] at h2 h3
        rw [c1] at h2
        exact hcv _ u z h2 h3
  exact ⟨b, _, hrun, hb, hno, hgood⟩
/-- A store into a box. -/
theorem st_store {i o k : Nat} {l l' n : List V} {v : V} (hx : ev sl x = .box i o) (hf : find ob i = some (.box T' l)) (hv : ev sl y = v) (hu : v ≠ .und) (hn : cellsV v = n) (h1 : ∀ z ∈ n, z.one = true) (hT : (isOne (ti t) = true ∧ k = 1) ∨ aggK (ti t) = some k) (hk : n.length = k) (hl : o + n.length ≤ l.length) (hr : put l o n = l') :
    Step E ⟨none, .store t x y, T, p, af, g⟩ sl ob sl ((i, .box T' l') :: ob) := by
  rintro a w ⟨Pr, β, κ, h⟩ K Q hK
  obtain ⟨b, cs, hrun, _, _, hG⟩ := store_now (T := T) (p := p) (af := af) (g := g) h hx hf hv hu hn h1 hT hk hl hr
  unfold Oper.wp
  rw [hrun, Oper.upon_skip]
  exact hK _ _ ⟨Pr, β, κ, hG⟩
end
end Go.Proofs.Ytabaflklognhaaa
