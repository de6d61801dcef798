/-
  The walks of the reference: Same, New, find, Sign, Valid, All, Open; of Open and Copy. Conditions: none but the slices' sizes.
-/
import Derived.Test.YtappligfampdjaaEq
namespace Go.Proofs.Ytappligfampdjaa
open Go.RowKit Go.WideMaps

def isV2 (a b : SE) : Bool := decide (a = b)
set_option maxHeartbeats 1000000 in
set_option maxRecDepth 100000 in
theorem same_any (A1 A2 : Option Addr) (n1 n2 c1 c2 : Nat) (l r : List SE) (e1 : l.length = n1) (e2 : r.length = n2) (w : World) (h1 : Seals w w.heap.size A1 l) (h2 : Seals w w.heap.size A2 r) (hl : n1 ≤ 1000000) :
    Calls Try.prog 12 #[.slice A1 n1 c1, .slice A2 n2 c2] w fun e w' => e = .returned (.bool (decide (l = r))) ∧ Below w.heap.size w w' := by
  subst e1 e2
  go_enter Try.func12, Try.ntmps12
  by_cases hn : l.length = r.length
  · have hn1 : ((l.length : Int) != r.length) = false := by simp [hn]
    have HN := Lib.hid hn
    have hnlt : ∀ k, k < l.length → k < r.length := fun k hk => by omega
    clear hn
    go_wp2_with fail
    go_loopw [5] (fun i wr => ∃ k : Nat, k ≤ l.length ∧ i = .int .i64 k ∧ (∀ j, (hj : j < k) → (hl : j < l.length) → (hr : j < r.length) → l[j] = r[j]) ∧ Below w.heap.size w wr) (fun i _ => l.length - (intOf i).toNat)
    case atStart => exact ⟨0, Nat.zero_le _, rfl, fun j h => absurd h (by omega), Below.refl _ _⟩
    case round =>
      obtain ⟨k, hk, rfl, hall, hbw⟩ := hrel
      have HA := Lib.hid hall
      clear hall
      by_cases hlt : k < l.length
      · have hlt2 := hnlt k hlt
        obtain ⟨b, o, hA, hb, p0, p1⟩ := (show Seals wr w.heap.size A1 l from Shows.below h1 hbw).at_ hlt
        obtain ⟨b', o', hA', hb', q0, q1⟩ := (show Seals wr w.heap.size A2 r from Shows.below h2 hbw).at_ hlt2
        subst hA hA'
        have hsz := hbw.size
        have hb1 : b < wr.heap.size := by omega
        have hb2 : b' < wr.heap.size := by omega
        have hn := neq_sealed l[k] r[k]
        generalize hel : l[k] = e at p0 p1 hn
        generalize hef : r[k] = f at q0 q1 hn
        have HE := Lib.hid hel
        have HF := Lib.hid hef
        clear hel hef
        by_cases hef : e = f
        · have HQ := Lib.hid hef
          have hd : decide (e = f) = true := decide_eq_true hef
          clear hef
          rw [hd] at hn
          go_wp2_with fail
          refine wp_region_mix [(0, true), (1, true), (2, true), (3, true), (4, true), (5, true), (6, true), (7, true), (8, true)] [] (SB w.heap.size w wr.heap.size none _) (by kernel_rfl) (by kernel_rfl) (by kernel_rfl) (by kernel_rfl) (by decide) (SB.start hbw (by omega)) (fun hS => ?_)
          simp only [planned, List.filterMap_cons, List.filterMap_nil, List.getElem?_cons_zero, List.getElem?_cons_succ, Option.map_some]
          repeat (first
            | (refine mix_skip (by rfl) ?_; try simp only [Act.put, List.setIfInBounds_toArray, List.set_cons_zero, List.set_cons_succ])
            | (refine mix_pass hS (by rfl) ?_; try simp only [Act.put, List.setIfInBounds_toArray, List.set_cons_zero, List.set_cons_succ])
            | (refine mix_pure (by rfl) (by rfl) (fun K hK => ?_); go_big_quiet_op; refine hK _ ?_; clear hK K)
            | (refine mix_take (by rfl) ?_
               apply Exists.intro
               refine ⟨?_, ?_⟩
               · intro w' hSw
                 have hSc := hSw.cell
                 clear hSw
                 go_simp
                 try with_reducible rfl
               try simp only [Act.put, List.setIfInBounds_toArray, List.set_cons_zero, List.set_cons_succ])
            | (refine mix_move (by rfl) (fun K hK => ?_)
               go_simp
               try dsimp only
               first
                 | refine hK.out _ _ (hS.step hx (by omega)) ?_
                 | refine hK.out _ _ hS ?_
                 | refine hK.out _ _ (hS.alloc _ (by omega)) ?_
                 | refine hK.out _ _ (hS.grown hg hx) ?_
               clear hK K hS
               intro hS
               try simp only [Act.put, List.setIfInBounds_toArray, List.set_cons_zero, List.set_cons_succ])
            | fail)
          refine mix_nil ?_
          simp only [tailed, List.filterMap_nil]
          go_wp2_with fail
          refine NoPanic.normal ?_
          go_wp2_with fail
          go_roundw
          case rel =>
            refine ⟨k + 1, by omega, by go_num, fun j hj hj2 hj3 => ?_, hS.below⟩
            by_cases e1 : j = k
            · subst e1
              rw [HE.out, HF.out, HQ.out]
            · exact HA.out j (by omega) hj2 hj3
          case measure => simp [intOf]; omega
        · have HQ := Lib.hid hef
          have hd : decide (e = f) = false := decide_eq_false hef
          clear hef
          rw [hd] at hn
          go_wp2_with fail
          refine wp_region_mix [(0, true), (1, true), (2, true), (3, true), (4, true), (5, true), (6, true), (7, true), (8, true)] [] (SB w.heap.size w wr.heap.size none _) (by kernel_rfl) (by kernel_rfl) (by kernel_rfl) (by kernel_rfl) (by decide) (SB.start hbw (by omega)) (fun hS => ?_)
          simp only [planned, List.filterMap_cons, List.filterMap_nil, List.getElem?_cons_zero, List.getElem?_cons_succ, Option.map_some]
          repeat (first
            | (refine mix_skip (by rfl) ?_; try simp only [Act.put, List.setIfInBounds_toArray, List.set_cons_zero, List.set_cons_succ])
            | (refine mix_pass hS (by rfl) ?_; try simp only [Act.put, List.setIfInBounds_toArray, List.set_cons_zero, List.set_cons_succ])
            | (refine mix_pure (by rfl) (by rfl) (fun K hK => ?_); go_big_quiet_op; refine hK _ ?_; clear hK K)
            | (refine mix_take (by rfl) ?_
               apply Exists.intro
               refine ⟨?_, ?_⟩
               · intro w' hSw
                 have hSc := hSw.cell
                 clear hSw
                 go_simp
                 try with_reducible rfl
               try simp only [Act.put, List.setIfInBounds_toArray, List.set_cons_zero, List.set_cons_succ])
            | (refine mix_move (by rfl) (fun K hK => ?_)
               go_simp
               try dsimp only
               first
                 | refine hK.out _ _ (hS.step hx (by omega)) ?_
                 | refine hK.out _ _ hS ?_
                 | refine hK.out _ _ (hS.alloc _ (by omega)) ?_
                 | refine hK.out _ _ (hS.grown hg hx) ?_
               clear hK K hS
               intro hS
               try simp only [Act.put, List.setIfInBounds_toArray, List.set_cons_zero, List.set_cons_succ])
            | fail)
          refine mix_nil ?_
          simp only [tailed, List.filterMap_nil]
          go_wp2_with fail
          refine NoPanic.normal ?_
          go_wp2_with fail
          go_ret
          refine ⟨ret_bool (decide_eq_false (fun h => HQ.out ?_)).symm, hS.below⟩
          subst h
          rw [← HE.out, HF.out]
      · go_wp2_with fail
        go_ret
        refine ⟨ret_bool ?_, hbw⟩
        symm
        rw [decide_eq_true_eq]
        exact List.ext_getElem HN.out (fun i hi1 hi2 => HA.out i (by omega) hi1 hi2)
  · have hn1 : ((l.length : Int) != r.length) = true := by simp; omega
    have HN := Lib.hid hn
    clear hn
    go_wp2_with fail
    go_ret
    exact ⟨ret_bool (decide_eq_false (fun h => HN.out (by rw [h]))).symm, Below.refl _ _⟩

/-- The reference's ring: its box, its row. -/
structure RefAt (w : World) (base g : Nat) (v : Value) (L : List SE) : Prop where
  box : w.heap[g]? = some (.cells #[v] 53 (0, 0))
  row : w.ownsRow base 32 2 v L.length (SE.cells L)
  hg : base ≤ g
section
variable {w w' : World} {base g b : Nat} {v : Value} {L : List SE}
theorem RefAt.lt (h : RefAt w base g v L) : g < w.heap.size := (Array.getElem?_eq_some_iff.1 h.box).1
theorem RefAt.rowg (h : RefAt w base g v L) : v.ownBlock ≠ some g := by
  intro hv
  rcases h.row.2 with ⟨rfl, _⟩ | ⟨k, cap, cur, rfl, _, hk, _⟩
  · simp [Value.ownBlock] at hv
  · simp only [Value.ownBlock, Option.some.injEq] at hv
    subst hv
    have := h.box
    rw [hk] at this
    simp only [Option.some.injEq, Obj.cells.injEq] at this
    exact absurd this.2.1 (by decide)
theorem RefAt.cell0 (h : RefAt w base g v L) : w.cell? ⟨g, 0, none⟩ = some v := by
  rw [cell_of_row w g _ _ _ (0, 0) h.box]; rfl
theorem RefAt.frozen (h : RefAt w base g v L) (j : Nat) : w.frozen? ⟨g, j, none⟩ = false := frozen_of_row w g j _ _ h.box
theorem RefAt.keep (h : RefAt w base g v L) (hk : ∀ k, k < w.heap.size → (k = g ∨ v.ownBlock = some k) → w'.heap[k]? = w.heap[k]?) : RefAt w' base g v L := by
  refine ⟨(hk g h.lt (.inl rfl)).trans h.box, ?_, h.hg⟩
  refine ⟨h.row.1, ?_⟩
  rcases h.row.2 with h0 | ⟨k, cap, cur, rfl, k1, k2, k3⟩
  · exact .inl h0
  · exact .inr ⟨k, cap, cur, rfl, k1, (hk k (Array.getElem?_eq_some_iff.1 k2).1 (.inr rfl)).trans k2, k3⟩
theorem RefAt.ext (h : RefAt w base g v L) (hx : Below w.heap.size w w') : RefAt w' base g v L := h.keep fun k hk _ => hx.block k hk
end
set_option maxHeartbeats 400000 in
theorem rnew_any (w : World) : Calls Try.prog 14 #[] w fun e w' => ∃ g, e = .returned (.pointer (some ⟨g, 0, none⟩)) ∧ RefAt w' w.heap.size g (.slice none 0 0) [] ∧ Below w.heap.size w w' := by
  go_enter Try.func14, Try.ntmps14
  go_wp2
  go_ret
  exact ⟨_, rfl, ⟨heap_alloc_new _ _, World.ownsRow_nil _ _ _ _, Nat.le_refl _⟩, lit_below _ _⟩

def findI (L : List SE) (e : SE) : Int := if e ∈ L then L.idxOf e else -1
theorem find_at {L : List SE} {e : SE} {k : Nat} (hk : k < L.length) (he : L[k] = e) (hb : ∀ j, j < k → (hj : j < L.length) → L[j] ≠ e) : findI L e = k := by
  have hm : e ∈ L := he ▸ List.getElem_mem hk
  have h1 : L.idxOf e < L.length := List.idxOf_lt_length_iff.2 hm
  have h2 : L[L.idxOf e] = e := List.getElem_idxOf h1
  have h3 : ¬ L.idxOf e < k := fun h => hb _ h h1 h2
  have h4 : ¬ k < L.idxOf e := fun h => by
    have := List.not_of_lt_findIdx (p := fun x => x == e) (xs := L) (i := k) h
    simp [he] at this
  simp only [findI, hm, if_true]
  omega
theorem find_no {L : List SE} {e : SE} (hb : ∀ j, (hj : j < L.length) → L[j] ≠ e) : findI L e = -1 := by
  have : e ∉ L := fun h => by
    obtain ⟨j, hj, h2⟩ := List.getElem_of_mem h
    exact hb j hj h2
  simp [findI, this]
set_option maxHeartbeats 1000000 in
set_option maxRecDepth 100000 in
theorem rfind_any (w : World) (base g : Nat) (v : Value) (L : List SE) (e : SE) (h : RefAt w base g v L) (hl : L.length ≤ 1000000) :
    Calls Try.prog 23 #[.pointer (some ⟨g, 0, none⟩), .int .i64 e.a, .string e.s] w fun r w' => r = .returned (.int .i64 (findI L e)) ∧ Below w.heap.size w w' := by
  go_enter Try.func23, Try.ntmps23
  go_wp2_with fail
  go_loopw [7] (fun i wr => ∃ k : Nat, k ≤ L.length ∧ i = .int .i64 k ∧ (∀ j, j < k → (hj : j < L.length) → L[j] ≠ e) ∧ Below w.heap.size w wr) (fun i _ => L.length - (intOf i).toNat)
  case atStart => exact ⟨0, Nat.zero_le _, rfl, fun j h => absurd h (by omega), Below.refl _ _⟩
  case round =>
    obtain ⟨k, hk, rfl, hall, hbw⟩ := hrel
    have HA := Lib.hid hall
    clear hall
    have hw := h.ext hbw
    obtain ⟨A, c, rfl, hs, _, _⟩ := caps_of_own hw.row
    have g0 := hw.cell0
    have r1 := hw.lt
    by_cases hlt : k < L.length
    · obtain ⟨b, o, hA, hb, p0, p1⟩ := (show Seals wr wr.heap.size A L from hs).at_ hlt
      subst hA
      generalize hel : L[k] = x at p0 p1
      have HE := Lib.hid hel
      clear hel
      by_cases ha : x.a = e.a
      · by_cases hs : x.s = e.s
        · have HX : x = e := by cases x; cases e; simp_all
          subst HX
          clear ha hs
          go_wp2_with fail
          go_ret
          exact ⟨by rw [find_at hlt HE.out HA.out]; rfl, hbw⟩
        · have hne : x ≠ e := fun h => hs (by rw [h])
          have HN := Lib.hid hne
          have hb1 : (x.s.toList == e.s.toList) = false := by rw [bytes_eq]; exact decide_eq_false hs
          have hb2 : (x.s == e.s) = false := by rw [beq_toListBytes]; exact hb1
          clear hne hs
          go_wp2_with fail
          go_roundw
          case rel =>
            refine ⟨k + 1, by omega, by go_num, fun j hj hj2 => ?_, hbw⟩
            by_cases e1 : j = k
            · subst e1
              rw [HE.out]
              exact HN.out
            · exact HA.out j (by omega) hj2
          case measure => simp [intOf]; omega
      · have hne : x ≠ e := fun h => ha (by rw [h])
        have HN := Lib.hid hne
        have hb1 : (x.a == e.a) = false := beq_eq_false_iff_ne.2 ha
        clear hne ha
        go_wp2_with fail
        go_roundw
        case rel =>
          refine ⟨k + 1, by omega, by go_num, fun j hj hj2 => ?_, hbw⟩
          by_cases e1 : j = k
          · subst e1
            rw [HE.out]
            exact HN.out
          · exact HA.out j (by omega) hj2
        case measure => simp [intOf]; omega
    · go_wp2_with fail
      go_ret
      exact ⟨by rw [find_no fun j hj => HA.out j (by omega) hj]; rfl, hbw⟩
end Go.Proofs.Ytappligfampdjaa
