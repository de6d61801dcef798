/-
  The walks of Valid, All, and the reference's Few and Same. Conditions: none but the slices' sizes.
-/
import Derived.Test.YtappligfampdjaaWalkA
import Derived.Lib.SliceRun
namespace Go.Proofs.Ytappligfampdjaa
open Go.RowKit Go.WideMaps

def validB (L : List SE) (e : SE) (m : Int) : Bool := decide (e ∈ L) && decide (markI L e = m)
set_option maxHeartbeats 1000000 in
set_option maxRecDepth 100000 in
theorem valid_any (w : World) (base g b : Nat) (v : Value) (L : List SE) (e : SE) (m : Int) (h : RingAt w base g b v L) (he : e.ok) :
    Calls Try.prog 11 #[.pointer (some ⟨g, 0, none⟩), .agg #[.int .i64 e.a, .string e.s, .int .i64 m]] w fun r w' => r = .returned (.bool (validB L e m)) ∧ Below w.heap.size w w' := by
  go_enter Try.func11, Try.ntmps11
  go_wp2_with fail
  have ob1 := heap_alloc_new w (.cells #[.int .i64 e.a, .string e.s, .int .i64 m] 24)
  have hx1 := lit_below w (.cells #[.int .i64 e.a, .string e.s, .int .i64 m] 24)
  have hsz := size_alloc w (.cells #[.int .i64 e.a, .string e.s, .int .i64 m] 24)
  generalize w.alloc (.cells #[.int .i64 e.a, .string e.s, .int .i64 m] 24) = w1 at ob1 hx1 hsz ⊢
  have h1 := h.ext hx1
  obtain ⟨c0, c1, c2⟩ := cells3 ob1
  have g1 := h1.cell1
  have r1 := h1.lt
  have r0 : w.heap.size < w1.heap.size := by omega
  clear hsz
  refine wp_region_mix [(0, true), (1, true), (2, true), (3, true), (4, true), (5, true), (6, true), (7, true), (8, true), (9, false), (10, true), (11, true), (12, true), (13, true)] [14] (SB w.heap.size w w1.heap.size none _) (by kernel_rfl) (by kernel_rfl) (by kernel_rfl) (by kernel_rfl) (by decide) (SB.start hx1 (by omega)) (fun hS => ?_)
  simp only [planned, List.filterMap_cons, List.filterMap_nil, List.getElem?_cons_zero, List.getElem?_cons_succ, Option.map_some]
  repeat (first
    | (refine mix_skip (by rfl) ?_; try simp only [Act.put, List.setIfInBounds_toArray, List.set_cons_zero, List.set_cons_succ])
    | (refine mix_pass hS (by rfl) ?_; try simp only [Act.put, List.setIfInBounds_toArray, List.set_cons_zero, List.set_cons_succ])
    | (refine mix_pure (by rfl) (by rfl) (fun K hK => ?_); go_big_quiet_op; refine hK _ ?_; clear hK K)
    | (refine mix_take (by rfl) ?_
       apply Exists.intro
       refine ⟨?_, ?_⟩
       · intro w' hSw
         have hSc := hSw.cell
         clear hSw
         go_simp
         try with_reducible rfl
       try simp only [Act.put, List.setIfInBounds_toArray, List.set_cons_zero, List.set_cons_succ])
    | (refine mix_move (by rfl) (fun K hK => ?_)
       first
         | (refine wp_look _ _ rfl b L e rfl rfl h1.map.drew h1.ok h1.nodup he ?_)
         | go_simp
       try dsimp only
       first
         | refine hK.out _ _ (hS.step hx (by omega)) ?_
         | refine hK.out _ _ hS ?_
         | refine hK.out _ _ (hS.alloc _ (by omega)) ?_
         | refine hK.out _ _ (hS.grown hg hx) ?_
       clear hK K hS
       intro hS
       try simp only [Act.put, List.setIfInBounds_toArray, List.set_cons_zero, List.set_cons_succ])
    | fail)
  refine mix_nil ?_
  simp only [tailed, List.filterMap_cons, List.filterMap_nil, List.getElem?_cons_zero, List.getElem?_cons_succ]
  go_wp2_with fail
  refine NoPanic.normal ?_
  have hb2 := hS.below
  by_cases hm : e ∈ L
  · have HM := Lib.hid hm
    have hd : decide (e ∈ L) = true := decide_eq_true hm
    clear hm
    have c2 : w1.drew.cell? ⟨w.heap.size, 2, none⟩ = some (.int .i64 m) := c2
    clear hS
    go_wp2_with fail
    go_ret
    exact ⟨by simp only [validB, HM.out, decide_true, Bool.true_and]; congr 2, hb2⟩
  · have HM := Lib.hid hm
    have hd : decide (e ∈ L) = false := decide_eq_false hm
    clear hm
    clear hS
    go_wp2_with fail
    go_ret
    exact ⟨by simp only [validB, HM.out, decide_false, Bool.false_and]; rfl, hb2⟩

set_option maxHeartbeats 1000000 in
theorem clone_any (A : Option Addr) (n c : Nat) (l : List SE) (hn : l.length = n) (w : World) (h : Seals w w.heap.size A l) (hl : n ≤ 1000000) :
    Calls Try.prog 22 #[.slice A n c] w fun r w' => ∃ v', r = .returned v' ∧ w'.ownsRow w.heap.size 32 2 v' n (SE.cells l) ∧ Below w.heap.size w w' := by
  obtain ⟨ie, ei, ez0, ez1, ez2⟩ := info_parts info_sealed
  subst hn
  have q22 : ∀ (w : World) (a : Option Addr) (n c n' c' : Nat), (binOp .eql 22 (.slice a n c) (.slice none n' c')).run Try.prog w = .ok (.bool a.isNone) w := fun w a n c n' c' => Lib.run_eql_slice_nil w _ _ a n c n' c' Try.underlying22
  cases A with
  | none =>
    have h0 : l.length = 0 := by
      by_cases h0 : 0 < l.length
      · obtain ⟨_, _, e, _⟩ := h.2 h0
        cases e
      · omega
    obtain rfl := List.eq_nil_of_length_eq_zero h0
    clear h0
    go_enter Try.func22, Try.ntmps22
    go_wp2_with fail
    go_ret
    exact ⟨_, rfl, World.ownsRow_nil _ _ _ _, Below.refl _ _⟩
  | some a =>
    go_enter Try.func22, Try.ntmps22
    go_wp2_with (at_builtin; refine wpList_app rfl _ _ 22 rfl w.heap.size 32 ie _ 2 24 Try.underlying22 ei ez0 ez1 ez2 rfl (by decide) _ _ 0 [] rfl (World.ownsRow_lit w #[] 0 (Nat.le_refl _) (by decide) rfl) w.heap.size (some a) l.length c (SE.cells l) rfl (Shows.alloc h (Nat.le_refl _) _) (SE.oneCells l) (by simp) (by omega) (by omega) ?_)
    intro v' w' own hx hg
    obtain ⟨A4, c4, rfl, _, _, _⟩ := caps_of_own own
    go_wp2_with fail
    go_ret
    exact ⟨_, rfl, by simpa using own, ((Below.refl _ _).alloc (Nat.le_refl _) _).trans hx⟩

/-- a slice that shows a ring's entries, of the call's own -/
def Copied (w w' : World) (v : Value) (L : List SE) : Prop := w'.ownsRow w.heap.size 32 2 v L.length (SE.cells L) ∧ Below w.heap.size w w'
set_option maxHeartbeats 1000000 in
theorem all_any (w : World) (base g b : Nat) (v : Value) (L : List SE) (h : RingAt w base g b v L) (hl : L.length ≤ 1000000) :
    Calls Try.prog 13 #[.pointer (some ⟨g, 0, none⟩)] w fun r w' => ∃ v', r = .returned v' ∧ Copied w w' v' L := by
  obtain ⟨A, c, rfl, hs, _, _⟩ := caps_of_own h.row
  have g0 := h.cell0
  have r1 := h.lt
  go_enter Try.func13, Try.ntmps13
  go_wp2_with fail
  refine (clone_any A L.length c L rfl w hs hl).mono ?_
  rintro e w1 ⟨v1, rfl, h1, hx⟩
  obtain ⟨A4, c4, rfl, _, _, _⟩ := caps_of_own h1
  go_wp2_with fail
  go_ret
  exact ⟨_, rfl, h1, hx⟩

def fewB (l : List SE) (n : Nat) : Bool := l.all (fun x => decide (x.s.size ≤ 500)) && decide (l.length ≤ n)
set_option maxHeartbeats 1000000 in
theorem few_any (A : Option Addr) (c : Nat) (l : List SE) (w : World) (h : Seals w w.heap.size A l) (hl : l.length ≤ 9223372036854775807) (hs : ∀ x ∈ l, x.s.size ≤ maxLen) :
    Calls Try.prog 9 #[.slice A l.length c, .int .i64 40] w fun e w' => e = .returned (.bool (fewB l 40)) ∧ Below w.heap.size w w' := by
  go_enter Try.func9, Try.ntmps9
  go_wp2_with fail
  go_loopw [5] (fun i wr => ∃ k : Nat, k ≤ l.length ∧ k ≤ 41 ∧ i = .int .i64 k ∧ (∀ j, (hj : j < k) → (hl : j < l.length) → l[j].s.size ≤ 500) ∧ Below w.heap.size w wr) (fun i _ => l.length - (intOf i).toNat)
  case atStart => exact ⟨0, Nat.zero_le _, by omega, rfl, fun j h => absurd h (by omega), Below.refl _ _⟩
  case round =>
    obtain ⟨k, hk, hk2, rfl, hall, hbw⟩ := hrel
    have HA := Lib.hid hall
    clear hall
    by_cases hlt : k < l.length
    · by_cases hk3 : k ≤ 40
      · obtain ⟨b, o, hA, hb, h0, h1⟩ := (show Seals wr w.heap.size A l from Shows.below h hbw).at_ hlt
        subst hA
        have hm : l[k].s.size ≤ maxLen := hs _ (List.getElem_mem hlt)
        unfold maxLen at hm
        generalize hek : l[k] = e at h0 h1 hm
        by_cases hz : e.s.size ≤ 500
        · have HZ := Lib.hid hz
          have hz' : decide ((e.s.size : Int) > 500) = false := decide_eq_false (by omega)
          clear hz
          go_wp2_with fail
          go_roundw
          case rel =>
            refine ⟨k + 1, by omega, by omega, by go_num, fun j hj hj2 => ?_, hbw⟩
            by_cases e1 : j = k
            · subst e1
              rw [hek]
              exact HZ.out
            · exact HA.out j (by omega) hj2
          case measure => simp [intOf]; omega
        · have HZ := Lib.hid hz
          have hz' : decide ((e.s.size : Int) > 500) = true := decide_eq_true (by omega)
          clear hz
          go_wp2_with fail
          go_ret
          refine ⟨?_, hbw⟩
          have : fewB l 40 = false := by
            simp only [fewB, Bool.and_eq_false_iff, List.all_eq_false]
            exact .inl ⟨l[k], List.getElem_mem hlt, by rw [hek]; simpa using HZ.out⟩
          rw [this]
          rfl
      · go_wp2_with fail
        go_ret
        exact ⟨ret_bool (by rw [show fewB l 40 = false from by simp only [fewB]; rw [decide_eq_false (show ¬ l.length ≤ 40 by omega), Bool.and_false]]; exact decide_eq_false (by omega)), hbw⟩
    · go_wp2_with fail
      go_ret
      refine ⟨ret_bool ?_, hbw⟩
      have : l.all (fun x => decide (x.s.size ≤ 500)) = true := by
        simp only [List.all_eq_true, decide_eq_true_eq]
        intro x hx
        obtain ⟨j, hj, rfl⟩ := List.getElem_of_mem hx
        exact HA.out j (by omega) hj
      simp only [fewB, this, Bool.true_and]
      exact decide_eq_decide.2 (by omega)
end Go.Proofs.Ytappligfampdjaa
