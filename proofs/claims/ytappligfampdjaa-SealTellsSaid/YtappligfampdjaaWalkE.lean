/-
  The walks of the reference's Valid and All; of Copy. Conditions: none but the slices' sizes.
-/
import Derived.Test.YtappligfampdjaaWalkD
namespace Go.Proofs.Ytappligfampdjaa
open Go.RowKit Go.WideMaps

def rvalidB (L : List SE) (e : SE) (m : Int) : Bool := decide (0 ≤ m) && decide (L[m.toNat]? = some e)
theorem rvalid_eq {L : List SE} (h : L.Nodup) (e : SE) (m : Int) : rvalidB L e m = validB L e m := by
  unfold rvalidB validB markI
  by_cases hm : e ∈ L
  · simp only [hm, decide_true, if_true, Bool.true_and]
    have h1 : L.idxOf e < L.length := List.idxOf_lt_length_iff.2 hm
    have h2 : L[L.idxOf e] = e := List.getElem_idxOf h1
    by_cases hz : (L.idxOf e : Int) = m
    · subst hz
      simp only [Int.natCast_nonneg, decide_true, Bool.true_and, Int.toNat_natCast]
      rw [decide_eq_true_eq, List.getElem?_eq_getElem h1, h2]
    · rw [decide_eq_false hz]
      by_cases h0 : 0 ≤ m
      · rw [decide_eq_true h0, Bool.true_and, decide_eq_false]
        intro h3
        obtain ⟨h4, h5⟩ := List.getElem?_eq_some_iff.1 h3
        have := h.idxOf_getElem m.toNat h4
        rw [h5] at this
        omega
      · rw [decide_eq_false h0, Bool.false_and]
  · simp only [hm, decide_false, Bool.false_and, Bool.and_eq_false_iff, decide_eq_false_iff_not]
    exact .inr fun h3 => hm (List.mem_of_getElem? h3)
set_option maxHeartbeats 2000000 in
set_option maxRecDepth 100000 in
theorem rvalid_any (w : World) (base g : Nat) (v : Value) (L : List SE) (e : SE) (m : Int) (h : RefAt w base g v L) :
    Calls Try.prog 16 #[.pointer (some ⟨g, 0, none⟩), .agg #[.int .i64 e.a, .string e.s, .int .i64 m]] w fun r w' => r = .returned (.bool (rvalidB L e m)) ∧ Below w.heap.size w w' := by
  obtain ⟨A, c, rfl, hs, _, _⟩ := caps_of_own h.row
  go_enter Try.func16, Try.ntmps16
  go_wp2_with fail
  have ob1 := heap_alloc_new w (.cells #[.int .i64 e.a, .string e.s, .int .i64 m] 24)
  have hx1 := lit_below w (.cells #[.int .i64 e.a, .string e.s, .int .i64 m] 24)
  have hsz := size_alloc w (.cells #[.int .i64 e.a, .string e.s, .int .i64 m] 24)
  generalize w.alloc (.cells #[.int .i64 e.a, .string e.s, .int .i64 m] 24) = w1 at ob1 hx1 hsz ⊢
  have h1 := h.ext hx1
  obtain ⟨c0, c1, c2⟩ := cells3 ob1
  have g0 := h1.cell0
  have r1 := h1.lt
  have r0 : w.heap.size < w1.heap.size := by omega
  clear hsz
  by_cases hm0 : 0 ≤ m
  · obtain ⟨k, rfl⟩ : ∃ k : Nat, m = k := ⟨m.toNat, by omega⟩
    by_cases hlt : k < L.length
    · obtain ⟨b, o, hA, hb, p0, p1⟩ := (show Seals w1 w1.heap.size A L from seal_ext hs hx1).at_ hlt
      subst hA
      generalize hel : L[k] = x at p0 p1
      have HE := Lib.hid hel
      clear hel
      have HR : ∀ y, rvalidB L e k = y ↔ decide (x = e) = y := fun y => by
        simp only [rvalidB, Int.natCast_nonneg, decide_true, Bool.true_and, Int.toNat_natCast, List.getElem?_eq_getElem hlt, HE.out, Option.some.injEq]
      by_cases ha : x.a = e.a
      · by_cases hs2 : x.s = e.s
        · have HX : x = e := by cases x; cases e; simp_all
          subst HX
          clear ha hs2
          refine wp_region_mix [(0, true), (1, true), (2, true), (3, true), (4, true), (5, true), (6, true), (7, true), (8, true), (9, true), (10, true), (11, true), (12, true), (13, true), (14, true), (15, true), (16, true), (17, true), (18, true), (19, true), (20, true), (21, true), (22, true), (23, true), (24, true), (25, true), (26, true), (27, true), (28, true), (29, true), (30, true), (31, true), (32, true), (33, true), (34, true), (35, true), (36, true), (37, true), (38, true), (39, true), (40, true)] [41] (SB w.heap.size w w1.heap.size none _) (by kernel_rfl) (by kernel_rfl) (by kernel_rfl) (by kernel_rfl) (by decide) (SB.start hx1 (by omega)) (fun hS => ?_)
          simp only [planned, List.filterMap_cons, List.filterMap_nil, List.getElem?_cons_zero, List.getElem?_cons_succ, Option.map_some]
          repeat (first
            | (refine mix_skip (by rfl) ?_; try simp only [Act.put, List.setIfInBounds_toArray, List.set_cons_zero, List.set_cons_succ])
            | (refine mix_pass hS (by rfl) ?_; try simp only [Act.put, List.setIfInBounds_toArray, List.set_cons_zero, List.set_cons_succ])
            | (refine mix_pure (by rfl) (by rfl) (fun K hK => ?_); go_big_quiet_op; refine hK _ ?_; clear hK K)
            | (refine mix_take (by rfl) ?_
               apply Exists.intro
               refine ⟨?_, ?_⟩
               · intro w' hSw
                 have hSc := hSw.cell
                 clear hSw
                 go_simp
                 try with_reducible rfl
               try simp only [Act.put, List.setIfInBounds_toArray, List.set_cons_zero, List.set_cons_succ])
            | (refine mix_move (by rfl) (fun K hK => ?_)
               go_simp
               try dsimp only
               first
                 | refine hK.out _ _ (hS.step hx (by omega)) ?_
                 | refine hK.out _ _ hS ?_
                 | refine hK.out _ _ (hS.alloc _ (by omega)) ?_
                 | refine hK.out _ _ (hS.grown hg hx) ?_
               clear hK K hS
               intro hS
               try simp only [Act.put, List.setIfInBounds_toArray, List.set_cons_zero, List.set_cons_succ])
            | fail)
          refine mix_nil ?_
          simp only [tailed, List.filterMap_cons, List.filterMap_nil, List.getElem?_cons_zero, List.getElem?_cons_succ]
          go_wp2_with fail
          refine NoPanic.normal ?_
          go_wp2_with fail
          go_ret
          exact ⟨ret_bool ((HR _).2 (by simp)).symm, hS.below⟩
        · have hne : x ≠ e := fun h => hs2 (by rw [h])
          have HN := Lib.hid hne
          have hb1 : (x.s.toList == e.s.toList) = false := by rw [bytes_eq]; exact decide_eq_false hs2
          have hb2 : (x.s == e.s) = false := by rw [beq_toListBytes]; exact hb1
          clear hne hs2
          refine wp_region_mix [(0, true), (1, true), (2, true), (3, true), (4, true), (5, true), (6, true), (7, true), (8, true), (9, true), (10, true), (11, true), (12, true), (13, true), (14, true), (15, true), (16, true), (17, true), (18, true), (19, true), (20, true), (21, true), (22, true), (23, true), (24, true), (25, true), (26, true), (27, true), (28, true), (29, true), (30, true), (31, true), (32, true), (33, true), (34, true), (35, true), (36, true), (37, true), (38, true), (39, true), (40, true)] [41] (SB w.heap.size w w1.heap.size none _) (by kernel_rfl) (by kernel_rfl) (by kernel_rfl) (by kernel_rfl) (by decide) (SB.start hx1 (by omega)) (fun hS => ?_)
          simp only [planned, List.filterMap_cons, List.filterMap_nil, List.getElem?_cons_zero, List.getElem?_cons_succ, Option.map_some]
          repeat (first
            | (refine mix_skip (by rfl) ?_; try simp only [Act.put, List.setIfInBounds_toArray, List.set_cons_zero, List.set_cons_succ])
            | (refine mix_pass hS (by rfl) ?_; try simp only [Act.put, List.setIfInBounds_toArray, List.set_cons_zero, List.set_cons_succ])
            | (refine mix_pure (by rfl) (by rfl) (fun K hK => ?_); go_big_quiet_op; refine hK _ ?_; clear hK K)
            | (refine mix_take (by rfl) ?_
               apply Exists.intro
               refine ⟨?_, ?_⟩
               · intro w' hSw
                 have hSc := hSw.cell
                 clear hSw
                 go_simp
                 try with_reducible rfl
               try simp only [Act.put, List.setIfInBounds_toArray, List.set_cons_zero, List.set_cons_succ])
            | (refine mix_move (by rfl) (fun K hK => ?_)
               go_simp
               try dsimp only
               first
                 | refine hK.out _ _ (hS.step hx (by omega)) ?_
                 | refine hK.out _ _ hS ?_
                 | refine hK.out _ _ (hS.alloc _ (by omega)) ?_
                 | refine hK.out _ _ (hS.grown hg hx) ?_
               clear hK K hS
               intro hS
               try simp only [Act.put, List.setIfInBounds_toArray, List.set_cons_zero, List.set_cons_succ])
            | fail)
          refine mix_nil ?_
          simp only [tailed, List.filterMap_cons, List.filterMap_nil, List.getElem?_cons_zero, List.getElem?_cons_succ]
          go_wp2_with fail
          refine NoPanic.normal ?_
          go_wp2_with fail
          go_ret
          exact ⟨ret_bool ((HR _).2 (decide_eq_false HN.out)).symm, hS.below⟩
      · have hne : x ≠ e := fun h => ha (by rw [h])
        have HN := Lib.hid hne
        have hb1 : (x.a == e.a) = false := beq_eq_false_iff_ne.2 ha
        clear hne ha
        refine wp_region_mix [(0, true), (1, true), (2, true), (3, true), (4, true), (5, true), (6, true), (7, true), (8, true), (9, true), (10, true), (11, true), (12, true), (13, true), (14, true), (15, true), (16, true), (17, true), (18, true), (19, true), (20, true), (21, true), (22, true), (23, true), (24, true), (25, true), (26, true), (27, true), (28, true), (29, true), (30, true), (31, true), (32, true), (33, true), (34, true), (35, true), (36, true), (37, true), (38, true), (39, true), (40, true)] [41] (SB w.heap.size w w1.heap.size none _) (by kernel_rfl) (by kernel_rfl) (by kernel_rfl) (by kernel_rfl) (by decide) (SB.start hx1 (by omega)) (fun hS => ?_)
        simp only [planned, List.filterMap_cons, List.filterMap_nil, List.getElem?_cons_zero, List.getElem?_cons_succ, Option.map_some]
        repeat (first
          | (refine mix_skip (by rfl) ?_; try simp only [Act.put, List.setIfInBounds_toArray, List.set_cons_zero, List.set_cons_succ])
          | (refine mix_pass hS (by rfl) ?_; try simp only [Act.put, List.setIfInBounds_toArray, List.set_cons_zero, List.set_cons_succ])
          | (refine mix_pure (by rfl) (by rfl) (fun K hK => ?_); go_big_quiet_op; refine hK _ ?_; clear hK K)
          | (refine mix_take (by rfl) ?_
             apply Exists.intro
             refine ⟨?_, ?_⟩
             · intro w' hSw
               have hSc := hSw.cell
               clear hSw
               go_simp
               try with_reducible rfl
             try simp only [Act.put, List.setIfInBounds_toArray, List.set_cons_zero, List.set_cons_succ])
          | (refine mix_move (by rfl) (fun K hK => ?_)
             go_simp
             try dsimp only
             first
               | refine hK.out _ _ (hS.step hx (by omega)) ?_
               | refine hK.out _ _ hS ?_
               | refine hK.out _ _ (hS.alloc _ (by omega)) ?_
               | refine hK.out _ _ (hS.grown hg hx) ?_
             clear hK K hS
             intro hS
             try simp only [Act.put, List.setIfInBounds_toArray, List.set_cons_zero, List.set_cons_succ])
          | fail)
        refine mix_nil ?_
        simp only [tailed, List.filterMap_cons, List.filterMap_nil, List.getElem?_cons_zero, List.getElem?_cons_succ]
        go_wp2_with fail
        refine NoPanic.normal ?_
        go_wp2_with fail
        go_ret
        exact ⟨ret_bool ((HR _).2 (decide_eq_false HN.out)).symm, hS.below⟩
    · have hd : decide ((k : Int) < L.length) = false := decide_eq_false (by omega)
      refine wp_region_mix [(0, true), (1, true), (2, true), (3, true), (4, true), (5, true), (6, true), (7, true), (8, true), (9, true), (10, true), (11, true), (12, true), (13, true), (14, true), (15, true), (16, true), (17, true), (18, true), (19, true), (20, true), (21, true), (22, true), (23, true), (24, true), (25, true), (26, true), (27, true), (28, true), (29, true), (30, true), (31, true), (32, true), (33, true), (34, true), (35, true), (36, true), (37, true), (38, true), (39, true), (40, true)] [41] (SB w.heap.size w w1.heap.size none _) (by kernel_rfl) (by kernel_rfl) (by kernel_rfl) (by kernel_rfl) (by decide) (SB.start hx1 (by omega)) (fun hS => ?_)
      simp only [planned, List.filterMap_cons, List.filterMap_nil, List.getElem?_cons_zero, List.getElem?_cons_succ, Option.map_some]
      repeat (first
        | (refine mix_skip (by rfl) ?_; try simp only [Act.put, List.setIfInBounds_toArray, List.set_cons_zero, List.set_cons_succ])
        | (refine mix_pass hS (by rfl) ?_; try simp only [Act.put, List.setIfInBounds_toArray, List.set_cons_zero, List.set_cons_succ])
        | (refine mix_pure (by rfl) (by rfl) (fun K hK => ?_); go_big_quiet_op; refine hK _ ?_; clear hK K)
        | (refine mix_take (by rfl) ?_
           apply Exists.intro
           refine ⟨?_, ?_⟩
           · intro w' hSw
             have hSc := hSw.cell
             clear hSw
             go_simp
             try with_reducible rfl
           try simp only [Act.put, List.setIfInBounds_toArray, List.set_cons_zero, List.set_cons_succ])
        | (refine mix_move (by rfl) (fun K hK => ?_)
           go_simp
           try dsimp only
           first
             | refine hK.out _ _ (hS.step hx (by omega)) ?_
             | refine hK.out _ _ hS ?_
             | refine hK.out _ _ (hS.alloc _ (by omega)) ?_
             | refine hK.out _ _ (hS.grown hg hx) ?_
           clear hK K hS
           intro hS
           try simp only [Act.put, List.setIfInBounds_toArray, List.set_cons_zero, List.set_cons_succ])
        | fail)
      refine mix_nil ?_
      simp only [tailed, List.filterMap_cons, List.filterMap_nil, List.getElem?_cons_zero, List.getElem?_cons_succ]
      go_wp2_with fail
      refine NoPanic.normal ?_
      go_wp2_with fail
      go_ret
      refine ⟨ret_bool ?_, hS.below⟩
      simp only [rvalidB, Int.toNat_natCast, List.getElem?_eq_none (show L.length ≤ k by omega)]
      simp
  · have hd : decide (0 ≤ m) = false := decide_eq_false hm0
    have HD := Lib.hid hd
    refine wp_region_mix [(0, true), (1, true), (2, true), (3, true), (4, true), (5, true), (6, true), (7, true), (8, true), (9, true), (10, true), (11, true), (12, true), (13, true), (14, true), (15, true), (16, true), (17, true), (18, true), (19, true), (20, true), (21, true), (22, true), (23, true), (24, true), (25, true), (26, true), (27, true), (28, true), (29, true), (30, true), (31, true), (32, true), (33, true), (34, true), (35, true), (36, true), (37, true), (38, true), (39, true), (40, true)] [41] (SB w.heap.size w w1.heap.size none _) (by kernel_rfl) (by kernel_rfl) (by kernel_rfl) (by kernel_rfl) (by decide) (SB.start hx1 (by omega)) (fun hS => ?_)
    simp only [planned, List.filterMap_cons, List.filterMap_nil, List.getElem?_cons_zero, List.getElem?_cons_succ, Option.map_some]
    repeat (first
      | (refine mix_skip (by rfl) ?_; try simp only [Act.put, List.setIfInBounds_toArray, List.set_cons_zero, List.set_cons_succ])
      | (refine mix_pass hS (by rfl) ?_; try simp only [Act.put, List.setIfInBounds_toArray, List.set_cons_zero, List.set_cons_succ])
      | (refine mix_pure (by rfl) (by rfl) (fun K hK => ?_); go_big_quiet_op; refine hK _ ?_; clear hK K)
      | (refine mix_take (by rfl) ?_
         apply Exists.intro
         refine ⟨?_, ?_⟩
         · intro w' hSw
           have hSc := hSw.cell
           clear hSw
           go_simp
           try with_reducible rfl
         try simp only [Act.put, List.setIfInBounds_toArray, List.set_cons_zero, List.set_cons_succ])
      | (refine mix_move (by rfl) (fun K hK => ?_)
         go_simp
         try dsimp only
         first
           | refine hK.out _ _ (hS.step hx (by omega)) ?_
           | refine hK.out _ _ hS ?_
           | refine hK.out _ _ (hS.alloc _ (by omega)) ?_
           | refine hK.out _ _ (hS.grown hg hx) ?_
         clear hK K hS
         intro hS
         try simp only [Act.put, List.setIfInBounds_toArray, List.set_cons_zero, List.set_cons_succ])
      | fail)
    refine mix_nil ?_
    simp only [tailed, List.filterMap_cons, List.filterMap_nil, List.getElem?_cons_zero, List.getElem?_cons_succ]
    go_wp2_with fail
    refine NoPanic.normal ?_
    go_wp2_with fail
    go_ret
    exact ⟨ret_bool (by simp only [rvalidB, HD.out, Bool.false_and]), hS.below⟩

set_option maxHeartbeats 1000000 in
theorem rall_any (w : World) (base g : Nat) (v : Value) (L : List SE) (h : RefAt w base g v L) (hl : L.length ≤ 1000000) :
    Calls Try.prog 19 #[.pointer (some ⟨g, 0, none⟩)] w fun r w' => ∃ v', r = .returned v' ∧ Copied w w' v' L := by
  obtain ⟨ie, ei, ez0, ez1, ez2⟩ := info_parts info_sealed
  obtain ⟨A, c, rfl, hs, _, _⟩ := caps_of_own h.row
  have g0 := (h.ext (lit_below w (.cells #[] 32))).cell0
  have r1 := h.lt
  go_enter Try.func19, Try.ntmps19
  go_wp2_with (at_builtin; refine wpList_app rfl _ _ 22 rfl w.heap.size 32 ie _ 2 24 Try.underlying22 ei ez0 ez1 ez2 rfl (by decide) _ _ 0 [] rfl (World.ownsRow_lit w #[] 0 (Nat.le_refl _) (by decide) rfl) w.heap.size A L.length c (SE.cells L) rfl (Shows.alloc hs (Nat.le_refl _) _) (SE.oneCells L) (by simp) (by omega) (by omega) ?_)
  intro v' w' own hx hg
  obtain ⟨A4, c4, rfl, _, _, _⟩ := caps_of_own own
  go_wp2_with fail
  go_ret
  exact ⟨_, rfl, by simpa using own, ((Below.refl _ _).alloc (Nat.le_refl _) _).trans hx⟩
end Go.Proofs.Ytappligfampdjaa
