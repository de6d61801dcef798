/-
  The walk of the reference's Right: what it computes. Conditions: none.
-/
import Derived.Test.YteahkgoedibimaaWalkC
namespace Go.Proofs.Yteahkgoedibimaa
open Go.RowKit
theorem lit_cell (w : World) (news : List Value) (e : TypeId) (j : Nat) (u : Value) (hu : news[j]? = some u) : (w.alloc (.cells news.toArray e)).cell? ⟨w.heap.size, j, none⟩ = some u := by
  rw [cell_of_row _ w.heap.size j news.toArray e (0, 0) (heap_alloc_new w _)]
  simpa using hu
theorem badP_in (u : P2) : badP u = (!inB u.a 0 u.b || decide (1048576 < u.b)) := by
  unfold badP inB
  rw [Bool.eq_iff_iff]
  simp only [Bool.or_eq_true, Bool.not_eq_true', Bool.and_eq_false_iff, decide_eq_true_eq, decide_eq_false_iff_not]
  omega
theorem right_badW {ws ls : List P2} {rs : List P3} {k : Nat} (hk : k < ws.length) (h : badP ws[k] = true) : rightC ws ls rs = false := by
  have : ws.any badP = true := List.any_eq_true.2 ⟨_, List.getElem_mem hk, h⟩
  simp [rightC, this]
theorem right_badL {ws ls : List P2} {rs : List P3} {k : Nat} (hk : k < ls.length) (h : badP ls[k] = true) : rightC ws ls rs = false := by
  have : ls.any badP = true := List.any_eq_true.2 ⟨_, List.getElem_mem hk, h⟩
  simp [rightC, this]
theorem right_badR {ws ls : List P2} {rs : List P3} {k : Nat} (hk : k < rs.length) (h : badR ws.length rs[k] = true) : rightC ws ls rs = false := by
  have : rs.any (badR ws.length) = true := List.any_eq_true.2 ⟨_, List.getElem_mem hk, h⟩
  simp [rightC, this]
/-- A box of three ints. -/
def Box3 (w : World) (g : Nat) (t : P3) : Prop := w.cell? ⟨g, 0, none⟩ = some (.int .i64 t.a) ∧ w.cell? ⟨g, 1, none⟩ = some (.int .i64 t.b) ∧ w.cell? ⟨g, 2, none⟩ = some (.int .i64 t.c) ∧ g < w.heap.size
theorem Box3.new (w : World) (t : P3) (e : TypeId) : Box3 (w.alloc (.cells #[.int .i64 t.a, .int .i64 t.b, .int .i64 t.c] e)) w.heap.size t := by
  have h : ∀ j u, [Value.int .i64 t.a, Value.int .i64 t.b, Value.int .i64 t.c][j]? = some u → _ := fun j u hu => cell_alloc_add w [.int .i64 t.a, .int .i64 t.b, .int .i64 t.c] e j u hu
  exact ⟨h 0 _ rfl, h 1 _ rfl, h 2 _ rfl, by simp⟩
theorem Box3.ext {w w' : World} {g : Nat} {t : P3} (h : Box3 w g t) (hx : Below w.heap.size w w') : Box3 w' g t := by
  obtain ⟨h0, h1, h2, h3⟩ := h
  have := (bcell hx).1
  exact ⟨(this _ _ h3).trans h0, (this _ _ h3).trans h1, (this _ _ h3).trans h2, Nat.lt_of_lt_of_le h3 hx.size⟩
set_option maxHeartbeats 4000000 in
set_option maxRecDepth 100000 in
theorem rright_any (A1 A2 A3 : Option Addr) (c1 c2 c3 : Nat) (ws ls : List P2) (rs : List P3) (w : World) (h1 : Two w w.heap.size A1 ws) (h2 : Two w w.heap.size A2 ls) (h3 : Three w w.heap.size A3 rs)
    (hl1 : ws.length ≤ 9223372036854775807) :
    Calls Try.prog 18 #[.agg #[.slice A1 ws.length c1, .slice A2 ls.length c2, .slice A3 rs.length c3]] w fun e w' => e = .returned (.bool (rightC ws ls rs)) ∧ Below w.heap.size w w' := by
  have hbA := ((Below.refl w.heap.size w).alloc (Nat.le_refl _) (.cells #[.slice A1 ws.length c1, .slice A2 ls.length c2, .slice A3 rs.length c3] 26))
  go_enter Try.func18, Try.ntmps18
  have wn : IntKind.i64.wrap ((ws.length : Int) - 1) = (ws.length : Int) - 1 := IntWalk.i64_in _ (by omega)
  by_cases p1 : (ws.length : Int) < 1
  · skip
    go_wp2_with fail
    go_ret
    exact ⟨by simp [rightC]; omega, hbA⟩
  have p1' := decide_eq_false p1
  by_cases p2 : (82 : Int) < (ws.length : Int)
  · skip
    go_wp2_with fail
    go_ret
    exact ⟨by simp [rightC]; omega, hbA⟩
  have p2' := decide_eq_false p2
  by_cases p3 : (ls.length : Int) = (ws.length : Int) - 1
  rotate_left
  · have p3' : ((ls.length : Int) != (ws.length : Int) - 1) = true := by simp [p3]
    go_wp2_with fail
    go_ret
    exact ⟨by simp [rightC]; omega, hbA⟩
  have p3' : ((ls.length : Int) != (ws.length : Int) - 1) = false := by simp [p3]
  by_cases p4 : (200 : Int) < (rs.length : Int)
  · skip
    go_wp2_with fail
    go_ret
    exact ⟨by simp [rightC]; omega, hbA⟩
  have p4' := decide_eq_false p4
  have HP3 := Lib.hid p3
  clear p3
  go_wp2_with fail
  clear p3'
  have x0 := lit_cell w [.slice A1 ws.length c1, .slice A2 ls.length c2, .slice A3 rs.length c3] 26 0 _ rfl
  have x1 := lit_cell w [.slice A1 ws.length c1, .slice A2 ls.length c2, .slice A3 rs.length c3] 26 1 _ rfl
  have x2 := lit_cell w [.slice A1 ws.length c1, .slice A2 ls.length c2, .slice A3 rs.length c3] 26 2 _ rfl
  have sA : w.heap.size < (w.alloc (.cells #[.slice A1 ws.length c1, .slice A2 ls.length c2, .slice A3 rs.length c3] 26)).heap.size := by simp
  simp only [List.toArray] at x0 x1 x2
  generalize w.alloc (.cells #[.slice A1 ws.length c1, .slice A2 ls.length c2, .slice A3 rs.length c3] 26) = wA at *
  go_loopw [4] (fun i wr => ∃ k : Nat, k ≤ ws.length ∧ i = .int .i64 k ∧ (∀ j, (hj : j < ws.length) → j < k → badP ws[j] = false) ∧ Below wA.heap.size wA wr) (fun i _ => ws.length - (intOf i).toNat)
  case atStart => exact ⟨0, Nat.zero_le _, rfl, fun j _ h => absurd h (by omega), Below.refl _ _⟩
  case round =>
    obtain ⟨k, hk, rfl, hall, hbB⟩ := hrel
    have HA1 := Lib.hid hall
    clear hall
    have hbw := hbA.trans (hbB.mono hbA.size)
    by_cases hlt : k < ws.length
    · skip
      have i0' : (0 : Int) ≤ k := by omega
      have i1' : (k : Int) < (ws.length : Int) := by omega
      have hszB := hbB.size
      obtain ⟨b, o, rfl, hb, e0, e1⟩ := ((two_ext h1 hbA).below hbB).at_ hlt
      have i2' : b < wr.heap.size := by omega
      have i3' : w.heap.size < wr.heap.size := by omega
      have hbad := badP_in ws[k]
      have HB := Lib.hid hbad
      clear hbad
      have HK := Lib.hid (right_badW (ws := ws) (ls := ls) (rs := rs) hlt)
      generalize hT : ws[k] = t at HB HK e0 e1
      have HT := Lib.hid hT
      clear hT
      have x0 := ((bcell hbB).1 _ _ sA).trans x0
      cases hin : inB t.a 0 t.b
      · go_wp2_with fail
        refine wp_region_mix [(0, true), (1, true), (2, true), (3, true), (4, true), (5, true), (6, true), (7, true), (8, true), (9, true), (10, true), (11, true), (12, false), (13, true), (14, true), (15, true), (16, true), (17, true), (18, true), (19, true), (20, true), (21, true), (22, true)] [] (SB wA.heap.size wA wr.heap.size none _) (by kernel_rfl) (by kernel_rfl) (by kernel_rfl) (by kernel_rfl) (by decide) (SB.start hbB (by omega)) (fun hS => ?_)
        simp only [planned, List.filterMap_cons, List.filterMap_nil, List.getElem?_cons_zero, List.getElem?_cons_succ, Option.map_some]
        repeat (first
          | (refine mix_skip (by rfl) ?_; try simp only [Act.put, List.setIfInBounds_toArray, List.set_cons_zero, List.set_cons_succ])
          | (refine mix_pass hS (by rfl) ?_; try simp only [Act.put, List.setIfInBounds_toArray, List.set_cons_zero, List.set_cons_succ])
          | (refine mix_pure (by rfl) (by rfl) (fun K hK => ?_); go_big_quiet_op; refine hK _ ?_; clear hK K)
          | (refine mix_take (by rfl) ?_
             apply Exists.intro
             refine ⟨?_, ?_⟩
             · intro w' hSw
               have hSc := hSw.cell
               clear hSw
               go_simp
               try with_reducible rfl
             try simp only [Act.put, List.setIfInBounds_toArray, List.set_cons_zero, List.set_cons_succ])
          | (refine mix_move (by rfl) (fun K hK => ?_)
             first
               | (go_simp; go_at_call 33; refine (in_any _ _ _ _).mono ?_; rw [hin]; rintro e w6 ⟨rfl, hx⟩)
               | go_simp
             try dsimp only
             first
               | refine hK.out _ _ (hS.step hx (by omega)) ?_
               | refine hK.out _ _ hS ?_
               | refine hK.out _ _ (hS.alloc _ (by omega)) ?_
               | refine hK.out _ _ (hS.grown hg hx) ?_
             clear hK K hS
             intro hS
             try simp only [Act.put, List.setIfInBounds_toArray, List.set_cons_zero, List.set_cons_succ])
          | fail)
        refine mix_nil ?_
        simp only [tailed, List.filterMap_nil]
        go_wp2_with fail
        refine NoPanic.normal ?_
        have hx9 := hS.below
        go_wp2_with fail
        go_ret
        exact ⟨ret_bool (HK.out (by rw [HB.out, hin]; rfl)).symm, hbA.trans (hx9.mono hbA.size)⟩
      · by_cases q : 1048576 < t.b
        · go_wp2_with fail
          refine wp_region_mix [(0, true), (1, true), (2, true), (3, true), (4, true), (5, true), (6, true), (7, true), (8, true), (9, true), (10, true), (11, true), (12, false), (13, true), (14, true), (15, true), (16, true), (17, true), (18, true), (19, true), (20, true), (21, true), (22, true)] [] (SB wA.heap.size wA wr.heap.size none _) (by kernel_rfl) (by kernel_rfl) (by kernel_rfl) (by kernel_rfl) (by decide) (SB.start hbB (by omega)) (fun hS => ?_)
          simp only [planned, List.filterMap_cons, List.filterMap_nil, List.getElem?_cons_zero, List.getElem?_cons_succ, Option.map_some]
          repeat (first
            | (refine mix_skip (by rfl) ?_; try simp only [Act.put, List.setIfInBounds_toArray, List.set_cons_zero, List.set_cons_succ])
            | (refine mix_pass hS (by rfl) ?_; try simp only [Act.put, List.setIfInBounds_toArray, List.set_cons_zero, List.set_cons_succ])
            | (refine mix_pure (by rfl) (by rfl) (fun K hK => ?_); go_big_quiet_op; refine hK _ ?_; clear hK K)
            | (refine mix_take (by rfl) ?_
               apply Exists.intro
               refine ⟨?_, ?_⟩
               · intro w' hSw
                 have hSc := hSw.cell
                 clear hSw
                 go_simp
                 try with_reducible rfl
               try simp only [Act.put, List.setIfInBounds_toArray, List.set_cons_zero, List.set_cons_succ])
            | (refine mix_move (by rfl) (fun K hK => ?_)
               first
                 | (go_simp; go_at_call 33; refine (in_any _ _ _ _).mono ?_; rw [hin]; rintro e w6 ⟨rfl, hx⟩)
                 | go_simp
               try dsimp only
               first
                 | refine hK.out _ _ (hS.step hx (by omega)) ?_
                 | refine hK.out _ _ hS ?_
                 | refine hK.out _ _ (hS.alloc _ (by omega)) ?_
                 | refine hK.out _ _ (hS.grown hg hx) ?_
               clear hK K hS
               intro hS
               try simp only [Act.put, List.setIfInBounds_toArray, List.set_cons_zero, List.set_cons_succ])
            | fail)
          refine mix_nil ?_
          simp only [tailed, List.filterMap_nil]
          go_wp2_with fail
          refine NoPanic.normal ?_
          have hx9 := hS.below
          go_wp2_with fail
          go_ret
          exact ⟨ret_bool (HK.out (by rw [HB.out, hin]; simp [q])).symm, hbA.trans (hx9.mono hbA.size)⟩
        · have q' := decide_eq_false q
          go_wp2_with fail
          refine wp_region_mix [(0, true), (1, true), (2, true), (3, true), (4, true), (5, true), (6, true), (7, true), (8, true), (9, true), (10, true), (11, true), (12, false), (13, true), (14, true), (15, true), (16, true), (17, true), (18, true), (19, true), (20, true), (21, true), (22, true)] [] (SB wA.heap.size wA wr.heap.size none _) (by kernel_rfl) (by kernel_rfl) (by kernel_rfl) (by kernel_rfl) (by decide) (SB.start hbB (by omega)) (fun hS => ?_)
          simp only [planned, List.filterMap_cons, List.filterMap_nil, List.getElem?_cons_zero, List.getElem?_cons_succ, Option.map_some]
          repeat (first
            | (refine mix_skip (by rfl) ?_; try simp only [Act.put, List.setIfInBounds_toArray, List.set_cons_zero, List.set_cons_succ])
            | (refine mix_pass hS (by rfl) ?_; try simp only [Act.put, List.setIfInBounds_toArray, List.set_cons_zero, List.set_cons_succ])
            | (refine mix_pure (by rfl) (by rfl) (fun K hK => ?_); go_big_quiet_op; refine hK _ ?_; clear hK K)
            | (refine mix_take (by rfl) ?_
               apply Exists.intro
               refine ⟨?_, ?_⟩
               · intro w' hSw
                 have hSc := hSw.cell
                 clear hSw
                 go_simp
                 try with_reducible rfl
               try simp only [Act.put, List.setIfInBounds_toArray, List.set_cons_zero, List.set_cons_succ])
            | (refine mix_move (by rfl) (fun K hK => ?_)
               first
                 | (go_simp; go_at_call 33; refine (in_any _ _ _ _).mono ?_; rw [hin]; rintro e w6 ⟨rfl, hx⟩)
                 | go_simp
               try dsimp only
               first
                 | refine hK.out _ _ (hS.step hx (by omega)) ?_
                 | refine hK.out _ _ hS ?_
                 | refine hK.out _ _ (hS.alloc _ (by omega)) ?_
                 | refine hK.out _ _ (hS.grown hg hx) ?_
               clear hK K hS
               intro hS
               try simp only [Act.put, List.setIfInBounds_toArray, List.set_cons_zero, List.set_cons_succ])
            | fail)
          refine mix_nil ?_
          simp only [tailed, List.filterMap_nil]
          go_wp2_with fail
          refine NoPanic.normal ?_
          have hx9 := hS.below
          have HI := Lib.hid hin
          go_wp2_with fail
          go_roundw
          case rel =>
            refine ⟨k + 1, by omega, by go_num, fun j hj hjk => ?_, hx9⟩
            by_cases e : j = k
            · subst e; rw [HT.out, HB.out, HI.out]; simp; omega
            · exact HA1.out j hj (by omega)
          case measure => simp [intOf]; omega
    · have hany : ws.any badP = false := not_any (fun j hj => HA1.out j hj (by omega))
      have HW := Lib.hid hany
      clear hany
      have hl2 : ls.length ≤ 81 := by have := HP3.out; omega
      go_wp2_with fail
      clear x0
      go_loopw [5] (fun i wr => ∃ k : Nat, k ≤ ls.length ∧ i = .int .i64 k ∧ (∀ j, (hj : j < ls.length) → j < k → badP ls[j] = false) ∧ Below wA.heap.size wA wr) (fun i _ => ls.length - (intOf i).toNat)
      case atStart => exact ⟨0, Nat.zero_le _, rfl, fun j _ h => absurd h (by omega), hbB⟩
      case round =>
        obtain ⟨k, hk, rfl, hall, hbB⟩ := hrel
        have HA1 := Lib.hid hall
        clear hall
        have hbw := hbA.trans (hbB.mono hbA.size)
        by_cases hlt : k < ls.length
        · have tst : decide ((k : Int) < (ws.length : Int) - 1) = true := decide_eq_true (by have := HP3.out; omega)
          have i0' : (0 : Int) ≤ k := by omega
          have i1' : (k : Int) < (ls.length : Int) := by omega
          have hszB := hbB.size
          obtain ⟨b, o, rfl, hb, e0, e1⟩ := ((two_ext h2 hbA).below hbB).at_ hlt
          have i2' : b < wr.heap.size := by omega
          have i3' : w.heap.size < wr.heap.size := by omega
          have hbad := badP_in ls[k]
          have HB := Lib.hid hbad
          clear hbad
          have HK := Lib.hid (right_badL (ws := ws) (ls := ls) (rs := rs) hlt)
          generalize hT : ls[k] = t at HB HK e0 e1
          have HT := Lib.hid hT
          clear hT
          have x1 := ((bcell hbB).1 _ _ sA).trans x1
          cases hin : inB t.a 0 t.b
          · go_wp2_with fail
            refine wp_region_mix [(0, true), (1, true), (2, true), (3, true), (4, true), (5, true), (6, true), (7, true), (8, true), (9, true), (10, true), (11, true), (12, false), (13, true), (14, true), (15, true), (16, true), (17, true), (18, true), (19, true), (20, true), (21, true), (22, true)] [] (SB wA.heap.size wA wr.heap.size none _) (by kernel_rfl) (by kernel_rfl) (by kernel_rfl) (by kernel_rfl) (by decide) (SB.start hbB (by omega)) (fun hS => ?_)
            simp only [planned, List.filterMap_cons, List.filterMap_nil, List.getElem?_cons_zero, List.getElem?_cons_succ, Option.map_some]
            repeat (first
              | (refine mix_skip (by rfl) ?_; try simp only [Act.put, List.setIfInBounds_toArray, List.set_cons_zero, List.set_cons_succ])
              | (refine mix_pass hS (by rfl) ?_; try simp only [Act.put, List.setIfInBounds_toArray, List.set_cons_zero, List.set_cons_succ])
              | (refine mix_pure (by rfl) (by rfl) (fun K hK => ?_); go_big_quiet_op; refine hK _ ?_; clear hK K)
              | (refine mix_take (by rfl) ?_
                 apply Exists.intro
                 refine ⟨?_, ?_⟩
                 · intro w' hSw
                   have hSc := hSw.cell
                   clear hSw
                   go_simp
                   try with_reducible rfl
                 try simp only [Act.put, List.setIfInBounds_toArray, List.set_cons_zero, List.set_cons_succ])
              | (refine mix_move (by rfl) (fun K hK => ?_)
                 first
                   | (go_simp; go_at_call 33; refine (in_any _ _ _ _).mono ?_; rw [hin]; rintro e w6 ⟨rfl, hx⟩)
                   | go_simp
                 try dsimp only
                 first
                   | refine hK.out _ _ (hS.step hx (by omega)) ?_
                   | refine hK.out _ _ hS ?_
                   | refine hK.out _ _ (hS.alloc _ (by omega)) ?_
                   | refine hK.out _ _ (hS.grown hg hx) ?_
                 clear hK K hS
                 intro hS
                 try simp only [Act.put, List.setIfInBounds_toArray, List.set_cons_zero, List.set_cons_succ])
              | fail)
            refine mix_nil ?_
            simp only [tailed, List.filterMap_nil]
            go_wp2_with fail
            refine NoPanic.normal ?_
            have hx9 := hS.below
            go_wp2_with fail
            go_ret
            exact ⟨ret_bool (HK.out (by rw [HB.out, hin]; rfl)).symm, hbA.trans (hx9.mono hbA.size)⟩
          · by_cases q : 1048576 < t.b
            · go_wp2_with fail
              refine wp_region_mix [(0, true), (1, true), (2, true), (3, true), (4, true), (5, true), (6, true), (7, true), (8, true), (9, true), (10, true), (11, true), (12, false), (13, true), (14, true), (15, true), (16, true), (17, true), (18, true), (19, true), (20, true), (21, true), (22, true)] [] (SB wA.heap.size wA wr.heap.size none _) (by kernel_rfl) (by kernel_rfl) (by kernel_rfl) (by kernel_rfl) (by decide) (SB.start hbB (by omega)) (fun hS => ?_)
              simp only [planned, List.filterMap_cons, List.filterMap_nil, List.getElem?_cons_zero, List.getElem?_cons_succ, Option.map_some]
              repeat (first
                | (refine mix_skip (by rfl) ?_; try simp only [Act.put, List.setIfInBounds_toArray, List.set_cons_zero, List.set_cons_succ])
                | (refine mix_pass hS (by rfl) ?_; try simp only [Act.put, List.setIfInBounds_toArray, List.set_cons_zero, List.set_cons_succ])
                | (refine mix_pure (by rfl) (by rfl) (fun K hK => ?_); go_big_quiet_op; refine hK _ ?_; clear hK K)
                | (refine mix_take (by rfl) ?_
                   apply Exists.intro
                   refine ⟨?_, ?_⟩
                   · intro w' hSw
                     have hSc := hSw.cell
                     clear hSw
                     go_simp
                     try with_reducible rfl
                   try simp only [Act.put, List.setIfInBounds_toArray, List.set_cons_zero, List.set_cons_succ])
                | (refine mix_move (by rfl) (fun K hK => ?_)
                   first
                     | (go_simp; go_at_call 33; refine (in_any _ _ _ _).mono ?_; rw [hin]; rintro e w6 ⟨rfl, hx⟩)
                     | go_simp
                   try dsimp only
                   first
                     | refine hK.out _ _ (hS.step hx (by omega)) ?_
                     | refine hK.out _ _ hS ?_
                     | refine hK.out _ _ (hS.alloc _ (by omega)) ?_
                     | refine hK.out _ _ (hS.grown hg hx) ?_
                   clear hK K hS
                   intro hS
                   try simp only [Act.put, List.setIfInBounds_toArray, List.set_cons_zero, List.set_cons_succ])
                | fail)
              refine mix_nil ?_
              simp only [tailed, List.filterMap_nil]
              go_wp2_with fail
              refine NoPanic.normal ?_
              have hx9 := hS.below
              go_wp2_with fail
              go_ret
              exact ⟨ret_bool (HK.out (by rw [HB.out, hin]; simp [q])).symm, hbA.trans (hx9.mono hbA.size)⟩
            · have q' := decide_eq_false q
              go_wp2_with fail
              refine wp_region_mix [(0, true), (1, true), (2, true), (3, true), (4, true), (5, true), (6, true), (7, true), (8, true), (9, true), (10, true), (11, true), (12, false), (13, true), (14, true), (15, true), (16, true), (17, true), (18, true), (19, true), (20, true), (21, true), (22, true)] [] (SB wA.heap.size wA wr.heap.size none _) (by kernel_rfl) (by kernel_rfl) (by kernel_rfl) (by kernel_rfl) (by decide) (SB.start hbB (by omega)) (fun hS => ?_)
              simp only [planned, List.filterMap_cons, List.filterMap_nil, List.getElem?_cons_zero, List.getElem?_cons_succ, Option.map_some]
              repeat (first
                | (refine mix_skip (by rfl) ?_; try simp only [Act.put, List.setIfInBounds_toArray, List.set_cons_zero, List.set_cons_succ])
                | (refine mix_pass hS (by rfl) ?_; try simp only [Act.put, List.setIfInBounds_toArray, List.set_cons_zero, List.set_cons_succ])
                | (refine mix_pure (by rfl) (by rfl) (fun K hK => ?_); go_big_quiet_op; refine hK _ ?_; clear hK K)
                | (refine mix_take (by rfl) ?_
                   apply Exists.intro
                   refine ⟨?_, ?_⟩
                   · intro w' hSw
                     have hSc := hSw.cell
                     clear hSw
                     go_simp
                     try with_reducible rfl
                   try simp only [Act.put, List.setIfInBounds_toArray, List.set_cons_zero, List.set_cons_succ])
                | (refine mix_move (by rfl) (fun K hK => ?_)
                   first
                     | (go_simp; go_at_call 33; refine (in_any _ _ _ _).mono ?_; rw [hin]; rintro e w6 ⟨rfl, hx⟩)
                     | go_simp
                   try dsimp only
                   first
                     | refine hK.out _ _ (hS.step hx (by omega)) ?_
                     | refine hK.out _ _ hS ?_
                     | refine hK.out _ _ (hS.alloc _ (by omega)) ?_
                     | refine hK.out _ _ (hS.grown hg hx) ?_
                   clear hK K hS
                   intro hS
                   try simp only [Act.put, List.setIfInBounds_toArray, List.set_cons_zero, List.set_cons_succ])
                | fail)
              refine mix_nil ?_
              simp only [tailed, List.filterMap_nil]
              go_wp2_with fail
              refine NoPanic.normal ?_
              have hx9 := hS.below
              have HI := Lib.hid hin
              go_wp2_with fail
              go_roundw
              case rel =>
                refine ⟨k + 1, by omega, by go_num, fun j hj hjk => ?_, hx9⟩
                by_cases e : j = k
                · subst e; rw [HT.out, HB.out, HI.out]; simp; omega
                · exact HA1.out j hj (by omega)
              case measure => simp [intOf]; omega
        · have tst : decide ((k : Int) < (ws.length : Int) - 1) = false := decide_eq_false (by have := HP3.out; omega)
          have hany : ls.any badP = false := not_any (fun j hj => HA1.out j hj (by omega))
          have HV := Lib.hid hany
          clear hany
          go_wp2_with fail
          clear x1 tst
          go_loopw [6] (fun i wr => ∃ k : Nat, k ≤ rs.length ∧ i = .int .i64 k ∧ (∀ j, (hj : j < rs.length) → j < k → badR ws.length rs[j] = false) ∧ Below wA.heap.size wA wr) (fun i _ => rs.length - (intOf i).toNat)
          case atStart => exact ⟨0, Nat.zero_le _, rfl, fun j _ h => absurd h (by omega), hbB⟩
          case round =>
            obtain ⟨k, hk, rfl, hall, hbB⟩ := hrel
            have HA1 := Lib.hid hall
            clear hall
            have hbw := hbA.trans (hbB.mono hbA.size)
            have x2 := ((bcell hbB).1 _ _ sA).trans x2
            by_cases hlt : k < rs.length
            · have i0' : (0 : Int) ≤ k := by omega
              have i1' : (k : Int) < (rs.length : Int) := by omega
              have hszB := hbB.size
              obtain ⟨b, o, rfl, hb, e0, e1, e2⟩ := ((three_ext h3 hbA).below hbB).at_ hlt
              have i2' : b < wr.heap.size := by omega
              have i3' : w.heap.size < wr.heap.size := by omega
              have HK := Lib.hid (right_badR (ws := ws) (ls := ls) (rs := rs) hlt)
              generalize hT : rs[k] = t at HK e0 e1 e2
              have HT := Lib.hid hT
              clear hT
              have hbox := Box3.new wr t 49
              have hbC := hbB.alloc (o := .cells #[.int .i64 t.a, .int .i64 t.b, .int .i64 t.c] 49) hbB.size
              by_cases q1 : t.a < 0
              · skip
                go_wp2_with fail
                go_ret
                exact ⟨ret_bool (HK.out (by simp [badR]; omega)).symm, hbA.trans (hbC.mono hbA.size)⟩
              have q1' := decide_eq_false q1
              by_cases q2 : t.b ≤ t.a
              · skip
                go_wp2_with fail
                go_ret
                exact ⟨ret_bool (HK.out (by simp [badR]; omega)).symm, hbA.trans (hbC.mono hbA.size)⟩
              have q2' := decide_eq_false q2
              by_cases q3 : (ws.length : Int) ≤ t.b
              · skip
                go_wp2_with fail
                go_ret
                exact ⟨ret_bool (HK.out (by simp [badR]; omega)).symm, hbA.trans (hbC.mono hbA.size)⟩
              have q3' := decide_eq_false q3
              go_wp2_with fail
              refine (in_any _ _ _ _).mono ?_
              rintro e w6 ⟨rfl, hx⟩
              have hbD := hbC.trans (hx.mono hbC.size)
              have hbD' := hbA.trans (hbD.mono hbA.size)
              have hcc : badR ws.length t = !inB t.c 0 1048576 := by
                rw [Bool.eq_iff_iff]; simp [badR, inB]; omega
              have HC := Lib.hid hcc
              clear hcc
              cases hin : inB t.c 0 1048576
              · have HI := Lib.hid hin
                clear hin
                go_wp2_with fail
                go_ret
                exact ⟨ret_bool (HK.out (by rw [HC.out, HI.out]; rfl)).symm, hbD'⟩
              · have HI := Lib.hid hin
                clear hin
                go_wp2_with fail
                go_roundw
                case rel =>
                  refine ⟨k + 1, by omega, by go_num, fun j hj hjk => ?_, hbD⟩
                  by_cases e : j = k
                  · subst e; rw [HT.out, HC.out, HI.out]; rfl
                  · exact HA1.out j hj (by omega)
                case measure => simp [intOf]; omega
            · have hany : rs.any (badR ws.length) = false := not_anyR (fun j hj => HA1.out j hj (by omega))
              go_wp2_with fail
              go_ret
              refine ⟨ret_bool ?_, hbw⟩
              have q1 : decide (1 ≤ ws.length) = true := decide_eq_true (by omega)
              have q2 : decide (ws.length ≤ 82) = true := decide_eq_true (by omega)
              have q3 : decide (ls.length + 1 = ws.length) = true := decide_eq_true (by have := HP3.out; omega)
              have q4 : decide (rs.length ≤ 200) = true := decide_eq_true (by omega)
              simp only [rightC, q1, q2, q3, q4, HW.out, HV.out, hany, Bool.true_and, Bool.not_false]
end Go.Proofs.Yteahkgoedibimaa
