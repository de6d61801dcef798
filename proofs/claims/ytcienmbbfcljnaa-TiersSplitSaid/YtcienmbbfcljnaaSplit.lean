/-
  TiersSplit: a tier that is parted pays what it paid, where its Cap is not reached. Conditions: none.
-/
import Derived.Test.YtcienmbbfcljnaaLawD
import Derived.Test.YtcienmbbfcljnaaMore
import Derived.Test.YtcienmbbfcljnaaCut
import Derived.Test.YtcienmbbfcljnaaTree
namespace Go.Proofs.Ytcienmbbfcljnaa
open Go.ChangeShapes Go.WideShapes Go.ChangeAt Go.RowKit Go.Deep Go.Joins
attribute [-go_sem] sliced

theorem run_good_n (A A2 : Option Addr) (m c n c2 : Nat) (L : List P3) (cs : List Int) (w : World) (hm : L.length = m) (hn : cs.length = n) (hr : rightB L = true) (hc : claimsB cs = true) (h30 : n ≤ 30) (h : Three w w.heap.size A L) (h2 : Nums w w.heap.size A2 cs) (hl : m ≤ 9223372036854775807) :
    Calls Try.prog 12 #[.slice A m c, .slice A2 n c2] w fun e w' => ∃ A1 c1 A3 c3, e = .returned (.tuple #[.slice A1 n c1, .slice A3 m c3, .int .i64 0]) ∧ n ≤ c1 ∧ c1 ≤ maxLen ∧ m ≤ c3 ∧ c3 ≤ maxLen ∧ Nums w' w'.heap.size A1 (rests L cs n) ∧ Nums w' w'.heap.size A3 (useAt L cs n) ∧ Below w.heap.size w w' := by
  subst hm hn
  have hok : okRun L cs = true := by simp [okRun, hr, hc]
  refine (run_any A A2 c c2 L cs w h h2 hl (by omega)).mono ?_
  unfold RunSays
  rw [show runE L cs = 0 from by simp [runE, hok]; omega, show runR L cs = rests L cs cs.length from by simp [runR, hok]; omega, show runU L cs = useAt L cs cs.length from by simp [runU, hok]; omega, rests_length, useAt_length]
  rintro e w' ⟨A1, c1, A3, c3, ⟨k1, k2, k3, k4⟩, rfl, n1, n2, hx⟩
  exact ⟨A1, c1, A3, c3, rfl, k1, k2, k3, k4, n1, n2, hx⟩

/-- Ints of two parts of slices. -/
theorem ints_cut (A A' : Option Addr) (l h m l' h' m' : Nat) (xs : List Int) (w : World) (hn : xs.length = h - l) (hm : xs.length = h' - l') (h1 : Nums w w.heap.size (if m = l then A else A.map fun x => x.add (l * 1)) xs) (h2 : Nums w w.heap.size (if m' = l' then A' else A'.map fun x => x.add (l' * 1)) xs) (hb : h ≤ 1000 ∧ h' ≤ 1000) :
    Calls Try.prog 14 #[sliced A l h m 1, sliced A' l' h' m' 1] w fun e w' => e = .returned (.bool true) ∧ Below w.heap.size w w' := by
  refine (ints_n _ _ (h - l) (h' - l') (m - l) (m' - l') xs xs w hn hm h1 h2 (by omega) (by omega)).mono ?_
  rw [decide_eq_true rfl]
  exact fun _ _ h => h
set_option maxHeartbeats 16000000 in
set_option maxRecDepth 100000 in
theorem split_any (A A2 : Option Addr) (c c2 : Nat) (L : List P3) (cs : List Int) (q y : Int) (w : World) (h : Three w w.heap.size A L) (h2 : Nums w w.heap.size A2 cs)
    (hlc : L.length ≤ c) (hc' : c ≤ 9223372036854775807) (hl2 : cs.length ≤ 9223372036854775807) (hq0 : 0 ≤ q) (hq1 : q ≤ 255) (hy0 : 0 ≤ y) (hy1 : y ≤ 4294967295) :
    Calls Try.prog 7 #[.slice A L.length c, .slice A2 cs.length c2, .int .u8 q, .int .u32 y] w fun e w' => e = .returned (.bool true) ∧ Below w.heap.size w w' := by
  have hT := h
  clear h
  go_enter Try.func7, Try.ntmps7
  go_wp2_with fail
  refine (small_any _).mono ?_
  rintro e w1 ⟨rfl, hb1⟩
  go_wp2_with fail
  refine (few_any _ _ _ _ _ _ _ _ _ _).mono ?_
  rintro e w2 ⟨rfl, hx2⟩
  have hb2 := hb1.trans (hx2.mono hb1.size)
  cases hfew : (decide (L.length ≤ 8) && decide (0 ≤ 8) && decide (cs.length ≤ 30))
  · clear hfew
    go_wp2_with fail
    go_ret
    exact ⟨rfl, hb2⟩
  have hfw : L.length ≤ 8 ∧ cs.length ≤ 30 := by simpa using hfew
  obtain ⟨hl8, hc30⟩ := hfw
  clear hfew
  by_cases hn0 : L.length = 0
  · have hzb : ((L.length : Int) == 0) = true := by simp [hn0]
    clear hn0
    go_wp2_with fail
    go_ret
    exact ⟨rfl, hb2⟩
  have hzb : ((L.length : Int) == 0) = false := beq_eq_false_iff_ne.2 (by omega)
  have hpos : 0 < L.length := by omega
  clear hn0
  by_cases hl5 : L.length ≤ 5
  rotate_left
  · have h5 : decide ((5 : Int) < (L.length : Int)) = true := decide_eq_true (by omega)
    go_wp2_with fail
    go_ret
    exact ⟨rfl, hb2⟩
  have h5 : decide ((5 : Int) < (L.length : Int)) = false := decide_eq_false (by omega)
  go_wp2_with fail
  clear hzb h5
  refine (right_any _ _ _ _ (three_ext hT hb2) (by omega)).mono ?_
  rintro e w3 ⟨rfl, hx3⟩
  have hb3 := hb2.trans (hx3.mono hb2.size)
  cases hr : rightB L
  · go_wp2_with fail
    go_ret
    exact ⟨rfl, hb3⟩
  have HR := Lib.hid hr
  have HL := Lib.hid (fine_of_right hr)
  clear hr hx2 hx3 hb1 hb2
  go_wp2_with fail
  go_loopw [10] (fun i wr => ∃ k : Nat, k ≤ cs.length ∧ i = .int .i64 k ∧ (∀ j, j < k → 0 ≤ cs.getD j 0 ∧ cs.getD j 0 ≤ 33333333333333) ∧ Below w3.heap.size w3 wr) (fun i _ => cs.length - (intOf i).toNat)
  case atStart => exact ⟨0, Nat.zero_le _, rfl, fun j h => absurd h (by omega), Below.refl _ _⟩
  case round =>
    obtain ⟨k, hk, rfl, hall, hb0⟩ := hrel
    have HA := Lib.hid hall
    clear hall
    have hbw := hb3.trans (hb0.mono hb3.size)
    by_cases hlt : k < cs.length
    · obtain ⟨b, o, rfl, hb, e0⟩ := (h2.below hbw).at_ hlt
      rw [← getD1 hlt] at e0
      have hx : cs.getD k 0 = cs.getD k 0 := rfl
      generalize hxx : cs.getD k 0 = x at *
      have HX := Lib.hid hxx
      clear hxx hx
      by_cases p1 : x < 0
      · go_wp2_with fail
        go_ret
        exact ⟨rfl, hbw⟩
      have p1' := decide_eq_false p1
      by_cases p2 : 33333333333333 < x
      · go_wp2_with fail
        go_ret
        exact ⟨rfl, hbw⟩
      have p2' := decide_eq_false p2
      go_wp2_with fail
      go_roundw
      case rel =>
        refine ⟨k + 1, by omega, by go_num, fun j hj => ?_, hb0⟩
        by_cases e : j = k
        · subst e; rw [HX.out]; omega
        · exact HA.out j (by omega)
      case measure => simp [intOf]; omega
    · have HF : Few cs := ⟨hc30, fun j hj => HA.out j (by omega)⟩
      have HF := Lib.hid HF
      clear HA
      obtain ⟨i, hiq⟩ : ∃ i : Nat, q % (L.length : Int) = (i : Int) := ⟨(q % (L.length : Int)).toNat, by
        have := Int.emod_nonneg q (show (L.length : Int) ≠ 0 by omega)
        omega⟩
      have hil : i < L.length := by
        have := Int.emod_lt_of_pos q (show 0 < (L.length : Int) by omega)
        omega
      have wq : IntKind.i64.wrap q = q := IntWalk.i64_in _ (by omega)
      have hn1 : (L.length : Int) ≠ 0 := by omega
      go_wp2_with fail
      clear wq hn1
      try rw [hiq]
      clear hiq
      obtain ⟨bt, ot, rfl, hbt, e0, e1, e2⟩ := (hT.below hbw).at_ hil
      have d := HL.out.2 i hil
      rw [getD3 hil] at d
      have hszw := hbw.size
      have j0 : (0 : Int) ≤ (i : Int) := by omega
      have j1 : (i : Int) < (L.length : Int) := by omega
      have i5 : bt < wr.heap.size := by omega
      have HT : L.getD i ⟨0, 0, 0⟩ = L[i] := getD3 hil
      have HSET := P3.set_c L i hil 1000000000000000
      have HT := Lib.hid HT
      have HSET := Lib.hid HSET
      generalize L[i] = t at *
      have wd : IntKind.i64.wrap (t.b - t.a) = t.b - t.a := IntWalk.i64_in _ (by omega)
      refine wp_region_mix [(0, true), (1, true), (2, true), (3, true), (4, true), (5, true), (6, true), (7, true), (8, true), (9, true), (10, true), (11, true)] [] (SB w3.heap.size w3 wr.heap.size none _) (by kernel_rfl) (by kernel_rfl) (by kernel_rfl) (by kernel_rfl) (by decide) (SB.start hb0 (by omega)) (fun hS => ?_)
      simp only [planned, List.filterMap_cons, List.filterMap_nil, List.getElem?_cons_zero, List.getElem?_cons_succ, Option.map_some]
      repeat (first
        | (refine mix_skip (by rfl) ?_; try simp only [Act.put, List.setIfInBounds_toArray, List.set_cons_zero, List.set_cons_succ])
        | (refine mix_pass hS (by rfl) ?_; try simp only [Act.put, List.setIfInBounds_toArray, List.set_cons_zero, List.set_cons_succ])
        | (refine mix_pure (by rfl) (by rfl) (fun K hK => ?_); go_big_quiet_op; refine hK _ ?_; clear hK K)
        | (refine mix_take (by rfl) ?_
           apply Exists.intro
           refine ⟨?_, ?_⟩
           · intro w' hSw
             have hSc := hSw.cell
             clear hSw
             go_simp
             try with_reducible rfl
           try simp only [Act.put, List.setIfInBounds_toArray, List.set_cons_zero, List.set_cons_succ])
        | (refine mix_move (by rfl) (fun K hK => ?_)
           go_simp
           try dsimp only
           first
             | refine hK.out _ _ (hS.step hx (by omega)) ?_
             | refine hK.out _ _ hS ?_
             | refine hK.out _ _ (hS.alloc _ (by omega)) ?_
             | refine hK.out _ _ (hS.grown hg hx) ?_
           clear hK K hS
           intro hS
           try simp only [Act.put, List.setIfInBounds_toArray, List.set_cons_zero, List.set_cons_succ])
        | fail)
      refine mix_nil ?_
      simp only [tailed, List.filterMap_nil]
      go_wp2_with fail
      refine NoPanic.normal ?_
      clear hS
      by_cases p1 : t.b - t.a < 2
      · go_wp2_with fail
        go_ret
        exact ⟨rfl, hbw.drew⟩
      have p1' := decide_eq_false p1
      go_wp2_with fail
      have hbd := hb0.drew
      have szd : wr.drew.heap.size = wr.heap.size := rfl
      have hD : 0 < t.b - t.a - 1 := by omega
      have z0 := Int.emod_nonneg y (show t.b - t.a - 1 ≠ 0 by omega)
      have z1 := Int.emod_lt_of_pos y hD
      have wy : IntKind.i64.wrap y = y := IntWalk.i64_in _ (by omega)
      have wa : IntKind.i64.wrap (t.a + 1) = t.a + 1 := IntWalk.i64_in _ (by omega)
      have wd1 : IntKind.i64.wrap (t.b - t.a - 1) = t.b - t.a - 1 := IntWalk.i64_in _ (by omega)
      have wz : IntKind.i64.wrap (y % (t.b - t.a - 1)) = y % (t.b - t.a - 1) := IntWalk.i64_in _ (by omega)
      have wcut : IntKind.i64.wrap (t.a + 1 + y % (t.b - t.a - 1)) = t.a + 1 + y % (t.b - t.a - 1) := IntWalk.i64_in _ (by omega)
      have hDne : t.b - t.a - 1 ≠ 0 := by omega
      refine wp_region_mix [(0, true), (1, true), (2, true), (3, true), (4, true), (5, true), (6, true), (7, true), (8, true), (9, true), (10, true), (11, true), (12, true), (13, true), (14, true), (15, true), (16, true), (17, true), (18, true), (19, true), (20, true), (21, true)] [22] (SB w3.heap.size w3 wr.heap.size none _) (by kernel_rfl) (by kernel_rfl) (by kernel_rfl) (by kernel_rfl) (by decide) (SB.start hbd (by omega)) (fun hS => ?_)
      simp only [planned, List.filterMap_cons, List.filterMap_nil, List.getElem?_cons_zero, List.getElem?_cons_succ, Option.map_some]
      repeat (first
        | (refine mix_skip (by rfl) ?_; try simp only [Act.put, List.setIfInBounds_toArray, List.set_cons_zero, List.set_cons_succ])
        | (refine mix_pass hS (by rfl) ?_; try simp only [Act.put, List.setIfInBounds_toArray, List.set_cons_zero, List.set_cons_succ])
        | (refine mix_pure (by rfl) (by rfl) (fun K hK => ?_); go_big_quiet_op; refine hK _ ?_; clear hK K)
        | (refine mix_take (by rfl) ?_
           apply Exists.intro
           refine ⟨?_, ?_⟩
           · intro w' hSw
             have hSc := hSw.cell
             clear hSw
             go_simp
             try with_reducible rfl
           try simp only [Act.put, List.setIfInBounds_toArray, List.set_cons_zero, List.set_cons_succ])
        | (refine mix_move (by rfl) (fun K hK => ?_)
           go_simp
           try dsimp only
           first
             | refine hK.out _ _ (hS.step hx (by omega)) ?_
             | refine hK.out _ _ hS ?_
             | refine hK.out _ _ (hS.alloc _ (by omega)) ?_
             | refine hK.out _ _ (hS.grown hg hx) ?_
           clear hK K hS
           intro hS
           try simp only [Act.put, List.setIfInBounds_toArray, List.set_cons_zero, List.set_cons_succ])
        | fail)
      refine mix_nil ?_
      simp only [tailed, List.filterMap_cons, List.filterMap_nil, List.getElem?_cons_zero, List.getElem?_cons_succ]
      go_wp2_with fail
      refine NoPanic.normal ?_
      clear hS wy wa wd wd1 wz wcut hDne
      have hbe := hbd.drew
      have e0 : wr.drew.drew.cell? ⟨bt, ot + i * 3, none⟩ = some (.int .i64 t.a) := e0
      have e1 : wr.drew.drew.cell? ⟨bt, ot + i * 3 + 1, none⟩ = some (.int .i64 t.b) := e1
      have szd : wr.drew.drew.heap.size = wr.heap.size := rfl
      have hcut : t.a < t.a + 1 + y % (t.b - t.a - 1) ∧ t.a + 1 + y % (t.b - t.a - 1) < t.b := by omega
      clear z0 z1 hD p1 p1'
      generalize t.a + 1 + y % (t.b - t.a - 1) = cut at *
      generalize wr.drew.drew = wv at *
      have hbv := hb3.trans (hbe.mono hb3.size)
      have i5 : bt < wv.heap.size := by omega
      clear hb0 hbd hbw e2
      clear szd
      obtain ⟨i1, ti, tz0, tz1, tz2⟩ := info_parts info_tier
      go_wp2_with (at_builtin; refine wpList_app rfl _ _ 22 rfl wv.heap.size 36 i1 _ 3 24 Try.underlying22 ti tz0 tz1 tz2 rfl (by decide) _ _ 0 [] rfl (World.ownsRow_lit wv #[] 0 (Nat.le_refl _) (by decide) rfl) wv.heap.size (some ⟨bt, ot, none⟩) L.length c (P3.cells L) rfl (Shows.alloc (three_ext hT hbv) (Nat.le_refl _) _) (P3.oneCells L) (by simp) (by omega) (by omega) ?_)
      intro v5 w5 own5 hx5 _
      have hx5 := ((Below.refl wv.heap.size wv).alloc (Nat.le_refl _) (.cells #[] 36)).trans hx5
      obtain ⟨g, cap, rfl, hg, hg', _⟩ := own_form own5 hpos
      have ec := (own5.cellAt (i * 3 + 2) (by omega)).trans (P3.get L i hil).2.2
      have ef := own5.frozenAt (i * 3 + 2)
      have e0 := ((bcell hx5).1 bt _ (by omega)).trans e0
      have e1 := ((bcell hx5).1 bt _ (by omega)).trans e1
      have hne : ¬ bt = g := by omega
      have i6 : bt < w5.heap.size := by omega
      obtain ⟨own6, _⟩ := own5.stored (i * 3 + 2) (.int .i64 1000000000000000)
      rw [HSET.out] at own6
      have hx6 := hx5.setCell (p := ⟨g, i * 3 + 2, none⟩) (by simp; omega) (.int .i64 1000000000000000)
      go_wp2_with fail
      have s1 : (w5.setCell ⟨g, i * 3 + 2, none⟩ (.int .i64 1000000000000000)).heap.size = w5.heap.size := by simp
      have hx9 := (hx6.alloc (by omega) (.cells #[.int .i64 t.a, .int .i64 cut, .int .i64 1000000000000000] 36)).alloc (by simp; omega) (.cells #[.int .i64 cut, .int .i64 t.b, .int .i64 1000000000000000] 36)
      have own6 := (own6.alloc (.cells #[.int .i64 t.a, .int .i64 cut, .int .i64 1000000000000000] 36)).alloc (.cells #[.int .i64 cut, .int .i64 t.b, .int .i64 1000000000000000] 36)
      have bx1 := (Box3.new (w5.setCell ⟨g, i * 3 + 2, none⟩ (.int .i64 1000000000000000)) ⟨t.a, cut, 1000000000000000⟩ 36).ext (lit_below _ (.cells #[.int .i64 cut, .int .i64 t.b, .int .i64 1000000000000000] 36))
      have bx2 := Box3.new ((w5.setCell ⟨g, i * 3 + 2, none⟩ (.int .i64 1000000000000000)).alloc (.cells #[.int .i64 t.a, .int .i64 cut, .int .i64 1000000000000000] 36)) ⟨cut, t.b, 1000000000000000⟩ 36
      rw [size_alloc, s1] at bx2
      rw [s1] at bx1
      generalize ((w5.setCell ⟨g, i * 3 + 2, none⟩ (.int .i64 1000000000000000)).alloc (.cells #[.int .i64 t.a, .int .i64 cut, .int .i64 1000000000000000] 36)).alloc (.cells #[.int .i64 cut, .int .i64 t.b, .int .i64 1000000000000000] 36) = w9 at bx1 bx2 own6 hx9 ⊢
      generalize hg14 : w5.heap.size = g14 at bx1 bx2 ⊢
      obtain ⟨x0, x1, x2, x3⟩ := bx1
      obtain ⟨y0, y1, y2, y3⟩ := bx2
      have hb9 := hbv.trans (hx9.mono hbv.size)
      clear hx5 hx6 own5 ec ef e0 e1 hne i5 i6 s1 hg14
      have wi1 : IntKind.i64.wrap ((i : Int) + 1) = (i : Int) + 1 := IntWalk.i64_in _ (by omega)
      have k1 : (i : Int) ≤ (c : Int) := by omega
      have k2 : (i : Int) + 1 ≤ (L.length : Int) := by omega
      have k3 : (0 : Int) ≤ (i : Int) + 1 := by omega
      have htk : L.take L.length = L := List.take_length
      have hlt : (L.take i).length = i := by simp; omega
      have hdl : (L.drop (i + 1)).length = L.length - (i + 1) := by simp
      have hTk := Three.cut (a := 0) (m := c) (three_ext hT hb9) (Nat.zero_le _) (Nat.le_of_lt hil) hlc
      unfold Three at hTk
      rw [List.drop_zero, hlt] at hTk
      have hTd := Three.cut (a := i + 1) (m := c) (three_ext hT hb9) hil (Nat.le_refl L.length) hlc
      rw [htk] at hTd
      unfold Three at hTd
      rw [hdl] at hTd
      clear htk hlt hdl
      refine wp_region_tree (.free 1 (.free 2 (.free 3 (.free 5 (.free 6 (.free 9 (.free 10 (.free 11 (.free 12 (.fork (.alt 0 (.fork (.alt 4 (.only 7 (.only 8 (.only 13 .tail))) (.alt 7 (.only 4 (.only 8 (.only 13 .tail))) .stop))) (.alt 7 (.only 0 (.only 4 (.only 8 (.only 13 .tail)))) .stop)))))))))))) [14] (SB w9.heap.size w9 w9.heap.size none _) (by kernel_rfl) (by kernel_rfl) (by kernel_rfl) (by kernel_rfl) rfl (by decide) (SB.start (Below.refl _ _) (by omega)) (fun hS => ?_)
      repeat (first
        | (refine tree_skip (by rfl) (by rfl) ?_; try simp only [Act.put, List.setIfInBounds_toArray, List.set_cons_zero, List.set_cons_succ])
        | (refine tree_pass (by rfl) hS (by rfl) ?_; try simp only [Act.put, List.setIfInBounds_toArray, List.set_cons_zero, List.set_cons_succ])
        | (refine tree_pure (by rfl) (by rfl) (by rfl) (fun K hK => ?_); go_big_quiet_op; refine hK _ ?_; clear hK K)
        | (refine tree_take (by rfl) (by rfl) ?_
           apply Exists.intro
           refine ⟨?_, ?_⟩
           · intro w' hSw
             have hSc := hSw.cell
             clear hSw
             go_simp
             try with_reducible rfl
           try simp only [Act.put, List.setIfInBounds_toArray, List.set_cons_zero, List.set_cons_succ])
        | (refine tree_move (by rfl) (by rfl) (fun K hK => ?_)
           first
             | (have own := own8; refine at_append rfl ?_; refine wp_app _ _ 22 rfl w9.heap.size 36 i1 _ 3 24 Try.underlying22 ti tz0 tz1 tz2 rfl (by decide) _ _ (0 + i + 2) _ rfl own8 w9.heap.size _ (L.length - (i + 1)) _ (P3.cells (L.drop (i + 1))) rfl (hTd.below hS.below) (P3.oneCells _) hS.below.size (by omega) (by omega) ?_; intro v13 wC own13 hx hg)
             | (have own := own4; refine at_append rfl ?_; refine wp_app _ _ 22 rfl w9.heap.size 36 i1 _ 3 24 Try.underlying22 ti tz0 tz1 tz2 rfl (by decide) _ _ (0 + i) _ rfl (by first | exact own4 | exact own4.alloc _) _ _ 2 _ [.int .i64 t.a, .int .i64 cut, .int .i64 1000000000000000, .int .i64 cut, .int .i64 t.b, .int .i64 1000000000000000] rfl (by first | exact shows_lit (lit_new _ _) (Nat.lt_succ_self _) rfl | exact shows_lit (lit_second rfl hg4 (by simp)) (Nat.lt_succ_self _) rfl | exact shows_lit (lit_first hg4 (by simp)) (Nat.lt_succ_self _) rfl) (by intro u hu; simp at hu; rcases hu with rfl | rfl | rfl | rfl | rfl | rfl <;> rfl) hS.below.size (by omega) (by omega) ?_; clear own own4; intro v8 wB own8 hx hg)
             | (refine at_append rfl ?_; refine wp_app _ _ 22 rfl w9.heap.size 36 i1 _ 3 24 Try.underlying22 ti tz0 tz1 tz2 rfl (by decide) _ _ 0 [] rfl (by first | exact (World.ownsRow_lit w9 #[] 0 (Nat.le_refl _) (by decide) rfl).drew | exact ((World.ownsRow_lit w9 #[] 0 (Nat.le_refl _) (by decide) rfl).alloc _).drew | exact own_second rfl) w9.heap.size _ i _ (P3.cells (L.take i)) rfl (hTk.below hS.below) (P3.oneCells _) hS.below.size (by omega) (by omega) ?_; intro v4 wA own4 hx hg; first | have hg4 : World.grownBy _ wA (some w9.heap.size) := hg | have hg4 : World.grownBy _ wA (some (w9.heap.size + 1)) := hg)
             | go_simp
           try dsimp only
           first
             | refine hK.out _ _ (hS.step hx (by omega)) ?_
             | refine hK.out _ _ hS ?_
             | refine hK.out _ _ (hS.alloc _ (by omega)) ?_
             | refine hK.out _ _ (hS.grown hg hx) ?_
             | refine hK.out _ _ (hS.turned hx (by omega)) ?_
           clear hK K hS
           intro hS
           try simp only [Act.put, List.setIfInBounds_toArray, List.set_cons_zero, List.set_cons_succ])
        | fail)
      refine tree_fork (tree_alt ?_ (tree_alt ?_ (tree_stop)))
      · skip
        repeat (first
          | (refine tree_skip (by rfl) (by rfl) ?_; try simp only [Act.put, List.setIfInBounds_toArray, List.set_cons_zero, List.set_cons_succ])
          | (refine tree_pass (by rfl) hS (by rfl) ?_; try simp only [Act.put, List.setIfInBounds_toArray, List.set_cons_zero, List.set_cons_succ])
          | (refine tree_pure (by rfl) (by rfl) (by rfl) (fun K hK => ?_); go_big_quiet_op; refine hK _ ?_; clear hK K)
          | (refine tree_take (by rfl) (by rfl) ?_
             apply Exists.intro
             refine ⟨?_, ?_⟩
             · intro w' hSw
               have hSc := hSw.cell
               clear hSw
               go_simp
               try with_reducible rfl
             try simp only [Act.put, List.setIfInBounds_toArray, List.set_cons_zero, List.set_cons_succ])
          | (refine tree_move (by rfl) (by rfl) (fun K hK => ?_)
             first
               | (have own := own8; refine at_append rfl ?_; refine wp_app _ _ 22 rfl w9.heap.size 36 i1 _ 3 24 Try.underlying22 ti tz0 tz1 tz2 rfl (by decide) _ _ (0 + i + 2) _ rfl own8 w9.heap.size _ (L.length - (i + 1)) _ (P3.cells (L.drop (i + 1))) rfl (hTd.below hS.below) (P3.oneCells _) hS.below.size (by omega) (by omega) ?_; intro v13 wC own13 hx hg)
               | (have own := own4; refine at_append rfl ?_; refine wp_app _ _ 22 rfl w9.heap.size 36 i1 _ 3 24 Try.underlying22 ti tz0 tz1 tz2 rfl (by decide) _ _ (0 + i) _ rfl (by first | exact own4 | exact own4.alloc _) _ _ 2 _ [.int .i64 t.a, .int .i64 cut, .int .i64 1000000000000000, .int .i64 cut, .int .i64 t.b, .int .i64 1000000000000000] rfl (by first | exact shows_lit (lit_new _ _) (Nat.lt_succ_self _) rfl | exact shows_lit (lit_second rfl hg4 (by simp)) (Nat.lt_succ_self _) rfl | exact shows_lit (lit_first hg4 (by simp)) (Nat.lt_succ_self _) rfl) (by intro u hu; simp at hu; rcases hu with rfl | rfl | rfl | rfl | rfl | rfl <;> rfl) hS.below.size (by omega) (by omega) ?_; clear own own4; intro v8 wB own8 hx hg)
               | (refine at_append rfl ?_; refine wp_app _ _ 22 rfl w9.heap.size 36 i1 _ 3 24 Try.underlying22 ti tz0 tz1 tz2 rfl (by decide) _ _ 0 [] rfl (by first | exact (World.ownsRow_lit w9 #[] 0 (Nat.le_refl _) (by decide) rfl).drew | exact ((World.ownsRow_lit w9 #[] 0 (Nat.le_refl _) (by decide) rfl).alloc _).drew | exact own_second rfl) w9.heap.size _ i _ (P3.cells (L.take i)) rfl (hTk.below hS.below) (P3.oneCells _) hS.below.size (by omega) (by omega) ?_; intro v4 wA own4 hx hg; first | have hg4 : World.grownBy _ wA (some w9.heap.size) := hg | have hg4 : World.grownBy _ wA (some (w9.heap.size + 1)) := hg)
               | go_simp
             try dsimp only
             first
               | refine hK.out _ _ (hS.step hx (by omega)) ?_
               | refine hK.out _ _ hS ?_
               | refine hK.out _ _ (hS.alloc _ (by omega)) ?_
               | refine hK.out _ _ (hS.grown hg hx) ?_
               | refine hK.out _ _ (hS.turned hx (by omega)) ?_
             clear hK K hS
             intro hS
             try simp only [Act.put, List.setIfInBounds_toArray, List.set_cons_zero, List.set_cons_succ])
          | fail)
        refine tree_fork (tree_alt ?_ (tree_alt ?_ (tree_stop)))
        · skip
          repeat (first
            | (refine tree_skip (by rfl) (by rfl) ?_; try simp only [Act.put, List.setIfInBounds_toArray, List.set_cons_zero, List.set_cons_succ])
            | (refine tree_pass (by rfl) hS (by rfl) ?_; try simp only [Act.put, List.setIfInBounds_toArray, List.set_cons_zero, List.set_cons_succ])
            | (refine tree_pure (by rfl) (by rfl) (by rfl) (fun K hK => ?_); go_big_quiet_op; refine hK _ ?_; clear hK K)
            | (refine tree_take (by rfl) (by rfl) ?_
               apply Exists.intro
               refine ⟨?_, ?_⟩
               · intro w' hSw
                 have hSc := hSw.cell
                 clear hSw
                 go_simp
                 try with_reducible rfl
               try simp only [Act.put, List.setIfInBounds_toArray, List.set_cons_zero, List.set_cons_succ])
            | (refine tree_move (by rfl) (by rfl) (fun K hK => ?_)
               first
                 | (have own := own8; refine at_append rfl ?_; refine wp_app _ _ 22 rfl w9.heap.size 36 i1 _ 3 24 Try.underlying22 ti tz0 tz1 tz2 rfl (by decide) _ _ (0 + i + 2) _ rfl own8 w9.heap.size _ (L.length - (i + 1)) _ (P3.cells (L.drop (i + 1))) rfl (hTd.below hS.below) (P3.oneCells _) hS.below.size (by omega) (by omega) ?_; intro v13 wC own13 hx hg)
                 | (have own := own4; refine at_append rfl ?_; refine wp_app _ _ 22 rfl w9.heap.size 36 i1 _ 3 24 Try.underlying22 ti tz0 tz1 tz2 rfl (by decide) _ _ (0 + i) _ rfl (by first | exact own4 | exact own4.alloc _) _ _ 2 _ [.int .i64 t.a, .int .i64 cut, .int .i64 1000000000000000, .int .i64 cut, .int .i64 t.b, .int .i64 1000000000000000] rfl (by first | exact shows_lit (lit_new _ _) (Nat.lt_succ_self _) rfl | exact shows_lit (lit_second rfl hg4 (by simp)) (Nat.lt_succ_self _) rfl | exact shows_lit (lit_first hg4 (by simp)) (Nat.lt_succ_self _) rfl) (by intro u hu; simp at hu; rcases hu with rfl | rfl | rfl | rfl | rfl | rfl <;> rfl) hS.below.size (by omega) (by omega) ?_; clear own own4; intro v8 wB own8 hx hg)
                 | (refine at_append rfl ?_; refine wp_app _ _ 22 rfl w9.heap.size 36 i1 _ 3 24 Try.underlying22 ti tz0 tz1 tz2 rfl (by decide) _ _ 0 [] rfl (by first | exact (World.ownsRow_lit w9 #[] 0 (Nat.le_refl _) (by decide) rfl).drew | exact ((World.ownsRow_lit w9 #[] 0 (Nat.le_refl _) (by decide) rfl).alloc _).drew | exact own_second rfl) w9.heap.size _ i _ (P3.cells (L.take i)) rfl (hTk.below hS.below) (P3.oneCells _) hS.below.size (by omega) (by omega) ?_; intro v4 wA own4 hx hg; first | have hg4 : World.grownBy _ wA (some w9.heap.size) := hg | have hg4 : World.grownBy _ wA (some (w9.heap.size + 1)) := hg)
                 | go_simp
               try dsimp only
               first
                 | refine hK.out _ _ (hS.step hx (by omega)) ?_
                 | refine hK.out _ _ hS ?_
                 | refine hK.out _ _ (hS.alloc _ (by omega)) ?_
                 | refine hK.out _ _ (hS.grown hg hx) ?_
                 | refine hK.out _ _ (hS.turned hx (by omega)) ?_
               clear hK K hS
               intro hS
               try simp only [Act.put, List.setIfInBounds_toArray, List.set_cons_zero, List.set_cons_succ])
            | fail)
          refine tree_tail ?_
          simp only [tailed, List.filterMap_cons, List.filterMap_nil, List.getElem?_cons_zero, List.getElem?_cons_succ]
          go_wp2_with fail
          refine NoPanic.normal ?_
          have hbX := hb9.trans (hS.below.mono hb9.size)
          obtain ⟨AS, CS, rfl, hsh⟩ := shows_of_own own13
          generalize hnn : 0 + i + 2 + (L.length - (i + 1)) = nn at hsh ⊢
          obtain ⟨hP, eP⟩ := parted_three (cut := cut) hsh (by omega) hil HT.out (by simp)
          have own6 := own_below own6 hS.below
          have hWL := capAt_length L i 1000000000000000
          have own6 : wC.ownsRow wv.heap.size 36 3 (.slice (some ⟨g, 0, none⟩) L.length cap) (capAt L i 1000000000000000).length (P3.cells (capAt L i 1000000000000000)) := by
            rw [hWL, capAt, HT.out]
            exact own6
          obtain ⟨_, _, ev, hW⟩ := three_own own6
          simp only [Value.slice.injEq] at ev
          obtain ⟨rfl, hLW, rfl⟩ := ev
          clear hLW own6 own13 own8 hg hx hg4 hsh hTk hTd x0 x1 x2 x3 y0 y1 y2 y3 hS
          have HT' := HT.out
          rw [← HT'] at hcut d
          have q1 := capAt_right HR.out hil (show (0 : Int) ≤ 1000000000000000 by decide) (Int.le_refl _)
          have q2 := parted_right HR.out hil hl5 hcut.1 hcut.2
          have q3 := few_claims HF.out
          have HREST := Lib.hid (split_rests HR.out hil hl5 hcut.1 hcut.2 HF.out)
          have HUSE := Lib.hid (split_use HR.out hil hl5 hcut.1 hcut.2 HF.out (k := cs.length) (Nat.le_refl _)).2.1
          have HTAKE := Lib.hid (split_take HR.out hil hl5 hcut.1 hcut.2 HF.out)
          have HUB := Lib.hid (useAt_bounds' (fine_of_right q2) cs cs.length)
          have HUL := Lib.hid (useAt_length (capAt L i 1000000000000000) cs cs.length)
          have HVL := Lib.hid (useAt_length (parted L i cut) cs cs.length)
          clear HT' d hcut
          generalize capAt L i 1000000000000000 = W at *
          generalize parted L i cut = P at *
          go_wp2_with fail
          refine (run_good_n _ A2 L.length _ cs.length _ W cs wC hWL rfl q1 q3 hc30 hW (num_ext h2 hbX) (by omega)).mono ?_
          rintro e wD ⟨A3, c3, A4, c4, rfl, l1, l2, l3, l4, n3, n4, hxD⟩
          have hbD := hbX.trans (hxD.mono hbX.size)
          go_wp2_with fail
          refine (run_good_n _ A2 nn _ cs.length _ P cs wD eP rfl q2 q3 hc30 (three_ext hP hxD) (num_ext h2 hbD) (by omega)).mono ?_
          rintro e wE ⟨A5, c5, A6, c6, rfl, l5, l6, l7, l8, n5, n6, hxE⟩
          have hbE := hbD.trans (hxE.mono hbD.size)
          have n3 := num_ext n3 hxE
          have n4 := num_ext n4 hxE
          clear hW hP q1 q2 q3 hxD hxE hbX hbD
          rw [hWL] at HUL
          rw [eP] at HVL
          rw [HREST.out] at n5
          unfold maxLen at l2 l4 l6 l8
          obtain ⟨b4, o4, rfl, hb4, u0⟩ := n4.at_ (k := i) (by rw [HUL.out]; exact hil)
          obtain ⟨b6, o6, rfl, hb6, v0⟩ := n6.at_ (k := i) (by rw [HVL.out]; omega)
          obtain ⟨_, _, ev, _, v1⟩ := n6.at_ (k := i + 1) (by rw [HVL.out]; omega)
          cases ev
          rw [← getD1 (by rw [HUL.out]; exact hil), ← HUSE.out] at u0
          rw [← getD1 (by rw [HVL.out]; omega)] at v0 v1
          have w0 := HUB.out i (by rw [HVL.out]; omega)
          have w1' := HUB.out (i + 1) (by rw [HVL.out]; omega)
          have x1 := n4.cut (a := 0) (b := i) (m := c4) (Nat.zero_le _) (by rw [HUL.out]; omega) (by rw [HUL.out]; omega)
          have x2 := n4.cut (a := i + 1) (b := L.length) (m := c4) hil (by rw [HUL.out]; omega) (by rw [HUL.out]; omega)
          have y1 := n6.cut (a := 0) (b := i) (m := c6) (Nat.zero_le _) (by rw [HVL.out]; omega) (by rw [HVL.out]; omega)
          have y2 := n6.cut (a := i + 2) (b := nn) (m := c6) (by omega) (by rw [HVL.out]; omega) (by rw [HVL.out]; omega)
          rw [List.drop_zero] at x1 y1
          rw [List.take_of_length_le (by rw [HUL.out]; omega)] at x2
          rw [List.take_of_length_le (by rw [HVL.out]; omega)] at y2
          have z1 : ((useAt P cs cs.length).take i).length = i := by rw [List.length_take, HVL.out]; omega
          have z2 : ((useAt P cs cs.length).drop (i + 2)).length = L.length - (i + 1) := by rw [List.length_drop, HVL.out]; omega
          rw [HTAKE.out.1] at x1
          rw [HTAKE.out.2] at x2
          have Z1 := Lib.hid z1
          have z3 : ((useAt P cs cs.length).drop (i + 2)).length = nn - (i + 2) := by rw [z2]; omega
          have Z2 := Lib.hid z2
          have Z3 := Lib.hid z3
          clear z1 z2 z3 n4 n6 HTAKE HUSE HUB HREST
          generalize (useAt P cs cs.length).getD i 0 = p0 at *
          generalize (useAt P cs cs.length).getD (i + 1) 0 = p1 at *
          generalize (useAt P cs cs.length).take i = l1' at *
          generalize (useAt P cs cs.length).drop (i + 2) = l2' at *
          have wp : IntKind.i64.wrap (p0 + p1) = p0 + p1 := IntWalk.i64_in _ (by omega)
          have wi2 : IntKind.i64.wrap ((i : Int) + 2) = (i : Int) + 2 := IntWalk.i64_in _ (by omega)
          have wl1 : IntKind.i64.wrap ((L.length : Int) + 1) = (L.length : Int) + 1 := IntWalk.i64_in _ (by omega)
          have hnn2 : ((nn : Int) != (L.length : Int) + 1) = false := by
            rw [show (nn : Int) = (L.length : Int) + 1 from by omega]
            simp
          have m1 : (i : Int) ≤ (c4 : Int) := by omega
          have m2 : (i : Int) ≤ (c6 : Int) := by omega
          have m3 : (i : Int) + 2 ≤ (nn : Int) := by omega
          have m4 : (nn : Int) ≤ (c6 : Int) := by omega
          have m5 : (L.length : Int) ≤ (c4 : Int) := by omega
          have m6 : (0 : Int) ≤ (i : Int) + 2 := by omega
          have m7 : (i : Int) < (nn : Int) := by omega
          have m8 : (i : Int) + 1 < (nn : Int) := by omega
          have hnn3 : nn ≤ 1000 := by omega
          clear hnn eP HUL HVL
          go_wp2_with fail
          refine wp_region_mix [(0, true), (1, true), (2, true), (3, true), (4, false), (5, true), (6, true), (7, true), (8, true), (9, true), (10, true), (11, true), (12, true), (13, true), (14, true), (15, true), (16, true), (17, true), (18, true), (19, true), (20, true), (21, true), (22, true), (23, true), (24, true), (25, true), (26, true), (27, true), (28, true), (29, true), (30, false), (31, true), (32, true), (33, true), (34, true), (35, true), (36, true), (37, true), (38, true), (39, true), (40, true), (41, false), (42, true)] [43] (SB wE.heap.size wE wE.heap.size none _) (by kernel_rfl) (by kernel_rfl) (by kernel_rfl) (by kernel_rfl) (by decide) (SB.start (Below.refl _ _) (by omega)) (fun hS => ?_)
          simp only [planned, List.filterMap_cons, List.filterMap_nil, List.getElem?_cons_zero, List.getElem?_cons_succ, Option.map_some]
          repeat (first
            | (refine mix_skip (by rfl) ?_; try simp only [Act.put, List.setIfInBounds_toArray, List.set_cons_zero, List.set_cons_succ])
            | (refine mix_pass hS (by rfl) ?_; try simp only [Act.put, List.setIfInBounds_toArray, List.set_cons_zero, List.set_cons_succ])
            | (refine mix_pure (by rfl) (by rfl) (fun K hK => ?_); go_big_quiet_op; refine hK _ ?_; clear hK K)
            | (refine mix_take (by rfl) ?_
               apply Exists.intro
               refine ⟨?_, ?_⟩
               · intro w' hSw
                 have hSc := hSw.cell
                 clear hSw
                 go_simp
                 try with_reducible rfl
               try simp only [Act.put, List.setIfInBounds_toArray, List.set_cons_zero, List.set_cons_succ])
            | (refine mix_move (by rfl) (fun K hK => ?_)
               first
                 | (have := doneB; go_simp; go_at_call 14; refine (ints_cut _ _ (i + 1) L.length c4 (i + 2) nn c6 l2' _ Z2.out Z3.out (num_ext x2 hS.below) (num_ext y2 hS.below) (by omega)).mono ?_; rintro e wF ⟨rfl, hx⟩)
                 | (have := doneA; go_simp; go_at_call 14; refine (ints_cut _ _ 0 i c4 0 i c6 l1' _ Z1.out Z1.out (num_ext x1 hS.below) (num_ext y1 hS.below) (by omega)).mono ?_; rintro e wF ⟨rfl, hx⟩; have doneB := True.intro; clear doneA)
                 | (go_simp; go_at_call 14; refine (ints_n A3 A5 cs.length cs.length c3 c5 _ _ _ (rests_length _ _ _) (rests_length _ _ _) (num_ext n3 hS.below) (num_ext n5 hS.below) (by omega) (by omega)).mono ?_; rw [decide_eq_true rfl]; rintro e wF ⟨rfl, hx⟩; have doneA := True.intro)
                 | go_simp
               try dsimp only
               first
                 | refine hK.out _ _ (hS.step hx (by omega)) ?_
                 | refine hK.out _ _ hS ?_
                 | refine hK.out _ _ (hS.alloc _ (by omega)) ?_
                 | refine hK.out _ _ (hS.grown hg hx) ?_
               clear hK K hS
               intro hS
               try simp only [Act.put, List.setIfInBounds_toArray, List.set_cons_zero, List.set_cons_succ])
            | fail)
          refine mix_nil ?_
          simp only [tailed, List.filterMap_cons, List.filterMap_nil, List.getElem?_cons_zero, List.getElem?_cons_succ]
          go_wp2_with fail
          refine NoPanic.normal ?_
          have hx6 := hS.below
          go_wp2_with fail
          go_ret
          exact ⟨rfl, hbE.trans (hx6.mono hbE.size)⟩
        · skip
          repeat (first
            | (refine tree_skip (by rfl) (by rfl) ?_; try simp only [Act.put, List.setIfInBounds_toArray, List.set_cons_zero, List.set_cons_succ])
            | (refine tree_pass (by rfl) hS (by rfl) ?_; try simp only [Act.put, List.setIfInBounds_toArray, List.set_cons_zero, List.set_cons_succ])
            | (refine tree_pure (by rfl) (by rfl) (by rfl) (fun K hK => ?_); go_big_quiet_op; refine hK _ ?_; clear hK K)
            | (refine tree_take (by rfl) (by rfl) ?_
               apply Exists.intro
               refine ⟨?_, ?_⟩
               · intro w' hSw
                 have hSc := hSw.cell
                 clear hSw
                 go_simp
                 try with_reducible rfl
               try simp only [Act.put, List.setIfInBounds_toArray, List.set_cons_zero, List.set_cons_succ])
            | (refine tree_move (by rfl) (by rfl) (fun K hK => ?_)
               first
                 | (have own := own8; refine at_append rfl ?_; refine wp_app _ _ 22 rfl w9.heap.size 36 i1 _ 3 24 Try.underlying22 ti tz0 tz1 tz2 rfl (by decide) _ _ (0 + i + 2) _ rfl own8 w9.heap.size _ (L.length - (i + 1)) _ (P3.cells (L.drop (i + 1))) rfl (hTd.below hS.below) (P3.oneCells _) hS.below.size (by omega) (by omega) ?_; intro v13 wC own13 hx hg)
                 | (have own := own4; refine at_append rfl ?_; refine wp_app _ _ 22 rfl w9.heap.size 36 i1 _ 3 24 Try.underlying22 ti tz0 tz1 tz2 rfl (by decide) _ _ (0 + i) _ rfl (by first | exact own4 | exact own4.alloc _) _ _ 2 _ [.int .i64 t.a, .int .i64 cut, .int .i64 1000000000000000, .int .i64 cut, .int .i64 t.b, .int .i64 1000000000000000] rfl (by first | exact shows_lit (lit_new _ _) (Nat.lt_succ_self _) rfl | exact shows_lit (lit_second rfl hg4 (by simp)) (Nat.lt_succ_self _) rfl | exact shows_lit (lit_first hg4 (by simp)) (Nat.lt_succ_self _) rfl) (by intro u hu; simp at hu; rcases hu with rfl | rfl | rfl | rfl | rfl | rfl <;> rfl) hS.below.size (by omega) (by omega) ?_; clear own own4; intro v8 wB own8 hx hg)
                 | (refine at_append rfl ?_; refine wp_app _ _ 22 rfl w9.heap.size 36 i1 _ 3 24 Try.underlying22 ti tz0 tz1 tz2 rfl (by decide) _ _ 0 [] rfl (by first | exact (World.ownsRow_lit w9 #[] 0 (Nat.le_refl _) (by decide) rfl).drew | exact ((World.ownsRow_lit w9 #[] 0 (Nat.le_refl _) (by decide) rfl).alloc _).drew | exact own_second rfl) w9.heap.size _ i _ (P3.cells (L.take i)) rfl (hTk.below hS.below) (P3.oneCells _) hS.below.size (by omega) (by omega) ?_; intro v4 wA own4 hx hg; first | have hg4 : World.grownBy _ wA (some w9.heap.size) := hg | have hg4 : World.grownBy _ wA (some (w9.heap.size + 1)) := hg)
                 | go_simp
               try dsimp only
               first
                 | refine hK.out _ _ (hS.step hx (by omega)) ?_
                 | refine hK.out _ _ hS ?_
                 | refine hK.out _ _ (hS.alloc _ (by omega)) ?_
                 | refine hK.out _ _ (hS.grown hg hx) ?_
                 | refine hK.out _ _ (hS.turned hx (by omega)) ?_
               clear hK K hS
               intro hS
               try simp only [Act.put, List.setIfInBounds_toArray, List.set_cons_zero, List.set_cons_succ])
            | fail)
          refine tree_tail ?_
          simp only [tailed, List.filterMap_cons, List.filterMap_nil, List.getElem?_cons_zero, List.getElem?_cons_succ]
          go_wp2_with fail
          refine NoPanic.normal ?_
          have hbX := hb9.trans (hS.below.mono hb9.size)
          obtain ⟨AS, CS, rfl, hsh⟩ := shows_of_own own13
          generalize hnn : 0 + i + 2 + (L.length - (i + 1)) = nn at hsh ⊢
          obtain ⟨hP, eP⟩ := parted_three (cut := cut) hsh (by omega) hil HT.out (by simp)
          have own6 := own_below own6 hS.below
          have hWL := capAt_length L i 1000000000000000
          have own6 : wC.ownsRow wv.heap.size 36 3 (.slice (some ⟨g, 0, none⟩) L.length cap) (capAt L i 1000000000000000).length (P3.cells (capAt L i 1000000000000000)) := by
            rw [hWL, capAt, HT.out]
            exact own6
          obtain ⟨_, _, ev, hW⟩ := three_own own6
          simp only [Value.slice.injEq] at ev
          obtain ⟨rfl, hLW, rfl⟩ := ev
          clear hLW own6 own13 own8 hg hx hg4 hsh hTk hTd x0 x1 x2 x3 y0 y1 y2 y3 hS
          have HT' := HT.out
          rw [← HT'] at hcut d
          have q1 := capAt_right HR.out hil (show (0 : Int) ≤ 1000000000000000 by decide) (Int.le_refl _)
          have q2 := parted_right HR.out hil hl5 hcut.1 hcut.2
          have q3 := few_claims HF.out
          have HREST := Lib.hid (split_rests HR.out hil hl5 hcut.1 hcut.2 HF.out)
          have HUSE := Lib.hid (split_use HR.out hil hl5 hcut.1 hcut.2 HF.out (k := cs.length) (Nat.le_refl _)).2.1
          have HTAKE := Lib.hid (split_take HR.out hil hl5 hcut.1 hcut.2 HF.out)
          have HUB := Lib.hid (useAt_bounds' (fine_of_right q2) cs cs.length)
          have HUL := Lib.hid (useAt_length (capAt L i 1000000000000000) cs cs.length)
          have HVL := Lib.hid (useAt_length (parted L i cut) cs cs.length)
          clear HT' d hcut
          generalize capAt L i 1000000000000000 = W at *
          generalize parted L i cut = P at *
          go_wp2_with fail
          refine (run_good_n _ A2 L.length _ cs.length _ W cs wC hWL rfl q1 q3 hc30 hW (num_ext h2 hbX) (by omega)).mono ?_
          rintro e wD ⟨A3, c3, A4, c4, rfl, l1, l2, l3, l4, n3, n4, hxD⟩
          have hbD := hbX.trans (hxD.mono hbX.size)
          go_wp2_with fail
          refine (run_good_n _ A2 nn _ cs.length _ P cs wD eP rfl q2 q3 hc30 (three_ext hP hxD) (num_ext h2 hbD) (by omega)).mono ?_
          rintro e wE ⟨A5, c5, A6, c6, rfl, l5, l6, l7, l8, n5, n6, hxE⟩
          have hbE := hbD.trans (hxE.mono hbD.size)
          have n3 := num_ext n3 hxE
          have n4 := num_ext n4 hxE
          clear hW hP q1 q2 q3 hxD hxE hbX hbD
          rw [hWL] at HUL
          rw [eP] at HVL
          rw [HREST.out] at n5
          unfold maxLen at l2 l4 l6 l8
          obtain ⟨b4, o4, rfl, hb4, u0⟩ := n4.at_ (k := i) (by rw [HUL.out]; exact hil)
          obtain ⟨b6, o6, rfl, hb6, v0⟩ := n6.at_ (k := i) (by rw [HVL.out]; omega)
          obtain ⟨_, _, ev, _, v1⟩ := n6.at_ (k := i + 1) (by rw [HVL.out]; omega)
          cases ev
          rw [← getD1 (by rw [HUL.out]; exact hil), ← HUSE.out] at u0
          rw [← getD1 (by rw [HVL.out]; omega)] at v0 v1
          have w0 := HUB.out i (by rw [HVL.out]; omega)
          have w1' := HUB.out (i + 1) (by rw [HVL.out]; omega)
          have x1 := n4.cut (a := 0) (b := i) (m := c4) (Nat.zero_le _) (by rw [HUL.out]; omega) (by rw [HUL.out]; omega)
          have x2 := n4.cut (a := i + 1) (b := L.length) (m := c4) hil (by rw [HUL.out]; omega) (by rw [HUL.out]; omega)
          have y1 := n6.cut (a := 0) (b := i) (m := c6) (Nat.zero_le _) (by rw [HVL.out]; omega) (by rw [HVL.out]; omega)
          have y2 := n6.cut (a := i + 2) (b := nn) (m := c6) (by omega) (by rw [HVL.out]; omega) (by rw [HVL.out]; omega)
          rw [List.drop_zero] at x1 y1
          rw [List.take_of_length_le (by rw [HUL.out]; omega)] at x2
          rw [List.take_of_length_le (by rw [HVL.out]; omega)] at y2
          have z1 : ((useAt P cs cs.length).take i).length = i := by rw [List.length_take, HVL.out]; omega
          have z2 : ((useAt P cs cs.length).drop (i + 2)).length = L.length - (i + 1) := by rw [List.length_drop, HVL.out]; omega
          rw [HTAKE.out.1] at x1
          rw [HTAKE.out.2] at x2
          have Z1 := Lib.hid z1
          have z3 : ((useAt P cs cs.length).drop (i + 2)).length = nn - (i + 2) := by rw [z2]; omega
          have Z2 := Lib.hid z2
          have Z3 := Lib.hid z3
          clear z1 z2 z3 n4 n6 HTAKE HUSE HUB HREST
          generalize (useAt P cs cs.length).getD i 0 = p0 at *
          generalize (useAt P cs cs.length).getD (i + 1) 0 = p1 at *
          generalize (useAt P cs cs.length).take i = l1' at *
          generalize (useAt P cs cs.length).drop (i + 2) = l2' at *
          have wp : IntKind.i64.wrap (p0 + p1) = p0 + p1 := IntWalk.i64_in _ (by omega)
          have wi2 : IntKind.i64.wrap ((i : Int) + 2) = (i : Int) + 2 := IntWalk.i64_in _ (by omega)
          have wl1 : IntKind.i64.wrap ((L.length : Int) + 1) = (L.length : Int) + 1 := IntWalk.i64_in _ (by omega)
          have hnn2 : ((nn : Int) != (L.length : Int) + 1) = false := by
            rw [show (nn : Int) = (L.length : Int) + 1 from by omega]
            simp
          have m1 : (i : Int) ≤ (c4 : Int) := by omega
          have m2 : (i : Int) ≤ (c6 : Int) := by omega
          have m3 : (i : Int) + 2 ≤ (nn : Int) := by omega
          have m4 : (nn : Int) ≤ (c6 : Int) := by omega
          have m5 : (L.length : Int) ≤ (c4 : Int) := by omega
          have m6 : (0 : Int) ≤ (i : Int) + 2 := by omega
          have m7 : (i : Int) < (nn : Int) := by omega
          have m8 : (i : Int) + 1 < (nn : Int) := by omega
          have hnn3 : nn ≤ 1000 := by omega
          clear hnn eP HUL HVL
          go_wp2_with fail
          refine wp_region_mix [(0, true), (1, true), (2, true), (3, true), (4, false), (5, true), (6, true), (7, true), (8, true), (9, true), (10, true), (11, true), (12, true), (13, true), (14, true), (15, true), (16, true), (17, true), (18, true), (19, true), (20, true), (21, true), (22, true), (23, true), (24, true), (25, true), (26, true), (27, true), (28, true), (29, true), (30, false), (31, true), (32, true), (33, true), (34, true), (35, true), (36, true), (37, true), (38, true), (39, true), (40, true), (41, false), (42, true)] [43] (SB wE.heap.size wE wE.heap.size none _) (by kernel_rfl) (by kernel_rfl) (by kernel_rfl) (by kernel_rfl) (by decide) (SB.start (Below.refl _ _) (by omega)) (fun hS => ?_)
          simp only [planned, List.filterMap_cons, List.filterMap_nil, List.getElem?_cons_zero, List.getElem?_cons_succ, Option.map_some]
          repeat (first
            | (refine mix_skip (by rfl) ?_; try simp only [Act.put, List.setIfInBounds_toArray, List.set_cons_zero, List.set_cons_succ])
            | (refine mix_pass hS (by rfl) ?_; try simp only [Act.put, List.setIfInBounds_toArray, List.set_cons_zero, List.set_cons_succ])
            | (refine mix_pure (by rfl) (by rfl) (fun K hK => ?_); go_big_quiet_op; refine hK _ ?_; clear hK K)
            | (refine mix_take (by rfl) ?_
               apply Exists.intro
               refine ⟨?_, ?_⟩
               · intro w' hSw
                 have hSc := hSw.cell
                 clear hSw
                 go_simp
                 try with_reducible rfl
               try simp only [Act.put, List.setIfInBounds_toArray, List.set_cons_zero, List.set_cons_succ])
            | (refine mix_move (by rfl) (fun K hK => ?_)
               first
                 | (have := doneB; go_simp; go_at_call 14; refine (ints_cut _ _ (i + 1) L.length c4 (i + 2) nn c6 l2' _ Z2.out Z3.out (num_ext x2 hS.below) (num_ext y2 hS.below) (by omega)).mono ?_; rintro e wF ⟨rfl, hx⟩)
                 | (have := doneA; go_simp; go_at_call 14; refine (ints_cut _ _ 0 i c4 0 i c6 l1' _ Z1.out Z1.out (num_ext x1 hS.below) (num_ext y1 hS.below) (by omega)).mono ?_; rintro e wF ⟨rfl, hx⟩; have doneB := True.intro; clear doneA)
                 | (go_simp; go_at_call 14; refine (ints_n A3 A5 cs.length cs.length c3 c5 _ _ _ (rests_length _ _ _) (rests_length _ _ _) (num_ext n3 hS.below) (num_ext n5 hS.below) (by omega) (by omega)).mono ?_; rw [decide_eq_true rfl]; rintro e wF ⟨rfl, hx⟩; have doneA := True.intro)
                 | go_simp
               try dsimp only
               first
                 | refine hK.out _ _ (hS.step hx (by omega)) ?_
                 | refine hK.out _ _ hS ?_
                 | refine hK.out _ _ (hS.alloc _ (by omega)) ?_
                 | refine hK.out _ _ (hS.grown hg hx) ?_
               clear hK K hS
               intro hS
               try simp only [Act.put, List.setIfInBounds_toArray, List.set_cons_zero, List.set_cons_succ])
            | fail)
          refine mix_nil ?_
          simp only [tailed, List.filterMap_cons, List.filterMap_nil, List.getElem?_cons_zero, List.getElem?_cons_succ]
          go_wp2_with fail
          refine NoPanic.normal ?_
          have hx6 := hS.below
          go_wp2_with fail
          go_ret
          exact ⟨rfl, hbE.trans (hx6.mono hbE.size)⟩
      · skip
        repeat (first
          | (refine tree_skip (by rfl) (by rfl) ?_; try simp only [Act.put, List.setIfInBounds_toArray, List.set_cons_zero, List.set_cons_succ])
          | (refine tree_pass (by rfl) hS (by rfl) ?_; try simp only [Act.put, List.setIfInBounds_toArray, List.set_cons_zero, List.set_cons_succ])
          | (refine tree_pure (by rfl) (by rfl) (by rfl) (fun K hK => ?_); go_big_quiet_op; refine hK _ ?_; clear hK K)
          | (refine tree_take (by rfl) (by rfl) ?_
             apply Exists.intro
             refine ⟨?_, ?_⟩
             · intro w' hSw
               have hSc := hSw.cell
               clear hSw
               go_simp
               try with_reducible rfl
             try simp only [Act.put, List.setIfInBounds_toArray, List.set_cons_zero, List.set_cons_succ])
          | (refine tree_move (by rfl) (by rfl) (fun K hK => ?_)
             first
               | (have own := own8; refine at_append rfl ?_; refine wp_app _ _ 22 rfl w9.heap.size 36 i1 _ 3 24 Try.underlying22 ti tz0 tz1 tz2 rfl (by decide) _ _ (0 + i + 2) _ rfl own8 w9.heap.size _ (L.length - (i + 1)) _ (P3.cells (L.drop (i + 1))) rfl (hTd.below hS.below) (P3.oneCells _) hS.below.size (by omega) (by omega) ?_; intro v13 wC own13 hx hg)
               | (have own := own4; refine at_append rfl ?_; refine wp_app _ _ 22 rfl w9.heap.size 36 i1 _ 3 24 Try.underlying22 ti tz0 tz1 tz2 rfl (by decide) _ _ (0 + i) _ rfl (by first | exact own4 | exact own4.alloc _) _ _ 2 _ [.int .i64 t.a, .int .i64 cut, .int .i64 1000000000000000, .int .i64 cut, .int .i64 t.b, .int .i64 1000000000000000] rfl (by first | exact shows_lit (lit_new _ _) (Nat.lt_succ_self _) rfl | exact shows_lit (lit_second rfl hg4 (by simp)) (Nat.lt_succ_self _) rfl | exact shows_lit (lit_first hg4 (by simp)) (Nat.lt_succ_self _) rfl) (by intro u hu; simp at hu; rcases hu with rfl | rfl | rfl | rfl | rfl | rfl <;> rfl) hS.below.size (by omega) (by omega) ?_; clear own own4; intro v8 wB own8 hx hg)
               | (refine at_append rfl ?_; refine wp_app _ _ 22 rfl w9.heap.size 36 i1 _ 3 24 Try.underlying22 ti tz0 tz1 tz2 rfl (by decide) _ _ 0 [] rfl (by first | exact (World.ownsRow_lit w9 #[] 0 (Nat.le_refl _) (by decide) rfl).drew | exact ((World.ownsRow_lit w9 #[] 0 (Nat.le_refl _) (by decide) rfl).alloc _).drew | exact own_second rfl) w9.heap.size _ i _ (P3.cells (L.take i)) rfl (hTk.below hS.below) (P3.oneCells _) hS.below.size (by omega) (by omega) ?_; intro v4 wA own4 hx hg; first | have hg4 : World.grownBy _ wA (some w9.heap.size) := hg | have hg4 : World.grownBy _ wA (some (w9.heap.size + 1)) := hg)
               | go_simp
             try dsimp only
             first
               | refine hK.out _ _ (hS.step hx (by omega)) ?_
               | refine hK.out _ _ hS ?_
               | refine hK.out _ _ (hS.alloc _ (by omega)) ?_
               | refine hK.out _ _ (hS.grown hg hx) ?_
               | refine hK.out _ _ (hS.turned hx (by omega)) ?_
             clear hK K hS
             intro hS
             try simp only [Act.put, List.setIfInBounds_toArray, List.set_cons_zero, List.set_cons_succ])
          | fail)
        refine tree_tail ?_
        simp only [tailed, List.filterMap_cons, List.filterMap_nil, List.getElem?_cons_zero, List.getElem?_cons_succ]
        go_wp2_with fail
        refine NoPanic.normal ?_
        have hbX := hb9.trans (hS.below.mono hb9.size)
        obtain ⟨AS, CS, rfl, hsh⟩ := shows_of_own own13
        generalize hnn : 0 + i + 2 + (L.length - (i + 1)) = nn at hsh ⊢
        obtain ⟨hP, eP⟩ := parted_three (cut := cut) hsh (by omega) hil HT.out (by simp)
        have own6 := own_below own6 hS.below
        have hWL := capAt_length L i 1000000000000000
        have own6 : wC.ownsRow wv.heap.size 36 3 (.slice (some ⟨g, 0, none⟩) L.length cap) (capAt L i 1000000000000000).length (P3.cells (capAt L i 1000000000000000)) := by
          rw [hWL, capAt, HT.out]
          exact own6
        obtain ⟨_, _, ev, hW⟩ := three_own own6
        simp only [Value.slice.injEq] at ev
        obtain ⟨rfl, hLW, rfl⟩ := ev
        clear hLW own6 own13 own8 hg hx hg4 hsh hTk hTd x0 x1 x2 x3 y0 y1 y2 y3 hS
        have HT' := HT.out
        rw [← HT'] at hcut d
        have q1 := capAt_right HR.out hil (show (0 : Int) ≤ 1000000000000000 by decide) (Int.le_refl _)
        have q2 := parted_right HR.out hil hl5 hcut.1 hcut.2
        have q3 := few_claims HF.out
        have HREST := Lib.hid (split_rests HR.out hil hl5 hcut.1 hcut.2 HF.out)
        have HUSE := Lib.hid (split_use HR.out hil hl5 hcut.1 hcut.2 HF.out (k := cs.length) (Nat.le_refl _)).2.1
        have HTAKE := Lib.hid (split_take HR.out hil hl5 hcut.1 hcut.2 HF.out)
        have HUB := Lib.hid (useAt_bounds' (fine_of_right q2) cs cs.length)
        have HUL := Lib.hid (useAt_length (capAt L i 1000000000000000) cs cs.length)
        have HVL := Lib.hid (useAt_length (parted L i cut) cs cs.length)
        clear HT' d hcut
        generalize capAt L i 1000000000000000 = W at *
        generalize parted L i cut = P at *
        go_wp2_with fail
        refine (run_good_n _ A2 L.length _ cs.length _ W cs wC hWL rfl q1 q3 hc30 hW (num_ext h2 hbX) (by omega)).mono ?_
        rintro e wD ⟨A3, c3, A4, c4, rfl, l1, l2, l3, l4, n3, n4, hxD⟩
        have hbD := hbX.trans (hxD.mono hbX.size)
        go_wp2_with fail
        refine (run_good_n _ A2 nn _ cs.length _ P cs wD eP rfl q2 q3 hc30 (three_ext hP hxD) (num_ext h2 hbD) (by omega)).mono ?_
        rintro e wE ⟨A5, c5, A6, c6, rfl, l5, l6, l7, l8, n5, n6, hxE⟩
        have hbE := hbD.trans (hxE.mono hbD.size)
        have n3 := num_ext n3 hxE
        have n4 := num_ext n4 hxE
        clear hW hP q1 q2 q3 hxD hxE hbX hbD
        rw [hWL] at HUL
        rw [eP] at HVL
        rw [HREST.out] at n5
        unfold maxLen at l2 l4 l6 l8
        obtain ⟨b4, o4, rfl, hb4, u0⟩ := n4.at_ (k := i) (by rw [HUL.out]; exact hil)
        obtain ⟨b6, o6, rfl, hb6, v0⟩ := n6.at_ (k := i) (by rw [HVL.out]; omega)
        obtain ⟨_, _, ev, _, v1⟩ := n6.at_ (k := i + 1) (by rw [HVL.out]; omega)
        cases ev
        rw [← getD1 (by rw [HUL.out]; exact hil), ← HUSE.out] at u0
        rw [← getD1 (by rw [HVL.out]; omega)] at v0 v1
        have w0 := HUB.out i (by rw [HVL.out]; omega)
        have w1' := HUB.out (i + 1) (by rw [HVL.out]; omega)
        have x1 := n4.cut (a := 0) (b := i) (m := c4) (Nat.zero_le _) (by rw [HUL.out]; omega) (by rw [HUL.out]; omega)
        have x2 := n4.cut (a := i + 1) (b := L.length) (m := c4) hil (by rw [HUL.out]; omega) (by rw [HUL.out]; omega)
        have y1 := n6.cut (a := 0) (b := i) (m := c6) (Nat.zero_le _) (by rw [HVL.out]; omega) (by rw [HVL.out]; omega)
        have y2 := n6.cut (a := i + 2) (b := nn) (m := c6) (by omega) (by rw [HVL.out]; omega) (by rw [HVL.out]; omega)
        rw [List.drop_zero] at x1 y1
        rw [List.take_of_length_le (by rw [HUL.out]; omega)] at x2
        rw [List.take_of_length_le (by rw [HVL.out]; omega)] at y2
        have z1 : ((useAt P cs cs.length).take i).length = i := by rw [List.length_take, HVL.out]; omega
        have z2 : ((useAt P cs cs.length).drop (i + 2)).length = L.length - (i + 1) := by rw [List.length_drop, HVL.out]; omega
        rw [HTAKE.out.1] at x1
        rw [HTAKE.out.2] at x2
        have Z1 := Lib.hid z1
        have z3 : ((useAt P cs cs.length).drop (i + 2)).length = nn - (i + 2) := by rw [z2]; omega
        have Z2 := Lib.hid z2
        have Z3 := Lib.hid z3
        clear z1 z2 z3 n4 n6 HTAKE HUSE HUB HREST
        generalize (useAt P cs cs.length).getD i 0 = p0 at *
        generalize (useAt P cs cs.length).getD (i + 1) 0 = p1 at *
        generalize (useAt P cs cs.length).take i = l1' at *
        generalize (useAt P cs cs.length).drop (i + 2) = l2' at *
        have wp : IntKind.i64.wrap (p0 + p1) = p0 + p1 := IntWalk.i64_in _ (by omega)
        have wi2 : IntKind.i64.wrap ((i : Int) + 2) = (i : Int) + 2 := IntWalk.i64_in _ (by omega)
        have wl1 : IntKind.i64.wrap ((L.length : Int) + 1) = (L.length : Int) + 1 := IntWalk.i64_in _ (by omega)
        have hnn2 : ((nn : Int) != (L.length : Int) + 1) = false := by
          rw [show (nn : Int) = (L.length : Int) + 1 from by omega]
          simp
        have m1 : (i : Int) ≤ (c4 : Int) := by omega
        have m2 : (i : Int) ≤ (c6 : Int) := by omega
        have m3 : (i : Int) + 2 ≤ (nn : Int) := by omega
        have m4 : (nn : Int) ≤ (c6 : Int) := by omega
        have m5 : (L.length : Int) ≤ (c4 : Int) := by omega
        have m6 : (0 : Int) ≤ (i : Int) + 2 := by omega
        have m7 : (i : Int) < (nn : Int) := by omega
        have m8 : (i : Int) + 1 < (nn : Int) := by omega
        have hnn3 : nn ≤ 1000 := by omega
        clear hnn eP HUL HVL
        go_wp2_with fail
        refine wp_region_mix [(0, true), (1, true), (2, true), (3, true), (4, false), (5, true), (6, true), (7, true), (8, true), (9, true), (10, true), (11, true), (12, true), (13, true), (14, true), (15, true), (16, true), (17, true), (18, true), (19, true), (20, true), (21, true), (22, true), (23, true), (24, true), (25, true), (26, true), (27, true), (28, true), (29, true), (30, false), (31, true), (32, true), (33, true), (34, true), (35, true), (36, true), (37, true), (38, true), (39, true), (40, true), (41, false), (42, true)] [43] (SB wE.heap.size wE wE.heap.size none _) (by kernel_rfl) (by kernel_rfl) (by kernel_rfl) (by kernel_rfl) (by decide) (SB.start (Below.refl _ _) (by omega)) (fun hS => ?_)
        simp only [planned, List.filterMap_cons, List.filterMap_nil, List.getElem?_cons_zero, List.getElem?_cons_succ, Option.map_some]
        repeat (first
          | (refine mix_skip (by rfl) ?_; try simp only [Act.put, List.setIfInBounds_toArray, List.set_cons_zero, List.set_cons_succ])
          | (refine mix_pass hS (by rfl) ?_; try simp only [Act.put, List.setIfInBounds_toArray, List.set_cons_zero, List.set_cons_succ])
          | (refine mix_pure (by rfl) (by rfl) (fun K hK => ?_); go_big_quiet_op; refine hK _ ?_; clear hK K)
          | (refine mix_take (by rfl) ?_
             apply Exists.intro
             refine ⟨?_, ?_⟩
             · intro w' hSw
               have hSc := hSw.cell
               clear hSw
               go_simp
               try with_reducible rfl
             try simp only [Act.put, List.setIfInBounds_toArray, List.set_cons_zero, List.set_cons_succ])
          | (refine mix_move (by rfl) (fun K hK => ?_)
             first
               | (have := doneB; go_simp; go_at_call 14; refine (ints_cut _ _ (i + 1) L.length c4 (i + 2) nn c6 l2' _ Z2.out Z3.out (num_ext x2 hS.below) (num_ext y2 hS.below) (by omega)).mono ?_; rintro e wF ⟨rfl, hx⟩)
               | (have := doneA; go_simp; go_at_call 14; refine (ints_cut _ _ 0 i c4 0 i c6 l1' _ Z1.out Z1.out (num_ext x1 hS.below) (num_ext y1 hS.below) (by omega)).mono ?_; rintro e wF ⟨rfl, hx⟩; have doneB := True.intro; clear doneA)
               | (go_simp; go_at_call 14; refine (ints_n A3 A5 cs.length cs.length c3 c5 _ _ _ (rests_length _ _ _) (rests_length _ _ _) (num_ext n3 hS.below) (num_ext n5 hS.below) (by omega) (by omega)).mono ?_; rw [decide_eq_true rfl]; rintro e wF ⟨rfl, hx⟩; have doneA := True.intro)
               | go_simp
             try dsimp only
             first
               | refine hK.out _ _ (hS.step hx (by omega)) ?_
               | refine hK.out _ _ hS ?_
               | refine hK.out _ _ (hS.alloc _ (by omega)) ?_
               | refine hK.out _ _ (hS.grown hg hx) ?_
             clear hK K hS
             intro hS
             try simp only [Act.put, List.setIfInBounds_toArray, List.set_cons_zero, List.set_cons_succ])
          | fail)
        refine mix_nil ?_
        simp only [tailed, List.filterMap_cons, List.filterMap_nil, List.getElem?_cons_zero, List.getElem?_cons_succ]
        go_wp2_with fail
        refine NoPanic.normal ?_
        have hx6 := hS.below
        go_wp2_with fail
        go_ret
        exact ⟨rfl, hbE.trans (hx6.mono hbE.size)⟩

theorem tiersSplit_contract (H : Type) (enc : TypeId × Value → H) (W : World) (base : Nat) (args : Array Value) (ds gs : List (DataW H)) (before : List MemPlace)
    (hval : ∀ (j : Nat) t v, Try.f7.params[j]? = some t → args[j]? = some v → Value.okWide Try.prog W .any base t v)
    (hW : DataW.Whole enc Try.prog Try.f7.params.toList Rows.tiersSplitSpec.vars false W args.toList ds gs before) :
    Calls Try.prog 7 args W fun e W' => ∃ v, e = .returned v ∧ Rows.tiersSplitSpec.post enc Try.prog Try.f7 false true false false W args v W' := by
  have hW' := hW
  obtain ⟨p, q, hA0, hV, rfl, hfz, hnd⟩ := hW
  have hA : DataW.TrodAll enc Try.prog W 0 (fun _ => true) true Try.f7.params.toList args.toList ds p := hA0
  have hlt := hA.lt
  rw [Try.params7] at hA hval
  obtain ⟨v0, vs0, d0, ds0, p0, q0, hargs0, rfl, rfl, h0, rr0⟩ := trodAll_cons hA
  obtain ⟨v1, vs1, d1, ds1, p1, q1, rfl, rfl, rfl, h1, rr1⟩ := trodAll_cons rr0
  obtain ⟨v2, vs2, d2, ds2, p2, q2, rfl, rfl, rfl, h2, rr2⟩ := trodAll_cons rr1
  obtain ⟨v3, vs3, d3, ds3, p3, q3, rfl, rfl, rfl, h3, rr3⟩ := trodAll_cons rr2
  obtain ⟨rfl, rfl, rfl⟩ := trodAll_nil rr3
  obtain rfl : args = #[v0, v1, v2, v3] := by cases args; simp_all
  obtain ⟨rfl, rfl⟩ := trodVars_none hV
  obtain ⟨A, nn0, c, rfl⟩ := okWide_slice Try.underlying22 (hval 0 22 v0 rfl rfl)
  obtain ⟨fu0, ff0⟩ := h0
  obtain ⟨L, rfl, t0, b0, m0⟩ := open_three (B := W.heap.size) Try.underlying22 Try.underlying36 rfl rfl rfl Try.underlying3 (by kernel_rfl) rfl rfl rfl (by kernel_rfl) (fun y (hy : y ∈ p0) => hlt y (by simp [hy])) ff0
  unfold maxLen at m0
  obtain ⟨A2, nn1, c2, rfl⟩ := okWide_slice Try.underlying23 (hval 1 23 v1 rfl rfl)
  obtain ⟨fu1, ff1⟩ := h1
  obtain ⟨cs, rfl, t1, b1, m1, z1⟩ := open_nums (B := W.heap.size) Try.underlying23 Try.underlying3 (by kernel_rfl) (fun y (hy : y ∈ p1) => hlt y (by simp [hy])) ff1
  unfold maxLen at m1
  obtain ⟨q, rfl, rfl, rfl, hwf2⟩ := open_int Try.underlying5 (hval 2 5 v2 rfl rfl) h2
  have r2 : 0 ≤ q ∧ q ≤ 255 := by simpa [Lit.wf, IntKind.min, IntKind.max, IntKind.signed, IntKind.bits] using hwf2
  obtain ⟨y, rfl, rfl, rfl, hwf3⟩ := open_int Try.underlying39 (hval 3 39 v3 rfl rfl) h3
  have r3 : 0 ≤ y ∧ y ≤ 4294967295 := by simpa [Lit.wf, IntKind.min, IntKind.max, IntKind.signed, IntKind.bits] using hwf3
  refine (split_any A A2 c c2 L cs q y W t0 t1 (by omega) (by omega) (by omega) (by omega) (by omega) (by omega) (by omega)).mono fun e W' ⟨he, hb⟩ => ?_
  subst he
  exact ⟨_, rfl, law_post laidOut Try.underlying4 rfl (by kernel_rfl) rfl hW' rfl hb⟩
set_option maxRecDepth 100000 in
theorem tiersSplit_lifted (os : Os) (started : os.Started) (H : Type) (enc : TypeId × Value → H) :
    ReturnsInHanded {} Try.checked os 7 .any (Rows.tiersSplitSpec.pre6 enc Try.prog Try.f7 Rows.tiersSplitRow.domain false) (Rows.tiersSplitSpec.post enc Try.prog Try.f7 false true false false) := by
  refine returnsInHanded_of_change (C := Try.checked) own started (by kernel_rfl) Try.func7
    (ChangeSpec.witness6 (enc := enc) (C := Try.checked) false ⟨#[], #[.slice none 0 0, .slice none 0 0, .int .u8 0, .int .u32 0], []⟩ 8 (by kernel_rfl) (by kernel_rfl) (by kernel_rfl) (by kernel_rfl)) ?_
  intro W base args ds gs before hval hW _ _
  exact tiersSplit_contract H enc W base args ds gs before hval hW
theorem tiersSplit_holds : Rows.TiersSplitSaid :=
  OpenClaim.holds_of_wide 7 Try.f7 rfl rfl rfl rfl rfl rfl rfl ⟨rfl, rfl, rfl, rfl, rfl⟩ rfl rfl rfl rfl rfl (by kernel_rfl) Try.func7 (by kernel_rfl)
    (of_decide_eq_true (by kernel_rfl)) (by unfold Func.isWrapper; first | (rw [if_pos (by decide +kernel)]; kernel_rfl) | (rw [if_neg (by decide +kernel)]; exact ⟨rfl, rfl⟩))
    (fun os started H enc _ => tiersSplit_lifted os started H enc)
end Go.Proofs.Ytcienmbbfcljnaa
