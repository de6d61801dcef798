/-
  TiersMore: a greater claim, a greater Cap, more that has been used. Conditions: none.
-/
import Derived.Test.YtcienmbbfcljnaaLawC
import Derived.Test.YtcienmbbfcljnaaOnce
namespace Go.Proofs.Ytcienmbbfcljnaa
open Go.ChangeShapes Go.WideShapes Go.ChangeAt Go.RowKit Go.Deep Go.Joins

theorem info_tier : (Try.prog.info? 36).map (fun i => (i.zero, i.size, i.bytes)) = some (some (.agg #[.int .i64 0, .int .i64 0, .int .i64 0]), 3, 24) := by kernel_rfl
theorem nums_oneCells' (l : List Int) : ∀ u ∈ ints l, u.oneCell' = true := by
  intro u hu
  obtain ⟨x, _, rfl⟩ := List.mem_map.1 hu
  rfl
theorem pay_nm (A A2 : Option Addr) (m c n c2 : Nat) (L : List P3) (U : List Int) (x : Int) (w : World) (hm : L.length = m) (hn : U.length = n) (hok : okPay L U x = true) (h : Three w w.heap.size A L) (h2 : Nums w w.heap.size A2 U) (hl : m ≤ 9223372036854775807) (hl2 : n ≤ 9223372036854775807) :
    Calls Try.prog 10 #[.slice A m c, .slice A2 n c2, .int .i64 x] w fun e w' => ∃ A3 c3, e = .returned (.tuple #[.int .i64 (restAt L U x m), .slice A3 m c3, .int .i64 0]) ∧ Nums w' w'.heap.size A3 (pays L U x m) ∧ Below w.heap.size w w' := by
  subst hn hm
  refine (pay_any A A2 c c2 L U x w h h2 hl hl2).mono ?_
  unfold PaySays
  rw [show payR L U x = restAt L U x L.length from by simp [payR, hok], show payL L U x = pays L U x L.length from by simp [payL, hok], show payE L U x = 0 from by simp [payE, hok]]
  rintro e w' ⟨v, rfl, own, hx⟩
  obtain ⟨A3, c3, rfl, n3⟩ := nums_own own
  rw [pays_length]
  exact ⟨A3, c3, rfl, n3, hx⟩
theorem mn_max {x m : Int} : mn x m ≤ x ∧ mn x m ≤ m ∧ (mn x m = x ∨ mn x m = m) := by
  unfold mn
  split <;> omega

set_option maxHeartbeats 16000000 in
set_option maxRecDepth 100000 in
theorem more_any (A A2 : Option Addr) (c c2 : Nat) (L : List P3) (U : List Int) (x y q : Int) (w : World) (h : Three w w.heap.size A L) (h2 : Nums w w.heap.size A2 U)
    (hl : L.length ≤ 9223372036854775807) (hl2 : U.length ≤ 9223372036854775807) (hy0 : 0 ≤ y) (hy1 : y ≤ 4294967295) (hq0 : 0 ≤ q) (hq1 : q ≤ 255) :
    Calls Try.prog 6 #[.slice A L.length c, .slice A2 U.length c2, .int .i64 x, .int .u32 y, .int .u8 q] w fun e w' => e = .returned (.bool true) ∧ Below w.heap.size w w' := by
  have hT := h
  clear h
  go_enter Try.func6, Try.ntmps6
  go_wp2_with fail
  refine (small_any _).mono ?_
  rintro e w1 ⟨rfl, hb1⟩
  go_wp2_with fail
  refine (few_any _ _ _ _ _ _ _ _ _ _).mono ?_
  rintro e w2 ⟨rfl, hx2⟩
  have hb2 := hb1.trans (hx2.mono hb1.size)
  cases hfew : (decide (L.length ≤ 8) && decide (U.length ≤ 8) && decide (0 ≤ 30))
  · clear hfew
    go_wp2_with fail
    go_ret
    exact ⟨rfl, hb2⟩
  have hfw : L.length ≤ 8 ∧ U.length ≤ 8 := by simpa using hfew
  obtain ⟨hl8, hu8⟩ := hfw
  clear hfew
  by_cases hn0 : L.length = 0
  · have hzb : ((L.length : Int) == 0) = true := by simp [hn0]
    clear hn0
    go_wp2_with fail
    go_ret
    exact ⟨rfl, hb2⟩
  have hzb : ((L.length : Int) == 0) = false := beq_eq_false_iff_ne.2 (by omega)
  have hpos : 0 < L.length := by omega
  clear hn0
  go_wp2_with fail
  clear hzb
  cases hok : okPay L U x
  · refine (pay_any _ _ _ _ _ _ _ _ (three_ext hT hb2) (num_ext h2 hb2) hl hl2).mono ?_
    unfold PaySays
    rw [show payE L U x = 1 from by simp [payE, hok]]
    clear hok
    rintro e w3 ⟨v, rfl, _, hx3⟩
    go_wp2_with fail
    go_ret
    exact ⟨rfl, hb2.trans (hx3.mono hb2.size)⟩
  have hok' := hok
  simp only [okPay, Bool.and_eq_true] at hok'
  obtain ⟨⟨hr, hu⟩, hm⟩ := hok'
  have x01 := okMoney_iff.1 hm
  have HR := Lib.hid hr
  have HU := Lib.hid hu
  have HX := Lib.hid hm
  have HL := Lib.hid (fine_of_right hr)
  have HUU := Lib.hid (fine_used hu)
  have HOK := Lib.hid hok
  clear hr hu hm hok
  have hUL := HUU.out.1
  refine (pay_nm _ _ L.length _ U.length _ L U x w2 rfl rfl HOK.out (three_ext hT hb2) (num_ext h2 hb2) hl hl2).mono ?_
  rintro e w3 ⟨A3, c3, rfl, n3, hx3⟩
  have hb3 := hb2.trans (hx3.mono hb2.size)
  have wy : IntKind.i64.wrap y = y := IntWalk.i64_in _ (by omega)
  have wxy : IntKind.i64.wrap (x + y) = x + y := IntWalk.i64_in _ (by omega)
  have hg : (if 1000000000000000 < x + y then 1000000000000000 else x + y) = mn (x + y) 1000000000000000 := rfl
  have hgb := mn_max (x := x + y) (m := 1000000000000000)
  have HUL := Lib.hid hUL
  clear hUL
  go_wp2_with fail
  clear hg wxy
  generalize mn (x + y) 1000000000000000 = gv at hgb ⊢
  have hgx : x ≤ gv ∧ gv ≤ 1000000000000000 := by omega
  have hokg : okPay L U gv = true := by simp only [okPay, HR.out, HU.out, Bool.true_and]; exact okMoney_iff.2 (by omega)
  refine (pay_nm _ _ L.length _ U.length _ L U gv w3 rfl rfl hokg (three_ext hT hb3) (num_ext h2 hb3) hl hl2).mono ?_
  clear hokg hgb
  rintro e w4 ⟨A4, c4, rfl, n4, hx4⟩
  have hb4 := hb3.trans (hx4.mono hb3.size)
  have n3 := num_ext n3 hx4
  have hn1 : (L.length : Int) ≠ 0 := by omega
  obtain ⟨k, hk⟩ : ∃ k : Nat, q % (L.length : Int) = (k : Int) := ⟨(q % (L.length : Int)).toNat, by
    have := Int.emod_nonneg q hn1
    omega⟩
  have hkl : k < L.length := by
    have := Int.emod_lt_of_pos q (show 0 < (L.length : Int) by omega)
    omega
  have hkU : k < U.length := by have := HUL.out; omega
  have wq : IntKind.i64.wrap q = q := IntWalk.i64_in _ (by omega)
  obtain ⟨i1, ti, tz0, tz1, tz2⟩ := info_parts info_tier
  go_wp2_with (at_builtin; refine wpList_app rfl _ _ 22 rfl w4.heap.size 36 i1 _ 3 24 Try.underlying22 ti tz0 tz1 tz2 rfl (by decide) _ _ 0 [] rfl (World.ownsRow_lit w4 #[] 0 (Nat.le_refl _) (by decide) rfl) w4.heap.size A L.length c (P3.cells L) rfl (Shows.alloc (three_ext hT hb4) (Nat.le_refl _) _) (P3.oneCells L) (by simp) (by omega) (by omega) ?_)
  intro v5 w5 own5 hx5 _
  have hx5 := ((Below.refl w4.heap.size w4).alloc (Nat.le_refl _) (.cells #[] 36)).trans hx5
  have hb5 := hb4.trans (hx5.mono hb4.size)
  obtain ⟨g, cap, rfl, hg, hg', _⟩ := own_form own5 hpos
  have ec := (own5.cellAt (k * 3 + 2) (by omega)).trans (P3.get L k hkl).2.2
  have ef := own5.frozenAt (k * 3 + 2)
  have dk := HL.out.2 k hkl
  have du := HUU.out.2 k hkl
  rw [getD3 hkl] at dk du
  have wcy : IntKind.i64.wrap (L[k].c + y) = L[k].c + y := IntWalk.i64_in _ (by omega)
  have hcm : (if 1000000000000000 < L[k].c + y then 1000000000000000 else L[k].c + y) = mn (L[k].c + y) 1000000000000000 := rfl
  have hcb := mn_max (x := L[k].c + y) (m := 1000000000000000)
  have k0 : (0 : Int) ≤ (k : Int) := by omega
  have k1 : (k : Int) < (L.length : Int) := by omega
  go_wp2_with fail
  obtain ⟨own6, _⟩ := own5.stored (k * 3 + 2) (.int .i64 (mn (L[k].c + y) 1000000000000000))
  rw [P3.set_c L k hkl] at own6
  have hx6 := hx5.setCell (p := ⟨g, k * 3 + 2, none⟩) (by simp; omega) (.int .i64 (mn (L[k].c + y) 1000000000000000))
  generalize w5.setCell ⟨g, k * 3 + 2, none⟩ (.int .i64 (mn (L[k].c + y) 1000000000000000)) = w6 at own6 hx6 ⊢
  clear hcm wcy ec ef own5 hx5 hb5
  have hcv : L[k].c ≤ mn (L[k].c + y) 1000000000000000 ∧ mn (L[k].c + y) 1000000000000000 ≤ 1000000000000000 := by omega
  clear hcb
  generalize mn (L[k].c + y) 1000000000000000 = cv at *
  have own6 : w6.ownsRow w4.heap.size 36 3 (.slice (some ⟨g, 0, none⟩) L.length cap) L.length (P3.cells (capAt L k cv)) := by
    rw [capAt, getD3 hkl]
    exact own6
  have hcl := capAt_length L k cv
  obtain ⟨_, _, ev, hW⟩ := three_own (l := capAt L k cv) (by rw [hcl]; exact own6)
  simp only [Value.slice.injEq] at ev
  obtain ⟨rfl, hLW, rfl⟩ := ev
  clear hLW
  have hb6 := hb4.trans (hx6.mono hb4.size)
  have n3 := num_ext n3 hx6
  have n4 := num_ext n4 hx6
  have hcd : (L.getD k ⟨0, 0, 0⟩).c ≤ cv := by rw [getD3 hkl]; exact hcv.1
  have hokw : okPay (capAt L k cv) U x = true := by simp only [okPay, capAt_right HR.out hkl (show 0 ≤ cv by omega) hcv.2, capAt_usable HU.out hkl hcd, HX.out, Bool.and_self]
  have hrw := rest_of (L := L) (M := capAt L k cv) (U := U) (V := U) (x := x) (fun i _ => (capAt_pay hkl hcd U x i).1) L.length (Nat.le_refl _)
  have HPW := Lib.hid (capAt_pay hkl hcd U x)
  have HRW := Lib.hid hrw
  clear hrw
  generalize capAt L k cv = W at *
  refine (pay_nm _ _ L.length _ U.length _ W U x w6 hcl rfl hokw hW (num_ext h2 hb6) hl hl2).mono ?_
  clear own6 hokw hW hcl hcd hcv
  rintro e w7 ⟨A5, c5, rfl, n5, hx7⟩
  have hb7 := hb6.trans (hx7.mono hb6.size)
  have n3 := num_ext n3 hx7
  have n4 := num_ext n4 hx7
  have hnb : ((U.length : Int) != (L.length : Int)) = false := by simp [HUL.out]
  obtain ⟨i0, hi, hz0, hz1, hz2⟩ := info_parts info3
  clear wq hn1
  go_wp2_with (at_builtin; refine wpList_app rfl _ _ 23 rfl w7.heap.size 3 i0 _ 1 8 Try.underlying23 hi hz0 hz1 hz2 rfl (by decide) _ _ 0 [] rfl (World.ownsRow_lit w7 #[] 0 (Nat.le_refl _) (by decide) rfl) w7.heap.size A2 U.length c2 (ints U) rfl (Shows.alloc (num_ext h2 hb7) (Nat.le_refl _) _) (nums_oneCells' U) (by simp) (by omega) (by omega) ?_)
  intro v8 w8 own8 hx8 _
  have hx8 := ((Below.refl w7.heap.size w7).alloc (Nat.le_refl _) (.cells #[] 3)).trans hx8
  have hb8 := hb7.trans (hx8.mono hb7.size)
  obtain ⟨g2, cap2, rfl, hg2, hg2', _⟩ := own_form own8 (by omega)
  have ec := own8.cellAt k (by omega)
  rw [ints_getD hkU] at ec
  have ef := own8.frozenAt k
  obtain ⟨bt, ot, rfl, hbt, e0, e1, e2⟩ := (hT.below hb8).at_ hkl
  have hsz8 := hb8.size
  have hsz7 := hx8.size
  have k2 : (k : Int) < (U.length : Int) := by omega
  have i5 : bt < w8.heap.size := by omega
  have wuy : IntKind.i64.wrap (U.getD k 0 + y) = U.getD k 0 + y := IntWalk.i64_in _ (by omega)
  have hmu : (if L[k].c < U.getD k 0 + y then L[k].c else U.getD k 0 + y) = mn (U.getD k 0 + y) L[k].c := rfl
  have hub := mn_max (x := U.getD k 0 + y) (m := L[k].c)
  have hcd : mn (U.getD k 0 + y) L[k].c ≤ (L.getD k ⟨0, 0, 0⟩).c := by rw [getD3 hkl]; omega
  have hud : U.getD k 0 ≤ mn (U.getD k 0 + y) L[k].c := by omega
  have huv : mn (U.getD k 0 + y) L[k].c = mn (U.getD k 0 + y) L[k].c := rfl
  generalize hUK : U.getD k 0 = uk at *
  clear hnb
  go_wp2_with fail
  refine wp_region_mix [(0, true), (1, true), (2, true), (3, true), (4, true), (5, true), (6, true), (7, true), (8, true), (9, true), (10, true), (11, true), (12, true), (13, true), (14, true)] [15, 16] (SB w7.heap.size w7 w8.heap.size none _) (by kernel_rfl) (by kernel_rfl) (by kernel_rfl) (by kernel_rfl) (by decide) (SB.start hx8 (by omega)) (fun hS => ?_)
  simp only [planned, List.filterMap_cons, List.filterMap_nil, List.getElem?_cons_zero, List.getElem?_cons_succ, Option.map_some]
  repeat (first
    | (refine mix_skip (by rfl) ?_; try simp only [Act.put, List.setIfInBounds_toArray, List.set_cons_zero, List.set_cons_succ])
    | (refine mix_pass hS (by rfl) ?_; try simp only [Act.put, List.setIfInBounds_toArray, List.set_cons_zero, List.set_cons_succ])
    | (refine mix_pure (by rfl) (by rfl) (fun K hK => ?_); go_big_quiet_op; refine hK _ ?_; clear hK K)
    | (refine mix_take (by rfl) ?_
       apply Exists.intro
       refine ⟨?_, ?_⟩
       · intro w' hSw
         have hSc := hSw.cell
         clear hSw
         go_simp
         try with_reducible rfl
       try simp only [Act.put, List.setIfInBounds_toArray, List.set_cons_zero, List.set_cons_succ])
    | (refine mix_move (by rfl) (fun K hK => ?_)
       go_simp
       try dsimp only
       first
         | refine hK.out _ _ (hS.step hx (by omega)) ?_
         | refine hK.out _ _ hS ?_
         | refine hK.out _ _ (hS.alloc _ (by omega)) ?_
         | refine hK.out _ _ (hS.grown hg hx) ?_
       clear hK K hS
       intro hS
       try simp only [Act.put, List.setIfInBounds_toArray, List.set_cons_zero, List.set_cons_succ])
    | fail)
  refine mix_nil ?_
  simp only [tailed, List.filterMap_cons, List.filterMap_nil, List.getElem?_cons_zero, List.getElem?_cons_succ]
  go_wp2_with fail
  refine NoPanic.normal ?_
  obtain ⟨own9, _⟩ := own8.stored k (.int .i64 (mn (uk + y) L[k].c))
  rw [ints_set] at own9
  have own9 := own9.drew
  have hx9 := (hx8.setCell (p := ⟨g2, k, none⟩) (by simp; omega) (.int .i64 (mn (uk + y) L[k].c))).drew
  clear hmu wuy ec ef own8 hS e0 e1 e2 hub huv
  have hV : (U.set k (mn (uk + y) L[k].c)).length = U.length := by simp
  have hud : U.getD k 0 ≤ mn (uk + y) L[k].c := by rw [hUK]; exact hud
  have hokm : okPay L (U.set k (mn (uk + y) L[k].c)) x = true := by simp only [okPay, HR.out, use_usable HU.out hkl hud hcd, HX.out, Bool.and_self]
  have hrm := rest_of (L := L) (M := L) (U := U.set k (mn (uk + y) L[k].c)) (V := U) (x := x) (fun i _ => (use_pay hkU hud x i).1) L.length (Nat.le_refl _)
  have HPM := Lib.hid (use_pay (L := L) hkU hud x)
  have HRM := Lib.hid hrm
  clear hrm hud hcd
  generalize U.set k (mn (uk + y) L[k].c) = V at *
  generalize (w8.setCell ⟨g2, k, none⟩ (.int .i64 (mn (uk + y) L[k].c))).drew = w9 at own9 hx9 ⊢
  obtain ⟨_, _, ev, nV⟩ := nums_own (l := V) (by rw [hV]; exact own9)
  simp only [Value.slice.injEq] at ev
  obtain ⟨rfl, hLW, rfl⟩ := ev
  clear hLW own9
  have hb9 := hb7.trans (hx9.mono hb7.size)
  have hxy := hx9
  have n3 := num_ext n3 hxy
  have n4 := num_ext n4 hxy
  have n5 := num_ext n5 hxy
  go_wp2_with fail
  refine (pay_nm _ _ L.length _ U.length _ L V x w9 rfl hV hokm (three_ext hT hb9) nV hl hl2).mono ?_
  clear hokm hV nV
  rintro e w10 ⟨A6, c6, rfl, n6, hx10⟩
  have hb10 := hb9.trans (hx10.mono hb9.size)
  have n3 := num_ext n3 hx10
  have n4 := num_ext n4 hx10
  have n5 := num_ext n5 hx10
  have r1 := rest_le (U := U) (x := x) (y := gv) HL.out hgx.1 x01.1
  have d1 : decide (restAt L U gv L.length < restAt L U x L.length) = false := decide_eq_false (by omega)
  have d2 : decide (restAt L U x L.length < restAt W U x L.length) = false := decide_eq_false (by have := HRW.out; omega)
  have d3 : decide (restAt L V x L.length < restAt L U x L.length) = false := decide_eq_false (by have := HRM.out; omega)
  clear r1
  generalize restAt L U gv L.length = ra at *
  generalize restAt L U x L.length = rb at *
  generalize restAt W U x L.length = rc at *
  generalize restAt L V x L.length = rd at *
  have HGX := Lib.hid (fun i (hi : i < L.length) => payAt_mono (U := U) HL.out hgx.1 hi)
  go_wp2_with fail
  clear d1 d2 d3
  go_loopw [28] (fun i wi => ∃ i' : Nat, i' ≤ L.length ∧ i = .int .i64 i' ∧ Below w10.heap.size w10 wi) (fun i _ => L.length - (intOf i).toNat)
  case atStart => exact ⟨0, Nat.zero_le _, rfl, Below.refl _ _⟩
  case round =>
    obtain ⟨i', hi', rfl, hbi⟩ := hrel
    by_cases hlti : i' < L.length
    · obtain ⟨b3, o3, rfl, hb3', q3⟩ := (n3.below hbi).at_ (k := i') (by rw [pays_length]; exact hlti)
      obtain ⟨b4, o4, rfl, hb4', q4⟩ := (n4.below hbi).at_ (k := i') (by rw [pays_length]; exact hlti)
      obtain ⟨b5, o5, rfl, hb5', q5⟩ := (n5.below hbi).at_ (k := i') (by rw [pays_length]; exact hlti)
      obtain ⟨b6, o6, rfl, hb6', q6⟩ := (n6.below hbi).at_ (k := i') (by rw [pays_length]; exact hlti)
      rw [← getD1 (by rw [pays_length]; exact hlti), pays_get hlti] at q3 q4 q5 q6
      have m1 := HGX.out i' hlti
      have m2 := HPW.out i'
      have m3 := HPM.out i'
      have hszi := hbi.size
      have j0 : (0 : Int) ≤ (i' : Int) := by omega
      have j1 : (i' : Int) < (L.length : Int) := by omega
      have s3 : b3 < wr.heap.size := by omega
      have s4 : b4 < wr.heap.size := by omega
      have s5 : b5 < wr.heap.size := by omega
      have s6 : b6 < wr.heap.size := by omega
      by_cases hik : i' = k
      · have tk : ((i' : Int) != (k : Int)) = false := by simp [hik]
        obtain ⟨m2, _⟩ := m2
        obtain ⟨m3, _⟩ := m3
        clear hik
        generalize payAt L U x i' = p0 at *
        generalize payAt L U gv i' = p1 at *
        generalize payAt W U x i' = p2 at *
        generalize payAt L V x i' = p3 at *
        have t1 : decide (p1 < p0) = false := decide_eq_false (by omega)
        have t2 : decide (p0 < p3) = false := decide_eq_false (by omega)
        have t3 : decide (p2 < p0) = false := decide_eq_false (by omega)
        have t4 : decide (p0 < p0) = false := decide_eq_false (by omega)
        go_wp2_with fail
        refine wp_region_mix [(0, true), (1, true), (2, true), (3, true), (4, true), (5, true), (6, true), (7, true), (8, true), (9, true), (10, true), (11, true), (12, true), (13, true), (14, true), (15, true), (16, true), (17, true), (18, true), (19, true), (20, true), (21, true), (22, true), (23, true), (24, true), (25, true), (26, true), (27, true), (28, true), (29, true), (30, true), (31, true), (32, true), (33, true), (34, true), (35, true), (36, true), (37, true), (38, true), (39, true), (40, true), (41, true), (42, true), (43, true), (44, true), (45, true), (46, true), (47, true), (48, true), (49, true), (50, true), (51, true), (52, true), (53, true), (54, true), (55, true), (56, true), (57, true)] [] (SB w10.heap.size w10 wr.heap.size none _) (by kernel_rfl) (by kernel_rfl) (by kernel_rfl) (by kernel_rfl) (by decide) (SB.start hbi (by omega)) (fun hS => ?_)
        simp only [planned, List.filterMap_cons, List.filterMap_nil, List.getElem?_cons_zero, List.getElem?_cons_succ, Option.map_some]
        repeat (first
          | (refine mix_skip (by rfl) ?_; try simp only [Act.put, List.setIfInBounds_toArray, List.set_cons_zero, List.set_cons_succ])
          | (refine mix_pass hS (by rfl) ?_; try simp only [Act.put, List.setIfInBounds_toArray, List.set_cons_zero, List.set_cons_succ])
          | (refine mix_pure (by rfl) (by rfl) (fun K hK => ?_); go_big_quiet_op; refine hK _ ?_; clear hK K)
          | (refine mix_take (by rfl) ?_
             apply Exists.intro
             refine ⟨?_, ?_⟩
             · intro w' hSw
               have hSc := hSw.cell
               clear hSw
               go_simp
               try with_reducible rfl
             try simp only [Act.put, List.setIfInBounds_toArray, List.set_cons_zero, List.set_cons_succ])
          | (refine mix_move (by rfl) (fun K hK => ?_)
             go_simp
             try dsimp only
             first
               | refine hK.out _ _ (hS.step hx (by omega)) ?_
               | refine hK.out _ _ hS ?_
               | refine hK.out _ _ (hS.alloc _ (by omega)) ?_
               | refine hK.out _ _ (hS.grown hg hx) ?_
             clear hK K hS
             intro hS
             try simp only [Act.put, List.setIfInBounds_toArray, List.set_cons_zero, List.set_cons_succ])
          | fail)
        refine mix_nil ?_
        simp only [tailed, List.filterMap_nil]
        go_wp2_with fail
        refine NoPanic.normal ?_
        go_wp2_with fail
        go_roundw
        case rel => exact ⟨i' + 1, by omega, by go_num, hbi.drew⟩
        case measure => simp [intOf]; omega
      · have tk : ((i' : Int) != (k : Int)) = true := by simp; omega
        have e2 := m2.2 hik
        have e3 := m3.2 hik
        rw [e2] at q5
        rw [e3] at q6
        replace m2 := m2.1
        replace m3 := m3.1
        clear e2 e3 hik
        generalize payAt L U x i' = p0 at *
        generalize payAt L U gv i' = p1 at *
        generalize payAt W U x i' = p2 at *
        generalize payAt L V x i' = p3 at *
        have t1 : decide (p1 < p0) = false := decide_eq_false (by omega)
        have t2 : decide (p0 < p3) = false := decide_eq_false (by omega)
        have t3 : decide (p2 < p0) = false := decide_eq_false (by omega)
        have t4 : decide (p0 < p0) = false := decide_eq_false (by omega)
        go_wp2_with fail
        refine wp_region_mix [(0, true), (1, true), (2, true), (3, true), (4, true), (5, true), (6, true), (7, true), (8, true), (9, true), (10, true), (11, true), (12, true), (13, true), (14, true), (15, true), (16, true), (17, true), (18, true), (19, true), (20, true), (21, true), (22, true), (23, true), (24, true), (25, true), (26, true), (27, true), (28, true), (29, true), (30, true), (31, true), (32, true), (33, true), (34, true), (35, true), (36, true), (37, true), (38, true), (39, true), (40, true), (41, true), (42, true), (43, true), (44, true), (45, true), (46, true), (47, true), (48, true), (49, true), (50, true), (51, true), (52, true), (53, true), (54, true), (55, true), (56, true), (57, true)] [] (SB w10.heap.size w10 wr.heap.size none _) (by kernel_rfl) (by kernel_rfl) (by kernel_rfl) (by kernel_rfl) (by decide) (SB.start hbi (by omega)) (fun hS => ?_)
        simp only [planned, List.filterMap_cons, List.filterMap_nil, List.getElem?_cons_zero, List.getElem?_cons_succ, Option.map_some]
        repeat (first
          | (refine mix_skip (by rfl) ?_; try simp only [Act.put, List.setIfInBounds_toArray, List.set_cons_zero, List.set_cons_succ])
          | (refine mix_pass hS (by rfl) ?_; try simp only [Act.put, List.setIfInBounds_toArray, List.set_cons_zero, List.set_cons_succ])
          | (refine mix_pure (by rfl) (by rfl) (fun K hK => ?_); go_big_quiet_op; refine hK _ ?_; clear hK K)
          | (refine mix_take (by rfl) ?_
             apply Exists.intro
             refine ⟨?_, ?_⟩
             · intro w' hSw
               have hSc := hSw.cell
               clear hSw
               go_simp
               try with_reducible rfl
             try simp only [Act.put, List.setIfInBounds_toArray, List.set_cons_zero, List.set_cons_succ])
          | (refine mix_move (by rfl) (fun K hK => ?_)
             go_simp
             try dsimp only
             first
               | refine hK.out _ _ (hS.step hx (by omega)) ?_
               | refine hK.out _ _ hS ?_
               | refine hK.out _ _ (hS.alloc _ (by omega)) ?_
               | refine hK.out _ _ (hS.grown hg hx) ?_
             clear hK K hS
             intro hS
             try simp only [Act.put, List.setIfInBounds_toArray, List.set_cons_zero, List.set_cons_succ])
          | fail)
        refine mix_nil ?_
        simp only [tailed, List.filterMap_nil]
        go_wp2_with fail
        refine NoPanic.normal ?_
        go_wp2_with fail
        go_roundw
        case rel => exact ⟨i' + 1, by omega, by go_num, hbi.drew⟩
        case measure => simp [intOf]; omega
    · go_wp2_with fail
      go_ret
      exact ⟨rfl, hb10.trans (hbi.mono hb10.size)⟩

theorem tiersMore_contract (H : Type) (enc : TypeId × Value → H) (W : World) (base : Nat) (args : Array Value) (ds gs : List (DataW H)) (before : List MemPlace)
    (hval : ∀ (j : Nat) t v, Try.f6.params[j]? = some t → args[j]? = some v → Value.okWide Try.prog W .any base t v)
    (hW : DataW.Whole enc Try.prog Try.f6.params.toList Rows.tiersMoreSpec.vars false W args.toList ds gs before) :
    Calls Try.prog 6 args W fun e W' => ∃ v, e = .returned v ∧ Rows.tiersMoreSpec.post enc Try.prog Try.f6 false true false false W args v W' := by
  have hW' := hW
  obtain ⟨p, q, hA0, hV, rfl, hfz, hnd⟩ := hW
  have hA : DataW.TrodAll enc Try.prog W 0 (fun _ => true) true Try.f6.params.toList args.toList ds p := hA0
  have hlt := hA.lt
  rw [Try.params6] at hA hval
  obtain ⟨v0, vs0, d0, ds0, p0, q0, hargs0, rfl, rfl, h0, rr0⟩ := trodAll_cons hA
  obtain ⟨v1, vs1, d1, ds1, p1, q1, rfl, rfl, rfl, h1, rr1⟩ := trodAll_cons rr0
  obtain ⟨v2, vs2, d2, ds2, p2, q2, rfl, rfl, rfl, h2, rr2⟩ := trodAll_cons rr1
  obtain ⟨v3, vs3, d3, ds3, p3, q3, rfl, rfl, rfl, h3, rr3⟩ := trodAll_cons rr2
  obtain ⟨v4, vs4, d4, ds4, p4, q4, rfl, rfl, rfl, h4, rr4⟩ := trodAll_cons rr3
  obtain ⟨rfl, rfl, rfl⟩ := trodAll_nil rr4
  obtain rfl : args = #[v0, v1, v2, v3, v4] := by cases args; simp_all
  obtain ⟨rfl, rfl⟩ := trodVars_none hV
  obtain ⟨A, nn0, c, rfl⟩ := okWide_slice Try.underlying22 (hval 0 22 v0 rfl rfl)
  obtain ⟨fu0, ff0⟩ := h0
  obtain ⟨L, rfl, t0, b0, m0⟩ := open_three (B := W.heap.size) Try.underlying22 Try.underlying36 rfl rfl rfl Try.underlying3 (by kernel_rfl) rfl rfl rfl (by kernel_rfl) (fun y (hy : y ∈ p0) => hlt y (by simp [hy])) ff0
  unfold maxLen at m0
  obtain ⟨A2, nn1, c2, rfl⟩ := okWide_slice Try.underlying23 (hval 1 23 v1 rfl rfl)
  obtain ⟨fu1, ff1⟩ := h1
  obtain ⟨U, rfl, t1, b1, m1, z1⟩ := open_nums (B := W.heap.size) Try.underlying23 Try.underlying3 (by kernel_rfl) (fun y (hy : y ∈ p1) => hlt y (by simp [hy])) ff1
  unfold maxLen at m1
  obtain ⟨x, rfl, rfl, rfl, hwf2⟩ := open_int Try.underlying3 (hval 2 3 v2 rfl rfl) h2
  have r2 : -9223372036854775808 ≤ x ∧ x ≤ 9223372036854775807 := by simpa [Lit.wf, IntKind.min, IntKind.max, IntKind.signed, IntKind.bits] using hwf2
  obtain ⟨y, rfl, rfl, rfl, hwf3⟩ := open_int Try.underlying39 (hval 3 39 v3 rfl rfl) h3
  have r3 : 0 ≤ y ∧ y ≤ 4294967295 := by simpa [Lit.wf, IntKind.min, IntKind.max, IntKind.signed, IntKind.bits] using hwf3
  obtain ⟨q, rfl, rfl, rfl, hwf4⟩ := open_int Try.underlying5 (hval 4 5 v4 rfl rfl) h4
  have r4 : 0 ≤ q ∧ q ≤ 255 := by simpa [Lit.wf, IntKind.min, IntKind.max, IntKind.signed, IntKind.bits] using hwf4
  refine (more_any A A2 c c2 L U x y q W t0 t1 (by omega) (by omega) (by omega) (by omega) (by omega) (by omega)).mono fun e W' ⟨he, hb⟩ => ?_
  subst he
  exact ⟨_, rfl, law_post laidOut Try.underlying4 rfl (by kernel_rfl) rfl hW' rfl hb⟩
set_option maxRecDepth 100000 in
theorem tiersMore_lifted (os : Os) (started : os.Started) (H : Type) (enc : TypeId × Value → H) :
    ReturnsInHanded {} Try.checked os 6 .any (Rows.tiersMoreSpec.pre6 enc Try.prog Try.f6 Rows.tiersMoreRow.domain false) (Rows.tiersMoreSpec.post enc Try.prog Try.f6 false true false false) := by
  refine returnsInHanded_of_change (C := Try.checked) own started (by kernel_rfl) Try.func6
    (ChangeSpec.witness6 (enc := enc) (C := Try.checked) false ⟨#[], #[.slice none 0 0, .slice none 0 0, .int .i64 0, .int .u32 0, .int .u8 0], []⟩ 8 (by kernel_rfl) (by kernel_rfl) (by kernel_rfl) (by kernel_rfl)) ?_
  intro W base args ds gs before hval hW _ _
  exact tiersMore_contract H enc W base args ds gs before hval hW
theorem tiersMore_holds : Rows.TiersMoreSaid :=
  OpenClaim.holds_of_wide 6 Try.f6 rfl rfl rfl rfl rfl rfl rfl ⟨rfl, rfl, rfl, rfl, rfl⟩ rfl rfl rfl rfl rfl (by kernel_rfl) Try.func6 (by kernel_rfl)
    (of_decide_eq_true (by kernel_rfl)) (by unfold Func.isWrapper; first | (rw [if_pos (by decide +kernel)]; kernel_rfl) | (rw [if_neg (by decide +kernel)]; exact ⟨rfl, rfl⟩))
    (fun os started H enc _ => tiersMore_lifted os started H enc)
end Go.Proofs.Ytcienmbbfcljnaa
