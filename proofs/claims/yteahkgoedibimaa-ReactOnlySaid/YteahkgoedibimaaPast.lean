/-
  ReactPast: what happens up to an event depends on nothing that comes later; a longer leg makes nothing earlier; nothing is later than in Worst. Conditions: none.
-/
import Derived.Test.YteahkgoedibimaaKeeps
namespace Go.Proofs.Yteahkgoedibimaa
open Go.ChangeShapes Go.WideShapes Go.ChangeAt Go.RowKit Go.Deep Go.Joins

theorem nums_oneCells (l : List Int) : ∀ u ∈ ints l, u.oneCell' = true := by
  intro u hu
  obtain ⟨x, _, rfl⟩ := List.mem_map.1 hu
  rfl
theorem t_same {G T T' : List Int} : ∀ k, (∀ i, i < k → T.getD i 0 = T'.getD i 0) → tAt G T k = tAt G T' k
  | 0, _ => rfl
  | k + 1, h => by
    simp only [tAt]
    rw [t_same k fun i hi => h i (by omega), h k (by omega)]
/-- what Past asks of event i -/
def PastAt (G T U H : List Int) (k i : Nat) : Prop :=
  (i ≤ k → tAt G T i = tAt G U i) ∧ tAt G T i ≤ tAt G U i ∧ tAt G U i ≤ tAt G H i ∧ G.getD i 0 ≤ tAt G T i
theorem past_at {G T H : List Int} {k : Nat} {z : Int} (hk : k < T.length) (h1 : T.getD k 0 ≤ z) (h2 : z ≤ H.getD k 0) (hH : ∀ i, i < T.length → T.getD i 0 ≤ H.getD i 0) {i : Nat} (hi : i ≤ T.length) : PastAt G T (T.set k z) H k i := by
  have hg : ∀ j, (T.set k z).getD j 0 = if j = k then z else T.getD j 0 := fun j => getD_set T k j z hk
  refine ⟨fun hik => t_same i fun j hj => by rw [hg, if_neg (by omega)], t_mono i (fun _ _ => Int.le_refl _) fun j hj => ?_, t_mono i (fun _ _ => Int.le_refl _) fun j hj => ?_, t_ge_guard G T i⟩
  · rw [hg]
    split
    · rename_i e; rw [e]; exact h1
    · exact Int.le_refl _
  · rw [hg]
    split
    · rename_i e; rw [e]; exact h2
    · exact hH j (by omega)
theorem set_in {ls : List P2} {T : List Int} {k : Nat} {z : Int} (hk : k < T.length) (hT : ∀ i, i < ls.length → (ls.getD i ⟨0, 0⟩).a ≤ T.getD i 0 ∧ T.getD i 0 ≤ (ls.getD i ⟨0, 0⟩).b) (h1 : T.getD k 0 ≤ z) (h2 : z ≤ (ls.getD k ⟨0, 0⟩).b) :
    ∀ i, i < ls.length → (ls.getD i ⟨0, 0⟩).a ≤ (T.set k z).getD i 0 ∧ (T.set k z).getD i 0 ≤ (ls.getD i ⟨0, 0⟩).b := by
  intro i hi
  have := hT i hi
  rw [getD_set _ _ _ _ hk]
  split
  · rename_i e; subst e; omega
  · exact this
theorem show_at {w : World} {B n k : Nat} {A : Option Addr} {l : List Int} (h : Shows w B 1 A n (ints l)) (hl : l.length = n) (hk : k < n) : ∃ b o, A = some ⟨b, o, none⟩ ∧ b < B ∧ w.cell? ⟨b, o + k, none⟩ = some (.int .i64 (l.getD k 0)) := by
  obtain ⟨b, o, ha, hb, hc⟩ := h.2 (by omega)
  exact ⟨b, o, ha, hb, hc _ _ (ints_getD (by omega))⟩
theorem show_run {w : World} {B : Nat} {A : Option Addr} {G T : List Int} {n : Nat} (h : Nums w B A (runL G T n)) : Shows w B 1 A n (ints (runL G T n)) := by
  unfold Nums at h
  rwa [runL_length] at h
set_option maxHeartbeats 8000000 in
set_option maxRecDepth 100000 in
theorem past_any (A1 A2 A3 A4 A5 : Option Addr) (c1 c2 c3 c4 c5 : Nat) (ws ls : List P2) (rs : List P3) (G ns : List Int) (p y : Int) (w : World) (h1 : Two w w.heap.size A1 ws) (h2 : Two w w.heap.size A2 ls) (h3 : Three w w.heap.size A3 rs)
    (h4 : Nums w w.heap.size A4 G) (h5 : Shows w w.heap.size 1 A5 ns.length (ns.map (Value.int .u16))) (hl1 : ws.length ≤ 9223372036854775807) (hl4 : G.length ≤ 9223372036854775807) (hn : ns.length ≤ 9223372036854775807) (hw : ∀ z ∈ ns, 0 ≤ z ∧ z ≤ 65535)
    (hp : 0 ≤ p ∧ p ≤ 255) (hy : 0 ≤ y ∧ y ≤ 65535) :
    Calls Try.prog 6 #[.agg #[.slice A1 ws.length c1, .slice A2 ls.length c2, .slice A3 rs.length c3], .slice A4 G.length c4, .slice A5 ns.length c5, .int .u8 p, .int .u16 y] w fun e w' => e = .returned (.bool true) ∧ Below w.heap.size w w' := by
  go_enter Try.func6, Try.ntmps6
  go_wp2_with fail
  have hbA := lit_below w (.cells #[.slice A1 ws.length c1, .slice A2 ls.length c2, .slice A3 rs.length c3] 26)
  have hbox := BoxC.new w (.slice A1 ws.length c1) (.slice A2 ls.length c2) (.slice A3 rs.length c3) 26
  generalize w.alloc (.cells #[.slice A1 ws.length c1, .slice A2 ls.length c2, .slice A3 rs.length c3] 26) = wA at hbA hbox ⊢
  refine (small_any _).mono ?_
  rintro e w1 ⟨rfl, hx1⟩
  obtain ⟨x0, x1, x2, sA⟩ := id hbox
  have hb1 := hbA.trans (hx1.mono hbA.size)
  have hbox := hbox.ext hx1
  clear x0 x1 x2 sA
  obtain ⟨x0, x1, x2, sA⟩ := id hbox
  go_wp2_with fail
  refine (few_any _ _ _ _ _ _ ws ls rs _).mono ?_
  rintro e w2 ⟨rfl, hx2⟩
  have hb2 := hb1.trans (hx2.mono hb1.size)
  have hbox := hbox.ext hx2
  clear x0 x1 x2 sA
  obtain ⟨x0, x1, x2, sA⟩ := id hbox
  cases hfew : fewC ws ls rs
  · clear hfew
    go_wp2_with fail
    go_ret
    exact ⟨rfl, hb2⟩
  clear hfew
  go_wp2_with fail
  refine (right_any _ _ _ _ _ _ ws ls rs _ (two_ext h1 hb2) (two_ext h2 hb2) (three_ext h3 hb2) hl1).mono ?_
  rintro e w3 ⟨rfl, hx3⟩
  have hb3 := hb2.trans (hx3.mono hb2.size)
  have hbox := hbox.ext hx3
  clear x0 x1 x2 sA
  obtain ⟨x0, x1, x2, sA⟩ := id hbox
  cases hr : rightC ws ls rs
  · clear hr
    go_wp2_with fail
    go_ret
    exact ⟨rfl, hb3⟩
  have HR := Lib.hid hr
  have HF := Lib.hid (fine_right hr)
  clear hr
  by_cases l4 : (14 : Int) < (G.length : Int)
  · skip
    go_wp2_with fail
    go_ret
    exact ⟨rfl, hb3⟩
  have l4' := decide_eq_false l4
  by_cases l5 : ls.length = 0
  · have hzb : ((ls.length : Int) == 0) = true := by simp [l5]
    clear l5
    go_wp2_with fail
    go_ret
    exact ⟨rfl, hb3⟩
  have hzb : ((ls.length : Int) == 0) = false := beq_eq_false_iff_ne.2 (by omega)
  have hpos : 0 < ls.length := by omega
  have hll : ls.length + 1 = ws.length := HF.out.1.2.2.1
  have hn82 : ws.length ≤ 82 := HF.out.1.2.1
  clear l5
  have wp : IntKind.i64.wrap p = p := IntWalk.i64_in _ (by omega)
  have hn1 : (ls.length : Int) ≠ 0 := by omega
  obtain ⟨k, hk⟩ : ∃ k : Nat, p % (ls.length : Int) = (k : Int) := ⟨(p % (ls.length : Int)).toNat, by
    have := Int.emod_nonneg p hn1
    omega⟩
  have hkl : k < ls.length := by
    have := Int.emod_lt_of_pos p (show 0 < (ls.length : Int) by omega)
    omega
  go_wp2_with fail
  clear hzb l4'
  refine (takes_any _ _ _ _ _ _ _ _ ws ls rs ns _ (two_ext h2 hb3) (Shows.more (h5.below hb3) hb3.size) HF.out hn hw).mono ?_
  rintro e w4 ⟨v4, rfl, own4, hx4⟩
  have hb4 := hb3.trans (hx4.mono hb3.size)
  have hbox := hbox.ext hx4
  clear x0 x1 x2 sA
  obtain ⟨x0, x1, x2, sA⟩ := id hbox
  have HTL := Lib.hid (takesL_length ls ns)
  have HTI := Lib.hid (takesL_in HF.out ns)
  generalize takesL ls ns = T at own4 HTL HTI
  obtain ⟨A6, c6, rfl, n6, _, _⟩ := caps_of_own own4
  have hT81 : T.length ≤ 81 := by have := HTL.out; omega
  have hkT : k < T.length := by have := HTL.out; omega
  obtain ⟨i0, hi, hz0, hz1, hz2⟩ := info_parts info3
  have s4 := hb4.size
  go_wp2_with (at_builtin; refine wpList_app rfl _ _ 27 rfl w4.heap.size 3 i0 _ 1 8 Try.underlying27 hi hz0 hz1 hz2 rfl (by decide) _ _ 0 [] rfl (World.ownsRow_lit w4 #[] 0 (Nat.le_refl _) (by decide) rfl) w4.heap.size A6 T.length c6 (ints T) rfl (Shows.alloc n6 (Nat.le_refl _) _) (nums_oneCells T) (by simp) (by omega) (by omega) ?_)
  intro v5 w5 own5 hx5 _
  have hx5 := ((Below.refl w4.heap.size w4).alloc (Nat.le_refl _) (.cells #[] 3)).trans hx5
  have hbox4 := hbox
  have hb5 := hb4.trans (hx5.mono hb4.size)
  have hbox := hbox.ext hx5
  clear x0 x1 x2 sA
  obtain ⟨x0, x1, x2, sA⟩ := id hbox
  obtain ⟨g, cap, rfl, hg, hg', _⟩ := own_form own5 (by omega)
  have ec := own5.cellAt k (by omega)
  rw [ints_getD hkT] at ec
  have ef := own5.frozenAt k
  obtain ⟨bl, ol, rfl, hbl, e0, e1⟩ := (h2.below hb5).at_ hkl
  rw [← getD2 hkl] at e0 e1
  have dk := HF.out.2.2.1 k
  unfold okP at dk
  have dt := HTI.out k hkl
  have HTK := Lib.hid (show ls.getD k ⟨0, 0⟩ = ls.getD k ⟨0, 0⟩ from rfl)
  generalize hLK : ls.getD k ⟨0, 0⟩ = t at e0 e1 dk dt
  have HLK := Lib.hid hLK
  clear hLK HTK
  generalize hUK : T.getD k 0 = u at ec dt
  have HUK := Lib.hid hUK
  clear hUK
  have wy : IntKind.i64.wrap y = y := IntWalk.i64_in _ (by omega)
  have wuy : IntKind.i64.wrap (u + y) = u + y := IntWalk.i64_in _ (by omega)
  obtain ⟨z, hz⟩ : ∃ z, z = if t.b < u + y then t.b else u + y := ⟨_, rfl⟩
  have hzb : u ≤ z ∧ z ≤ t.b := by rw [hz]; split <;> omega
  have hmm : (if t.b < u + y then t.b else u + y) = id z := hz.symm
  clear hz
  have k0 : (0 : Int) ≤ (k : Int) := by omega
  have k1 : (k : Int) < (T.length : Int) := by omega
  have k2 : (k : Int) < (ls.length : Int) := by omega
  have i5 : bl < w5.heap.size := by have := hb5.size; omega
  have s5 := hb5.size
  have sg : g < w5.heap.size := hg'
  go_wp2_with fail
  refine wp_region_mix [(0, true), (1, true), (2, true), (3, true), (4, true), (5, true), (6, true), (7, true), (8, true), (9, true), (10, true), (11, true), (12, true), (13, true), (14, true), (15, true)] [16, 17] (SB w.heap.size w w5.heap.size none _) (by kernel_rfl) (by kernel_rfl) (by kernel_rfl) (by kernel_rfl) (by decide) (SB.start hb5 (by omega)) (fun hS => ?_)
  simp only [planned, List.filterMap_cons, List.filterMap_nil, List.getElem?_cons_zero, List.getElem?_cons_succ, Option.map_some]
  repeat (first
    | (refine mix_skip (by rfl) ?_; try simp only [Act.put, List.setIfInBounds_toArray, List.set_cons_zero, List.set_cons_succ])
    | (refine mix_pass hS (by rfl) ?_; try simp only [Act.put, List.setIfInBounds_toArray, List.set_cons_zero, List.set_cons_succ])
    | (refine mix_pure (by rfl) (by rfl) (fun K hK => ?_); go_big_quiet_op; refine hK _ ?_; clear hK K)
    | (refine mix_take (by rfl) ?_
       apply Exists.intro
       refine ⟨?_, ?_⟩
       · intro w' hSw
         have hSc := hSw.cell
         clear hSw
         go_simp
         try with_reducible rfl
       try simp only [Act.put, List.setIfInBounds_toArray, List.set_cons_zero, List.set_cons_succ])
    | (refine mix_move (by rfl) (fun K hK => ?_)
       go_simp
       try dsimp only
       first
         | refine hK.out _ _ (hS.step hx (by omega)) ?_
         | refine hK.out _ _ hS ?_
         | refine hK.out _ _ (hS.alloc _ (by omega)) ?_
         | refine hK.out _ _ (hS.grown hg hx) ?_
       clear hK K hS
       intro hS
       try simp only [Act.put, List.setIfInBounds_toArray, List.set_cons_zero, List.set_cons_succ])
    | fail)
  refine mix_nil ?_
  simp only [tailed, List.filterMap_cons, List.filterMap_nil, List.getElem?_cons_zero, List.getElem?_cons_succ]
  go_wp2_with fail
  refine NoPanic.normal ?_
  obtain ⟨own6, _⟩ := own5.stored k (.int .i64 z)
  rw [ints_set] at own6
  have own6 := own6.drew
  have hx6 := (hx5.setCell (p := ⟨g, k, none⟩) hg (.int .i64 z)).drew
  generalize (w5.setCell ⟨g, k, none⟩ (.int .i64 z)).drew = w6 at own6 hx6 ⊢
  clear hmm wuy wy ec ef own5 hx5 hb5 s5 sg i5 e0 e1 hg' hS
  have hb6 := hb4.trans (hx6.mono hb4.size)
  have hbox := hbox4.ext hx6
  clear x0 x1 x2 sA
  obtain ⟨x0, x1, x2, sA⟩ := id hbox
  have n6 := num_ext n6 hx6
  have HU := Lib.hid (set_in (z := z) hkT HTI.out (by rw [HUK.out]; exact hzb.1) (by rw [HLK.out]; exact hzb.2))
  have HP := Lib.hid (fun i (hi : i ≤ T.length) => past_at (G := G) (H := highL ls) (z := z) hkT (by rw [HUK.out]; exact hzb.1) (by rw [highL_get, HLK.out]; exact hzb.2) (fun j hj => by rw [highL_get]; exact (HTI.out j (by rw [← HTL.out]; exact hj)).2) hi)
  have HUL := Lib.hid (show (T.set k z).length = T.length from List.length_set)
  generalize hU : T.set k z = U at own6 HU HP HUL
  clear hU
  obtain ⟨A7, c7, q7, n7, _, _⟩ := caps_of_own own6
  cases q7
  go_wp2_with fail
  refine (run_n _ _ _ _ _ _ _ _ _ _ G.length T.length ws ls rs G T _ rfl rfl (two_ext h1 hb6) (two_ext h2 hb6) (three_ext h3 hb6) (num_ext h4 hb6) n6 hl1 hl4).mono ?_
  cases hwb : worstB ws ls rs G
  · have HWB := Lib.hid hwb
    clear hwb
    unfold PairSays
    rw [show runR ws ls rs G T = [] by simp [runR, runB, HWB.out], show runE ws ls rs G T = 1 by simp [runE, runB, HWB.out]]
    rintro e w7 ⟨B1, d1, _, rfl, _, hx7⟩
    have hb7 := hb6.trans (hx7.mono hb6.size)
    have hbox := hbox.ext hx7
    clear x0 x1 x2 sA
    obtain ⟨x0, x1, x2, sA⟩ := id hbox
    go_wp2_with fail
    refine (run_n _ _ _ _ _ _ _ _ _ _ G.length T.length ws ls rs G U _ rfl HUL.out (two_ext h1 hb7) (two_ext h2 hb7) (three_ext h3 hb7) (num_ext h4 hb7) (by unfold Nums; rw [HUL.out]; exact Shows.more (n7.below hx7) hx7.size) hl1 hl4).mono ?_
    unfold PairSays
    rw [show runR ws ls rs G U = [] by simp [runR, runB, HWB.out], show runE ws ls rs G U = 1 by simp [runE, runB, HWB.out]]
    rintro e w8 ⟨B2, d2, _, rfl, _, hx8⟩
    have hb8 := hb7.trans (hx8.mono hb7.size)
    have hbox := hbox.ext hx8
    clear x0 x1 x2 sA
    obtain ⟨x0, x1, x2, sA⟩ := id hbox
    go_wp2_with fail
    refine (worst_any _ _ _ _ _ _ _ _ ws ls rs G _ (two_ext h1 hb8) (two_ext h2 hb8) (three_ext h3 hb8) (num_ext h4 hb8) hl1 hl4).mono ?_
    unfold PairSays
    rw [show worstL ws ls rs G = [] by simp [worstL, HWB.out], show worstE ws ls rs G = 1 by simp [worstE, HWB.out]]
    rintro e w9 ⟨B3, d3, _, rfl, _, hx9⟩
    have hb9 := hb8.trans (hx9.mono hb8.size)
    have hbox := hbox.ext hx9
    clear x0 x1 x2 sA
    obtain ⟨x0, x1, x2, sA⟩ := id hbox
    go_wp2_with fail
    go_ret
    exact ⟨rfl, hb9⟩
  have HWB := Lib.hid hwb
  clear hwb
  have HT := Lib.hid (fits_at (by have := HWB.out; simp only [worstB, Bool.and_eq_true] at this; exact this.2 : fitsB ws.length G = true))
  have hR1 := run_of HWB.out HTL.out HTI.out
  have hR2 := run_of HWB.out (HUL.out.trans HTL.out) HU.out
  have HW1 := Lib.hid (show worstL ws ls rs G = runL G (highL ls) ws.length by simp [worstL, HWB.out])
  have HW2 := Lib.hid (show worstE ws ls rs G = 0 by simp [worstE, HWB.out])
  have HR1 := Lib.hid (show runR ws ls rs G T = runL G T ws.length by simp [runR, hR1])
  have HE1 := Lib.hid (show runE ws ls rs G T = 0 by simp [runE, hR1])
  have HR2 := Lib.hid (show runR ws ls rs G U = runL G U ws.length by simp [runR, hR2])
  have HE2 := Lib.hid (show runE ws ls rs G U = 0 by simp [runE, hR2])
  clear hR1 hR2
  unfold PairSays
  rw [HR1.out, HE1.out]
  rintro e w7 ⟨B1, d1, _, rfl, m1, hx7⟩
  have hb7 := hb6.trans (hx7.mono hb6.size)
  have hbox := hbox.ext hx7
  clear x0 x1 x2 sA
  obtain ⟨x0, x1, x2, sA⟩ := id hbox
  go_wp2_with fail
  refine (run_n _ _ _ _ _ _ _ _ _ _ G.length T.length ws ls rs G U _ rfl HUL.out (two_ext h1 hb7) (two_ext h2 hb7) (three_ext h3 hb7) (num_ext h4 hb7) (by unfold Nums; rw [HUL.out]; exact Shows.more (n7.below hx7) hx7.size) hl1 hl4).mono ?_
  unfold PairSays
  rw [HR2.out, HE2.out]
  rintro e w8 ⟨B2, d2, _, rfl, m2, hx8⟩
  have hb8 := hb7.trans (hx8.mono hb7.size)
  have hbox := hbox.ext hx8
  clear x0 x1 x2 sA
  obtain ⟨x0, x1, x2, sA⟩ := id hbox
  go_wp2_with fail
  refine (worst_any _ _ _ _ _ _ _ _ ws ls rs G _ (two_ext h1 hb8) (two_ext h2 hb8) (three_ext h3 hb8) (num_ext h4 hb8) hl1 hl4).mono ?_
  unfold PairSays
  rw [HW1.out, HW2.out]
  rintro e w9 ⟨B3, d3, _, rfl, m3, hx9⟩
  have hb9 := hb8.trans (hx9.mono hb8.size)
  have hbox := hbox.ext hx9
  clear x0 x1 x2 sA
  obtain ⟨x0, x1, x2, sA⟩ := id hbox
  have m1 := num_ext (num_ext m1 hx8) hx9
  have m2 := num_ext m2 hx9
  have n6 := num_ext (num_ext (num_ext n6 hx7) hx8) hx9
  have m1 := show_run m1
  have m2 := show_run m2
  have m3 := show_run m3
  rw [runL_length, runL_length, runL_length]
  have HBD := Lib.hid (fun i (hi : i < ws.length) => t_bounds (G := G) (T := T) (n := ws.length) (fun k _ => HT.out.2 k) (took_bounds HF.out HTI.out) i hi)
  have HTB := Lib.hid (fun j => show 0 ≤ T.getD j 0 ∧ T.getD j 0 ≤ 1048576 by
    by_cases hj : j + 1 < ws.length
    · exact took_bounds HF.out HTI.out j hj
    · rw [getD_out 0 (by have := HTL.out; omega)]; omega)
  have hGl : G.length = ws.length := HT.out.1
  have HGL := Lib.hid hGl
  clear hGl
  have s9 := hb9.size
  have hnn : ((ws.length : Int) != (ws.length : Int)) = false := by simp
  go_wp2_with fail
  go_loopw [21] (fun i wr => ∃ q : Nat, q ≤ ws.length ∧ i = .int .i64 q ∧ Below w9.heap.size w9 wr) (fun i _ => ws.length - (intOf i).toNat)
  case atStart => exact ⟨0, Nat.zero_le _, rfl, Below.refl _ _⟩
  case round =>
    obtain ⟨q, hq, rfl, hbB⟩ := hrel
    have hbw := hb9.trans (hbB.mono hb9.size)
    have szB := hbB.size
    by_cases hlt : q < ws.length
    · obtain ⟨b1, o1, rfl, hb1', k1⟩ := show_at (k := q) (m1.below hbB) (runL_length _ _ _) hlt
      obtain ⟨b2, o2, rfl, hb2', k2⟩ := show_at (k := q) (m2.below hbB) (runL_length _ _ _) hlt
      obtain ⟨b3, o3, rfl, hb3', k3⟩ := show_at (k := q) (m3.below hbB) (runL_length _ _ _) hlt
      have hqG : q < G.length := by have := HGL.out; omega
      obtain ⟨b4, o4, rfl, hb4', k4⟩ := (h4.below hbw).at_ hqG
      rw [← getD1 hqG] at k4
      rw [runL_get _ _ hlt] at k1 k2 k3
      have pa := HP.out q (by have := HTL.out; omega)
      unfold PastAt at pa
      obtain ⟨p1, p2, p3, p4⟩ := pa
      have bq := HBD.out q hlt
      generalize hV1 : tAt G T q = av at k1 p1 p2 p4 bq
      have HV1 := Lib.hid hV1
      generalize tAt G U q = bv at k2 p1 p2 p3
      generalize tAt G (highL ls) q = cv at k3 p3
      generalize G.getD q 0 = gv at k4 p4
      have i0' : (0 : Int) ≤ q := by omega
      have i1' : (q : Int) < (ws.length : Int) := by omega
      have i2' : (q : Int) < (G.length : Int) := by have := HGL.out; omega
      have r1 : b1 < wr.heap.size := by omega
      have r2 : b2 < wr.heap.size := by omega
      have r3 : b3 < wr.heap.size := by omega
      have r4 : b4 < wr.heap.size := by have := hbw.size; omega
      have t3 : decide (cv < bv) = false := decide_eq_false (by omega)
      have t4 : decide (bv < av) = false := decide_eq_false (by omega)
      have t6 : decide (av < gv) = false := decide_eq_false (by omega)
      have hq82 : q ≤ 82 := by omega
      clear hV1
      by_cases hqk : q ≤ k
      · have t1 : decide ((q : Int) ≤ (k : Int)) = true := decide_eq_true (by omega)
        have t1' : decide (q ≤ k) = true := decide_eq_true (by omega)
        have hab : (av != bv) = false := by simp [p1 hqk]
        clear p1 p2 p3 p4
        go_wp2_with fail
        refine wp_region_mix [(0, true), (1, true), (2, true), (3, true), (4, true), (5, true), (6, true), (7, true), (8, true), (9, true), (10, true), (11, true), (12, true), (13, true), (14, true), (15, true), (16, true), (17, true), (18, true), (19, true), (20, true), (21, true), (22, true), (23, true), (24, true), (25, true), (26, true), (27, true), (28, true), (29, true), (30, true), (31, true), (32, true), (33, true), (34, true), (35, true)] [] (SB w9.heap.size w9 wr.heap.size none _) (by kernel_rfl) (by kernel_rfl) (by kernel_rfl) (by kernel_rfl) (by decide) (SB.start hbB (by omega)) (fun hS => ?_)
        simp only [planned, List.filterMap_cons, List.filterMap_nil, List.getElem?_cons_zero, List.getElem?_cons_succ, Option.map_some]
        repeat (first
          | (refine mix_skip (by rfl) ?_; try simp only [Act.put, List.setIfInBounds_toArray, List.set_cons_zero, List.set_cons_succ])
          | (refine mix_pass hS (by rfl) ?_; try simp only [Act.put, List.setIfInBounds_toArray, List.set_cons_zero, List.set_cons_succ])
          | (refine mix_pure (by rfl) (by rfl) (fun K hK => ?_); go_big_quiet_op; refine hK _ ?_; clear hK K)
          | (refine mix_take (by rfl) ?_
             apply Exists.intro
             refine ⟨?_, ?_⟩
             · intro w' hSw
               have hSc := hSw.cell
               clear hSw
               go_simp
               try with_reducible rfl
             try simp only [Act.put, List.setIfInBounds_toArray, List.set_cons_zero, List.set_cons_succ])
          | (refine mix_move (by rfl) (fun K hK => ?_)
             go_simp
             try dsimp only
             first
               | refine hK.out _ _ (hS.step hx (by omega)) ?_
               | refine hK.out _ _ hS ?_
               | refine hK.out _ _ (hS.alloc _ (by omega)) ?_
               | refine hK.out _ _ (hS.grown hg hx) ?_
             clear hK K hS
             intro hS
             try simp only [Act.put, List.setIfInBounds_toArray, List.set_cons_zero, List.set_cons_succ])
          | fail)
        refine mix_nil ?_
        simp only [tailed, List.filterMap_nil]
        go_wp2_with fail
        refine NoPanic.normal ?_
        have hb10 := hS.below
        have hszd : wr.drew.heap.size = wr.heap.size := rfl
        have hbz := hb9.trans (hb10.mono hb9.size)
        clear hS
        rcases Nat.eq_zero_or_pos q with hq0 | hq0
        · have t2 : decide (0 < q) = false := decide_eq_false (by omega)
          have t2' : decide ((0 : Int) < (q : Int)) = false := decide_eq_false (by omega)
          clear hq0
          go_wp2_with fail
          refine wp_region_mix [(0, true), (1, true), (2, true), (3, true), (4, true), (5, true), (6, true), (7, true), (8, true), (9, true), (10, true), (11, true), (12, true), (13, true), (14, true), (15, true), (16, true), (17, true), (18, true), (19, true), (20, true), (21, true), (22, true), (23, true), (24, true), (25, true), (26, true), (27, true), (28, true), (29, true), (30, true)] [] (SB w9.heap.size w9 wr.heap.size none _) (by kernel_rfl) (by kernel_rfl) (by kernel_rfl) (by kernel_rfl) (by decide) (SB.start hb10 (by omega)) (fun hS => ?_)
          simp only [planned, List.filterMap_cons, List.filterMap_nil, List.getElem?_cons_zero, List.getElem?_cons_succ, Option.map_some]
          repeat (first
            | (refine mix_skip (by rfl) ?_; try simp only [Act.put, List.setIfInBounds_toArray, List.set_cons_zero, List.set_cons_succ])
            | (refine mix_pass hS (by rfl) ?_; try simp only [Act.put, List.setIfInBounds_toArray, List.set_cons_zero, List.set_cons_succ])
            | (refine mix_pure (by rfl) (by rfl) (fun K hK => ?_); go_big_quiet_op; refine hK _ ?_; clear hK K)
            | (refine mix_take (by rfl) ?_
               apply Exists.intro
               refine ⟨?_, ?_⟩
               · intro w' hSw
                 have hSc := hSw.cell
                 clear hSw
                 go_simp
                 try with_reducible rfl
               try simp only [Act.put, List.setIfInBounds_toArray, List.set_cons_zero, List.set_cons_succ])
            | (refine mix_move (by rfl) (fun K hK => ?_)
               go_simp
               try dsimp only
               first
                 | refine hK.out _ _ (hS.step hx (by omega)) ?_
                 | refine hK.out _ _ hS ?_
                 | refine hK.out _ _ (hS.alloc _ (by omega)) ?_
                 | refine hK.out _ _ (hS.grown hg hx) ?_
               clear hK K hS
               intro hS
               try simp only [Act.put, List.setIfInBounds_toArray, List.set_cons_zero, List.set_cons_succ])
            | fail)
          refine mix_nil ?_
          simp only [tailed, List.filterMap_nil]
          go_wp2_with fail
          refine NoPanic.normal ?_
          have hb11 := hS.below
          go_wp2_with fail
          go_roundw
          case rel => exact ⟨q + 1, by omega, by go_num, hb11⟩
          case measure => simp [intOf]; omega
        · have t2 : decide (0 < q) = true := decide_eq_true (by omega)
          have t2' : decide ((0 : Int) < (q : Int)) = true := decide_eq_true (by omega)
          obtain ⟨j, hj⟩ : ∃ j, q = j + 1 := ⟨q - 1, by omega⟩
          have hwj : IntKind.i64.wrap ((q : Int) - 1) = (j : Int) := by rw [show (q : Int) - 1 = j from by omega]; exact IntWalk.i64_in _ (by omega)
          obtain ⟨_, _, v1, _, k1'⟩ := show_at (k := j) (m1.below hbB) (runL_length _ _ _) (by omega)
          cases v1
          rw [runL_get _ _ (by omega)] at k1'
          obtain ⟨b6, o6, rfl, hb6', k6⟩ := show_at (k := j) (n6.below hbB) rfl (by have := HTL.out; omega)
          have pr := t_ge_prev G T j
          rw [← hj] at pr
          rw [HV1.out] at pr
          have bj := HBD.out j (by omega)
          have btj := (HTB.out j)
          generalize tAt G T j = aj at k1' pr bj
          generalize T.getD j 0 = tj at k6 pr btj
          have hws : IntKind.i64.wrap (aj + tj) = aj + tj := IntWalk.i64_in _ (by omega)
          have t5 : decide (av < aj + tj) = false := decide_eq_false (by omega)
          have i6' : b6 < wr.heap.size := by omega
          have j0 : (0 : Int) ≤ j := by omega
          have j1 : (j : Int) < (ws.length : Int) := by omega
          have j2 : (j : Int) < (T.length : Int) := by have := HTL.out; omega
          have HJ := Lib.hid hj
          clear hj hq0 pr bj btj
          go_wp2_with fail
          refine wp_region_mix [(0, true), (1, true), (2, true), (3, true), (4, true), (5, true), (6, true), (7, true), (8, true), (9, true), (10, true), (11, true), (12, true), (13, true), (14, true), (15, true), (16, true), (17, true), (18, true), (19, true), (20, true), (21, true), (22, true), (23, true), (24, true), (25, true), (26, true), (27, true), (28, true), (29, true), (30, true)] [] (SB w9.heap.size w9 wr.heap.size none _) (by kernel_rfl) (by kernel_rfl) (by kernel_rfl) (by kernel_rfl) (by decide) (SB.start hb10 (by omega)) (fun hS => ?_)
          simp only [planned, List.filterMap_cons, List.filterMap_nil, List.getElem?_cons_zero, List.getElem?_cons_succ, Option.map_some]
          repeat (first
            | (refine mix_skip (by rfl) ?_; try simp only [Act.put, List.setIfInBounds_toArray, List.set_cons_zero, List.set_cons_succ])
            | (refine mix_pass hS (by rfl) ?_; try simp only [Act.put, List.setIfInBounds_toArray, List.set_cons_zero, List.set_cons_succ])
            | (refine mix_pure (by rfl) (by rfl) (fun K hK => ?_); go_big_quiet_op; refine hK _ ?_; clear hK K)
            | (refine mix_take (by rfl) ?_
               apply Exists.intro
               refine ⟨?_, ?_⟩
               · intro w' hSw
                 have hSc := hSw.cell
                 clear hSw
                 go_simp
                 try with_reducible rfl
               try simp only [Act.put, List.setIfInBounds_toArray, List.set_cons_zero, List.set_cons_succ])
            | (refine mix_move (by rfl) (fun K hK => ?_)
               go_simp
               try dsimp only
               first
                 | refine hK.out _ _ (hS.step hx (by omega)) ?_
                 | refine hK.out _ _ hS ?_
                 | refine hK.out _ _ (hS.alloc _ (by omega)) ?_
                 | refine hK.out _ _ (hS.grown hg hx) ?_
               clear hK K hS
               intro hS
               try simp only [Act.put, List.setIfInBounds_toArray, List.set_cons_zero, List.set_cons_succ])
            | fail)
          refine mix_nil ?_
          simp only [tailed, List.filterMap_nil]
          go_wp2_with fail
          refine NoPanic.normal ?_
          have hb11 := hS.below
          go_wp2_with fail
          go_roundw
          case rel => exact ⟨q + 1, by omega, by go_num, hb11⟩
          case measure => simp [intOf]; omega
      · have t1 : decide ((q : Int) ≤ (k : Int)) = false := decide_eq_false (by omega)
        have t1' : decide (q ≤ k) = false := decide_eq_false (by omega)
        clear p1 p2 p3 p4
        go_wp2_with fail
        refine wp_region_mix [(0, true), (1, true), (2, true), (3, true), (4, true), (5, true), (6, true), (7, true), (8, true), (9, true), (10, true), (11, true), (12, true), (13, true), (14, true), (15, true), (16, true), (17, true), (18, true), (19, true), (20, true), (21, true), (22, true), (23, true), (24, true), (25, true), (26, true), (27, true), (28, true), (29, true), (30, true), (31, true), (32, true), (33, true), (34, true), (35, true)] [] (SB w9.heap.size w9 wr.heap.size none _) (by kernel_rfl) (by kernel_rfl) (by kernel_rfl) (by kernel_rfl) (by decide) (SB.start hbB (by omega)) (fun hS => ?_)
        simp only [planned, List.filterMap_cons, List.filterMap_nil, List.getElem?_cons_zero, List.getElem?_cons_succ, Option.map_some]
        repeat (first
          | (refine mix_skip (by rfl) ?_; try simp only [Act.put, List.setIfInBounds_toArray, List.set_cons_zero, List.set_cons_succ])
          | (refine mix_pass hS (by rfl) ?_; try simp only [Act.put, List.setIfInBounds_toArray, List.set_cons_zero, List.set_cons_succ])
          | (refine mix_pure (by rfl) (by rfl) (fun K hK => ?_); go_big_quiet_op; refine hK _ ?_; clear hK K)
          | (refine mix_take (by rfl) ?_
             apply Exists.intro
             refine ⟨?_, ?_⟩
             · intro w' hSw
               have hSc := hSw.cell
               clear hSw
               go_simp
               try with_reducible rfl
             try simp only [Act.put, List.setIfInBounds_toArray, List.set_cons_zero, List.set_cons_succ])
          | (refine mix_move (by rfl) (fun K hK => ?_)
             go_simp
             try dsimp only
             first
               | refine hK.out _ _ (hS.step hx (by omega)) ?_
               | refine hK.out _ _ hS ?_
               | refine hK.out _ _ (hS.alloc _ (by omega)) ?_
               | refine hK.out _ _ (hS.grown hg hx) ?_
             clear hK K hS
             intro hS
             try simp only [Act.put, List.setIfInBounds_toArray, List.set_cons_zero, List.set_cons_succ])
          | fail)
        refine mix_nil ?_
        simp only [tailed, List.filterMap_nil]
        go_wp2_with fail
        refine NoPanic.normal ?_
        have hb10 := hS.below
        have hszd : wr.drew.heap.size = wr.heap.size := rfl
        have hbz := hb9.trans (hb10.mono hb9.size)
        clear hS
        rcases Nat.eq_zero_or_pos q with hq0 | hq0
        · have t2 : decide (0 < q) = false := decide_eq_false (by omega)
          have t2' : decide ((0 : Int) < (q : Int)) = false := decide_eq_false (by omega)
          clear hq0
          go_wp2_with fail
          refine wp_region_mix [(0, true), (1, true), (2, true), (3, true), (4, true), (5, true), (6, true), (7, true), (8, true), (9, true), (10, true), (11, true), (12, true), (13, true), (14, true), (15, true), (16, true), (17, true), (18, true), (19, true), (20, true), (21, true), (22, true), (23, true), (24, true), (25, true), (26, true), (27, true), (28, true), (29, true), (30, true)] [] (SB w9.heap.size w9 wr.heap.size none _) (by kernel_rfl) (by kernel_rfl) (by kernel_rfl) (by kernel_rfl) (by decide) (SB.start hb10 (by omega)) (fun hS => ?_)
          simp only [planned, List.filterMap_cons, List.filterMap_nil, List.getElem?_cons_zero, List.getElem?_cons_succ, Option.map_some]
          repeat (first
            | (refine mix_skip (by rfl) ?_; try simp only [Act.put, List.setIfInBounds_toArray, List.set_cons_zero, List.set_cons_succ])
            | (refine mix_pass hS (by rfl) ?_; try simp only [Act.put, List.setIfInBounds_toArray, List.set_cons_zero, List.set_cons_succ])
            | (refine mix_pure (by rfl) (by rfl) (fun K hK => ?_); go_big_quiet_op; refine hK _ ?_; clear hK K)
            | (refine mix_take (by rfl) ?_
               apply Exists.intro
               refine ⟨?_, ?_⟩
               · intro w' hSw
                 have hSc := hSw.cell
                 clear hSw
                 go_simp
                 try with_reducible rfl
               try simp only [Act.put, List.setIfInBounds_toArray, List.set_cons_zero, List.set_cons_succ])
            | (refine mix_move (by rfl) (fun K hK => ?_)
               go_simp
               try dsimp only
               first
                 | refine hK.out _ _ (hS.step hx (by omega)) ?_
                 | refine hK.out _ _ hS ?_
                 | refine hK.out _ _ (hS.alloc _ (by omega)) ?_
                 | refine hK.out _ _ (hS.grown hg hx) ?_
               clear hK K hS
               intro hS
               try simp only [Act.put, List.setIfInBounds_toArray, List.set_cons_zero, List.set_cons_succ])
            | fail)
          refine mix_nil ?_
          simp only [tailed, List.filterMap_nil]
          go_wp2_with fail
          refine NoPanic.normal ?_
          have hb11 := hS.below
          go_wp2_with fail
          go_roundw
          case rel => exact ⟨q + 1, by omega, by go_num, hb11⟩
          case measure => simp [intOf]; omega
        · have t2 : decide (0 < q) = true := decide_eq_true (by omega)
          have t2' : decide ((0 : Int) < (q : Int)) = true := decide_eq_true (by omega)
          obtain ⟨j, hj⟩ : ∃ j, q = j + 1 := ⟨q - 1, by omega⟩
          have hwj : IntKind.i64.wrap ((q : Int) - 1) = (j : Int) := by rw [show (q : Int) - 1 = j from by omega]; exact IntWalk.i64_in _ (by omega)
          obtain ⟨_, _, v1, _, k1'⟩ := show_at (k := j) (m1.below hbB) (runL_length _ _ _) (by omega)
          cases v1
          rw [runL_get _ _ (by omega)] at k1'
          obtain ⟨b6, o6, rfl, hb6', k6⟩ := show_at (k := j) (n6.below hbB) rfl (by have := HTL.out; omega)
          have pr := t_ge_prev G T j
          rw [← hj] at pr
          rw [HV1.out] at pr
          have bj := HBD.out j (by omega)
          have btj := (HTB.out j)
          generalize tAt G T j = aj at k1' pr bj
          generalize T.getD j 0 = tj at k6 pr btj
          have hws : IntKind.i64.wrap (aj + tj) = aj + tj := IntWalk.i64_in _ (by omega)
          have t5 : decide (av < aj + tj) = false := decide_eq_false (by omega)
          have i6' : b6 < wr.heap.size := by omega
          have j0 : (0 : Int) ≤ j := by omega
          have j1 : (j : Int) < (ws.length : Int) := by omega
          have j2 : (j : Int) < (T.length : Int) := by have := HTL.out; omega
          have HJ := Lib.hid hj
          clear hj hq0 pr bj btj
          go_wp2_with fail
          refine wp_region_mix [(0, true), (1, true), (2, true), (3, true), (4, true), (5, true), (6, true), (7, true), (8, true), (9, true), (10, true), (11, true), (12, true), (13, true), (14, true), (15, true), (16, true), (17, true), (18, true), (19, true), (20, true), (21, true), (22, true), (23, true), (24, true), (25, true), (26, true), (27, true), (28, true), (29, true), (30, true)] [] (SB w9.heap.size w9 wr.heap.size none _) (by kernel_rfl) (by kernel_rfl) (by kernel_rfl) (by kernel_rfl) (by decide) (SB.start hb10 (by omega)) (fun hS => ?_)
          simp only [planned, List.filterMap_cons, List.filterMap_nil, List.getElem?_cons_zero, List.getElem?_cons_succ, Option.map_some]
          repeat (first
            | (refine mix_skip (by rfl) ?_; try simp only [Act.put, List.setIfInBounds_toArray, List.set_cons_zero, List.set_cons_succ])
            | (refine mix_pass hS (by rfl) ?_; try simp only [Act.put, List.setIfInBounds_toArray, List.set_cons_zero, List.set_cons_succ])
            | (refine mix_pure (by rfl) (by rfl) (fun K hK => ?_); go_big_quiet_op; refine hK _ ?_; clear hK K)
            | (refine mix_take (by rfl) ?_
               apply Exists.intro
               refine ⟨?_, ?_⟩
               · intro w' hSw
                 have hSc := hSw.cell
                 clear hSw
                 go_simp
                 try with_reducible rfl
               try simp only [Act.put, List.setIfInBounds_toArray, List.set_cons_zero, List.set_cons_succ])
            | (refine mix_move (by rfl) (fun K hK => ?_)
               go_simp
               try dsimp only
               first
                 | refine hK.out _ _ (hS.step hx (by omega)) ?_
                 | refine hK.out _ _ hS ?_
                 | refine hK.out _ _ (hS.alloc _ (by omega)) ?_
                 | refine hK.out _ _ (hS.grown hg hx) ?_
               clear hK K hS
               intro hS
               try simp only [Act.put, List.setIfInBounds_toArray, List.set_cons_zero, List.set_cons_succ])
            | fail)
          refine mix_nil ?_
          simp only [tailed, List.filterMap_nil]
          go_wp2_with fail
          refine NoPanic.normal ?_
          have hb11 := hS.below
          go_wp2_with fail
          go_roundw
          case rel => exact ⟨q + 1, by omega, by go_num, hb11⟩
          case measure => simp [intOf]; omega
    · go_wp2_with fail
      go_ret
      exact ⟨rfl, hbw⟩

theorem reactPast_contract (H : Type) (enc : TypeId × Value → H) (W : World) (base : Nat) (args : Array Value) (ds gs : List (DataW H)) (before : List MemPlace)
    (hval : ∀ (j : Nat) t v, Try.f6.params[j]? = some t → args[j]? = some v → Value.okWide Try.prog W .any base t v)
    (hW : DataW.Whole enc Try.prog Try.f6.params.toList Rows.reactPastSpec.vars false W args.toList ds gs before) :
    Calls Try.prog 6 args W fun e W' => ∃ v, e = .returned v ∧ Rows.reactPastSpec.post enc Try.prog Try.f6 false true false false W args v W' := by
  have hW' := hW
  obtain ⟨p, q, hA0, hV, rfl, hfz, hnd⟩ := hW
  have hA : DataW.TrodAll enc Try.prog W 0 (fun _ => true) true Try.f6.params.toList args.toList ds p := hA0
  have hlt := hA.lt
  rw [Try.params6] at hA hval
  obtain ⟨v0, vs0, d0, ds0, p0, q0, hargs0, rfl, rfl, h0, rr0⟩ := trodAll_cons hA
  obtain ⟨v1, vs1, d1, ds1, p1, q1, rfl, rfl, rfl, h1, rr1⟩ := trodAll_cons rr0
  obtain ⟨v2, vs2, d2, ds2, p2, q2, rfl, rfl, rfl, h2, rr2⟩ := trodAll_cons rr1
  obtain ⟨v3, vs3, d3, ds3, p3, q3, rfl, rfl, rfl, h3, rr3⟩ := trodAll_cons rr2
  obtain ⟨v4, vs4, d4, ds4, p4, q4, rfl, rfl, rfl, h4, rr4⟩ := trodAll_cons rr3
  obtain ⟨rfl, rfl, rfl⟩ := trodAll_nil rr4
  obtain rfl : args = #[v0, v1, v2, v3, v4] := by cases args; simp_all
  obtain ⟨rfl, rfl⟩ := trodVars_none hV
  obtain ⟨x0a, x0b, x0c, y0a, y0b, y0c, n0, rfl, rfl, rfl, g0a, g0b, g0c⟩ := open_agg3 Try.underlying26 (by kernel_rfl) (by kernel_rfl) (hval 0 26 v0 rfl rfl) h0
  obtain ⟨A1, nn0a, c1, rfl⟩ := slice_form Try.underlying22 g0a
  obtain ⟨ws, rfl, t0a, b0a, m0a⟩ := open_two (B := W.heap.size) Try.underlying22 Try.underlying47 rfl rfl Try.underlying3 (by kernel_rfl) rfl rfl (by kernel_rfl) (fun y (hy : y ∈ y0a.2) => hlt y (by simp [hy])) g0a
  unfold maxLen at m0a
  obtain ⟨A2, nn0b, c2, rfl⟩ := slice_form Try.underlying23 g0b
  obtain ⟨ls, rfl, t0b, b0b, m0b⟩ := open_two (B := W.heap.size) Try.underlying23 Try.underlying44 rfl rfl Try.underlying3 (by kernel_rfl) rfl rfl (by kernel_rfl) (fun y (hy : y ∈ y0b.2) => hlt y (by simp [hy])) g0b
  unfold maxLen at m0b
  obtain ⟨A3, nn0c, c3, rfl⟩ := slice_form Try.underlying24 g0c
  obtain ⟨rs, rfl, t0c, b0c, m0c⟩ := open_three (B := W.heap.size) Try.underlying24 Try.underlying49 rfl rfl rfl Try.underlying3 (by kernel_rfl) rfl rfl rfl (by kernel_rfl) (fun y (hy : y ∈ y0c.2) => hlt y (by simp [hy])) g0c
  unfold maxLen at m0c
  obtain ⟨A4, nn1, c4, rfl⟩ := okWide_slice Try.underlying27 (hval 1 27 v1 rfl rfl)
  obtain ⟨fu1, ff1⟩ := h1
  obtain ⟨G, rfl, t1, b1, m1, z1⟩ := open_nums (B := W.heap.size) Try.underlying27 Try.underlying3 (by kernel_rfl) (fun y (hy : y ∈ p1) => hlt y (by simp [hy])) ff1
  unfold maxLen at m1
  obtain ⟨A5, nn2, c5, rfl⟩ := okWide_slice Try.underlying38 (hval 2 38 v2 rfl rfl)
  obtain ⟨fu2, ff2⟩ := h2
  obtain ⟨ns, rfl, t2, b2, m2, z2⟩ := open_nums (B := W.heap.size) Try.underlying38 Try.underlying42 (by kernel_rfl) (fun y (hy : y ∈ p2) => hlt y (by simp [hy])) ff2
  unfold maxLen at m2
  obtain ⟨p, rfl, rfl, rfl, hwf3⟩ := open_int Try.underlying5 (hval 3 5 v3 rfl rfl) h3
  have r3 : 0 ≤ p ∧ p ≤ 255 := by simpa [Lit.wf, IntKind.min, IntKind.max, IntKind.signed, IntKind.bits] using hwf3
  obtain ⟨y, rfl, rfl, rfl, hwf4⟩ := open_int Try.underlying42 (hval 4 42 v4 rfl rfl) h4
  have r4 : 0 ≤ y ∧ y ≤ 65535 := by simpa [Lit.wf, IntKind.min, IntKind.max, IntKind.signed, IntKind.bits] using hwf4
  refine (past_any A1 A2 A3 A4 A5 c1 c2 c3 c4 c5 ws ls rs G ns p y W t0a t0b t0c t1 t2 (by omega) (by omega) (by omega) (fun z hz => by simpa [Lit.wf, IntKind.min, IntKind.max, IntKind.signed, IntKind.bits] using z2 z hz) r3 r4).mono fun e W' ⟨he, hb⟩ => ?_
  subst he
  exact ⟨_, rfl, law_post laidOut Try.underlying4 rfl (by kernel_rfl) rfl hW' rfl hb⟩
set_option maxRecDepth 100000 in
theorem reactPast_lifted (os : Os) (started : os.Started) (H : Type) (enc : TypeId × Value → H) :
    ReturnsInHanded {} Try.checked os 6 .any (Rows.reactPastSpec.pre6 enc Try.prog Try.f6 Rows.reactPastRow.domain false) (Rows.reactPastSpec.post enc Try.prog Try.f6 false true false false) := by
  refine returnsInHanded_of_change (C := Try.checked) own started (by kernel_rfl) Try.func6
    (ChangeSpec.witness6 (enc := enc) (C := Try.checked) false ⟨#[], #[.agg #[.slice none 0 0, .slice none 0 0, .slice none 0 0], .slice none 0 0, .slice none 0 0, .int .u8 0, .int .u16 0], []⟩ 8 (by kernel_rfl) (by kernel_rfl) (by kernel_rfl) (by kernel_rfl)) ?_
  intro W base args ds gs before hval hW _ _
  exact reactPast_contract H enc W base args ds gs before hval hW
theorem reactPast_holds : Rows.ReactPastSaid :=
  OpenClaim.holds_of_wide 6 Try.f6 rfl rfl rfl rfl rfl rfl rfl ⟨rfl, rfl, rfl, rfl, rfl⟩ rfl rfl rfl rfl rfl (by kernel_rfl) Try.func6 (by kernel_rfl)
    (of_decide_eq_true (by kernel_rfl)) (by unfold Func.isWrapper; first | (rw [if_pos (by decide +kernel)]; kernel_rfl) | (rw [if_neg (by decide +kernel)]; exact ⟨rfl, rfl⟩))
    (fun os started H enc _ => reactPast_lifted os started H enc)
end Go.Proofs.Yteahkgoedibimaa
