/-
  The walks of react's fits, play and Worst. Conditions: none.
-/
import Derived.Test.YteahkgoedibimaaWalkF
namespace Go.Proofs.Yteahkgoedibimaa
open Go.RowKit

set_option maxHeartbeats 400000 in
theorem bad_guard (x : Int) (w : World) :
    Calls Try.prog 42 #[.int .i64 x] w fun e w' => e = .returned (.bool (!okG x)) ∧ Below w.heap.size w w' := by
  by_cases h1 : x < 0
  all_goals by_cases h2 : 2097152 < x
  all_goals try (exfalso; omega)
  all_goals
    (try have h1' := decide_eq_false h1)
    (try have h2' := decide_eq_false h2)
    go_enter Try.func42, Try.ntmps42
    go_wp2
    go_ret
    exact ⟨by simp [okG, inB]; omega, Below.refl _ _⟩
def SaysG (l : List Int) (r : Int) : Prop := (decide (0 ≤ r)) = l.any (fun x => !okG x)
set_option maxHeartbeats 400000 in
theorem index_guard (A : Option Addr) (c : Nat) (l : List Int) (w : World) (h : Nums w w.heap.size A l) (hl : l.length ≤ 9223372036854775807) :
    Calls Try.prog 47 #[.slice A l.length c, .func (.func 42) #[] #[]] w fun e w' => ∃ r, SaysG l r ∧ e = .returned (.int .i64 r) ∧ Below w.heap.size w w' := by
  go_enter Try.func47, Try.ntmps47
  go_wp2
  go_loopw [8] (fun i wr => ∃ k : Nat, k ≤ l.length ∧ i = .int .i64 k ∧ (∀ j, (hj : j < l.length) → j < k → okG l[j] = true) ∧ Below w.heap.size w wr) (fun i _ => l.length - (intOf i).toNat)
  case atStart => exact ⟨0, Nat.zero_le _, rfl, fun j _ h => absurd h (by omega), Below.refl _ _⟩
  case round =>
    obtain ⟨k, hk, rfl, hall, hbw⟩ := hrel
    have HA := Lib.hid hall
    clear hall
    by_cases hlt : k < l.length
    · obtain ⟨b, o, rfl, hb, e0⟩ := (h.below hbw).at_ hlt
      go_wp2_with fail
      refine (bad_guard _ _).mono ?_
      rintro e w1 ⟨rfl, hx⟩
      cases hbad : okG l[k]
      · have HB := Lib.hid hbad
        clear hbad
        go_wp2_with fail
        go_ret
        refine ⟨_, ?_, rfl, hbw.trans (hx.mono hbw.size)⟩
        show decide (0 ≤ (k : Int)) = _
        have : l.any (fun x => !okG x) = true := List.any_eq_true.2 ⟨l[k], List.getElem_mem _, by rw [HB.out]; rfl⟩
        rw [this]; simp
      · have HB := Lib.hid hbad
        clear hbad
        go_wp2_with fail
        go_roundw
        case rel =>
          refine ⟨k + 1, by omega, by go_num, fun j hj hjk => ?_, hbw.trans (hx.mono hbw.size)⟩
          by_cases e : j = k
          · subst e; exact HB.out
          · exact HA.out j hj (by omega)
        case measure => simp [intOf]; omega
    · go_wp2_with fail
      go_ret
      refine ⟨_, ?_, rfl, hbw⟩
      have : l.any (fun x => !okG x) = false := not_anyG (fun j hj => HA.out j hj (by omega))
      show decide (0 ≤ (-1 : Int)) = _
      rw [this]; rfl
set_option maxHeartbeats 400000 in
theorem contains_guard (A : Option Addr) (c : Nat) (l : List Int) (w : World) (h : Nums w w.heap.size A l) (hl : l.length ≤ 9223372036854775807) :
    Calls Try.prog 43 #[.slice A l.length c, .func (.func 42) #[] #[]] w fun e w' => e = .returned (.bool (l.any (fun x => !okG x))) ∧ Below w.heap.size w w' := by
  go_enter Try.func43, Try.ntmps43
  go_wp2_with fail
  refine (index_guard _ _ _ _ h hl).mono ?_
  rintro e w1 ⟨r, hr, rfl, hx⟩
  have HR : decide (0 ≤ r) = l.any (fun x => !okG x) := hr
  have H := Lib.hid HR
  clear HR hr
  go_wp2_with fail
  go_ret
  exact ⟨ret_bool H.out, hx⟩
def fitsC (ws ls : List P2) (rs : List P3) (G : List Int) : Bool := worstB ws ls rs G
set_option maxHeartbeats 1000000 in
theorem fits_any (A1 A2 A3 A4 : Option Addr) (c1 c2 c3 c4 : Nat) (ws ls : List P2) (rs : List P3) (G : List Int) (w : World) (h1 : Two w w.heap.size A1 ws) (h2 : Two w w.heap.size A2 ls) (h3 : Three w w.heap.size A3 rs) (h4 : Nums w w.heap.size A4 G)
    (hl1 : ws.length ≤ 9223372036854775807) (hl4 : G.length ≤ 9223372036854775807) :
    Calls Try.prog 30 #[.agg #[.slice A1 ws.length c1, .slice A2 ls.length c2, .slice A3 rs.length c3], .slice A4 G.length c4] w fun e w' => e = .returned (.bool (worstB ws ls rs G)) ∧ Below w.heap.size w w' := by
  go_enter Try.func30, Try.ntmps30
  go_wp2_with fail
  have hbA := lit_below w (.cells #[.slice A1 ws.length c1, .slice A2 ls.length c2, .slice A3 rs.length c3] 26)
  have hbox := BoxC.new w (.slice A1 ws.length c1) (.slice A2 ls.length c2) (.slice A3 rs.length c3) 26
  generalize w.alloc (.cells #[.slice A1 ws.length c1, .slice A2 ls.length c2, .slice A3 rs.length c3] 26) = wA at hbA hbox ⊢
  obtain ⟨x0, x1, x2, sA⟩ := hbox
  refine (right_any _ _ _ _ _ _ ws ls rs _ (two_ext h1 hbA) (two_ext h2 hbA) (three_ext h3 hbA) hl1).mono ?_
  rintro e w1 ⟨rfl, hx1⟩
  have hb1 := hbA.trans (hx1.mono hbA.size)
  obtain ⟨x0, x1, x2, sA⟩ := BoxC.ext ⟨x0, x1, x2, sA⟩ hx1
  cases hr : rightC ws ls rs
  · have HR := Lib.hid hr
    clear hr
    go_wp2_with fail
    go_ret
    exact ⟨ret_bool (by simp [worstB, HR.out]), hb1⟩
  have HR := Lib.hid hr
  clear hr
  by_cases hn : G.length = ws.length
  rotate_left
  · have hnb : ((G.length : Int) == (ws.length : Int)) = false := by simp; omega
    go_wp2_with fail
    go_ret
    exact ⟨ret_bool (by simp [worstB, fitsB, hn]), hb1⟩
  have HN := Lib.hid hn
  have hnb : ((G.length : Int) == (ws.length : Int)) = true := by simp; omega
  clear hn
  go_wp2_with fail
  refine (contains_guard _ _ G _ (num_ext h4 hb1) hl4).mono ?_
  rintro e w2 ⟨rfl, hx2⟩
  have hb2 := hb1.trans (hx2.mono hb1.size)
  go_wp2_with fail
  go_ret
  exact ⟨ret_bool (by simp [worstB, fitsB, HR.out, HN.out]), hb2⟩
set_option maxHeartbeats 2000000 in
theorem play_any (A4 A5 : Option Addr) (c4 c5 n : Nat) (G T : List Int) (w : World) (h4 : Nums w w.heap.size A4 G) (h5 : Nums w w.heap.size A5 T)
    (hn : n ≤ 82) (hG : G.length = n) (hT : T.length + 1 = n) (gG : ∀ k, k < n → 0 ≤ G.getD k 0 ∧ G.getD k 0 ≤ 2097152) (gT : ∀ k, k + 1 < n → 0 ≤ T.getD k 0 ∧ T.getD k 0 ≤ 1048576) :
    Calls Try.prog 31 #[.slice A4 G.length c4, .slice A5 T.length c5] w (RowSays (runL G T n) w) := by
  have HG := Lib.hid hG
  have HT := Lib.hid hT
  have HB := Lib.hid (fun k (hk : k < n) => t_bounds gG gT k hk)
  have GG := Lib.hid gG
  have GT := Lib.hid gT
  clear hG hT gG gT
  obtain ⟨i0, hi, hz0, hz1, hz2⟩ := info_parts info3
  go_enter Try.func31, Try.ntmps31
  obtain ⟨b, o, rfl, hb, e0⟩ := h4.at_ (k := 0) (by have := HG.out; have := HT.out; omega)
  have i0' : (0 : Int) < (G.length : Int) := by have := HG.out; have := HT.out; omega
  have hgk := getD1 (l := G) (k := 0) (by have := HG.out; have := HT.out; omega)
  rw [← hgk] at e0
  clear hgk
  have e0' : w.cell? ⟨b, o, none⟩ = some (.int .i64 (G.getD 0 0)) := e0
  have hm0 : (if (0 : Int) < G.getD 0 0 then G.getD 0 0 else 0) = tAt G T 0 := rfl
  generalize hg0 : G.getD 0 0 = g at e0 e0' hm0
  clear hg0
  go_wp2_with fail
  clear e0 e0' hm0
  have own0 := World.ownsRow_lit (base := w.heap.size) (e := 3) (size := 1) w #[.int .i64 (tAt G T 0)] 1 (Nat.le_refl _) (by unfold maxLen; omega) rfl
  have hbA := lit_below w (.cells #[.int .i64 (tAt G T 0)] 3)
  go_loopw [5, 15] (fun v i wr => ∃ k : Nat, k ≤ T.length ∧ i = .int .i64 k ∧ wr.ownsRow w.heap.size 3 1 v (k + 1) (ints (runL G T (k + 1))) ∧ Below w.heap.size w wr) (fun _ i _ => T.length - (intOf i).toNat)
  case atStart => exact ⟨0, Nat.zero_le _, rfl, own0, hbA⟩
  case round =>
    obtain ⟨k, hk, rfl, own1, hbw⟩ := hrel
    generalize u5 = v at own1 ⊢
    by_cases hlt : k < T.length
    · obtain ⟨b', o', rfl, hb', f0⟩ := (h5.below hbw).at_ hlt
      have hyk := getD1 (l := T) (k := k) hlt
      rw [← hyk] at f0
      clear hyk
      have hG1 : k + 1 < G.length := by have := HG.out; have := HT.out; omega
      have gq := (h4.below hbw).at_ hG1
      have hgk := getD1 hG1
      obtain ⟨b4, o4, q4, _, g9⟩ := gq
      cases q4
      rw [← hgk] at g9
      have g0 := g9
      clear g9
      clear hgk
      obtain ⟨gb, cap, rfl, hg1, hg2, hg3⟩ := own_form own1 (by omega)
      have t0 := own1.cellAt k (by omega)
      rw [ints_getD (by rw [runL_length]; omega), runL_get G T (by omega)] at t0
      have hN := runL_succ G T (k + 1)
      have HN := Lib.hid hN
      clear hN
      have hm : (if tAt G T k + T.getD k 0 < G.getD (k + 1) 0 then G.getD (k + 1) 0 else tAt G T k + T.getD k 0) = tAt G T (k + 1) := rfl
      have b1 := HB.out k (by have := HT.out; omega)
      have b2 := GT.out k (by have := HT.out; omega)
      have hk81 : k ≤ 81 := by have := HT.out; omega
      have hws : IntKind.i64.wrap (tAt G T k + T.getD k 0) = tAt G T k + T.getD k 0 := IntWalk.i64_in _ (by omega)
      have wk : IntKind.i64.wrap ((k : Int) + 1) = (k : Int) + 1 := IntWalk.i64_in _ (by omega)
      have i1' : (0 : Int) ≤ k := by omega
      have i2' : (k : Int) < ((k + 1 : Nat) : Int) := by omega
      have i3' : (0 : Int) ≤ (k : Int) + 1 := by omega
      have i4' : (k : Int) + 1 < (G.length : Int) := by have := HG.out; have := HT.out; omega
      have hsz := hbw.size
      have i5' : b < wr.heap.size := by omega
      have i6' : b' < wr.heap.size := by omega
      have i7' : b ≠ gb := by omega
      have i8' : k < k + 1 := by omega
      clear b1 b2
      generalize G.getD (k + 1) 0 = g at g0 hm
      generalize T.getD k 0 = y at f0 hm hws
      generalize tAt G T k = q at t0 hm hws
      go_wp2_with fail
      refine wp_region_mix [(0, true), (1, true), (2, true), (3, true), (4, true), (5, true), (6, true), (7, true), (8, true), (9, true), (10, true), (11, true), (12, true), (13, false), (14, false)] [15] (SG w.heap.size w wr.heap.size gb ((k + 1) * 1) _) (by kernel_rfl) (by kernel_rfl) (by kernel_rfl) (by kernel_rfl) (by decide) (SG.start hbw (by omega) (by omega)) (fun hS => ?_)
      simp only [planned, List.filterMap_cons, List.filterMap_nil, List.getElem?_cons_zero, List.getElem?_cons_succ, Option.map_some]
      repeat (first
        | (refine mix_skip (by rfl) ?_; try simp only [Act.put, List.setIfInBounds_toArray, List.set_cons_zero, List.set_cons_succ])
        | (refine mix_pass hS (by rfl) ?_; try simp only [Act.put, List.setIfInBounds_toArray, List.set_cons_zero, List.set_cons_succ])
        | (refine mix_pure (by rfl) (by rfl) (fun K hK => ?_); go_big_quiet_op; refine hK _ ?_; clear hK K)
        | (refine mix_take (by rfl) ?_
           apply Exists.intro
           refine ⟨?_, ?_⟩
           · intro w' hSw
             have hSc := hSw.cell
             have hSk := hSw.kept
             clear hSw
             go_simp
             try with_reducible rfl
           try simp only [Act.put, List.setIfInBounds_toArray, List.set_cons_zero, List.set_cons_succ])
        | (refine mix_move (by rfl) (fun K hK => ?_)
           first
             | (refine wp_push3 _ _ 27 rfl w.heap.size 3 i0 (.int .i64 0) 1 8 Try.underlying27 hi hz0 hz1 hz2 rfl (by decide) _ gb (k + 1) cap _ rfl own1.drew 1 1 [.int .i64 (tAt G T (k + 1))] rfl rfl (by simp [Value.oneCell']) hsz (by omega) (by omega) ?_; intro v' w2 hown2 hx hg)
             | go_simp
           try dsimp only
           first
             | refine hK.out _ _ (hS.step hx (by omega)) ?_
             | refine hK.out _ _ hS ?_
             | refine hK.out _ _ (hS.alloc _ (by omega)) ?_
             | refine hK.out _ _ (hS.grown hg hx) ?_
           clear hK K hS
           intro hS
           try simp only [Act.put, List.setIfInBounds_toArray, List.set_cons_zero, List.set_cons_succ])
        | fail)
      refine mix_nil ?_
      simp only [tailed, List.filterMap_cons, List.filterMap_nil, List.getElem?_cons_zero, List.getElem?_cons_succ]
      go_wp2_with fail
      refine NoPanic.normal ?_
      have hb9 := hS.below
      clear hm
      go_wp2_with fail
      go_roundw
      case rel => exact ⟨k + 1, by omega, by go_num, by rw [← HN.out]; exact hown2, hb9⟩
      case measure => simp [intOf]; omega
    · go_wp2_with fail
      go_ret
      have hkn : k + 1 = n := by have := HT.out; omega
      rw [hkn] at own1
      refine ⟨_, rfl, ?_, hbw⟩
      rw [runL_length]
      exact own1
end Go.Proofs.Yteahkgoedibimaa
