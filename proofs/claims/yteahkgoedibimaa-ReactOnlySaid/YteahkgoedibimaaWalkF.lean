/-
  The walks of the reference's play and Worst. Conditions: none.
-/
import Derived.Test.YteahkgoedibimaaWalkE
namespace Go.Proofs.Yteahkgoedibimaa
open Go.RowKit

def nowAt (G T : List Int) : Nat → Int
  | 0 => 0
  | k + 1 => tAt G T k
set_option maxHeartbeats 2000000 in
theorem rplay_any (A1 A2 A3 A4 A5 : Option Addr) (c1 c2 c3 c4 c5 : Nat) (ws ls : List P2) (rs : List P3) (G T : List Int) (w : World) (h4 : Nums w w.heap.size A4 G) (h5 : Nums w w.heap.size A5 T)
    (hn : ws.length ≤ 82) (hG : G.length = ws.length) (hT : T.length + 1 = ws.length) (gG : ∀ k, k < ws.length → 0 ≤ G.getD k 0 ∧ G.getD k 0 ≤ 2097152) (gT : ∀ k, k + 1 < ws.length → 0 ≤ T.getD k 0 ∧ T.getD k 0 ≤ 1048576) :
    Calls Try.prog 28 #[.agg #[.slice A1 ws.length c1, .slice A2 ls.length c2, .slice A3 rs.length c3], .slice A4 G.length c4, .slice A5 T.length c5] w (RowSays (runL G T ws.length) w) := by
  have HG := Lib.hid hG
  have HT := Lib.hid hT
  have HB := Lib.hid (fun k (hk : k < ws.length) => t_bounds gG gT k hk)
  have GG := Lib.hid gG
  have GT := Lib.hid gT
  clear hG hT gG gT
  go_enter Try.func28, Try.ntmps28
  go_wp2_with fail
  have hbA := lit_below w (.cells #[.slice A1 ws.length c1, .slice A2 ls.length c2, .slice A3 rs.length c3] 26)
  have hbox := BoxC.new w (.slice A1 ws.length c1) (.slice A2 ls.length c2) (.slice A3 rs.length c3) 26
  generalize w.alloc (.cells #[.slice A1 ws.length c1, .slice A2 ls.length c2, .slice A3 rs.length c3] 26) = wA at hbA hbox ⊢
  obtain ⟨x0, x1, x2, sA⟩ := hbox
  obtain ⟨i0, hi, hz0, hz1, hz2⟩ := info_parts info3
  go_loopw [7, 8, 9] (fun v n i wr => ∃ k : Nat, k ≤ ws.length ∧ i = .int .i64 k ∧ n = .int .i64 (nowAt G T k) ∧ wr.ownsRow wA.heap.size 3 1 v k (ints (runL G T k)) ∧ Below wA.heap.size wA wr) (fun _ _ i _ => ws.length - (intOf i).toNat)
  case atStart => exact ⟨0, Nat.zero_le _, rfl, rfl, World.ownsRow_nil _ _ _ _, Below.refl _ _⟩
  case round =>
    obtain ⟨k, hk, rfl, rfl, own1, hbB⟩ := hrel
    generalize u7 = v at own1 ⊢
    have hbw := hbA.trans (hbB.mono hbA.size)
    have x0 := ((bcell hbB).1 _ _ sA).trans x0
    by_cases hlt : k < ws.length
    · obtain ⟨b, o, rfl, hb, e0⟩ := (h4.below hbw).at_ (k := k) (by have := HG.out; omega)
      have i0' : (0 : Int) ≤ k := by omega
      have i1' : (k : Int) < (G.length : Int) := by have := HG.out; omega
      have hN := runL_succ G T k
      have HN := Lib.hid hN
      clear hN
      have hgk := getD1 (l := G) (k := k) (by have := HG.out; omega)
      rw [← hgk] at e0
      clear hgk
      have b1 := GG.out k hlt
      have b2 := HB.out k hlt
      rcases Nat.eq_zero_or_pos k with hk0 | hk0
      · have t0 : decide (0 < k) = false := decide_eq_false (by omega)
        have hq : nowAt G T k = 0 := by rw [hk0]; rfl
        have hm : (if (0 : Int) < G.getD k 0 then G.getD k 0 else 0) = tAt G T k := by rw [hk0]; rfl
        rw [hq]
        clear hq
        have HK0 := Lib.hid hk0
        clear hk0 b1 b2
        generalize G.getD k 0 = g at e0 hm
        have hsz' := hbB.size
        go_wp2_with (first | (at_builtin; refine push_own rfl _ _ 27 rfl wA.heap.size 3 i0 (.int .i64 0) 1 8 Try.underlying27 hi hz0 hz1 hz2 rfl (by decide) _ _ _ _ rfl own1 1 1 [.int .i64 (tAt G T k)] rfl rfl (by simp [Value.oneCell']) hsz' (by omega) (by omega) ?_; intro v1' wa own1' hba hga))
        go_roundw
        case rel => exact ⟨k + 1, by omega, by go_num, rfl, by rw [← HN.out]; exact own1', hbB.trans hba⟩
        case measure => simp [intOf]; omega
      · obtain ⟨j, hj⟩ : ∃ j, k = j + 1 := ⟨k - 1, by omega⟩
        obtain ⟨b', o', rfl, hb', f0⟩ := (h5.below hbw).at_ (k := j) (by have := HT.out; omega)
        have hyk := getD1 (l := T) (k := j) (by have := HT.out; omega)
        rw [← hyk] at f0
        clear hyk
        have t0 : decide (0 < k) = true := decide_eq_true (by omega)
        have hm : (if (tAt G T j + T.getD j 0) < G.getD k 0 then G.getD k 0 else (tAt G T j + T.getD j 0)) = tAt G T k := by rw [hj]; rfl
        have b3 := HB.out j (by omega)
        have b4 := GT.out j (by omega)
        have hwj : IntKind.i64.wrap ((k : Int) - 1) = (j : Int) := by rw [show (k : Int) - 1 = j from by omega]; exact IntWalk.i64_in _ (by omega)
        have hws : IntKind.i64.wrap (tAt G T j + T.getD j 0) = tAt G T j + T.getD j 0 := IntWalk.i64_in _ (by omega)
        have i2' : (0 : Int) ≤ j := by omega
        have i3' : (j : Int) < (T.length : Int) := by have := HT.out; omega
        have hq : nowAt G T k = tAt G T j := by rw [hj]; rfl
        rw [hq]
        have HJ := Lib.hid hj
        clear hq b1 b2 b3 b4 hj
        generalize G.getD k 0 = g at e0 hm
        generalize T.getD j 0 = y at f0 hm hws
        generalize tAt G T j = q at hm hws ⊢
        have hsz' := hbB.size
        go_wp2_with (first | (at_builtin; refine push_own rfl _ _ 27 rfl wA.heap.size 3 i0 (.int .i64 0) 1 8 Try.underlying27 hi hz0 hz1 hz2 rfl (by decide) _ _ _ _ rfl own1 1 1 [.int .i64 (tAt G T k)] rfl rfl (by simp [Value.oneCell']) hsz' (by omega) (by omega) ?_; intro v1' wa own1' hba hga))
        go_roundw
        case rel => exact ⟨k + 1, by omega, by go_num, rfl, by rw [← HN.out]; exact own1', hbB.trans hba⟩
        case measure => simp [intOf]; omega
    · go_wp2_with fail
      go_ret
      obtain rfl : k = ws.length := by omega
      refine ⟨_, rfl, ?_, hbw⟩
      rw [runL_length]
      exact own_mono own1 (by omega)

def worstB (ws ls : List P2) (rs : List P3) (G : List Int) : Bool := rightC ws ls rs && fitsB ws.length G
def worstL (ws ls : List P2) (rs : List P3) (G : List Int) : List Int := if worstB ws ls rs G then runL G (highL ls) ws.length else []
def worstE (ws ls : List P2) (rs : List P3) (G : List Int) : Int := if worstB ws ls rs G then 0 else 1
/-- A list and an error are handed back. -/
def PairSays (l : List Int) (E : Int) (w : World) (e : Ending) (w' : World) : Prop :=
  ∃ A c, (l.length ≤ c ∧ c ≤ maxLen) ∧ e = .returned (.tuple #[.slice A l.length c, .int .i64 E]) ∧ Nums w' w'.heap.size A l ∧ Below w.heap.size w w'
theorem pair_bad {l : List Int} {E E' : Int} {w w' : World} (hl : l = []) (hE : E = E') (hb : Below w.heap.size w w') : PairSays l E w (.returned (.tuple #[.slice none 0 0, .int .i64 E'])) w' := by
  subst hl hE
  exact ⟨none, 0, ⟨Nat.le_refl _, Nat.zero_le _⟩, rfl, Shows.empty _ _ _ _, hb⟩
theorem pair_good {l r : List Int} {E E' : Int} {w w' : World} {base n : Nat} {v : Value} (hl : l = r) (hE : E = E') (own : w'.ownsRow base 3 1 v n (ints r)) (hb : Below w.heap.size w w') : PairSays l E w (.returned (.tuple #[v, .int .i64 E'])) w' := by
  subst hl hE
  have hn : l.length = n := by have := own.1; rw [ints_length] at this; omega
  subst hn
  obtain ⟨A, c, rfl, sh, k1, k2⟩ := caps_of_own own
  exact ⟨A, c, ⟨k1, k2⟩, rfl, sh, hb⟩
theorem worst_bad {ws ls : List P2} {rs : List P3} {G : List Int} (h : worstB ws ls rs G = false) {w w' : World} (hb : Below w.heap.size w w') : PairSays (worstL ws ls rs G) (worstE ws ls rs G) w (.returned (.tuple #[.slice none 0 0, .int .i64 1])) w' :=
  pair_bad (by simp [worstL, h]) (by simp [worstE, h]) hb
theorem worst_good {ws ls : List P2} {rs : List P3} {G : List Int} (h : worstB ws ls rs G = true) {w w' : World} {base n : Nat} {v : Value} (own : w'.ownsRow base 3 1 v n (ints (runL G (highL ls) ws.length))) (hb : Below w.heap.size w w') :
    PairSays (worstL ws ls rs G) (worstE ws ls rs G) w (.returned (.tuple #[v, .int .i64 0])) w' :=
  pair_good (by simp [worstL, h]) (by simp [worstE, h]) own hb

set_option maxHeartbeats 1000000 in
theorem rworst_any (A1 A2 A3 A4 : Option Addr) (c1 c2 c3 c4 : Nat) (ws ls : List P2) (rs : List P3) (G : List Int) (w : World) (h1 : Two w w.heap.size A1 ws) (h2 : Two w w.heap.size A2 ls) (h3 : Three w w.heap.size A3 rs) (h4 : Nums w w.heap.size A4 G)
    (hl1 : ws.length ≤ 9223372036854775807) (hl4 : G.length ≤ 9223372036854775807) :
    Calls Try.prog 15 #[.agg #[.slice A1 ws.length c1, .slice A2 ls.length c2, .slice A3 rs.length c3], .slice A4 G.length c4] w (PairSays (worstL ws ls rs G) (worstE ws ls rs G) w) := by
  go_enter Try.func15, Try.ntmps15
  go_wp2_with fail
  have hbA := lit_below w (.cells #[.slice A1 ws.length c1, .slice A2 ls.length c2, .slice A3 rs.length c3] 26)
  have hbox := BoxC.new w (.slice A1 ws.length c1) (.slice A2 ls.length c2) (.slice A3 rs.length c3) 26
  generalize w.alloc (.cells #[.slice A1 ws.length c1, .slice A2 ls.length c2, .slice A3 rs.length c3] 26) = wA at hbA hbox ⊢
  obtain ⟨x0, x1, x2, sA⟩ := hbox
  refine (rright_any _ _ _ _ _ _ ws ls rs _ (two_ext h1 hbA) (two_ext h2 hbA) (three_ext h3 hbA) hl1).mono ?_
  rintro e w1 ⟨rfl, hx1⟩
  have hb1 := hbA.trans (hx1.mono hbA.size)
  obtain ⟨x0, x1, x2, sA⟩ := BoxC.ext ⟨x0, x1, x2, sA⟩ hx1
  cases hr : rightC ws ls rs
  · have HR := Lib.hid hr
    clear hr
    go_wp2_with fail
    go_ret2
    exact worst_bad (by simp [worstB, HR.out]) hb1
  have HR := Lib.hid hr
  clear hr
  go_wp2_with fail
  refine (rfits_any _ _ _ _ _ _ _ _ ws ls rs G _ (num_ext h4 hb1) hl4).mono ?_
  rintro e w2 ⟨rfl, hx2⟩
  have hb2 := hb1.trans (hx2.mono hb1.size)
  obtain ⟨x0, x1, x2, sA⟩ := BoxC.ext ⟨x0, x1, x2, sA⟩ hx2
  cases hr : fitsB ws.length G
  · have HS := Lib.hid hr
    clear hr
    go_wp2_with fail
    go_ret2
    exact worst_bad (by simp [worstB, HS.out]) hb2
  have HS := Lib.hid hr
  clear hr
  have hok : worstB ws ls rs G = true := by simp [worstB, HR.out, HS.out]
  have HOK := Lib.hid hok
  clear hok
  have HF := Lib.hid (fine_right HR.out)
  have HT := Lib.hid (fits_at HS.out)
  have sB := hb2.size
  have hl82 : ws.length ≤ 82 := HF.out.1.2.1
  have hll : ls.length ≤ 1000000000 := by have := HF.out.1; omega
  go_wp2_with fail
  refine wp_region_mix [(0, true), (1, true), (2, true), (3, false), (4, false)] [5, 6] (SB w.heap.size w w2.heap.size none _) (by kernel_rfl) (by kernel_rfl) (by kernel_rfl) (by kernel_rfl) (by decide) (SB.start hb2 (by omega)) (fun hS => ?_)
  simp only [planned, List.filterMap_cons, List.filterMap_nil, List.getElem?_cons_zero, List.getElem?_cons_succ, Option.map_some]
  repeat (first
    | (refine mix_skip (by rfl) ?_; try simp only [Act.put, List.setIfInBounds_toArray, List.set_cons_zero, List.set_cons_succ])
    | (refine mix_pass hS (by rfl) ?_; try simp only [Act.put, List.setIfInBounds_toArray, List.set_cons_zero, List.set_cons_succ])
    | (refine mix_pure (by rfl) (by rfl) (fun K hK => ?_); go_big_quiet_op; refine hK _ ?_; clear hK K)
    | (refine mix_take (by rfl) ?_
       apply Exists.intro
       refine ⟨?_, ?_⟩
       · intro w' hSw
         have hSc := hSw.cell
         clear hSw
         go_simp
         try with_reducible rfl
       try simp only [Act.put, List.setIfInBounds_toArray, List.set_cons_zero, List.set_cons_succ])
    | (refine mix_move (by rfl) (fun K hK => ?_)
       first
         | (go_simp; go_at_call 28; refine (rplay_any _ _ _ _ _ _ _ _ _ _ ws ls rs G (highL ls) _ (num_ext h4 hS.below) sh6 hl82 HT.out.1 (by rw [highL_length]; exact HF.out.1.2.2.1) (fun k _ => HT.out.2 k) (fun k _ => highL_bounds HF.out k)).mono ?_; rintro e w7 ⟨v7, rfl, own7, hx⟩)
         | (go_simp; go_at_call 29; refine (highs_any _ _ _ _ _ _ ws ls rs _ (two_ext h2 hS.below) hll).mono ?_; rintro e w6 ⟨v6, rfl, own6, hx⟩; obtain ⟨A6, c6, rfl, sh6, _, _⟩ := caps_of_own own6)
         | go_simp
       try dsimp only
       first
         | refine hK.out _ _ (hS.step hx (by omega)) ?_
         | refine hK.out _ _ hS ?_
         | refine hK.out _ _ (hS.alloc _ (by omega)) ?_
         | refine hK.out _ _ (hS.grown hg hx) ?_
       clear hK K hS
       intro hS
       try simp only [Act.put, List.setIfInBounds_toArray, List.set_cons_zero, List.set_cons_succ])
    | fail)
  refine mix_nil ?_
  simp only [tailed, List.filterMap_cons, List.filterMap_nil, List.getElem?_cons_zero, List.getElem?_cons_succ]
  go_wp2_with fail
  refine NoPanic.normal ?_
  have hb9 := hS.below
  go_wp2_with fail
  go_ret2
  exact worst_good HOK.out own7 hb9
end Go.Proofs.Yteahkgoedibimaa
