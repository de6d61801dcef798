/-
  The walk of the reference's Guard. Conditions: none.
-/
import Derived.Test.YteahkgoedibimaaWalkJ
namespace Go.Proofs.Yteahkgoedibimaa
open Go.RowKit

theorem high_at2 (A1 A2 A3 : Option Addr) (c1 c2 c3 : Nat) (ws ls : List P2) (rs : List P3) (a b : Int) (w : World) (h2 : Two w w.heap.size A2 ls) (hF : FineC ws ls rs) (h0 : 0 ≤ a) (hab : a ≤ b) (hb : b < ws.length) :
    Calls Try.prog 26 #[.agg #[.slice A1 ws.length c1, .slice A2 ls.length c2, .slice A3 rs.length c3], .int .i64 a, .int .i64 b] w fun e w' => e = .returned (.int .i64 (Sm ls b.toNat - Sm ls a.toNat)) ∧ Below w.heap.size w w' := by
  obtain ⟨n, rfl⟩ := Int.eq_ofNat_of_zero_le h0
  exact high_at A1 A2 A3 c1 c2 c3 ws ls rs n b w h2 hF hab hb
def lateW (ws ls : List P2) (rs : List P3) (k : Nat) : Bool := decide ((ws.getD k ⟨0, 0⟩).b < tAt (GL ws ls rs) (highL ls) k)
def guardB (ws ls : List P2) (rs : List P3) : Bool := rightC ws ls rs && keptR ls rs && (List.range ws.length).all (fun k => !lateW ws ls rs k)
def guardR (ws ls : List P2) (rs : List P3) : List Int := if guardB ws ls rs then GL ws ls rs else []
def guardE (ws ls : List P2) (rs : List P3) : Int := if rightC ws ls rs then (if guardB ws ls rs then 0 else 20) else 1
theorem guard_bad {ws ls : List P2} {rs : List P3} (h : rightC ws ls rs = false) {w w' : World} (hb : Below w.heap.size w w') : PairSays (guardR ws ls rs) (guardE ws ls rs) w (.returned (.tuple #[.slice none 0 0, .int .i64 1])) w' :=
  pair_bad (by simp [guardR, guardB, h]) (by simp [guardE, h]) hb
theorem guard_late {ws ls : List P2} {rs : List P3} (h : rightC ws ls rs = true) (h2 : guardB ws ls rs = false) {w w' : World} (hb : Below w.heap.size w w') : PairSays (guardR ws ls rs) (guardE ws ls rs) w (.returned (.tuple #[.slice none 0 0, .int .i64 20])) w' :=
  pair_bad (by simp [guardR, h2]) (by simp [guardE, h, h2]) hb
theorem guard_good {ws ls : List P2} {rs : List P3} (h : guardB ws ls rs = true) {w w' : World} {base n : Nat} {v : Value} (own : w'.ownsRow base 3 1 v n (ints (GL ws ls rs))) (hb : Below w.heap.size w w') :
    PairSays (guardR ws ls rs) (guardE ws ls rs) w (.returned (.tuple #[v, .int .i64 0])) w' := by
  have hr : rightC ws ls rs = true := by
    simp only [guardB, Bool.and_eq_true] at h
    exact h.1.1
  exact pair_good (by simp [guardR, h]) (by simp [guardE, h, hr]) own hb
theorem guard_not {ws ls : List P2} {rs : List P3} {k : Nat} (hk : k < ws.length) (h : lateW ws ls rs k = true) : guardB ws ls rs = false := by
  simp only [guardB, Bool.and_eq_false_iff]
  right
  rw [List.all_eq_false]
  exact ⟨k, by simpa using hk, by simp [h]⟩
theorem guard_all {ws ls : List P2} {rs : List P3} (hr : rightC ws ls rs = true) (hk : keptR ls rs = true) (h : ∀ k, k < ws.length → lateW ws ls rs k = false) : guardB ws ls rs = true := by
  have : (List.range ws.length).all (fun k => !lateW ws ls rs k) = true := by
    rw [List.all_eq_true]
    intro k hk'
    simp [h k (by simpa using hk')]
  simp [guardB, hr, hk, this]
theorem GL_length (ws ls : List P2) (rs : List P3) : (GL ws ls rs).length = ws.length := gRow_length _ _ _ _
theorem GL_bounds {ws ls : List P2} {rs : List P3} (h : FineC ws ls rs) (hk : keptR ls rs = true) (m : Nat) : 0 ≤ (GL ws ls rs).getD m 0 ∧ (GL ws ls rs).getD m 0 ≤ 1048576 :=
  gRow_bounds h _ (Nat.le_refl _) (fun _ hq _ => kept_at hk hq) m
set_option maxHeartbeats 4000000 in
set_option maxRecDepth 100000 in
theorem rguard_any (A1 A2 A3 : Option Addr) (c1 c2 c3 : Nat) (ws ls : List P2) (rs : List P3) (w : World) (h1 : Two w w.heap.size A1 ws) (h2 : Two w w.heap.size A2 ls) (h3 : Three w w.heap.size A3 rs) (hl1 : ws.length ≤ 9223372036854775807) :
    Calls Try.prog 11 #[.agg #[.slice A1 ws.length c1, .slice A2 ls.length c2, .slice A3 rs.length c3]] w (PairSays (guardR ws ls rs) (guardE ws ls rs) w) := by
  go_enter Try.func11, Try.ntmps11
  go_wp2_with fail
  have hbA := lit_below w (.cells #[.slice A1 ws.length c1, .slice A2 ls.length c2, .slice A3 rs.length c3] 26)
  have hbox := BoxC.new w (.slice A1 ws.length c1) (.slice A2 ls.length c2) (.slice A3 rs.length c3) 26
  generalize w.alloc (.cells #[.slice A1 ws.length c1, .slice A2 ls.length c2, .slice A3 rs.length c3] 26) = wA at hbA hbox ⊢
  obtain ⟨x0, x1, x2, sA⟩ := hbox
  refine (rright_any _ _ _ _ _ _ ws ls rs _ (two_ext h1 hbA) (two_ext h2 hbA) (three_ext h3 hbA) hl1).mono ?_
  rintro e w1 ⟨rfl, hx1⟩
  have hb1 := hbA.trans (hx1.mono hbA.size)
  obtain ⟨x0, x1, x2, sA⟩ := BoxC.ext ⟨x0, x1, x2, sA⟩ hx1
  cases hr : rightC ws ls rs
  · have HR := Lib.hid hr
    clear hr
    go_wp2_with fail
    go_ret2
    exact guard_bad HR.out hb1
  have HR := Lib.hid hr
  have HF := Lib.hid (fine_right hr)
  clear hr hx1
  have hn82 : ws.length ≤ 82 := HF.out.1.2.1
  have hr200 : rs.length ≤ 200 := HF.out.1.2.2.2
  have s1 := hb1.size
  go_wp2_with fail
  go_loopw [4] (fun i wr => ∃ k : Nat, k ≤ rs.length ∧ i = .int .i64 k ∧ (∀ j, j < k → Sm ls (rs.getD j ⟨0, 0, 0⟩).b.toNat - Sm ls (rs.getD j ⟨0, 0, 0⟩).a.toNat ≤ (rs.getD j ⟨0, 0, 0⟩).c) ∧ Below w1.heap.size w1 wr) (fun i _ => rs.length - (intOf i).toNat)
  case atStart => exact ⟨0, Nat.zero_le _, rfl, fun j h => absurd h (by omega), Below.refl _ _⟩
  case round =>
    obtain ⟨k, hk, rfl, hall, hbB⟩ := hrel
    have HA := Lib.hid hall
    clear hall
    have hbw := hb1.trans (hbB.mono hb1.size)
    obtain ⟨y0, y1, y2, sB⟩ := BoxC.ext ⟨x0, x1, x2, sA⟩ hbB
    have hsz := hbB.size
    by_cases hlt : k < rs.length
    · obtain ⟨b3, o3, rfl, hb3', e0, e1, e2⟩ := (h3.below hbw).at_ hlt
      rw [← getD3 hlt] at e0 e1 e2
      have hr := HF.out.2.2.2 k hlt
      have HNK := Lib.hid (not_kept (ls := ls) hlt)
      have HT := Lib.hid (show rs.getD k ⟨0, 0, 0⟩ = rs.getD k ⟨0, 0, 0⟩ from rfl)
      generalize hT : rs.getD k ⟨0, 0, 0⟩ = t at e0 e1 e2 hr HNK
      have HT := Lib.hid hT
      clear hT
      have i0' : (0 : Int) ≤ k := by omega
      have i1' : (k : Int) < (rs.length : Int) := by omega
      have i2' : b3 < wr.heap.size := by omega
      have wk : IntKind.i64.wrap ((k : Int) + 1) = (k : Int) + 1 := IntWalk.i64_in _ (by omega)
      by_cases hbad : t.c < Sm ls t.b.toNat - Sm ls t.a.toNat
      · go_wp2_with fail
        refine wp_region_mix [(0, true), (1, true), (2, true), (3, true), (4, true), (5, true), (6, true), (7, true), (8, true), (9, true), (10, true), (11, true), (12, true), (14, true), (15, true), (16, true), (17, true), (18, true), (19, true), (13, false), (20, true)] [] (SB w.heap.size w wr.heap.size none _) (by kernel_rfl) (by kernel_rfl) (by kernel_rfl) (by kernel_rfl) (by decide) (SB.start hbw (by omega)) (fun hS => ?_)
        simp only [planned, List.filterMap_cons, List.filterMap_nil, List.getElem?_cons_zero, List.getElem?_cons_succ, Option.map_some]
        repeat (first
          | (refine mix_skip (by rfl) ?_; try simp only [Act.put, List.setIfInBounds_toArray, List.set_cons_zero, List.set_cons_succ])
          | (refine mix_pass hS (by rfl) ?_; try simp only [Act.put, List.setIfInBounds_toArray, List.set_cons_zero, List.set_cons_succ])
          | (refine mix_pure (by rfl) (by rfl) (fun K hK => ?_); go_big_quiet_op; refine hK _ ?_; clear hK K)
          | (refine mix_take (by rfl) ?_
             apply Exists.intro
             refine ⟨?_, ?_⟩
             · intro w' hSw
               have hSc := hSw.cell
               clear hSw
               go_simp
               try with_reducible rfl
             try simp only [Act.put, List.setIfInBounds_toArray, List.set_cons_zero, List.set_cons_succ])
          | (refine mix_move (by rfl) (fun K hK => ?_)
             first
               | (go_simp; go_at_call 26; refine (high_at2 _ _ _ _ _ _ ws ls rs t.a t.b _ (two_ext h2 hS.below) HF.out hr.1 (by omega) hr.2.2.1).mono ?_; rintro e w6 ⟨rfl, hx⟩)
               | go_simp
             try dsimp only
             first
               | refine hK.out _ _ (hS.step hx (by omega)) ?_
               | refine hK.out _ _ hS ?_
               | refine hK.out _ _ (hS.alloc _ (by omega)) ?_
               | refine hK.out _ _ (hS.grown hg hx) ?_
             clear hK K hS
             intro hS
             try simp only [Act.put, List.setIfInBounds_toArray, List.set_cons_zero, List.set_cons_succ])
          | fail)
        refine mix_nil ?_
        simp only [tailed, List.filterMap_nil]
        go_wp2_with fail
        refine NoPanic.normal ?_
        have hb9 := hS.below
        go_wp2_with fail
        go_ret2
        exact guard_late HR.out (by simp [guardB, HNK.out hbad]) hb9
      · have hbad' := decide_eq_false hbad
        have HBD := Lib.hid hbad
        clear hbad
        go_wp2_with fail
        refine wp_region_mix [(0, true), (1, true), (2, true), (3, true), (4, true), (5, true), (6, true), (7, true), (8, true), (9, true), (10, true), (11, true), (12, true), (14, true), (15, true), (16, true), (17, true), (18, true), (19, true), (13, false), (20, true)] [] (SB w1.heap.size w1 wr.heap.size none _) (by kernel_rfl) (by kernel_rfl) (by kernel_rfl) (by kernel_rfl) (by decide) (SB.start hbB (by omega)) (fun hS => ?_)
        simp only [planned, List.filterMap_cons, List.filterMap_nil, List.getElem?_cons_zero, List.getElem?_cons_succ, Option.map_some]
        repeat (first
          | (refine mix_skip (by rfl) ?_; try simp only [Act.put, List.setIfInBounds_toArray, List.set_cons_zero, List.set_cons_succ])
          | (refine mix_pass hS (by rfl) ?_; try simp only [Act.put, List.setIfInBounds_toArray, List.set_cons_zero, List.set_cons_succ])
          | (refine mix_pure (by rfl) (by rfl) (fun K hK => ?_); go_big_quiet_op; refine hK _ ?_; clear hK K)
          | (refine mix_take (by rfl) ?_
             apply Exists.intro
             refine ⟨?_, ?_⟩
             · intro w' hSw
               have hSc := hSw.cell
               clear hSw
               go_simp
               try with_reducible rfl
             try simp only [Act.put, List.setIfInBounds_toArray, List.set_cons_zero, List.set_cons_succ])
          | (refine mix_move (by rfl) (fun K hK => ?_)
             first
               | (go_simp; go_at_call 26; refine (high_at2 _ _ _ _ _ _ ws ls rs t.a t.b _ (two_ext h2 (hb1.trans (hS.below.mono hb1.size))) HF.out hr.1 (by omega) hr.2.2.1).mono ?_; rintro e w6 ⟨rfl, hx⟩)
               | go_simp
             try dsimp only
             first
               | refine hK.out _ _ (hS.step hx (by omega)) ?_
               | refine hK.out _ _ hS ?_
               | refine hK.out _ _ (hS.alloc _ (by omega)) ?_
               | refine hK.out _ _ (hS.grown hg hx) ?_
             clear hK K hS
             intro hS
             try simp only [Act.put, List.setIfInBounds_toArray, List.set_cons_zero, List.set_cons_succ])
          | fail)
        refine mix_nil ?_
        simp only [tailed, List.filterMap_nil]
        go_wp2_with fail
        refine NoPanic.normal ?_
        have hb9 := hS.below
        go_wp2_with fail
        go_roundw
        case rel =>
          refine ⟨k + 1, by omega, by go_num, fun j hj => ?_, hb9⟩
          by_cases e : j = k
          · subst e; rw [HT.out]; have := HBD.out; omega
          · exact HA.out j (by omega)
        case measure => simp [intOf]; omega
    · have HK := Lib.hid (kept_of (ls := ls) (rs := rs) (fun j hj => HA.out j (by omega)))
      go_wp2_with fail
      clear x0 x1 x2 sA
      refine (rguards_any _ _ _ _ _ _ ws ls rs _ (two_ext h1 hbw) (two_ext h2 hbw) (three_ext h3 hbw) HF.out HK.out).mono ?_
      rintro e w5 ⟨v5, rfl, own5, hx5⟩
      have hb5 := hbw.trans (hx5.mono hbw.size)
      obtain ⟨y0, y1, y2, sB⟩ := BoxC.ext ⟨y0, y1, y2, sB⟩ hx5
      obtain ⟨A5, c5, rfl, sh5, _, _⟩ := caps_of_own own5
      have HGB := Lib.hid (GL_bounds HF.out HK.out)
      have HGL := Lib.hid (GL_length ws ls rs)
      have hll : ls.length ≤ 1000000000 := by have := HF.out.1; omega
      have s5 := hb5.size
      have HLW := Lib.hid (fun k => show lateW ws ls rs k = decide ((ws.getD k ⟨0, 0⟩).b < tAt (GL ws ls rs) (highL ls) k) from rfl)
      generalize hG : GL ws ls rs = G at own5 sh5 HGB HGL HLW ⊢
      have HGE := Lib.hid hG
      clear hG
      go_wp2_with fail
      refine wp_region_mix [(0, true), (1, true), (2, true), (3, false), (4, false)] [5] (SB w.heap.size w w5.heap.size none _) (by kernel_rfl) (by kernel_rfl) (by kernel_rfl) (by kernel_rfl) (by decide) (SB.start hb5 (by omega)) (fun hS => ?_)
      simp only [planned, List.filterMap_cons, List.filterMap_nil, List.getElem?_cons_zero, List.getElem?_cons_succ, Option.map_some]
      repeat (first
        | (refine mix_skip (by rfl) ?_; try simp only [Act.put, List.setIfInBounds_toArray, List.set_cons_zero, List.set_cons_succ])
        | (refine mix_pass hS (by rfl) ?_; try simp only [Act.put, List.setIfInBounds_toArray, List.set_cons_zero, List.set_cons_succ])
        | (refine mix_pure (by rfl) (by rfl) (fun K hK => ?_); go_big_quiet_op; refine hK _ ?_; clear hK K)
        | (refine mix_take (by rfl) ?_
           apply Exists.intro
           refine ⟨?_, ?_⟩
           · intro w' hSw
             have hSc := hSw.cell
             clear hSw
             go_simp
             try with_reducible rfl
           try simp only [Act.put, List.setIfInBounds_toArray, List.set_cons_zero, List.set_cons_succ])
        | (refine mix_move (by rfl) (fun K hK => ?_)
           first
             | (go_simp; go_at_call 28; refine (rplay_any _ _ _ _ _ _ _ _ _ _ ws ls rs G (highL ls) _ (num_ext sh5 hx6') sh6 hn82 HGL.out (by rw [highL_length]; exact HF.out.1.2.2.1) (fun k _ => by have := HGB.out k; omega) (fun k _ => highL_bounds HF.out k)).mono ?_; rintro e w7 ⟨v7, rfl, own7, hx⟩)
             | (go_simp; go_at_call 29; refine (highs_any _ _ _ _ _ _ ws ls rs _ (two_ext h2 hS.below) hll).mono ?_; rintro e w6 ⟨v6, rfl, own6, hx⟩; obtain ⟨A6, c6, rfl, sh6, _, _⟩ := caps_of_own own6; have hx6' : Below w5.heap.size w5 w6 := (Below.refl _ w5).drew.trans hx)
             | go_simp
           try dsimp only
           first
             | refine hK.out _ _ (hS.step hx (by omega)) ?_
             | refine hK.out _ _ hS ?_
             | refine hK.out _ _ (hS.alloc _ (by omega)) ?_
             | refine hK.out _ _ (hS.grown hg hx) ?_
           clear hK K hS
           intro hS
           try simp only [Act.put, List.setIfInBounds_toArray, List.set_cons_zero, List.set_cons_succ])
        | fail)
      refine mix_nil ?_
      simp only [tailed, List.filterMap_cons, List.filterMap_nil, List.getElem?_cons_zero, List.getElem?_cons_succ]
      go_wp2_with fail
      refine NoPanic.normal ?_
      have hb9 := hS.below
      have own7' := own_below own5 (hx6'.trans (hx.mono hx6'.size))
      obtain ⟨A7, c7, rfl, sh7, _, _⟩ := caps_of_own own7
      have HR7 := Lib.hid (fun k (hk : k < ws.length) => runL_get G (highL ls) hk)
      have HL7 := Lib.hid (runL_length G (highL ls) ws.length)
      generalize runL G (highL ls) ws.length = R at sh7 HR7 HL7 ⊢
      clear own5 own7 hx5 sh5 sh6 own6
      obtain ⟨y0, y1, y2, sB⟩ := BoxC.ext ⟨y0, y1, y2, sB⟩ (hx6'.trans (hx.mono hx6'.size))
      have s7 := hb9.size
      go_wp2_with fail
      go_loopw [7] (fun i wr => ∃ k : Nat, k ≤ R.length ∧ i = .int .i64 k ∧ (∀ j, j < k → lateW ws ls rs j = false) ∧ Below w7.heap.size w7 wr) (fun i _ => R.length - (intOf i).toNat)
      case atStart => exact ⟨0, Nat.zero_le _, rfl, fun j h => absurd h (by omega), Below.refl _ _⟩
      case round =>
        obtain ⟨m, hm, rfl, hall, hbC⟩ := hrel
        have HA2 := Lib.hid hall
        clear hall
        have hbz := hb9.trans (hbC.mono hb9.size)
        obtain ⟨z0, z1, z2, sC⟩ := BoxC.ext ⟨y0, y1, y2, sB⟩ hbC
        have hszc := hbC.size
        by_cases hlm : m < R.length
        · have hmn : m < ws.length := by have := HL7.out; omega
          obtain ⟨b, o, rfl, hb, e0, e1⟩ := (h1.below hbz).at_ hmn
          obtain ⟨b7, o7, rfl, hb7, f0⟩ := Nums.at_ (l := R) (sh7.below hbC) hlm
          rw [← getD1 hlm, HR7.out m hmn] at f0
          rw [← getD2 hmn] at e0 e1
          have HLm := Lib.hid (HLW.out m)
          have i0' : (0 : Int) ≤ m := by omega
          have i1' : (m : Int) < (R.length : Int) := by omega
          have i2' : (m : Int) < (ws.length : Int) := by omega
          have i3' : b < wr.heap.size := by omega
          have i4' : b7 < wr.heap.size := by omega
          have wk : IntKind.i64.wrap ((m : Int) + 1) = (m : Int) + 1 := IntWalk.i64_in _ (by omega)
          generalize ws.getD m ⟨0, 0⟩ = u at e0 e1 HLm
          generalize tAt G (highL ls) m = tm at f0 HLm
          by_cases hbad : u.b < tm
          · go_wp2_with fail
            refine wp_region_mix [(0, true), (1, true), (2, true), (3, true), (4, true), (5, true), (6, true), (7, true), (8, true), (9, true), (10, true)] [] (SB w.heap.size w wr.heap.size none _) (by kernel_rfl) (by kernel_rfl) (by kernel_rfl) (by kernel_rfl) (by decide) (SB.start hbz (by omega)) (fun hS => ?_)
            simp only [planned, List.filterMap_cons, List.filterMap_nil, List.getElem?_cons_zero, List.getElem?_cons_succ, Option.map_some]
            repeat (first
              | (refine mix_skip (by rfl) ?_; try simp only [Act.put, List.setIfInBounds_toArray, List.set_cons_zero, List.set_cons_succ])
              | (refine mix_pass hS (by rfl) ?_; try simp only [Act.put, List.setIfInBounds_toArray, List.set_cons_zero, List.set_cons_succ])
              | (refine mix_pure (by rfl) (by rfl) (fun K hK => ?_); go_big_quiet_op; refine hK _ ?_; clear hK K)
              | (refine mix_take (by rfl) ?_
                 apply Exists.intro
                 refine ⟨?_, ?_⟩
                 · intro w' hSw
                   have hSc := hSw.cell
                   clear hSw
                   go_simp
                   try with_reducible rfl
                 try simp only [Act.put, List.setIfInBounds_toArray, List.set_cons_zero, List.set_cons_succ])
              | (refine mix_move (by rfl) (fun K hK => ?_)
                 go_simp
                 try dsimp only
                 first
                   | refine hK.out _ _ (hS.step hx (by omega)) ?_
                   | refine hK.out _ _ hS ?_
                   | refine hK.out _ _ (hS.alloc _ (by omega)) ?_
                   | refine hK.out _ _ (hS.grown hg hx) ?_
                 clear hK K hS
                 intro hS
                 try simp only [Act.put, List.setIfInBounds_toArray, List.set_cons_zero, List.set_cons_succ])
              | fail)
            refine mix_nil ?_
            simp only [tailed, List.filterMap_nil]
            go_wp2_with fail
            refine NoPanic.normal ?_
            have hbq := hS.below
            go_wp2_with fail
            go_ret2
            exact guard_late HR.out (guard_not hmn (by rw [HLm.out]; simp [hbad])) hbq
          · have hbad' := decide_eq_false hbad
            have HBD := Lib.hid hbad
            clear hbad
            go_wp2_with fail
            refine wp_region_mix [(0, true), (1, true), (2, true), (3, true), (4, true), (5, true), (6, true), (7, true), (8, true), (9, true), (10, true)] [] (SB w7.heap.size w7 wr.heap.size none _) (by kernel_rfl) (by kernel_rfl) (by kernel_rfl) (by kernel_rfl) (by decide) (SB.start hbC (by omega)) (fun hS => ?_)
            simp only [planned, List.filterMap_cons, List.filterMap_nil, List.getElem?_cons_zero, List.getElem?_cons_succ, Option.map_some]
            repeat (first
              | (refine mix_skip (by rfl) ?_; try simp only [Act.put, List.setIfInBounds_toArray, List.set_cons_zero, List.set_cons_succ])
              | (refine mix_pass hS (by rfl) ?_; try simp only [Act.put, List.setIfInBounds_toArray, List.set_cons_zero, List.set_cons_succ])
              | (refine mix_pure (by rfl) (by rfl) (fun K hK => ?_); go_big_quiet_op; refine hK _ ?_; clear hK K)
              | (refine mix_take (by rfl) ?_
                 apply Exists.intro
                 refine ⟨?_, ?_⟩
                 · intro w' hSw
                   have hSc := hSw.cell
                   clear hSw
                   go_simp
                   try with_reducible rfl
                 try simp only [Act.put, List.setIfInBounds_toArray, List.set_cons_zero, List.set_cons_succ])
              | (refine mix_move (by rfl) (fun K hK => ?_)
                 go_simp
                 try dsimp only
                 first
                   | refine hK.out _ _ (hS.step hx (by omega)) ?_
                   | refine hK.out _ _ hS ?_
                   | refine hK.out _ _ (hS.alloc _ (by omega)) ?_
                   | refine hK.out _ _ (hS.grown hg hx) ?_
                 clear hK K hS
                 intro hS
                 try simp only [Act.put, List.setIfInBounds_toArray, List.set_cons_zero, List.set_cons_succ])
              | fail)
            refine mix_nil ?_
            simp only [tailed, List.filterMap_nil]
            go_wp2_with fail
            refine NoPanic.normal ?_
            have hbq := hS.below
            go_wp2_with fail
            go_roundw
            case rel =>
              refine ⟨m + 1, by omega, by go_num, fun j hj => ?_, hbq⟩
              by_cases e : j = m
              · subst e; rw [HLm.out]; exact decide_eq_false (by have := HBD.out; omega)
              · exact HA2.out j (by omega)
            case measure => simp [intOf]; omega
        · have hok : guardB ws ls rs = true := guard_all HR.out HK.out (fun j hj => HA2.out j (by have := HL7.out; omega))
          have HOK := Lib.hid hok
          clear hok
          go_wp2_with fail
          go_ret2
          exact guard_good HOK.out (by rw [HGE.out]; exact own_below own7' hbC) hbz
end Go.Proofs.Yteahkgoedibimaa
