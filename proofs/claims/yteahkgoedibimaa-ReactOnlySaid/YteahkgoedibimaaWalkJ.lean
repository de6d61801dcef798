/-
  The walk of the reference's guards. Conditions: none.
-/
import Derived.Test.YteahkgoedibimaaWalkH
import Derived.OwnWalk
namespace Go.Proofs.Yteahkgoedibimaa
open Go.RowKit

theorem Box3.set {w : World} {gr g j : Nat} {t : P3} {v : Value} (h : Box3 w gr t) (hne : gr ≠ g) : Box3 (w.setCell ⟨g, j, none⟩ v) gr t := by
  obtain ⟨h0, h1, h2, h3⟩ := h
  have hk : ∀ o, (w.setCell ⟨g, j, none⟩ v).cell? ⟨gr, o, none⟩ = w.cell? ⟨gr, o, none⟩ := fun o => World.cell?_of_block (a := ⟨gr, o, none⟩) (heap_setCell_other w ⟨g, j, none⟩ gr v hne)
  exact ⟨(hk _).trans h0, (hk _).trans h1, (hk _).trans h2, by simpa using h3⟩
theorem high_at (A1 A2 A3 : Option Addr) (c1 c2 c3 : Nat) (ws ls : List P2) (rs : List P3) (a : Nat) (b : Int) (w : World) (h2 : Two w w.heap.size A2 ls) (hF : FineC ws ls rs) (hab : (a : Int) ≤ b) (hb : b < ws.length) :
    Calls Try.prog 26 #[.agg #[.slice A1 ws.length c1, .slice A2 ls.length c2, .slice A3 rs.length c3], .int .i64 a, .int .i64 b] w fun e w' => e = .returned (.int .i64 (Sm ls b.toNat - Sm ls a)) ∧ Below w.heap.size w w' := by
  obtain ⟨n, rfl⟩ := Int.eq_ofNat_of_zero_le (a := b) (by omega)
  have := hF.1
  exact high_any A1 A2 A3 c1 c2 c3 ws ls rs a n w h2 hF (by omega) (by omega)
/-- how many events the ride asks something of event k for -/
def stepsR (k : Nat) (r : P3) : Nat := if r.a = k then r.b.toNat - k else 0
theorem ovR_succ (ls : List P2) (rs : List P3) (V : List Int) (k : Nat) (x : Int) (i : Nat) : ovR ls rs V k x (i + 1) = ovM ls V k (rs.getD i ⟨0, 0, 0⟩) (ovR ls rs V k x i) (stepsR k (rs.getD i ⟨0, 0, 0⟩)) := by
  simp only [ovR, stepsR]
  split <;> rfl
theorem gRow_succ (ws ls : List P2) (rs : List P3) {k d : Nat} (h : k + d + 1 = ws.length) : (gRow ws ls rs d).set k (ovR ls rs (gRow ws ls rs d) k (ws.getD k ⟨0, 0⟩).a rs.length) = gRow ws ls rs (d + 1) := by
  simp only [gRow]
  rw [show ws.length - 1 - d = k from by omega]

theorem row_at {w : World} {base g cap n k : Nat} {e : TypeId} {V : List Int} {q : Int} (own : w.ownsRow base e 1 (.slice (some ⟨g, 0, none⟩) n cap) n (ints (V.set k q))) (hl : V.length = n) (hk : k < n) : w.cell? ⟨g, k, none⟩ = some (.int .i64 q) := by
  rw [own.cellAt k (by omega), ints_getD (by rw [List.length_set]; omega), getD_set _ _ _ _ (by omega), if_pos rfl]
theorem row_ne {w : World} {base g cap n k m : Nat} {e : TypeId} {V : List Int} {q : Int} (own : w.ownsRow base e 1 (.slice (some ⟨g, 0, none⟩) n cap) n (ints (V.set k q))) (hl : V.length = n) (hk : k < n) (hm : m < n) (hne : m ≠ k) : w.cell? ⟨g, m, none⟩ = some (.int .i64 (V.getD m 0)) := by
  rw [own.cellAt m (by omega), ints_getD (by rw [List.length_set]; omega), getD_set _ _ _ _ (by omega), if_neg hne]
set_option maxHeartbeats 4000000 in
set_option maxRecDepth 100000 in
theorem rguards_any (A1 A2 A3 : Option Addr) (c1 c2 c3 : Nat) (ws ls : List P2) (rs : List P3) (w : World) (h1 : Two w w.heap.size A1 ws) (h2 : Two w w.heap.size A2 ls) (h3 : Three w w.heap.size A3 rs) (hF : FineC ws ls rs) (hK : keptR ls rs = true) :
    Calls Try.prog 27 #[.agg #[.slice A1 ws.length c1, .slice A2 ls.length c2, .slice A3 rs.length c3]] w (RowSays (GL ws ls rs) w) := by
  have HF := Lib.hid hF
  have HK := Lib.hid (fun i (hi : i < rs.length) => kept_at hK hi)
  have hn82 : ws.length ≤ 82 := hF.1.2.1
  have hn1 : 1 ≤ ws.length := hF.1.1
  have hr200 : rs.length ≤ 200 := hF.1.2.2.2
  have HB := Lib.hid (fun d (hd : d ≤ ws.length) => gRow_bounds hF d hd fun q hq _ => kept_at hK hq)
  clear hF hK
  obtain ⟨i0, hi, hz0, hz1, hz2⟩ := info_parts info3
  have hbA := lit_below w (.cells #[.slice A1 ws.length c1, .slice A2 ls.length c2, .slice A3 rs.length c3] 26)
  have wn : IntKind.i64.wrap ((ws.length : Int) - 1) = (ws.length : Int) - 1 := IntWalk.i64_in _ (by omega)
  go_enter Try.func27, Try.ntmps27
  go_wp2_with (at_make; refine wpList_make_full (w.alloc (.cells #[.slice A1 ws.length c1, .slice A2 ls.length c2, .slice A3 rs.length c3] 26)) rfl _ _ 27 rfl (w.alloc (.cells #[.slice A1 ws.length c1, .slice A2 ls.length c2, .slice A3 rs.length c3] 26)).heap.size 3 i0 _ 1 Try.underlying27 hi hz0 hz1 .i64 .i64 _ _ ws.length rfl rfl rfl rfl (by rw [hz2]; omega) (by unfold maxLen; omega) (Nat.le_refl _) ?_; intro w3 own2 hg3)
  rw [zeros] at own2
  have hbox := BoxC.new w (.slice A1 ws.length c1) (.slice A2 ls.length c2) (.slice A3 rs.length c3) 26
  have hsA : (w.alloc (.cells #[.slice A1 ws.length c1, .slice A2 ls.length c2, .slice A3 rs.length c3] 26)).heap.size = w.heap.size + 1 := size_alloc _ _
  generalize w.alloc (.cells #[.slice A1 ws.length c1, .slice A2 ls.length c2, .slice A3 rs.length c3] 26) = wA at *
  obtain ⟨x0, x1, x2, sA⟩ := hbox
  generalize hg0 : w.heap.size + 1 = g at hsA ⊢
  subst hsA
  clear hg0
  have hb3 := (Below.refl wA.heap.size wA).grown hg3 (Nat.le_refl _) (fun k e => by cases e)
  have hg2 : wA.heap.size < w3.heap.size := (own2.lt _ rfl).2
  clear hg3
  go_loopw [5] (fun i wr => ∃ k1 : Nat, k1 ≤ ws.length ∧ i = .int .i64 ((k1 : Int) - 1) ∧ wr.ownsRow wA.heap.size 3 1 (.slice (some ⟨wA.heap.size, 0, none⟩) ws.length ws.length) ws.length (ints (gRow ws ls rs (ws.length - k1))) ∧ Below wA.heap.size wA wr) (fun i _ => (intOf i + 1).toNat)
  case atStart => exact ⟨ws.length, Nat.le_refl _, rfl, by rw [Nat.sub_self]; exact own2, hb3⟩
  case round =>
    obtain ⟨k1, hk1, rfl, own2, hbB⟩ := hrel
    have hbw := hbA.trans (hbB.mono hbA.size)
    rcases Nat.eq_zero_or_pos k1 with h0 | h0
    · subst h0
      rw [show ((0 : Nat) : Int) - 1 = -1 from rfl]
      go_wp2_with fail
      go_ret
      refine ⟨_, rfl, ?_, hbw⟩
      rw [show (GL ws ls rs).length = ws.length from gRow_length _ _ _ _]
      exact own_mono own2 (by omega)
    · obtain ⟨k, rfl⟩ : ∃ k, k1 = k + 1 := ⟨k1 - 1, by omega⟩
      have hkn : k < ws.length := hk1
      rw [show ((k + 1 : Nat) : Int) - 1 = (k : Int) from by omega]
      have y0 := ((bcell hbB).1 _ _ sA).trans x0
      have y2 := ((bcell hbB).1 _ _ sA).trans x2
      obtain ⟨b, o, rfl, hb, e0, e1⟩ := (h1.below hbw).at_ hkn
      rw [← getD2 hkn] at e0 e1
      obtain ⟨d, hd⟩ : ∃ d, k + d + 1 = ws.length := ⟨ws.length - (k + 1), by omega⟩
      rw [show ws.length - (k + 1) = d from by omega] at own2
      have HV := Lib.hid (HB.out d (by omega))
      have HVL := Lib.hid (gRow_length ws ls rs d)
      have HS := Lib.hid (gRow_succ ws ls rs hd)
      have hw := HF.out.2.1 k
      unfold okP at hw
      generalize gRow ws ls rs d = V at own2 HV HVL HS
      generalize ws.getD k ⟨0, 0⟩ = u at e0 e1 HS hw
      have i0' : (0 : Int) ≤ k := by omega
      have i1' : (k : Int) < (ws.length : Int) := by omega
      have wk : IntKind.i64.wrap ((k : Int) - 1) = (k : Int) - 1 := IntWalk.i64_in _ (by omega)
      have wk1 : IntKind.i64.wrap ((k : Int) + 1) = (k : Int) + 1 := IntWalk.i64_in _ (by omega)
      have z0 := own2.cellAt k (by omega)
      rw [ints_getD (by rw [HVL.out]; exact hkn)] at z0
      have z1 := own2.frozenAt k
      obtain ⟨own3, hgr⟩ := own2.stored k (.int .i64 u.a)
      rw [ints_set] at own3
      have hbC := hbB.setCell (p := ⟨wA.heap.size, k, none⟩) (Nat.le_refl _) (.int .i64 u.a)
      clear hgr
      go_wp2_with fail
      clear y0 y2 z0 z1 e0 e1
      generalize wr.setCell ⟨wA.heap.size, k, none⟩ (.int .i64 u.a) = wC at own3 hbC ⊢
      clear own2 hbw hbB
      go_loopw [6] (fun i wr => ∃ q : Nat, q ≤ rs.length ∧ i = .int .i64 q ∧ wr.ownsRow wA.heap.size 3 1 (.slice (some ⟨wA.heap.size, 0, none⟩) ws.length ws.length) ws.length (ints (V.set k (ovR ls rs V k u.a q))) ∧ Below wA.heap.size wA wr) (fun i _ => rs.length - (intOf i).toNat)
      case atStart => exact ⟨0, Nat.zero_le _, rfl, own3, hbC⟩
      case round =>
        obtain ⟨q, hq, rfl, ownq, hbq⟩ := hrel
        have hbw := hbA.trans (hbq.mono hbA.size)
        have y2 := ((bcell hbq).1 _ _ sA).trans x2
        by_cases hlq : q < rs.length
        · obtain ⟨b3, o3, rfl, hb3', c0, c1', c2'⟩ := (h3.below hbw).at_ hlq
          rw [← getD3 hlq] at c0 c1' c2'
          have hr := HF.out.2.2.2 q hlq
          have hkq := HK.out q hlq
          have HX := Lib.hid (ovR_bounds (k := k) (x := u.a) HF.out HV.out (by omega) (by omega) q hq fun p h1 h2 => by have := HK.out p (by omega); rw [h2] at this; exact this)
          have HO := Lib.hid (ovR_succ ls rs V k u.a q)
          generalize rs.getD q ⟨0, 0, 0⟩ = t at c0 c1' c2' hr hkq HO
          generalize ovR ls rs V k u.a q = x at ownq HX HO
          have j0' : (0 : Int) ≤ q := by omega
          have j1' : (q : Int) < (rs.length : Int) := by omega
          have hbox := Box3.new wr t 49
          have hszq := hbq.size
          have hbD := hbq.alloc (o := .cells #[.int .i64 t.a, .int .i64 t.b, .int .i64 t.c] 49) hszq
          have ownD := ownq.alloc (.cells #[.int .i64 t.a, .int .i64 t.b, .int .i64 t.c] 49)
          go_wp2_with fail
          clear y2 c0 c1' c2'
          have hne : wr.heap.size ≠ wA.heap.size := by have h9 : wA.heap.size < wr.heap.size := (ownq.lt _ rfl).2; omega
          generalize hgr : wr.heap.size = gr at *
          generalize wr.alloc (.cells #[.int .i64 t.a, .int .i64 t.b, .int .i64 t.c] 49) = wD at hbox hbD ownD ⊢
          clear ownq hbw hszq
          go_loopw [8] (fun i wj => ∃ j : Nat, j ≤ stepsR k t ∧ i = .int .i64 ((k + 1 + j : Nat) : Int) ∧ wj.ownsRow wA.heap.size 3 1 (.slice (some ⟨wA.heap.size, 0, none⟩) ws.length ws.length) ws.length (ints (V.set k (ovM ls V k t x j))) ∧ Box3 wj gr t ∧ Below wA.heap.size wA wj) (fun i _ => k + 1 + stepsR k t - (intOf i).toNat)
          case atStart => exact ⟨0, Nat.zero_le _, by go_num, ownD, hbox, hbD⟩
          case round =>
            obtain ⟨j, hj, rfl, ownj, hboxj, hbj⟩ := hrel
            obtain ⟨m, hm⟩ : ∃ m, m = k + 1 + j := ⟨_, rfl⟩
            rw [← hm]
            have HBX := Lib.hid hboxj
            obtain ⟨d0, d1, d2, d3⟩ := hboxj
            by_cases hlt : j < stepsR k t
            · have hta : t.a = k := by
                by_cases e : t.a = k
                · exact e
                · simp [stepsR, e] at hlt
              have hst : stepsR k t = t.b.toNat - k := if_pos hta
              have hmb : (m : Int) ≤ t.b := by omega
              have t1 : (t.a == (k : Int)) = true := by simp [hta]
              have t2 : decide ((m : Int) ≤ t.b) = true := decide_eq_true hmb
              have hmn : m < ws.length := by omega
              have f0 := row_at ownj HVL.out hkn
              have f1 := row_ne ownj HVL.out hkn hmn (by omega)
              have f2 := ownj.frozenAt k
              have b1 := HV.out m
              have b2 := ovM_bounds (r := t) (k := k) HF.out HV.out (by rw [hta] at hkq; exact hkq) HX.out.1 HX.out.2 j (by omega)
              have b3 := Sm_mono (a := m) (b := t.b.toNat) HF.out (by omega)
              have b4 := Sm_le HF.out t.b.toNat
              have b5 := Sm_nonneg HF.out m
              have hmx : (if ovM ls V k t x j < V.getD m 0 + (Sm ls t.b.toNat - Sm ls m) - t.c then V.getD m 0 + (Sm ls t.b.toNat - Sm ls m) - t.c else ovM ls V k t x j) = ovM ls V k t x (j + 1) := by rw [hm]; rfl
              have w1 : IntKind.i64.wrap (V.getD m 0 + (Sm ls t.b.toNat - Sm ls m)) = V.getD m 0 + (Sm ls t.b.toNat - Sm ls m) := IntWalk.i64_in _ (by omega)
              have w2 : IntKind.i64.wrap (V.getD m 0 + (Sm ls t.b.toNat - Sm ls m) - t.c) = V.getD m 0 + (Sm ls t.b.toNat - Sm ls m) - t.c := IntWalk.i64_in _ (by omega)
              have w3' : IntKind.i64.wrap ((m : Int) + 1) = (m : Int) + 1 := IntWalk.i64_in _ (by omega)
              have m0 : (0 : Int) ≤ m := by omega
              have m1 : (m : Int) < (ws.length : Int) := by omega
              have HM := Lib.hid hm
              have HST := Lib.hid hst
              have HTA := Lib.hid hta
              have hszj := hbj.size
              have hblk : wA.heap.size < wr.heap.size := (ownj.lt _ rfl).2
              have y0 := ((bcell hbj).1 _ _ sA).trans x0
              have y1 := ((bcell hbj).1 _ _ sA).trans x1
              have y2 := ((bcell hbj).1 _ _ sA).trans x2
              have hs9 : w.heap.size < wr.heap.size := by omega
              clear b1 b2 b3 b4 b5 hm hst hta
              generalize V.getD m 0 = vm at f1 hmx w1 w2
              generalize ovM ls V k t x j = xj at f0 hmx
              go_wp2_with fail
              refine wp_region_mix [(0, true), (1, true), (2, true), (3, true), (4, true), (5, true), (6, true), (7, true), (8, true), (9, true), (10, true), (11, true), (12, true), (13, true), (16, true), (17, true), (14, false), (15, true), (18, true), (19, true)] [20, 21] (SB wA.heap.size wA wr.heap.size none _) (by kernel_rfl) (by kernel_rfl) (by kernel_rfl) (by kernel_rfl) (by decide) (SB.start hbj (by omega)) (fun hS => ?_)
              simp only [planned, List.filterMap_cons, List.filterMap_nil, List.getElem?_cons_zero, List.getElem?_cons_succ, Option.map_some]
              repeat (first
                | (refine mix_skip (by rfl) ?_; try simp only [Act.put, List.setIfInBounds_toArray, List.set_cons_zero, List.set_cons_succ])
                | (refine mix_pass hS (by rfl) ?_; try simp only [Act.put, List.setIfInBounds_toArray, List.set_cons_zero, List.set_cons_succ])
                | (refine mix_pure (by rfl) (by rfl) (fun K hK => ?_); go_big_quiet_op; refine hK _ ?_; clear hK K)
                | (refine mix_take (by rfl) ?_
                   apply Exists.intro
                   refine ⟨?_, ?_⟩
                   · intro w' hSw
                     have hSc := hSw.cell
                     clear hSw
                     go_simp
                     try with_reducible rfl
                   try simp only [Act.put, List.setIfInBounds_toArray, List.set_cons_zero, List.set_cons_succ])
                | (refine mix_move (by rfl) (fun K hK => ?_)
                   first
                     | (go_simp; go_at_call 26; refine (high_at _ _ _ _ _ _ ws ls rs m t.b _ (two_ext h2 (hbA.trans (hS.below.mono hbA.size))) HF.out hmb hr.2.2.1).mono ?_; rintro e w6 ⟨rfl, hx⟩)
                     | go_simp
                   try dsimp only
                   first
                     | refine hK.out _ _ (hS.step hx (by omega)) ?_
                     | refine hK.out _ _ hS ?_
                     | refine hK.out _ _ (hS.alloc _ (by omega)) ?_
                     | refine hK.out _ _ (hS.grown hg hx) ?_
                   clear hK K hS
                   intro hS
                   try simp only [Act.put, List.setIfInBounds_toArray, List.set_cons_zero, List.set_cons_succ])
                | fail)
              refine mix_nil ?_
              simp only [tailed, List.filterMap_cons, List.filterMap_nil, List.getElem?_cons_zero, List.getElem?_cons_succ]
              have g0 := (hS.cell wA.heap.size k hblk (by simp)).trans f0
              have g2 := (hS.frozen wA.heap.size k hblk (by simp)).trans f2
              obtain ⟨own5, hgr5⟩ := (own_below ownj.drew hx).stored k (.int .i64 (ovM ls V k t x (j + 1)))
              rw [ints_set, List.set_set] at own5
              have hbox5 := (Box3.ext (w := wr.drew) HBX.out hx).set (g := wA.heap.size) (j := k) (v := .int .i64 (ovM ls V k t x (j + 1))) hne
              have hb5 := hS.below.setCell (p := ⟨wA.heap.size, k, none⟩) (Nat.le_refl _) (.int .i64 (ovM ls V k t x (j + 1)))
              clear hgr5 hmx w1 w2
              go_wp2_with fail
              refine NoPanic.normal ?_
              go_wp2_with fail
              go_roundw
              case rel => exact ⟨j + 1, by omega, by have := HM.out; go_num, own5, hbox5, hb5⟩
              case measure => have := HM.out; simp [intOf]; omega
            · have hje : j = stepsR k t := by omega
              have w3' : IntKind.i64.wrap ((q : Int) + 1) = (q : Int) + 1 := IntWalk.i64_in _ (by omega)
              by_cases hta : t.a = k
              · have t1 : (t.a == (k : Int)) = true := by simp [hta]
                have hst : stepsR k t = t.b.toNat - k := if_pos hta
                have t2 : decide ((m : Int) ≤ t.b) = false := decide_eq_false (by omega)
                have HTA := Lib.hid hta
                have HST := Lib.hid hst
                have HJE := Lib.hid hje
                have HM := Lib.hid hm
                clear hta hst hje hm
                go_wp2_with fail
                go_roundw
                case rel => exact ⟨q + 1, by omega, by go_num, by rw [HO.out, ← HJE.out]; exact ownj, hbj⟩
                case measure => simp [intOf]; omega
              · have t1 : (t.a == (k : Int)) = false := by simp [hta]
                have HJE := Lib.hid hje
                have HM := Lib.hid hm
                clear hje hm
                go_wp2_with fail
                go_roundw
                case rel => exact ⟨q + 1, by omega, by go_num, by rw [HO.out, ← HJE.out]; exact ownj, hbj⟩
                case measure => simp [intOf]; omega
        · have hqe : q = rs.length := by omega
          rw [hqe, HS.out] at ownq
          clear hqe
          go_wp2_with fail
          go_roundw
          case rel => exact ⟨k, by omega, by go_num, by rw [show ws.length - k = d + 1 from by omega]; exact ownq, hbq⟩
          case measure => simp [intOf]
end Go.Proofs.Yteahkgoedibimaa
