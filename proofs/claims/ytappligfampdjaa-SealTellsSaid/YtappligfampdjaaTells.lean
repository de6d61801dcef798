/-
  SealTells. Conditions: none.
-/
import Derived.Test.YtappligfampdjaaBoth
namespace Go.Proofs.Ytappligfampdjaa
open Go.RowKit Go.WideMaps Go.ChangeShapes Go.WideShapes Go.ChangeAt Go.Deep Go.Joins

theorem keep_new' {w w' : World} {B k : Nat} {o : Obj} (h : w.heap[k]? = some o) (hx : Below B w w') (hk : k < B) : w'.heap[k]? = some o := (hx.block k hk).trans h
set_option maxHeartbeats 8000000 in
set_option maxRecDepth 100000 in
theorem tells_any (A : Option Addr) (c : Nat) (l : List SE) (e : SE) (m : Int) (w : World) (h : Seals w w.heap.size A l) (hl : l.length ≤ 9223372036854775807) (hok : ∀ x ∈ l, x.ok) (he : e.ok) :
    Calls Try.prog 5 #[.slice A l.length c, .agg #[.int .i64 e.a, .string e.s, .int .i64 m]] w fun r w' => r = .returned (.bool true) ∧ Below w.heap.size w w' := by
  have obA := heap_alloc_new w (.cells #[.int .i64 e.a, .string e.s, .int .i64 m] 24)
  have hxA := lit_below w (.cells #[.int .i64 e.a, .string e.s, .int .i64 m] 24)
  go_enter Try.func5, Try.ntmps5
  go_wp2_with fail
  generalize w.alloc (.cells #[.int .i64 e.a, .string e.s, .int .i64 m] 24) = wA at obA hxA ⊢
  refine (small_any _).mono ?_
  rintro e1 w1 ⟨rfl, hx1⟩
  have ob1 := keep_new obA hx1
  have hb1 := hxA.trans (hx1.mono hxA.size)
  clear obA hxA hx1
  go_wp2_with fail
  refine (few_any A c l w1 (seal_ext h hb1) hl (fun x hx => (hok x hx).2)).mono ?_
  rintro e2 w2 ⟨rfl, hx2⟩
  have ob2 := keep_new ob1 hx2
  have hb2 := hb1.trans (hx2.mono hb1.size)
  clear ob1 hx2 hb1
  cases hf : fewB l 40
  · go_wp2_with fail
    go_ret
    exact ⟨rfl, hb2⟩
  have hl40 : l.length ≤ 40 := by simp [fewB] at hf; exact hf.2
  clear hf
  go_wp2_with fail
  refine (new_any w2).mono ?_
  rintro e3 w3 ⟨g, b, rfl, hr3, hx3⟩
  go_wp2_with fail
  refine (rnew_any w3).mono ?_
  rintro e4 w4 ⟨q, rfl, hq4, hx4⟩
  have hs3 := hx3.size
  have hB4 : Both w4 w2.heap.size g b (.slice none 0 0) q (.slice none 0 0) (ringL (l.take 0)) := ⟨by simpa [ringL] using hr3.ext hx4, by simpa [ringL] using hq4.low hs3, Apart.nil _ _ _⟩
  have hb4 : Below w2.heap.size w2 w4 := hx3.trans (hx4.mono hs3)
  clear hr3 hx3 hq4 hx4
  have r2 : w.heap.size < w2.heap.size := (Array.getElem?_eq_some_iff.1 ob2).1
  obtain ⟨c0, c1, c2⟩ := cells3 ob2
  go_wp2_with fail
  go_loopw [8] (fun i wr => ∃ (k : Nat) (v u : Value), k ≤ l.length ∧ i = .int .i64 k ∧ Both wr w2.heap.size g b v q u (ringL (l.take k)) ∧ Below w2.heap.size w2 wr) (fun i _ => l.length - (intOf i).toNat)
  case atStart => exact ⟨0, _, _, Nat.zero_le _, rfl, hB4, hb4⟩
  case round =>
    obtain ⟨k, v, u, hk, rfl, hB, hbw⟩ := hrel
    have hs2 := hbw.size
    have cw := bcell hbw
    have d0 := (cw.1 w.heap.size 0 r2).trans c0
    have d1 := (cw.1 w.heap.size 1 r2).trans c1
    have d2 := (cw.1 w.heap.size 2 r2).trans c2
    have r3 : w.heap.size < wr.heap.size := by omega
    clear cw
    by_cases hlt : k < l.length
    · obtain ⟨b1, o1, hA, hb, p0, p1⟩ := (show Seals wr w.heap.size A l from Shows.below (Shows.below h hb2) (hbw.mono (by omega))).at_ hlt
      have hb1 : b1 < wr.heap.size := by omega
      have hb3 : b1 < w2.heap.size := by omega
      have hx := hok _ (List.getElem_mem hlt)
      have hlen : (ringL (l.take k)).length ≤ 1000000 := Nat.le_trans (ringL_length _) (by rw [List.length_take]; omega)
      subst hA
      generalize hel : l[k] = x at p0 p1 hx
      have hstep : addL (ringL (l.take k)) x = ringL (l.take (k + 1)) := by rw [take_succ_eq hlt, ringL_snoc, hel]
      have HST := Lib.hid hstep
      clear hel hstep
      generalize ringL (l.take k) = L at hB HST hlen
      obtain ⟨xa, xs, xm, hsv⟩ := signV_form L x
      have HSV := Lib.hid hsv
      have hneq := same_signed xa xs xm
      obtain ⟨y, hy⟩ : ∃ y, validB (addL L x) e m = y := ⟨_, rfl⟩
      have HY := Lib.hid hy
      clear hsv hy
      go_wp2_with fail
      refine wp_region_mix [(0, true), (1, true), (2, true), (3, true), (4, true), (5, true), (6, true), (7, true), (8, true), (9, true), (10, true), (12, true), (13, true), (14, true), (15, true), (16, true), (17, true), (18, true), (19, true), (20, true), (21, true), (22, true), (11, false), (23, false), (24, true), (25, true), (26, true), (27, true), (29, true), (30, true), (28, false), (31, false), (32, true), (33, true)] [] (SB w2.heap.size w2 w2.heap.size none _) (by kernel_rfl) (by kernel_rfl) (by kernel_rfl) (by kernel_rfl) (by decide) (SB.start hbw (by omega)) (fun hS => ?_)
      simp only [planned, List.filterMap_cons, List.filterMap_nil, List.getElem?_cons_zero, List.getElem?_cons_succ, Option.map_some]
      repeat (first
        | (refine mix_skip (by rfl) ?_; try simp only [Act.put, List.setIfInBounds_toArray, List.set_cons_zero, List.set_cons_succ])
        | (refine mix_pass hS (by rfl) ?_; try simp only [Act.put, List.setIfInBounds_toArray, List.set_cons_zero, List.set_cons_succ])
        | (refine mix_pure (by rfl) (by rfl) (fun K hK => ?_); go_big_quiet_op; refine hK _ ?_; clear hK K)
        | (refine mix_take (by rfl) ?_
           apply Exists.intro
           refine ⟨?_, ?_⟩
           · intro w' hSw
             have hSc := hSw.cell
             clear hSw
             go_simp
             try with_reducible rfl
           try simp only [Act.put, List.setIfInBounds_toArray, List.set_cons_zero, List.set_cons_succ])
        | (refine mix_move (by rfl) (fun K hK => ?_)
           first
             | (go_simp; go_at_call 10; refine (sign_any _ w2.heap.size g b v L x (hB.ring.ext (Below.refl wr.heap.size wr).drew) hx hlen).mono ?_; rw [HSV.out]; rintro e5 w5 ⟨v5, rfl, hr5, hm5⟩; have hx := hm5.below)
             | (go_simp; go_at_call 15; obtain ⟨hq5, ha5⟩ := keep_ref hm5 (hB.ring.ext (Below.refl wr.heap.size wr).drew) (hB.ref.ext (Below.refl wr.heap.size wr).drew) hB.apart; refine (rsign_any _ w2.heap.size q u L x hq5 hlen).mono ?_; rw [HSV.out]; rintro e6 w6 ⟨u6, rfl, hq6, hm6⟩; obtain ⟨hr6, ha6⟩ := keep_ring hm6 hr5 hq5 ha5; have hx := hm6.below)
             | (go_simp; go_at_call 11; refine (valid_any _ w2.heap.size g b v5 _ e m hr6 he).mono ?_; rw [HY.out]; rintro e7 w7 ⟨rfl, hx⟩; have hr7 := hr6.ext hx; have hq7 := hq6.ext hx)
             | (go_simp; go_at_call 16; refine (rvalid_any _ w2.heap.size q u6 _ e m hq7).mono ?_; rw [rvalid_eq hr7.nodup, HY.out]; rintro e8 w8 ⟨rfl, hx⟩; have hr8 := hr7.ext hx; have hq8 := hq7.ext hx)
             | go_simp
           try dsimp only
           first
             | refine hK.out _ _ (hS.step hx (by omega)) ?_
             | refine hK.out _ _ hS ?_
             | refine hK.out _ _ (hS.alloc _ (by omega)) ?_
             | refine hK.out _ _ (hS.grown hg hx) ?_
             | refine hK.out _ _ (hS.turned hx (by omega)) ?_
           clear hK K hS
           intro hS
           try simp only [Act.put, List.setIfInBounds_toArray, List.set_cons_zero, List.set_cons_succ])
        | fail)
      refine mix_nil ?_
      simp only [tailed, List.filterMap_nil]
      go_wp2_with fail
      refine NoPanic.normal ?_
      have hb8 := hS.below
      clear hS d0 d1 d2
      go_wp2_with fail
      go_roundw
      case rel =>
        refine ⟨k + 1, v5, u6, by omega, by go_num, ?_, hb8⟩
        rw [← HST.out]
        exact ⟨hr8, hq8, ha6⟩
      case measure => simp [intOf]; omega
    · obtain rfl : k = l.length := by omega
      rw [List.take_length] at hB
      have hb5 := hb2.trans (hbw.mono (by omega))
      have hlen : (ringL l).length ≤ 1000000 := Nat.le_trans (ringL_length _) (by omega)
      clear hk hlt hs3 hB4 hb4
      go_wp2_with fail
      refine (open_any A l.length c l rfl wr (seal_ext h hb5) (by omega) hok).mono ?_
      rintro e5 w5 ⟨p5, rfl, hx5, ho5⟩
      have hB5 := hB.ext hx5
      have ob5 := keep_new (keep_new' ob2 hbw r2) hx5
      have hb6 := hb5.trans (hx5.mono hb5.size)
      go_wp2_with fail
      refine (ropen_any A l.length c l rfl w5 (seal_ext h hb6) (by omega)).mono ?_
      rintro e6 w6 ⟨p6, rfl, hx6, ho6⟩
      have hB6 := hB5.ext hx6
      have ob6 := keep_new ob5 hx6
      have hb7 := hb6.trans (hx6.mono hb6.size)
      have r6 : w.heap.size < w6.heap.size := (Array.getElem?_eq_some_iff.1 ob6).1
      obtain ⟨q0, q1, q2⟩ := cells3 ob6
      clear d0 d1 d2 r3
      rcases ho5 with ⟨hE, rfl⟩ | ⟨hE, g5, b5, v5, rfl, hr5⟩
      · have HE := Lib.hid hE
        rcases ho6 with ⟨_, rfl⟩ | ⟨hE', _⟩
        · clear hE
          go_wp2_with fail
          refine wp_region_mix [(0, true), (1, true), (2, true), (3, true), (4, true), (5, true), (6, true), (7, true), (9, true), (8, false), (10, false), (11, false), (12, true), (13, true), (14, true), (15, true), (17, true), (18, true), (16, false), (19, false), (20, true), (21, true), (22, true)] [] (SB w.heap.size w w6.heap.size none _) (by kernel_rfl) (by kernel_rfl) (by kernel_rfl) (by kernel_rfl) (by decide) (SB.start hb7 (by omega)) (fun hS => ?_)
          simp only [planned, List.filterMap_cons, List.filterMap_nil, List.getElem?_cons_zero, List.getElem?_cons_succ, Option.map_some]
          repeat (first
            | (refine mix_skip (by rfl) ?_; try simp only [Act.put, List.setIfInBounds_toArray, List.set_cons_zero, List.set_cons_succ])
            | (refine mix_pass hS (by rfl) ?_; try simp only [Act.put, List.setIfInBounds_toArray, List.set_cons_zero, List.set_cons_succ])
            | (refine mix_pure (by rfl) (by rfl) (fun K hK => ?_); go_big_quiet_op; refine hK _ ?_; clear hK K)
            | (refine mix_take (by rfl) ?_
               apply Exists.intro
               refine ⟨?_, ?_⟩
               · intro w' hSw
                 have hSc := hSw.cell
                 clear hSw
                 go_simp
                 try with_reducible rfl
               try simp only [Act.put, List.setIfInBounds_toArray, List.set_cons_zero, List.set_cons_succ])
            | (refine mix_move (by rfl) (fun K hK => ?_)
               go_simp
               try dsimp only
               first
                 | refine hK.out _ _ (hS.step hx (by omega)) ?_
                 | refine hK.out _ _ hS ?_
                 | refine hK.out _ _ (hS.alloc _ (by omega)) ?_
                 | refine hK.out _ _ (hS.grown hg hx) ?_
               clear hK K hS
               intro hS
               try simp only [Act.put, List.setIfInBounds_toArray, List.set_cons_zero, List.set_cons_succ])
            | fail)
          refine mix_nil ?_
          simp only [tailed, List.filterMap_nil]
          go_wp2_with fail
          refine NoPanic.normal ?_
          have hb8 := hS.below
          have hB8 := hB6.ext (Below.refl w6.heap.size w6).drew
          clear hS q0 q1 q2
          go_wp2_with fail
          refine (all_any _ w2.heap.size g b v _ hB8.ring hlen).mono ?_
          rintro e20 w20 ⟨v20, rfl, own20, hx20⟩
          obtain ⟨A20, c20, rfl, sh20, _, _⟩ := caps_of_own own20
          have hB20 := hB8.ext hx20
          have hb20 := Below.trans hb8 (hx20.mono (Below.size hb8))
          go_wp2_with fail
          refine (rall_any _ w2.heap.size q u _ hB20.ref hlen).mono ?_
          rintro e21 w21 ⟨v21, rfl, own21, hx21⟩
          obtain ⟨A21, c21, rfl, sh21, _, _⟩ := caps_of_own own21
          have hb21 := hb20.trans (hx21.mono hb20.size)
          go_wp2_with fail
          refine (same_any A20 A21 _ _ c20 c21 (ringL l) (ringL l) rfl rfl _ (seal_ext sh20 hx21) sh21 hlen).mono ?_
          rw [decide_eq_true rfl]
          rintro e22 w22 ⟨rfl, hx22⟩
          have hb22 := hb21.trans (hx22.mono hb21.size)
          go_wp2_with fail
          go_ret
          exact ⟨by rfl, hb22⟩
        · exact absurd hE' hE
      · rcases ho6 with ⟨hE', _⟩ | ⟨_, g6, u6, rfl, hq6⟩
        · exact absurd hE hE'
        · rw [hE]
          clear hE
          obtain ⟨y, hy⟩ : ∃ y, validB l e m = y := ⟨_, rfl⟩
          have HY := Lib.hid hy
          clear hy
          have hr6 := hr5.ext hx6
          have hb60 := Below.refl w6.heap.size w6
          go_wp2_with fail
          refine wp_region_mix [(0, true), (1, true), (2, true), (3, true), (4, true), (5, true), (6, true), (7, true), (9, true), (8, false), (10, false), (11, false), (12, true), (13, true), (14, true), (15, true), (17, true), (18, true), (16, false), (19, false), (20, true), (21, true), (22, true)] [] (SB w6.heap.size w6 w6.heap.size none _) (by kernel_rfl) (by kernel_rfl) (by kernel_rfl) (by kernel_rfl) (by decide) (SB.start hb60 (by omega)) (fun hS => ?_)
          simp only [planned, List.filterMap_cons, List.filterMap_nil, List.getElem?_cons_zero, List.getElem?_cons_succ, Option.map_some]
          repeat (first
            | (refine mix_skip (by rfl) ?_; try simp only [Act.put, List.setIfInBounds_toArray, List.set_cons_zero, List.set_cons_succ])
            | (refine mix_pass hS (by rfl) ?_; try simp only [Act.put, List.setIfInBounds_toArray, List.set_cons_zero, List.set_cons_succ])
            | (refine mix_pure (by rfl) (by rfl) (fun K hK => ?_); go_big_quiet_op; refine hK _ ?_; clear hK K)
            | (refine mix_take (by rfl) ?_
               apply Exists.intro
               refine ⟨?_, ?_⟩
               · intro w' hSw
                 have hSc := hSw.cell
                 clear hSw
                 go_simp
                 try with_reducible rfl
               try simp only [Act.put, List.setIfInBounds_toArray, List.set_cons_zero, List.set_cons_succ])
            | (refine mix_move (by rfl) (fun K hK => ?_)
               first
                 | (go_simp; go_at_call 13; refine (all_any _ wr.heap.size g5 b5 v5 l (hr6.ext hS.below) (by omega)).mono ?_; rintro e7 w7 ⟨v7, rfl, own7, hx⟩; obtain ⟨A7, c7, rfl, sh7, _, _⟩ := caps_of_own own7)
                 | (go_simp; go_at_call 19; refine (rall_any _ w5.heap.size g6 u6 l (hq6.ext hS.below) (by omega)).mono ?_; rintro e8 w8 ⟨v8, rfl, own8, hx⟩; have hxB := hx; obtain ⟨A8, c8, rfl, sh8, _, _⟩ := caps_of_own own8)
                 | (go_simp; go_at_call 12; refine (same_any A7 A8 l.length l.length c7 c8 l l rfl rfl _ (seal_ext sh7 hxB) sh8 (by omega)).mono ?_; rw [decide_eq_true rfl]; rintro e9 w9 ⟨rfl, hx⟩)
                 | (go_simp; go_at_call 11; refine (valid_any _ wr.heap.size g5 b5 v5 l e m (hr6.ext hS.below) he).mono ?_; rw [HY.out]; rintro e10 w10 ⟨rfl, hx⟩)
                 | (go_simp; go_at_call 16; refine (rvalid_any _ w5.heap.size g6 u6 l e m (hq6.ext hS.below)).mono ?_; rw [rvalid_eq hr6.nodup, HY.out]; rintro e11 w11 ⟨rfl, hx⟩)
                 | go_simp
               try dsimp only
               first
                 | refine hK.out _ _ (hS.step hx (by omega)) ?_
                 | refine hK.out _ _ hS ?_
                 | refine hK.out _ _ (hS.alloc _ (by omega)) ?_
                 | refine hK.out _ _ (hS.grown hg hx) ?_
               clear hK K hS
               intro hS
               try simp only [Act.put, List.setIfInBounds_toArray, List.set_cons_zero, List.set_cons_succ])
            | fail)
          refine mix_nil ?_
          simp only [tailed, List.filterMap_nil]
          go_wp2_with fail
          refine NoPanic.normal ?_
          have hb8 := hb7.trans (hS.below.mono hb7.size)
          have hB8 := hB6.ext hS.below
          clear hS q0 q1 q2
          go_wp2_with fail
          refine (all_any _ w2.heap.size g b v _ hB8.ring hlen).mono ?_
          rintro e20 w20 ⟨v20, rfl, own20, hx20⟩
          obtain ⟨A20, c20, rfl, sh20, _, _⟩ := caps_of_own own20
          have hB20 := hB8.ext hx20
          have hb20 := Below.trans hb8 (hx20.mono (Below.size hb8))
          go_wp2_with fail
          refine (rall_any _ w2.heap.size q u _ hB20.ref hlen).mono ?_
          rintro e21 w21 ⟨v21, rfl, own21, hx21⟩
          obtain ⟨A21, c21, rfl, sh21, _, _⟩ := caps_of_own own21
          have hb21 := hb20.trans (hx21.mono hb20.size)
          go_wp2_with fail
          refine (same_any A20 A21 _ _ c20 c21 (ringL l) (ringL l) rfl rfl _ (seal_ext sh20 hx21) sh21 hlen).mono ?_
          rw [decide_eq_true rfl]
          rintro e22 w22 ⟨rfl, hx22⟩
          have hb22 := hb21.trans (hx22.mono hb21.size)
          go_wp2_with fail
          go_ret
          exact ⟨by rfl, hb22⟩

theorem sealTells_contract (H : Type) (enc : TypeId × Value → H) (W : World) (base : Nat) (args : Array Value) (ds gs : List (DataW H)) (before : List MemPlace)
    (hval : ∀ (j : Nat) t v, Try.f5.params[j]? = some t → args[j]? = some v → Value.okWide Try.prog W .any base t v)
    (hW : DataW.Whole enc Try.prog Try.f5.params.toList Rows.sealTellsSpec.vars false W args.toList ds gs before) :
    Calls Try.prog 5 args W fun e W' => ∃ v, e = .returned v ∧ Rows.sealTellsSpec.post enc Try.prog Try.f5 false true false false W args v W' := by
  have hW' := hW
  obtain ⟨p, q, hA0, hV, rfl, hfz, hnd⟩ := hW
  have hA : DataW.TrodAll enc Try.prog W 0 (fun _ => true) true Try.f5.params.toList args.toList ds p := hA0
  have hlt := hA.lt
  rw [Try.params5] at hA hval
  obtain ⟨v0, vs0, d0, ds0, p0, q0, hargs0, rfl, rfl, h0, rr0⟩ := trodAll_cons hA
  obtain ⟨v1, vs1, d1, ds1, p1, q1, rfl, rfl, rfl, h1, rr1⟩ := trodAll_cons rr0
  obtain ⟨rfl, rfl, rfl⟩ := trodAll_nil rr1
  obtain rfl : args = #[v0, v1] := by cases args; simp_all
  obtain ⟨rfl, rfl⟩ := trodVars_none hV
  obtain ⟨A0, nn0, c0, rfl⟩ := okWide_slice Try.underlying22 (hval 0 22 v0 rfl rfl)
  obtain ⟨fu0, ff0⟩ := h0
  obtain ⟨l, rfl, t0, b0, m0, z0⟩ := open_seals (B := W.heap.size) Try.underlying22 Try.underlying32 rfl rfl Try.underlying3 Try.underlying9 (by kernel_rfl) rfl rfl (by kernel_rfl) (by kernel_rfl) (fun y (hy : y ∈ p0) => hlt y (by simp [hy])) ff0
  unfold maxLen at m0
  obtain ⟨x1a, x1b, x1c, y1a, y1b, y1c, n1, rfl, rfl, rfl, g1a, g1b, g1c⟩ := open_agg3 Try.underlying24 (by kernel_rfl) (by kernel_rfl) (hval 1 24 v1 rfl rfl) h1
  obtain ⟨a, e1a, _, hwf1a⟩ := DataW.trod_int Try.underlying3 g1a
  have r1a : -9223372036854775808 ≤ a ∧ a ≤ 9223372036854775807 := by simpa [Lit.wf, IntKind.min, IntKind.max, IntKind.signed, IntKind.bits] using hwf1a
  simp only [List.cons.injEq, and_true] at e1a
  subst e1a
  obtain ⟨s, e1b, _, r1b⟩ := DataW.trod_string Try.underlying9 g1b
  simp only [List.cons.injEq, and_true] at e1b
  subst e1b
  obtain ⟨m, e1c, _, hwf1c⟩ := DataW.trod_int Try.underlying3 g1c
  have r1c : -9223372036854775808 ≤ m ∧ m ≤ 9223372036854775807 := by simpa [Lit.wf, IntKind.min, IntKind.max, IntKind.signed, IntKind.bits] using hwf1c
  simp only [List.cons.injEq, and_true] at e1c
  subst e1c
  refine (tells_any A0 c0 l ⟨a, s⟩ m W t0 (by omega) z0 ⟨r1a, r1b⟩).mono fun e W' ⟨he, hb⟩ => ?_
  subst he
  exact ⟨_, rfl, law_post laidOut Try.underlying4 rfl (by kernel_rfl) rfl hW' rfl hb⟩
set_option maxRecDepth 100000 in
theorem sealTells_lifted (os : Os) (started : os.Started) (H : Type) (enc : TypeId × Value → H) :
    ReturnsInHanded {} Try.checked os 5 .any (Rows.sealTellsSpec.pre6 enc Try.prog Try.f5 Rows.sealTellsRow.domain false) (Rows.sealTellsSpec.post enc Try.prog Try.f5 false true false false) := by
  refine returnsInHanded_of_change (C := Try.checked) own started (by kernel_rfl) Try.func5
    (ChangeSpec.witness6 (enc := enc) (C := Try.checked) false ⟨#[], #[.slice none 0 0, .agg #[.int .i64 0, .string ⟨#[]⟩, .int .i64 0]], []⟩ 8 (by kernel_rfl) (by kernel_rfl) (by kernel_rfl) (by kernel_rfl)) ?_
  intro W base args ds gs before hval hW _ _
  exact sealTells_contract H enc W base args ds gs before hval hW
theorem sealTells_holds : Rows.SealTellsSaid :=
  OpenClaim.holds_of_wide 5 Try.f5 rfl rfl rfl rfl rfl rfl rfl ⟨rfl, rfl, rfl, rfl, rfl⟩ rfl rfl rfl rfl rfl (by kernel_rfl) Try.func5 (by kernel_rfl)
    (of_decide_eq_true (by kernel_rfl)) (by unfold Func.isWrapper; first | (rw [if_pos (by decide +kernel)]; kernel_rfl) | (rw [if_neg (by decide +kernel)]; exact ⟨rfl, rfl⟩))
    (fun os started H enc _ => sealTells_lifted os started H enc)
end Go.Proofs.Ytappligfampdjaa
