/-
  The walk of the reference's Open. Conditions: none but the slice's size.
-/
import Derived.Test.YtappligfampdjaaWalkF
namespace Go.Proofs.Ytappligfampdjaa
open Go.RowKit Go.WideMaps

def badI (l : List SE) : Int := if l.Nodup then 0 else 5
theorem badI_snoc {l : List SE} {x : SE} : badI (l ++ [x]) = if x ∈ l then 5 else badI l := by
  unfold badI
  simp only [nodup_snoc]
  by_cases h1 : l.Nodup <;> by_cases h2 : x ∈ l <;> simp [h1, h2]
theorem push_ref {w w3 w4 : World} {base g : Nat} {L : List SE} {e : SE} {A A4 : Option Addr} {c c4 : Nat} (h : RefAt w base g (.slice A L.length c) L)
    (hx3 : Below w.heap.size w w3) (hg : w3.grownBy w4 (Value.slice A L.length c).ownBlock) (own4 : w4.ownsRow base 32 2 (.slice A4 (L.length + 1) c4) (L.length + 1) (SE.cells L ++ [.int .i64 e.a, .string e.s]))
    (ho : Off (.slice A L.length c) w (.slice A4 (L.length + 1) c4)) (hx : Below base w3 w4) :
    w4.cell? ⟨g, 0, none⟩ = some (.slice A L.length c) ∧ w4.frozen? ⟨g, 0, none⟩ = false ∧ RefAt (w4.setCell ⟨g, 0, none⟩ (.slice A4 (L.length + 1) c4)) base g (.slice A4 (L.length + 1) c4) (L ++ [e]) ∧ Below base w (w4.setCell ⟨g, 0, none⟩ (.slice A4 (L.length + 1) c4)) := by
  have hbs : base ≤ w.heap.size := Nat.le_trans h.hg (Nat.le_of_lt h.lt)
  have h3 := h.ext hx3
  have n1 : some g ≠ (Value.slice A L.length c).ownBlock := fun e => h3.rowg e.symm
  have obg4 := (hg.block g h3.lt n1).trans h3.box
  have v4g : (.slice A4 (L.length + 1) c4 : Value).ownBlock ≠ some g := ho g h.lt h.rowg
  refine ⟨by rw [cell_of_row w4 _ _ _ _ (0, 0) obg4]; rfl, frozen_of_row w4 g 0 _ _ obg4, ⟨heap_setCell_same w4 g 0 _ _ (.slice A4 (L.length + 1) c4) obg4, ?_, h.hg⟩, ((hx3.mono hbs).trans hx).setCell (p := ⟨g, 0, none⟩) h.hg (.slice A4 (L.length + 1) c4)⟩
  rw [List.length_append, SE.append]
  exact own4.kept (grown_at w4 g 0 (.slice A4 (L.length + 1) c4)) (.inr v4g)
set_option maxHeartbeats 2000000 in
set_option maxRecDepth 100000 in
theorem ropen_any (A : Option Addr) (n c : Nat) (l : List SE) (hn : l.length = n) (w : World) (h : Seals w w.heap.size A l) (hl : n ≤ 1000000) :
    Calls Try.prog 18 #[.slice A n c] w fun r w' => ∃ p, r = .returned (.tuple #[p, .int .i64 (openE l)]) ∧ OpenedR w w' p l := by
  obtain ⟨ie, ei, ez0, ez1, ez2⟩ := info_parts info_sealed
  subst hn
  go_enter Try.func18, Try.ntmps18
  go_wp2_with fail
  refine (rnew_any _).mono ?_
  rintro e1 w1 ⟨g, rfl, hr1, hx1⟩
  go_wp2_with fail
  go_loopw [5, 6] (fun d i wr => ∃ (k : Nat) (v : Value), k ≤ l.length ∧ i = .int .i64 k ∧ d = .int .i64 (badI (l.take k)) ∧ okKeys (l.take k) = true ∧ RefAt wr w.heap.size g v (l.take k) ∧ Below w.heap.size w wr) (fun _ i _ => l.length - (intOf i).toNat)
  case atStart => exact ⟨0, _, Nat.zero_le _, rfl, rfl, rfl, by simpa using hr1, hx1⟩
  case round =>
    obtain ⟨k, v, hk, rfl, rfl, hok2, hr, hbw⟩ := hrel
    have HO := Lib.hid hok2
    clear hok2
    by_cases hlt : k < l.length
    · obtain ⟨b1, o1, hA, hb, p0, p1⟩ := (show Seals wr w.heap.size A l from Shows.below h hbw).at_ hlt
      subst hA
      have hsz := hbw.size
      have hb1 : b1 < wr.heap.size := by omega
      generalize hel : l[k] = e at p0 p1
      have HE := Lib.hid hel
      clear hel
      cases hkb : keyB e.a
      · have HB := Lib.hid hkb
        have hE : openE l = 1 := by simp [openE, okKeys_take hlt (by rw [HE.out]; exact hkb)]
        have HE1 := Lib.hid hE
        have hb : e.a < 0 ∨ 5000 ≤ e.a := by simp [keyB] at hkb; omega
        clear hkb hE
        rcases hb with h1 | h1
        · go_wp2_with fail
          go_ret2
          exact ⟨_, by rw [HE1.out]; rfl, hbw, .inl ⟨by rw [HE1.out]; decide, rfl⟩⟩
        · have h0 : (decide (e.a < 0)) = false := decide_eq_false (by omega)
          go_wp2_with fail
          go_ret2
          exact ⟨_, by rw [HE1.out]; rfl, hbw, .inl ⟨by rw [HE1.out]; decide, rfl⟩⟩
      have HB := Lib.hid hkb
      have hk3 : decide (e.a < 0) = false := decide_eq_false (by simp [keyB] at hkb; omega)
      have hk4 : decide (5000 ≤ e.a) = false := decide_eq_false (by simp [keyB] at hkb; omega)
      clear hkb
      have hlk : (l.take k).length = k := by rw [List.length_take]; omega
      generalize hP : l.take k = P at hr HO hlk ⊢
      have HP := Lib.hid hP
      have hlk2 : P.length ≤ 1000000 := by omega
      clear hlk hP
      go_wp2_with fail
      refine wp_region_mix [(0, true), (1, true), (2, true), (3, true), (4, true), (5, true), (6, true), (7, true), (8, true), (9, true), (10, true), (11, false), (12, true)] [] (SB w.heap.size w wr.heap.size none _) (by kernel_rfl) (by kernel_rfl) (by kernel_rfl) (by kernel_rfl) (by decide) (SB.start hbw (by omega)) (fun hS => ?_)
      simp only [planned, List.filterMap_cons, List.filterMap_nil, List.getElem?_cons_zero, List.getElem?_cons_succ, Option.map_some]
      repeat (first
        | (refine mix_skip (by rfl) ?_; try simp only [Act.put, List.setIfInBounds_toArray, List.set_cons_zero, List.set_cons_succ])
        | (refine mix_pass hS (by rfl) ?_; try simp only [Act.put, List.setIfInBounds_toArray, List.set_cons_zero, List.set_cons_succ])
        | (refine mix_pure (by rfl) (by rfl) (fun K hK => ?_); go_big_quiet_op; refine hK _ ?_; clear hK K)
        | (refine mix_take (by rfl) ?_
           apply Exists.intro
           refine ⟨?_, ?_⟩
           · intro w' hSw
             have hSc := hSw.cell
             clear hSw
             go_simp
             try with_reducible rfl
           try simp only [Act.put, List.setIfInBounds_toArray, List.set_cons_zero, List.set_cons_succ])
        | (refine mix_move (by rfl) (fun K hK => ?_)
           first
             | (go_simp; go_at_call 23; refine (rfind_any _ w.heap.size g v P e (hr.ext (Below.refl wr.heap.size wr).drew) hlk2).mono ?_; rintro e2 w2 ⟨rfl, hx⟩)
             | go_simp
           try dsimp only
           first
             | refine hK.out _ _ (hS.step hx (by omega)) ?_
             | refine hK.out _ _ hS ?_
             | refine hK.out _ _ (hS.alloc _ (by omega)) ?_
             | refine hK.out _ _ (hS.grown hg hx) ?_
           clear hK K hS
           intro hS
           try simp only [Act.put, List.setIfInBounds_toArray, List.set_cons_zero, List.set_cons_succ])
        | fail)
      refine mix_nil ?_
      simp only [tailed, List.filterMap_nil]
      go_wp2_with fail
      refine NoPanic.normal ?_
      have p0 := (hS.cell b1 (o1 + k * 2) hb1 (by simp)).trans p0
      have p1 := (hS.cell b1 (o1 + k * 2 + 1) hb1 (by simp)).trans p1
      have hx2 : Below wr.heap.size wr w2 := by first | exact hx | exact (Below.refl wr.heap.size wr).drew.trans hx
      have hr := hr.ext hx2
      have hbw := hbw.trans (hx2.mono hsz)
      have hb1 : b1 < w2.heap.size := by have := hx2.size; omega
      have hsz : w.heap.size ≤ w2.heap.size := hbw.size
      clear hS hx2
      by_cases hm : e ∈ P
      · have hd : 0 ≤ findI P e := by rw [(findI_old hm).1]; omega
        have HD0 : badI (P ++ [e]) = 5 := by rw [badI_snoc, if_pos hm]
        have HD := Lib.hid HD0
        clear hm HD0
        go_wp2_with fail
        clear hd
        obtain ⟨A4, c4, rfl, _, _, _⟩ := caps_of_own hr.row
        have g0 := hr.cell0
        have r1 := hr.lt
        have n1 : some g ≠ (Value.slice A4 P.length c4).ownBlock := fun e => hr.rowg e.symm
        have nb : some b1 ≠ (Value.slice A4 P.length c4).ownBlock := fun e => by have := (hr.row.lt _ e.symm).1; omega
        refine wp_region_mix [(0, true), (1, true), (2, true), (3, true), (4, true), (5, true), (6, true), (7, true), (8, true), (9, false), (10, false)] [11, 12, 13] (SB w.heap.size w w2.heap.size (Value.slice A4 P.length c4).ownBlock _) (by kernel_rfl) (by kernel_rfl) (by kernel_rfl) (by kernel_rfl) (by decide) (SB.start hbw (by omega)) (fun hS => ?_)
        simp only [planned, List.filterMap_cons, List.filterMap_nil, List.getElem?_cons_zero, List.getElem?_cons_succ, Option.map_some]
        repeat (first
          | (refine mix_skip (by rfl) ?_; try simp only [Act.put, List.setIfInBounds_toArray, List.set_cons_zero, List.set_cons_succ])
          | (refine mix_pass hS (by rfl) ?_; try simp only [Act.put, List.setIfInBounds_toArray, List.set_cons_zero, List.set_cons_succ])
          | (refine mix_pure (by rfl) (by rfl) (fun K hK => ?_); go_big_quiet_op; refine hK _ ?_; clear hK K)
          | (refine mix_take (by rfl) ?_
             apply Exists.intro
             refine ⟨?_, ?_⟩
             · intro w' hSw
               have hSc := hSw.cell
               clear hSw
               go_simp
               try with_reducible rfl
             try simp only [Act.put, List.setIfInBounds_toArray, List.set_cons_zero, List.set_cons_succ])
          | (refine mix_move (by rfl) (fun K hK => ?_)
             first
               | (refine wp_push4 _ _ 22 rfl w.heap.size 32 ie _ 2 24 Try.underlying22 ei ez0 ez1 ez2 rfl (by decide) w2.drew (.slice A4 P.length c4) P.length (SE.cells P) rfl hr.row.drew 1 1 [.int .i64 e.a, .string e.s] rfl rfl (by intro u hu; simp at hu; rcases hu with rfl | rfl <;> rfl) hsz (by omega) (by omega) ?_; intro v4 w4 own4 hx hg ho)
               | go_simp
             try dsimp only
             first
               | refine hK.out _ _ (hS.step hx (by omega)) ?_
               | refine hK.out _ _ hS ?_
               | refine hK.out _ _ (hS.alloc _ (by omega)) ?_
               | refine hK.out _ _ (hS.grown hg hx) ?_
             clear hK K hS
             intro hS
             try simp only [Act.put, List.setIfInBounds_toArray, List.set_cons_zero, List.set_cons_succ])
          | fail)
        refine mix_nil ?_
        simp only [tailed, List.filterMap_cons, List.filterMap_nil, List.getElem?_cons_zero, List.getElem?_cons_succ]
        obtain ⟨A5, c5, rfl, _, _, _⟩ := caps_of_own own4
        clear g0 n1 nb
        obtain ⟨g0, gf, hr5, hb5⟩ := push_ref hr (((Below.refl w2.heap.size w2).drew).alloc (Nat.le_refl _) _) hg own4 ho hx
        have hb5 := hbw.trans (hb5)
        clear hS
        go_wp2_with fail
        refine NoPanic.normal ?_
        go_wp2_with fail
        go_roundw
        case rel =>
          refine ⟨k + 1, .slice A5 (P.length + 1) c5, by omega, by go_num, ?_, ?_, ?_, hb5⟩
          · rw [take_succ_eq hlt, HP.out, HE.out, HD.out]
          · rw [take_succ_eq hlt, HP.out, HE.out, okKeys_snoc, HO.out, HB.out]
            rfl
          · rw [take_succ_eq hlt, HP.out, HE.out]
            exact hr5
        case measure => simp [intOf]; omega
      · have hd : findI P e < 0 := by rw [findI_new hm]; decide
        have HD0 : badI (P ++ [e]) = badI P := by rw [badI_snoc, if_neg hm]
        have HD := Lib.hid HD0
        clear hm HD0
        go_wp2_with fail
        clear hd
        obtain ⟨A4, c4, rfl, _, _, _⟩ := caps_of_own hr.row
        have g0 := hr.cell0
        have r1 := hr.lt
        have n1 : some g ≠ (Value.slice A4 P.length c4).ownBlock := fun e => hr.rowg e.symm
        have nb : some b1 ≠ (Value.slice A4 P.length c4).ownBlock := fun e => by have := (hr.row.lt _ e.symm).1; omega
        refine wp_region_mix [(0, true), (1, true), (2, true), (3, true), (4, true), (5, true), (6, true), (7, true), (8, true), (9, false), (10, false)] [11, 12, 13] (SB w.heap.size w w2.heap.size (Value.slice A4 P.length c4).ownBlock _) (by kernel_rfl) (by kernel_rfl) (by kernel_rfl) (by kernel_rfl) (by decide) (SB.start hbw (by omega)) (fun hS => ?_)
        simp only [planned, List.filterMap_cons, List.filterMap_nil, List.getElem?_cons_zero, List.getElem?_cons_succ, Option.map_some]
        repeat (first
          | (refine mix_skip (by rfl) ?_; try simp only [Act.put, List.setIfInBounds_toArray, List.set_cons_zero, List.set_cons_succ])
          | (refine mix_pass hS (by rfl) ?_; try simp only [Act.put, List.setIfInBounds_toArray, List.set_cons_zero, List.set_cons_succ])
          | (refine mix_pure (by rfl) (by rfl) (fun K hK => ?_); go_big_quiet_op; refine hK _ ?_; clear hK K)
          | (refine mix_take (by rfl) ?_
             apply Exists.intro
             refine ⟨?_, ?_⟩
             · intro w' hSw
               have hSc := hSw.cell
               clear hSw
               go_simp
               try with_reducible rfl
             try simp only [Act.put, List.setIfInBounds_toArray, List.set_cons_zero, List.set_cons_succ])
          | (refine mix_move (by rfl) (fun K hK => ?_)
             first
               | (refine wp_push4 _ _ 22 rfl w.heap.size 32 ie _ 2 24 Try.underlying22 ei ez0 ez1 ez2 rfl (by decide) w2.drew (.slice A4 P.length c4) P.length (SE.cells P) rfl hr.row.drew 1 1 [.int .i64 e.a, .string e.s] rfl rfl (by intro u hu; simp at hu; rcases hu with rfl | rfl <;> rfl) hsz (by omega) (by omega) ?_; intro v4 w4 own4 hx hg ho)
               | go_simp
             try dsimp only
             first
               | refine hK.out _ _ (hS.step hx (by omega)) ?_
               | refine hK.out _ _ hS ?_
               | refine hK.out _ _ (hS.alloc _ (by omega)) ?_
               | refine hK.out _ _ (hS.grown hg hx) ?_
             clear hK K hS
             intro hS
             try simp only [Act.put, List.setIfInBounds_toArray, List.set_cons_zero, List.set_cons_succ])
          | fail)
        refine mix_nil ?_
        simp only [tailed, List.filterMap_cons, List.filterMap_nil, List.getElem?_cons_zero, List.getElem?_cons_succ]
        obtain ⟨A5, c5, rfl, _, _, _⟩ := caps_of_own own4
        clear g0 n1 nb
        obtain ⟨g0, gf, hr5, hb5⟩ := push_ref hr (((Below.refl w2.heap.size w2).drew).alloc (Nat.le_refl _) _) hg own4 ho hx
        have hb5 := hbw.trans (hb5)
        clear hS
        go_wp2_with fail
        refine NoPanic.normal ?_
        go_wp2_with fail
        go_roundw
        case rel =>
          refine ⟨k + 1, .slice A5 (P.length + 1) c5, by omega, by go_num, ?_, ?_, ?_, hb5⟩
          · rw [take_succ_eq hlt, HP.out, HE.out, HD.out]
          · rw [take_succ_eq hlt, HP.out, HE.out, okKeys_snoc, HO.out, HB.out]
            rfl
          · rw [take_succ_eq hlt, HP.out, HE.out]
            exact hr5
        case measure => simp [intOf]; omega
    · obtain rfl : k = l.length := by omega
      rw [List.take_length] at hr HO ⊢
      by_cases hn : l.Nodup
      · have hE : openE l = 0 := by simp [openE, HO.out, hn]
        have hB : badI l = 0 := by simp [badI, hn]
        have HE := Lib.hid hE
        rw [hB]
        clear hE hB hn
        go_wp2_with fail
        go_ret2
        exact ⟨_, by rw [HE.out]; rfl, hbw, .inr ⟨HE.out, _, _, rfl, hr⟩⟩
      · have hE : openE l = 5 := by simp [openE, HO.out, hn]
        have hB : badI l = 5 := by simp [badI, hn]
        have HE := Lib.hid hE
        rw [hB]
        clear hE hB hn
        go_wp2_with fail
        go_ret2
        exact ⟨_, by rw [HE.out]; rfl, hbw, .inl ⟨by rw [HE.out]; decide, rfl⟩⟩
end Go.Proofs.Ytappligfampdjaa
