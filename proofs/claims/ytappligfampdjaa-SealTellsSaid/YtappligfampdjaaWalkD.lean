/-
  The walks of the reference's Sign, Valid, All. Conditions: none but the slices' sizes.
-/
import Derived.Test.YtappligfampdjaaWalkC
namespace Go.Proofs.Ytappligfampdjaa
open Go.RowKit Go.WideMaps

theorem findI_old {L : List SE} {e : SE} (h : e ∈ L) : findI L e = L.idxOf e ∧ (decide (findI L e < 0)) = false := by
  simp only [findI, h, if_true, true_and]
  exact decide_eq_false (by omega)
theorem findI_new {L : List SE} {e : SE} (h : e ∉ L) : findI L e = -1 := by simp [findI, h]
theorem markI_old {L : List SE} {e : SE} (h : e ∈ L) : markI L e = L.idxOf e := by simp [markI, h]
set_option maxHeartbeats 2000000 in
set_option maxRecDepth 100000 in
theorem rsign_any (w : World) (base g : Nat) (v : Value) (L : List SE) (e : SE) (h : RefAt w base g v L) (hl : L.length ≤ 1000000) :
    Calls Try.prog 15 #[.pointer (some ⟨g, 0, none⟩), .int .i64 e.a, .string e.s] w fun r w' => ∃ v', r = .returned (signV L e) ∧ RefAt w' base g v' (addL L e) ∧ Moved base w w' g g v v' := by
  have hbs : base ≤ w.heap.size := Nat.le_trans h.hg (Nat.le_of_lt h.lt)
  obtain ⟨A, c, rfl, _, _, _⟩ := caps_of_own h.row
  go_enter Try.func15, Try.ntmps15
  cases hk : keyB e.a
  · have HS := Lib.hid (signV_bad (L := L) hk)
    have hb : e.a < 0 ∨ 5000 ≤ e.a := by simp [keyB] at hk; omega
    clear hk
    rcases hb with h1 | h1
    · go_wp2_with fail
      have ob9 := heap_alloc_new w (.cells #[.int .i64 0, .string ⟨#[]⟩, .int .i64 0] 24)
      have hx9 := lit_below w (.cells #[.int .i64 0, .string ⟨#[]⟩, .int .i64 0] 24)
      generalize w.alloc (.cells #[.int .i64 0, .string ⟨#[]⟩, .int .i64 0] 24) = w9 at ob9 hx9 ⊢
      obtain ⟨c0, c1, c2⟩ := cells3 ob9
      (try simp only [Exit.inBlock, Exit.then])
      refine bodyPost_ret (v := .agg #[.int .i64 0, .string ⟨#[]⟩, .int .i64 0]) (by simp [results, go_sem, c0, c1, c2]) rfl ?_
      rw [HS.out.1, HS.out.2]
      exact ⟨_, rfl, h.ext hx9, Moved.of_below hbs hx9⟩
    · have h0 : (decide (e.a < 0)) = false := decide_eq_false (by omega)
      go_wp2_with fail
      have ob9 := heap_alloc_new w (.cells #[.int .i64 0, .string ⟨#[]⟩, .int .i64 0] 24)
      have hx9 := lit_below w (.cells #[.int .i64 0, .string ⟨#[]⟩, .int .i64 0] 24)
      generalize w.alloc (.cells #[.int .i64 0, .string ⟨#[]⟩, .int .i64 0] 24) = w9 at ob9 hx9 ⊢
      obtain ⟨c0, c1, c2⟩ := cells3 ob9
      (try simp only [Exit.inBlock, Exit.then])
      refine bodyPost_ret (v := .agg #[.int .i64 0, .string ⟨#[]⟩, .int .i64 0]) (by simp [results, go_sem, c0, c1, c2]) rfl ?_
      rw [HS.out.1, HS.out.2]
      exact ⟨_, rfl, h.ext hx9, Moved.of_below hbs hx9⟩
  have HK := Lib.hid hk
  have hk1 : 0 ≤ e.a := by simp [keyB] at hk; omega
  have hk2 : e.a < 5000 := by simp [keyB] at hk; omega
  have hk3 : decide (e.a < 0) = false := decide_eq_false (by omega)
  have hk4 : decide (5000 ≤ e.a) = false := decide_eq_false (by omega)
  clear hk
  have ob0 := heap_alloc_new w (.cells #[.int .i64 0, .string ⟨#[]⟩, .int .i64 0] 24)
  have hx0 := lit_below w (.cells #[.int .i64 0, .string ⟨#[]⟩, .int .i64 0] 24)
  have h0 := h.ext hx0
  go_wp2_with fail
  refine (rfind_any _ _ _ _ L e h0 hl).mono ?_
  rintro e1 w1 ⟨rfl, hx1⟩
  have ob1 := (hx1.block w.heap.size (by simp)).trans ob0
  have h1 := h0.ext hx1
  have hx1 := hx0.trans (hx1.mono (by simp))
  clear hk1 hk2 hk3 hk4 ob0 hx0 h0
  by_cases hm : e ∈ L
  · have HS := Lib.hid (signV_old HK.out hm)
    obtain ⟨hf1, hf2⟩ := findI_old hm
    have HF := Lib.hid hf1
    have HMk := Lib.hid (markI_old hm)
    have f0 := frozen_of_row w1 w.heap.size 0 _ _ ob1
    have f1 := frozen_of_row w1 w.heap.size 1 _ _ ob1
    have f2 := frozen_of_row w1 w.heap.size 2 _ _ ob1
    obtain ⟨c0, c1, c2⟩ := cells3 ob1
    clear hm hf1
    go_wp2_with fail
    clear c0 c1 c2 f0 f1 f2
    have ob9 := set3 ob1 (.int .i64 e.a) (.string e.s) (.int .i64 (findI L e))
    have hx9 := below3 hx1 (Nat.le_refl _) (.int .i64 e.a) (.string e.s) (.int .i64 (findI L e))
    generalize (((w1.setCell ⟨w.heap.size, 0, none⟩ (.int .i64 e.a)).setCell ⟨w.heap.size, 1, none⟩ (.string e.s)).setCell ⟨w.heap.size, 2, none⟩ (.int .i64 (findI L e))) = w9 at ob9 hx9 ⊢
    obtain ⟨c0, c1, c2⟩ := cells3 ob9
    (try simp only [Exit.inBlock, Exit.then])
    refine bodyPost_ret (v := .agg #[.int .i64 e.a, .string e.s, .int .i64 (findI L e)]) (by simp [results, go_sem, c0, c1, c2]) rfl ?_
    rw [HS.out.1, HS.out.2, HF.out, HMk.out]
    exact ⟨_, rfl, h.ext hx9, Moved.of_below hbs hx9⟩
  have HS := Lib.hid (signV_new HK.out hm)
  have hd : findI L e = -1 := findI_new hm
  rw [hd]
  clear hm hd
  obtain ⟨ie, ei, ez0, ez1, ez2⟩ := info_parts info_sealed
  have g0 := h1.cell0
  have n1 : some g ≠ (Value.slice A L.length c).ownBlock := fun e => h1.rowg e.symm
  have hN1 := Lib.hid n1
  have r1 := h1.lt
  have hbs1 : base ≤ w1.heap.size := Nat.le_trans hbs hx1.size
  go_wp2_with (at_builtin; refine push_own2 rfl _ _ 22 rfl base 32 ie _ 2 24 Try.underlying22 ei ez0 ez1 ez2 rfl (by decide) w1 (.slice A L.length c) L.length (SE.cells L) rfl h1.row 1 1 [.int .i64 e.a, .string e.s] rfl rfl (by intro u hu; simp at hu; rcases hu with rfl | rfl <;> rfl) hbs1 (by omega) (by omega) ?_)
  intro v4 w4 own4 hx hg ho
  obtain ⟨A4, c4, rfl, _, _, _⟩ := caps_of_own own4
  have old4 : ∀ k, k < w1.heap.size → some k ≠ (Value.slice A L.length c).ownBlock → w4.heap[k]? = w1.heap[k]? := fun k hk hne => hg.block k hk hne
  have lrow : ∀ k, (Value.slice A L.length c).ownBlock = some k → k < w.heap.size := fun k e => (h.row.lt k e).2
  have n0 : some w.heap.size ≠ (Value.slice A L.length c).ownBlock := fun e => by have := lrow _ e.symm; omega
  have r00 : w.heap.size < w1.heap.size := (Array.getElem?_eq_some_iff.1 ob1).1
  have ob14 := (old4 w.heap.size r00 n0).trans ob1
  have obg4 := (old4 g h1.lt n1).trans h1.box
  have v4g : (.slice A4 (L.length + 1) c4 : Value).ownBlock ≠ some g := ho g h1.lt h1.rowg
  have gne : w.heap.size ≠ g := by have := h.lt; omega
  have q0 : w4.cell? ⟨g, 0, none⟩ = some (.slice A L.length c) := by rw [cell_of_row w4 _ _ _ _ (0, 0) obg4]; rfl
  have qf := frozen_of_row w4 g 0 _ _ obg4
  have obg5 : (w4.setCell ⟨g, 0, none⟩ (.slice A4 (L.length + 1) c4)).heap[g]? = some (.cells #[.slice A4 (L.length + 1) c4] 53 (0, 0)) := heap_setCell_same w4 g 0 _ _ (.slice A4 (L.length + 1) c4) obg4
  have own5 := own4.kept (grown_at w4 g 0 (.slice A4 (L.length + 1) c4)) (.inr v4g)
  have hx5 := (Below.trans (hx1.mono hbs) hx).setCell (p := ⟨g, 0, none⟩) h.hg (.slice A4 (L.length + 1) c4)
  have ob15 := (heap_setCell_other w4 ⟨g, 0, none⟩ w.heap.size (.slice A4 (L.length + 1) c4) gne).trans ob14
  have old5 : ∀ k, k < w1.heap.size → k ≠ g → some k ≠ (Value.slice A L.length c).ownBlock → (w4.setCell ⟨g, 0, none⟩ (.slice A4 (L.length + 1) c4)).heap[k]? = w1.heap[k]? := fun k hk h1 h2 => (heap_setCell_other w4 ⟨g, 0, none⟩ k (.slice A4 (L.length + 1) c4) h1).trans (old4 k hk h2)
  clear g0 old4
  have f0 : (w4.setCell ⟨g, 0, none⟩ (.slice A4 (L.length + 1) c4)).frozen? ⟨w.heap.size, 0, none⟩ = false := frozen_of_row _ w.heap.size 0 _ _ ob15
  have f1 : (w4.setCell ⟨g, 0, none⟩ (.slice A4 (L.length + 1) c4)).frozen? ⟨w.heap.size, 1, none⟩ = false := frozen_of_row _ w.heap.size 1 _ _ ob15
  have f2 : (w4.setCell ⟨g, 0, none⟩ (.slice A4 (L.length + 1) c4)).frozen? ⟨w.heap.size, 2, none⟩ = false := frozen_of_row _ w.heap.size 2 _ _ ob15
  obtain ⟨c0, c1, c2⟩ := cells3 ob15
  go_wp2_with fail
  clear c0 c1 c2 f0 f1 f2 q0 qf hg obg4 own4 ob14
  generalize w4.setCell ⟨g, 0, none⟩ (.slice A4 (L.length + 1) c4) = w5 at obg5 own5 hx5 ob15 old5 ⊢
  have ob9 := set3 ob15 (.int .i64 e.a) (.string e.s) (.int .i64 L.length)
  have hx9 := below3 hx5 hbs (.int .i64 e.a) (.string e.s) (.int .i64 L.length)
  have old9 := fun k (hk : k ≠ w.heap.size) => other3 (w := w5) hk (.int .i64 e.a) (.string e.s) (.int .i64 L.length)
  generalize (((w5.setCell ⟨w.heap.size, 0, none⟩ (.int .i64 e.a)).setCell ⟨w.heap.size, 1, none⟩ (.string e.s)).setCell ⟨w.heap.size, 2, none⟩ (.int .i64 L.length)) = w9 at ob9 hx9 old9 ⊢
  obtain ⟨c0, c1, c2⟩ := cells3 ob9
  (try simp only [Exit.inBlock, Exit.then])
  refine bodyPost_ret (v := .agg #[.int .i64 e.a, .string e.s, .int .i64 L.length]) (by simp [results, go_sem, c0, c1, c2]) rfl ?_
  rw [HS.out.1, HS.out.2]
  have lt4 : ∀ k, (Value.slice A4 (L.length + 1) c4).ownBlock = some k → k ≠ w.heap.size := fun k e1 e2 => by
    rcases own5.2 with ⟨h0, _⟩ | ⟨q, cap, cur, h0, q1, q2, q3⟩
    · simp only [Value.slice.injEq] at h0; rw [h0.1] at e1; simp [Value.ownBlock] at e1
    · rw [h0] at e1
      simp only [Value.ownBlock, Option.some.injEq] at e1
      rw [e1, e2, ob15] at q2
      simp only [Option.some.injEq, Obj.cells.injEq] at q2
      exact absurd q2.2.1 (by decide)
  refine ⟨_, rfl, ⟨(old9 g (Ne.symm gne)).trans obg5, ?_, h.hg⟩, ⟨hx9, ?_, ?_⟩⟩
  · rw [List.length_append, SE.append]
    refine ⟨own5.1, ?_⟩
    rcases own5.2 with h0 | ⟨k, cap, cur, hv, k1, k2, k3⟩
    · exact .inl h0
    · exact .inr ⟨k, cap, cur, hv, k1, (old9 k (lt4 k (by rw [hv]; rfl))).trans k2, k3⟩
  · intro k hk k1 _ k3
    have := hx1.block k hk
    rw [old9 k (by omega), old5 k (by omega) k1 (Ne.symm k3), this]
  · intro k hk k3
    exact ho k (by omega) k3
end Go.Proofs.Ytappligfampdjaa
