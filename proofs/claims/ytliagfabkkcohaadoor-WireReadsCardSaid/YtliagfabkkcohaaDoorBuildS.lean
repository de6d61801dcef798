/-
  What a builder holds, as a string. Conditions: it holds something.
-/
import Derived.Test.YtliagfabkkcohaaDoorBuild
import Derived.Lib.UnsafeStr
namespace Go.Proofs.YtliagfabkkcohaaDoor
open Go.RowKit

set_option maxHeartbeats 2000000 in
set_option maxRecDepth 100000 in
theorem string_run (b g cap : Nat) (p : Value) (cur : Array Value) (l : List UInt8) (w : World) (hl : l ≠ []) (hbk : w.heap[b]? = some (.cells #[p, .slice (some ⟨g, 0, none⟩) l.length cap] 67 (0, 0))) (hg : w.heap[g]? = some (.cells cur 5 (0, 0)))
    (hcap : l.length ≤ cap) (hcm : cap ≤ maxLen) (hcs : cur.size = cap) (hcell : ∀ (j : Nat) (x : UInt8), l[j]? = some x → w.cell? ⟨g, j, none⟩ = some (.int .u8 x.toNat)) :
    Calls Tryd.prog 60 #[.pointer (some ⟨b, 0, none⟩)] w fun e w' => e = .returned (.string ⟨l.toArray⟩) ∧ w' = w.drew.freeze ⟨g, 0, none⟩ l.length := by
  have hl0 : l.length ≠ 0 := by simpa using hl
  have c1 : w.drew.cell? ⟨b, 1, none⟩ = some (.slice (some ⟨g, 0, none⟩) l.length cap) := by
    have : w.drew.heap[b]? = some (.cells #[p, .slice (some ⟨g, 0, none⟩) l.length cap] 67 (0, 0)) := hbk
    rw [Lib.cell_of_heap this]; rfl
  have hSD : (Builtin.unsafeSliceData_ #[64] 78 #[.slice (some ⟨g, 0, none⟩) l.length cap]).run Tryd.prog w.drew = .ok (.pointer (some ⟨g, 0, none⟩)) w.drew := Lib.run_unsafeSliceData_row _ _ _ _ _ _ (by omega)
  have hUS : (Builtin.unsafeString_ #[78, 3] 9 #[.pointer (some ⟨g, 0, none⟩), .int .i64 l.length]).run Tryd.prog w.drew = .ok (.string ⟨l.toArray⟩) (w.drew.freeze ⟨g, 0, none⟩ l.length) := by
    refine Lib.run_unsafeString_row w.drew 78 3 9 5 (by kernel_rfl) (by kernel_rfl) g cur.size (by have hg' : w.drew.heap[g]? = some (.cells cur 5 (0, 0)) := hg; simp [World.shape?, hg']) l hl (by omega) (by unfold maxLen at hcm; omega) ?_
    intro j x hx
    have := hcell j x hx
    rw [Addr.add_lit, Nat.zero_add]
    exact this
  have mixed : Tryd.prog.follows .mixedOrders = true := follows_mixed
  go_enter Tryd.func60, Tryd.ntmps60
  go_wp2
  go_region_o
  all_goals (go_wp2; go_ret; exact ⟨rfl, rfl⟩)
theorem freeze_cell (w : World) (a : Addr) (n : Nat) (q : Addr) : (w.freeze a n).cell? q = w.cell? q := by
  unfold World.freeze
  by_cases hn : n = 0
  · rw [if_pos hn]
  · rw [if_neg hn]
    simp only [World.cell?, Array.getElem?_modify]
    by_cases h : a.block = q.block
    · rw [if_pos h, ← h]
      cases hw : w.heap[a.block]? with
      | none => rfl
      | some o => cases o <;> rfl
    · rw [if_neg h]
/-- the bytes as elements -/
def byteD (l : List UInt8) : List (List D) := l.map fun c => [.val (.int .u8 c.toNat)]
theorem byteD_app (l : List UInt8) (s : ByteArray) : byteD l ++ bytesD s = byteD (l ++ s.data.toList) := by simp [byteD, bytesD]
theorem string_any (k : Nat) (l : List UInt8) (hl : l ≠ []) : ObC 60 [.box 1000 0] (bld (.box 1000 0) k (byteD l)) [] (fun x o => x = .d (.str ⟨l.toArray⟩) ∧ o = []) := by
  refine ⟨⟨_, Tryd.func60, by decide, rfl⟩, fun w Pr vs β κ hp hE hln hv ho hap => ?_⟩
  match vs, hln with
  | [v], _ =>
    have h1 := hv 0 v _ rfl rfl
    obtain ⟨b, cs, q1, _, q3, q4, q5, q6⟩ := ho 1000 _ rfl
    obtain ⟨hκ, xs, hown, hls, hrp, hpr⟩ := ho 1001 _ rfl
    cases h1 with
    | box _ _ g hb =>
      rw [q1] at hb
      simp only [Value.pointer.injEq, Option.some.injEq, Addr.mk.injEq, and_true] at hb
      subst hb
      match cs, q4 with
      | [c0, c1], _ =>
        have r1 := q5 1 c1 _ rfl rfl
        have hc1 : c1 = β 1001 := r1.row_inv hκ.symm
        have hlen : (byteD l).length = l.length := by simp [byteD]
        rw [hlen] at hown
        rcases hown.2 with ⟨_, h0⟩ | ⟨g, cap, cur, hv1, _, hg, hnc, hcm, hcs, htk⟩
        · exact absurd (List.eq_nil_of_length_eq_zero h0) hl
        · rw [hv1] at hc1 hown hpr
          subst hc1
          have hcell : ∀ (j : Nat) (x : UInt8), l[j]? = some x → w.cell? ⟨g, j, none⟩ = some (.int .u8 x.toNat) := by
            intro j x hj
            have hjl : j < l.length := (List.getElem?_eq_some_iff.1 hj).1
            obtain ⟨u, hu, hr⟩ := hrp j 0 [.val (.int .u8 x.toNat)] _ (by simp [byteD, hj]) rfl
            cases hr
            rw [hown.cellAt j (by omega)]
            simpa using hu
          refine (string_run b g cap c0 cur l w hl q3 hg hnc hcm (by simpa using hcs) hcell).mono fun e w' ⟨he, hw⟩ => ?_
          subst hw
          have hst : Stays Pr w (w.drew.freeze ⟨g, 0, none⟩ l.length) := fun b' o _ => by rw [freeze_cell]; rfl
          have hsz : (w.drew.freeze ⟨g, 0, none⟩ l.length).heap.size = w.heap.size := by
            unfold World.freeze
            split
            · rfl
            · simp only [Array.size_modify]
              rfl
          refine ⟨_, _, [], Pr, β, κ, he, ⟨rfl, rfl⟩, ⟨?_, ?_, ?_, by omega, fun j hj hn => ?_⟩, hst, fun _ _ h => h, fun _ _ h => .inl h, fun b' o h => by rw [hsz]; exact hp b' o h, .d _ _ (.val _), fun i o h => by simp [find] at h, fun i j oi oj g h => by simp [find] at h, fun i o g h => by simp [find] at h, fun _ _ _ => .inl ⟨rfl, rfl⟩, rfl, fun i o h => by simp [find] at h⟩
          · unfold World.freeze; split <;> rfl
          · unfold World.freeze; split <;> rfl
          · unfold World.freeze; split <;> rfl
          · have hne : j ≠ g := fun e => hn ⟨1001, _, rfl, by rw [hv1, e]; rfl⟩
            unfold World.freeze
            split
            · rfl
            · simp only [Array.getElem?_modify]
              rw [if_neg (Ne.symm hne)]
              rfl
theorem writestring_b (used : Bool) (k : Nat) (l : List UInt8) (s : ByteArray) (hm : l.length + s.size ≤ 140737488355328) : ObC 59 [.box 1000 0, .d (.str s)] (bld (bldA used) k (byteD l)) [] (fun x o => x = .tup [.d (.int s.size), .d (.val .nilIface)] ∧ o = bld (.box 1000 0) (k + 1) (byteD (l ++ s.data.toList))) :=
  (writestring_any used k (byteD l) s (by simpa [byteD] using hm)).mono fun x o h => by rw [← byteD_app]; exact h
end Go.Proofs.YtliagfabkkcohaaDoor
