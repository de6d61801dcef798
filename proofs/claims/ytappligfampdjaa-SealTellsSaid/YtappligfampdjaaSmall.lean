/-
  The walk of small. Conditions: none.
-/
import Derived.Test.YtappligfampdjaaWalkG
namespace Go.Proofs.Ytappligfampdjaa
open Go.RowKit Go.WideMaps

theorem Moved.signed {w w' : World} {base g b k : Nat} {v v' : Value} {L : List SE} {cs : Array Value} (hm : Moved base w w' g b v v') (hr : RingAt w base g b v L) (hk : w.heap[k]? = some (.cells cs 24 (0, 0))) : w'.heap[k]? = some (.cells cs 24 (0, 0)) := by
  refine (hm.other k (Array.getElem?_eq_some_iff.1 hk).1 ?_ ?_ ?_).trans hk
  · rintro rfl
    have := hr.box
    rw [hk] at this
    simp only [Option.some.injEq, Obj.cells.injEq] at this
    exact absurd this.2.1 (by decide)
  · rintro rfl
    obtain ⟨es, clock, h, _⟩ := hr.map
    rw [hk] at h
    simp at h
  · intro hv
    rcases hr.row.2 with ⟨rfl, _⟩ | ⟨q, cap, cur, rfl, _, hq, _⟩
    · simp [Value.ownBlock] at hv
    · simp only [Value.ownBlock, Option.some.injEq] at hv
      subst hv
      rw [hk] at hq
      simp only [Option.some.injEq, Obj.cells.injEq] at hq
      exact absurd hq.2.1 (by decide)
theorem keep_new {w w' : World} {k : Nat} {o : Obj} (h : w.heap[k]? = some o) (hx : Below w.heap.size w w') : w'.heap[k]? = some o := (hx.block k (Array.getElem?_eq_some_iff.1 h).1).trans h
abbrev tA : ByteArray := ⟨#[97]⟩
abbrev tB : ByteArray := ⟨#[98]⟩
theorem okA (n : Int) (h : -9223372036854775808 ≤ n ∧ n ≤ 9223372036854775807) : SE.ok ⟨n, tA⟩ := ⟨h, (by decide : tA.size ≤ maxLen)⟩
set_option maxHeartbeats 4000000 in
set_option maxRecDepth 100000 in
theorem small_any (w : World) : Calls Try.prog 7 #[] w fun e w' => e = .returned (.bool true) ∧ Below w.heap.size w w' := by
  have okb : SE.ok ⟨3, tB⟩ := ⟨by decide, by decide⟩
  go_enter Try.func7, Try.ntmps7
  go_wp2_with fail
  refine (new_any _).mono ?_
  rintro e1 w1 ⟨g, b, rfl, hr1, hb1⟩
  go_wp2_with fail
  refine (sign_any w1 w.heap.size g b _ [] ⟨3, tA⟩ hr1 (okA 3 (by decide)) (by decide)).mono ?_
  rintro e2 x2 ⟨v2, rfl, hs2, hm2⟩
  have e2 : signV [] ⟨3, tA⟩ = .agg #[.int .i64 3, .string tA, .int .i64 0] := by rfl
  have a2 : addL [] ⟨3, tA⟩ = [⟨3, tA⟩] := by decide
  rw [e2]
  rw [a2] at hs2
  have hc2 := hb1.trans hm2.below
  have hl := lit_below x2 (.cells #[.int .i64 3, .string tA, .int .i64 0] 24)
  have hd2 := hc2.trans (hl.mono hc2.size)
  have hr2 := hs2.ext hl
  have bx2 := heap_alloc_new x2 (.cells #[.int .i64 3, .string tA, .int .i64 0] 24)
  clear e2 a2
  go_wp2_with fail
  generalize x2.alloc (.cells #[.int .i64 3, .string tA, .int .i64 0] 24) = w2 at hl hd2 hr2 bx2 ⊢
  refine (sign_any w2 w.heap.size g b _ [⟨3, tA⟩] ⟨4, tA⟩ hr2 (okA 4 (by decide)) (by decide)).mono ?_
  rintro e3 x3 ⟨v3, rfl, hs3, hm3⟩
  have e3 : signV [⟨3, tA⟩] ⟨4, tA⟩ = .agg #[.int .i64 4, .string tA, .int .i64 1] := by rfl
  have a3 : addL [⟨3, tA⟩] ⟨4, tA⟩ = [⟨3, tA⟩, ⟨4, tA⟩] := by decide
  rw [e3]
  rw [a3] at hs3
  have hc3 := hd2.trans hm3.below
  have p2 := hm3.signed hr2 bx2
  have hl := lit_below x3 (.cells #[.int .i64 4, .string tA, .int .i64 1] 24)
  have hd3 := hc3.trans (hl.mono hc3.size)
  have hr3 := hs3.ext hl
  have bx3 := heap_alloc_new x3 (.cells #[.int .i64 4, .string tA, .int .i64 1] 24)
  have p2 := keep_new p2 hl
  clear e3 a3
  go_wp2_with fail
  generalize x3.alloc (.cells #[.int .i64 4, .string tA, .int .i64 1] 24) = w3 at hl hd3 hr3 p2 bx3 ⊢
  refine (sign_any w3 w.heap.size g b _ [⟨3, tA⟩, ⟨4, tA⟩] ⟨3, tA⟩ hr3 (okA 3 (by decide)) (by decide)).mono ?_
  rintro e4 x4 ⟨v4, rfl, hs4, hm4⟩
  have e4 : signV [⟨3, tA⟩, ⟨4, tA⟩] ⟨3, tA⟩ = .agg #[.int .i64 3, .string tA, .int .i64 0] := by rfl
  have a4 : addL [⟨3, tA⟩, ⟨4, tA⟩] ⟨3, tA⟩ = [⟨3, tA⟩, ⟨4, tA⟩] := by decide
  rw [e4]
  rw [a4] at hs4
  have hc4 := hd3.trans hm4.below
  have p2 := hm4.signed hr3 p2
  have p3 := hm4.signed hr3 bx3
  have hl := lit_below x4 (.cells #[.int .i64 3, .string tA, .int .i64 0] 24)
  have hd4 := hc4.trans (hl.mono hc4.size)
  have hr4 := hs4.ext hl
  have bx4 := heap_alloc_new x4 (.cells #[.int .i64 3, .string tA, .int .i64 0] 24)
  have p2 := keep_new p2 hl
  have p3 := keep_new p3 hl
  clear e4 a4
  go_wp2_with fail
  generalize x4.alloc (.cells #[.int .i64 3, .string tA, .int .i64 0] 24) = w4 at hl hd4 hr4 p2 p3 bx4 ⊢
  refine (sign_any w4 w.heap.size g b _ [⟨3, tA⟩, ⟨4, tA⟩] ⟨5000, tA⟩ hr4 (okA 5000 (by decide)) (by decide)).mono ?_
  rintro e5 x5 ⟨v5, rfl, hs5, hm5⟩
  have e5 : signV [⟨3, tA⟩, ⟨4, tA⟩] ⟨5000, tA⟩ = .agg #[.int .i64 0, .string ⟨#[]⟩, .int .i64 0] := by rfl
  have a5 : addL [⟨3, tA⟩, ⟨4, tA⟩] ⟨5000, tA⟩ = [⟨3, tA⟩, ⟨4, tA⟩] := by decide
  rw [e5]
  rw [a5] at hs5
  have hc5 := hd4.trans hm5.below
  have p2 := hm5.signed hr4 p2
  have p3 := hm5.signed hr4 p3
  have p4 := hm5.signed hr4 bx4
  have hl := lit_below x5 (.cells #[.int .i64 0, .string ⟨#[]⟩, .int .i64 0] 24)
  have hd5 := hc5.trans (hl.mono hc5.size)
  have hr5 := hs5.ext hl
  have bx5 := heap_alloc_new x5 (.cells #[.int .i64 0, .string ⟨#[]⟩, .int .i64 0] 24)
  have p2 := keep_new p2 hl
  have p3 := keep_new p3 hl
  have p4 := keep_new p4 hl
  clear e5 a5
  obtain ⟨c20, c21, c22⟩ := cells3 p2
  obtain ⟨c30, c31, c32⟩ := cells3 p3
  obtain ⟨c40, c41, c42⟩ := cells3 p4
  obtain ⟨c50, c51, c52⟩ := cells3 bx5
  have q1 : ∀ w, (binOp .eql 24 (.agg #[.int .i64 3, .string tA, .int .i64 0]) (.agg #[.int .i64 3, .string tA, .int .i64 0])).run Try.prog w = .ok (.bool true) w := fun w => (eql_signed 3 3 tA tA 0 0 w).trans (by rfl)
  have q2 : ∀ w, (binOp .eql 24 (.agg #[.int .i64 4, .string tA, .int .i64 1]) (.agg #[.int .i64 4, .string tA, .int .i64 1])).run Try.prog w = .ok (.bool true) w := fun w => (eql_signed 4 4 tA tA 1 1 w).trans (by rfl)
  have q3 : ∀ w, (binOp .eql 24 (.agg #[.int .i64 0, .string ⟨#[]⟩, .int .i64 0]) (.agg #[.int .i64 0, .string ⟨#[]⟩, .int .i64 0])).run Try.prog w = .ok (.bool true) w := fun w => (eql_signed 0 0 ⟨#[]⟩ ⟨#[]⟩ 0 0 w).trans (by rfl)
  go_wp2_with fail
  refine (valid_any _ w.heap.size g b v5 _ ⟨3, tA⟩ 0 hr5 (okA 3 (by decide))).mono ?_
  rw [show validB [⟨3, tA⟩, ⟨4, tA⟩] ⟨3, tA⟩ 0 = true from by rfl]
  rintro e6 w6 ⟨rfl, hx6⟩
  have hr6 := hr5.ext hx6
  have hd6 := hd5.trans (hx6.mono hd5.size)
  go_wp2_with fail
  refine (valid_any _ w.heap.size g b v5 _ ⟨3, tA⟩ 1 hr6 (okA 3 (by decide))).mono ?_
  rw [show validB [⟨3, tA⟩, ⟨4, tA⟩] ⟨3, tA⟩ 1 = false from by rfl]
  rintro e7 w7 ⟨rfl, hx7⟩
  have hr7 := hr6.ext hx7
  have hd7 := hd6.trans (hx7.mono hd6.size)
  go_wp2_with fail
  refine (valid_any _ w.heap.size g b v5 _ ⟨3, tB⟩ 0 hr7 okb).mono ?_
  rw [show validB [⟨3, tA⟩, ⟨4, tA⟩] ⟨3, tB⟩ 0 = false from by rfl]
  rintro e8 w8 ⟨rfl, hx8⟩
  have hr8 := hr7.ext hx8
  have hd8 := hd7.trans (hx8.mono hd7.size)
  go_wp2_with fail
  refine (all_any _ w.heap.size g b v5 _ hr8 (by decide)).mono ?_
  rintro e9 w9 ⟨v9, rfl, own9, hx9⟩
  have hd9 := hd8.trans (hx9.mono hd8.size)
  obtain ⟨A9, c9, rfl, _, _, _⟩ := caps_of_own own9
  go_wp2_with fail
  go_ret
  exact ⟨by rfl, hd9⟩
end Go.Proofs.Ytappligfampdjaa
