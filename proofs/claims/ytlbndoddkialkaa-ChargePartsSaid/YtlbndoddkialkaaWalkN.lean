/-
  The walk of charge.Need, which ranges over slices.Backward: what it computes. Conditions: the reach of a slice.
-/
import Derived.RangeFuncNested
import Derived.RangeFuncBound
import Derived.RangeFuncCalls
import Derived.RangeFuncLeaves
import Derived.Shelf.Abstract
import Derived.Shelf.RegionOpen
import Derived.OwnWalkIn
import Derived.TacticsInMore
import Derived.LoopNIn
import Derived.LoopIn
import Derived.Test.YtlbndoddkialkaaWalkB
namespace Go.Proofs.Ytlbndoddkialkaa
open Go.RowKit Go.Shelf
attribute [local go_sem] Oper.semAt_some

/-- An index and a use whose numbers are right. -/
abbrev Come := { x : Nat × P2 // -1000000 ≤ x.2.a ∧ x.2.a ≤ x.2.b ∧ x.2.b ≤ 1000000 }
/-- What has come when k rounds are over: the uses from the last one on. -/
def came (us : List P2) (f : Fine us) (k : Nat) : List Come := (List.range k).map fun j => ⟨(us.length - 1 - j, us.getD (us.length - 1 - j) ⟨0, 0⟩), f.at_ _⟩
theorem came_length (us : List P2) (f : Fine us) (k : Nat) : (came us f k).length = k := by simp [came]
theorem came_succ (us : List P2) (f : Fine us) (k : Nat) : came us f (k + 1) = came us f k ++ [⟨(us.length - 1 - k, us.getD (us.length - 1 - k) ⟨0, 0⟩), f.at_ _⟩] := by simp [came, List.range_succ]
def encs (x : Come) : Array Value := #[.int .i64 (x.1.1 : Int), .agg #[.int .i64 x.1.2.a, .int .i64 x.1.2.b]]

/-- What a round keeps: what lay below n₀, and the box Bs. -/
def Kept (n₀ Bs : Nat) (W W' : World) : Prop := Below n₀ W W' ∧ W'.cell? ⟨Bs, 0, none⟩ = W.cell? ⟨Bs, 0, none⟩
theorem Kept.refl (n₀ Bs : Nat) (W : World) : Kept n₀ Bs W W := ⟨Below.refl _ _, rfl⟩
theorem Kept.trans {n₀ Bs : Nat} {A B C : World} (h : Kept n₀ Bs A B) (k : Kept n₀ Bs B C) : Kept n₀ Bs A C := ⟨h.1.trans k.1, k.2.trans h.2⟩
theorem kept_b {n₀ Bs : Nat} {w : World} (hn : n₀ ≤ w.heap.size) (hB : Bs < w.heap.size) (W : World) (l : Nat) (o o' : Obj) (hl : w.heap.size ≤ l) (h : W.heap[l]? = some o) (h1 : o.isCells = false) (h2 : o.isWalk = false) : Kept n₀ Bs W (W.putObj l o') :=
  ⟨belowK_b hn W l o o' hl h h1 h2, World.cell?_of_block (a := ⟨Bs, 0, none⟩) (World.putObj_heap_other (by simp; omega))⟩

set_option maxRecDepth 100000 in
set_option maxHeartbeats 2000000 in
theorem backward1_in (F : Fence) (n : Nat) (h7 : F.fn 19) (hro : F.round = none) (hn : 1 ≤ n) (l Bs n₀ : Nat) (A : Option Addr) (c : Nat) (us : List P2) (f : Fine us) (hlen : us.length ≤ 1000000000) (J Jx : List Come → World → Prop)
    (hY : ∀ pre x W, J pre W → pre.length < us.length → YieldAt F (n - 1) Try.prog l (encs x) W fun e W' =>
      (e = .returned (.bool true) ∧ J (pre ++ [x]) W' ∧ Kept n₀ Bs W W') ∨ (e = .returned (.bool false) ∧ Jx (pre ++ [x]) W'))
    (W : World) (hBs : W.cell? ⟨Bs, 0, none⟩ = some (.slice A us.length c)) (hc : Two W n₀ A us) (h0 : J [] W) :
    CallsIn F n Try.prog 19 #[.func (.yield l) #[] #[], .pointer (some ⟨Bs, 0, none⟩)] W fun e W' => (∃ v, e = .returned v) ∧
      ((∃ ys, ys = came us f us.length ∧ J ys W') ∨ (∃ pre, (∃ k, k ≤ us.length ∧ pre = came us f k) ∧ Jx pre W')) := by
  refine callsIn_of_wp Try.func19 rfl h7 ?_ hro
  simp only [Try.ntmps19, List.size_toArray, List.length_cons, List.length_nil, Nat.reduceAdd, Nat.reduceSub, Array.replicate_succ, Array.replicate_zero, List.push_toArray, List.append_toArray, List.nil_append, List.cons_append]
  have wl : IntKind.i64.wrap ((us.length : Int) - 1) = (us.length : Int) - 1 := IntWalk.i64_in _ (by omega)
  gi_wp2
  clear wl
  gi_loopw [3] (fun i wr => ∃ k : Nat, k ≤ us.length ∧ i = .int .i64 ((us.length : Int) - 1 - k) ∧ J (came us f k) wr ∧ Kept n₀ Bs W wr)
    (fun i _ => (intOf i + 1).toNat)
  case atStart => exact ⟨0, Nat.zero_le _, by simp, h0, Kept.refl _ _ _⟩
  case round =>
    obtain ⟨k, hk, rfl, hJs, hnx⟩ := hrel
    have hbs := hnx.2.trans hBs
    by_cases hlt : k < us.length
    · have hx := f.at_ (us.length - 1 - k)
      obtain ⟨fn, tmps, assign, body, hy, hR⟩ := hY _ ⟨(us.length - 1 - k, us.getD (us.length - 1 - k) ⟨0, 0⟩), hx⟩ wr hJs (by rw [came_length]; exact hlt)
      have hm : us.length - 1 - k < us.length := by omega
      rw [came_succ us f k |>.symm] at hR
      have hi : (us.length : Int) - 1 - k = ((us.length - 1 - k : Nat) : Int) := by omega
      simp only [encs, getD_eq hm] at hy
      rw [hi]
      generalize us.length - 1 - k = m at hm hy hi
      obtain ⟨b, o, rfl, hb, e0, e1⟩ := (hc.below hnx.1).at_ hm
      have i0' : (0 : Int) ≤ m := by omega
      have i1' : (m : Int) < (us.length : Int) := by omega
      have wm : IntKind.i64.wrap ((m : Int) - 1) = (m : Int) - 1 := IntWalk.i64_in _ (by omega)
      gi_wp2
      refine hR.mono ?_
      rintro e W3 (⟨rfl, hJ3, hk3⟩ | ⟨rfl, hJx3⟩)
      · gi_wp2
        go_roundw
        case rel => exact ⟨k + 1, by omega, by first | (rw [← hi]; done) | (rw [← hi]; go_num), hJ3, hnx.trans hk3⟩
        case measure => simp [intOf] <;> omega
      · gi_wp2
        refine bodyPost_ret (results_none rfl _ _ _) rfl ?_
        exact ⟨⟨_, rfl⟩, .inr ⟨_, ⟨k + 1, by omega, rfl⟩, hJx3⟩⟩
    · obtain rfl : k = us.length := by omega
      have hi : (us.length : Int) - 1 - us.length = -1 := by omega
      rw [hi]
      gi_wp2
      go_end0
      exact ⟨⟨_, rfl⟩, .inl ⟨_, rfl, hJs⟩⟩

set_option maxHeartbeats 1000000 in
theorem backward_in (F : Fence) (n : Nat) (h5 : F.fn 16) (hro : F.round = none) (a : Option Addr) (len cap : Nat) (w : World) :
    CallsIn F n Try.prog 16 #[.slice a len cap] w fun e w' => e = .returned (.func (.func 19) #[] #[.pointer (some ⟨w.heap.size, 0, none⟩)]) ∧ w' = w.alloc (.cells #[.slice a len cap] 22) := by
  refine callsIn_of_wp Try.func16 rfl h5 ?_ hro
  simp only [Try.ntmps16, List.size_toArray, List.length_cons, List.length_nil, Nat.reduceAdd, Nat.reduceSub, Array.replicate_succ, Array.replicate_zero, List.push_toArray, List.append_toArray, List.nil_append, List.cons_append]
  gi_wp2
  go_ret
  exact ⟨rfl, rfl⟩

theorem backward_stops (F : Fence) (n : Nat) (h7 : F.fn 19) (hro : F.round = none) (hn : 1 ≤ n) (Bs n₀ : Nat) (A : Option Addr) (c : Nat) (us : List P2) (f : Fine us) (hlen : us.length ≤ 1000000000) (w : World) (hBn : Bs < w.heap.size) (hn₀ : n₀ ≤ w.heap.size)
    (hBs : w.cell? ⟨Bs, 0, none⟩ = some (.slice A us.length c)) (hc : Two w n₀ A us) :
    SeqStopsK F n Try.prog 19 #[.pointer (some ⟨Bs, 0, none⟩)] encs (Kept n₀ Bs) (fun ys => ys = came us f us.length) (fun pre => ∃ k, k ≤ us.length ∧ pre = came us f k) us.length w := fun l J Jx W hW _ _ hY h0 =>
  backward1_in F n h7 hro hn l Bs n₀ A c us f hlen J Jx hY W ((hW.cell (p := ⟨Bs, 0, none⟩) hBn).trans hBs) (hc.below (hW.mono hn₀)) h0

/-! ### Need -/
def mx (x : Int) : Int := if 0 < x then x else 0
/-- What the last k uses need. -/
def needAt (us : List P2) : Nat → Int
  | 0 => 0
  | k + 1 => mx (needAt us k + (us.getD (us.length - 1 - k) ⟨0, 0⟩).b)
def firstNeed (F : Int) (us : List P2) : Option Nat := (List.range us.length).find? fun k => decide (F < needAt us (k + 1))
def needN (F : Int) (us : List P2) : Int := if rightB F us then (match firstNeed F us with | none => needAt us us.length | some _ => 0) else 0
def needE (F : Int) (us : List P2) : Int := if rightB F us then (match firstNeed F us with | none => 0 | some _ => 28) else 1
def needF (l : List Come) : Int := l.foldl (fun n x => mx (n + x.1.2.b)) 0
theorem needF_snoc (l : List Come) (x : Come) : needF (l ++ [x]) = mx (needF l + x.1.2.b) := by simp [needF]
theorem needF_came (us : List P2) (f : Fine us) (k : Nat) : needF (came us f k) = needAt us k := by
  induction k with
  | zero => rfl
  | succ k ih => rw [came_succ, needF_snoc, ih]; rfl
theorem came_take (us : List P2) (f : Fine us) {k n : Nat} (h : k ≤ n) : came us f k <+: came us f n := by
  induction h with
  | refl => exact List.prefix_refl _
  | step _ ih => exact ih.trans (by rw [came_succ]; exact List.prefix_append _ _)
theorem mx_nn (x : Int) : 0 ≤ mx x := by unfold mx; split <;> omega
/-- A block that holds an object of cells. -/
def Held (W : World) (B : Nat) (o : Obj) : Prop := W.heap[B]? = some o
theorem held_own {β : Type} (B : Nat) (o : Obj) (hc : o.isCells = true) : Own (fun (_ : β) W => Held W B o) := fun s X Y row hs hg hrow =>
  (hg.block B (Array.getElem?_eq_some_iff.1 hs).1 (fun e' => by obtain ⟨o', ho, hc'⟩ := hrow B e'.symm; rw [show X.heap[B]? = _ from hs] at ho; cases ho; rw [hc] at hc'; cases hc')).trans hs
abbrev useBox (u : P2) : Obj := .cells #[.int .i64 u.a, .int .i64 u.b] 35

set_option maxRecDepth 100000 in
set_option maxHeartbeats 4000000 in
theorem need_any (F : Int) (A : Option Addr) (c : Nat) (us : List P2) (w : World) (h : Two w w.heap.size A us) :
    Calls Try.prog 10 #[.int .i64 F, .slice A us.length c] w fun e W' => e = .returned (.tuple #[.int .i64 (needN F us), .int .i64 (needE F us)]) ∧ Below w.heap.size w W' := by
  refine (callsIn_wide (n := 6)).1 ?_
  refine callsIn_of_wp_marks Try.func10 rfl trivial ?_ rfl
  simp only [Try.ntmps10, List.size_toArray, List.length_cons, List.length_nil, Nat.reduceAdd, Nat.reduceSub, Array.replicate_succ, Array.replicate_zero, List.push_toArray, List.append_toArray, List.nil_append, List.cons_append]
  have hB3 : Below w.heap.size w (((w.alloc (.cells #[.int .i64 F] 3)).alloc (.cells #[.int .i64 0] 3)).alloc (.cells #[.int .i64 0] 25)) := (((Below.refl _ w).alloc (Nat.le_refl _) _).alloc (by simp) _).alloc (by simp; omega) _
  have bF := ((Boxed.new w 3 (.int .i64 F)).alloc (.cells #[.int .i64 0] 3)).alloc (.cells #[.int .i64 0] 25)
  have bN := (Boxed.new (w.alloc (.cells #[.int .i64 F] 3)) 3 (.int .i64 0)).alloc (.cells #[.int .i64 0] 25)
  have bE := Boxed.new ((w.alloc (.cells #[.int .i64 F] 3)).alloc (.cells #[.int .i64 0] 3)) 25 (.int .i64 0)
  simp only [size_alloc] at bN bE
  have hsz : (((w.alloc (.cells #[.int .i64 F] 3)).alloc (.cells #[.int .i64 0] 3)).alloc (.cells #[.int .i64 0] 25)).heap.size = w.heap.size + 3 := by simp
  have hT := two_ext h hB3
  gi_wp2_with fail
  generalize ((w.alloc (.cells #[.int .i64 F] 3)).alloc (.cells #[.int .i64 0] 3)).alloc (.cells #[.int .i64 0] 25) = W0 at hB3 bF bN bE hsz hT ⊢
  refine ⟨trivial, (callsIn_wide.2 (right_any _ _ _ _ _ hT)).mono ?_⟩
  rintro e w1 ⟨rfl, hx⟩
  have hB1 := hB3.trans (hx.mono (by omega))
  have bF1 : Boxed w1 w.heap.size 3 (.int .i64 F) := (hx.block _ (by omega)).trans bF
  have bN1 : Boxed w1 (w.heap.size + 1) 3 (.int .i64 0) := (hx.block _ (by omega)).trans bN
  have bE1 : Boxed w1 (w.heap.size + 1 + 1) 25 (.int .i64 0) := (hx.block _ (by omega)).trans bE
  have hs1 := hx.size
  have hT1 := two_ext hT hx
  clear bF bN bE hB3 hx hT
  cases hr : rightB F us
  · have HR := Lib.hid hr
    clear hr
    have c1 := bN1.cell
    have c2 := bE1.cell
    have f1 := bN1.frozen
    have f2 := bE1.frozen
    gi_wp2_with fail
    have r1 := ((bN1.set (.int .i64 0)).other (B' := w.heap.size + 1 + 1) (by omega) (.int .i64 1)).cell
    have r2 := ((bE1.other (B' := w.heap.size + 1) (by omega) (.int .i64 0)).set (.int .i64 1)).cell
    refine ⟨.tuple #[.int .i64 0, .int .i64 1], ?_, ?_, ?_⟩
    · simp [results, Try.f10, go_sem, r1, r2]
    · simp [needN, needE, HR.out]
    · exact (hB1.setCell (p := ⟨w.heap.size + 1, 0, none⟩) (by simp) _).setCell (p := ⟨w.heap.size + 1 + 1, 0, none⟩) (by simp; omega) _
  · obtain ⟨f0, f1, hn, fu⟩ := right_parts hr
    have HR := Lib.hid hr
    clear hr
    gi_wp2_with fail
    refine ⟨trivial, (backward_in Fence.wide _ trivial rfl _ _ _ _).mono ?_⟩
    rintro e w2 ⟨rfl, rfl⟩
    have bX2 := (Boxed.new w1 3 (.int .i64 0)).alloc (.cells #[.slice A us.length c] 22)
    have bF2 := (bF1.alloc (.cells #[.int .i64 0] 3)).alloc (.cells #[.slice A us.length c] 22)
    have bN2 := (bN1.alloc (.cells #[.int .i64 0] 3)).alloc (.cells #[.slice A us.length c] 22)
    have bE2 := (bE1.alloc (.cells #[.int .i64 0] 3)).alloc (.cells #[.slice A us.length c] 22)
    have bS2 := Boxed.new (w1.alloc (.cells #[.int .i64 0] 3)) 22 (.slice A us.length c)
    have hB2 : Below w.heap.size w ((w1.alloc (.cells #[.int .i64 0] 3)).alloc (.cells #[.slice A us.length c] 22)) := (hB1.alloc hB1.size _).alloc (by simp; omega) _
    have hs2 : ((w1.alloc (.cells #[.int .i64 0] 3)).alloc (.cells #[.slice A us.length c] 22)).heap.size = w1.heap.size + 2 := by simp
    simp only [size_alloc] at bS2 ⊢
    gi_wp2_with fail
    generalize (w1.alloc (.cells #[.int .i64 0] 3)).alloc (.cells #[.slice A us.length c] 22) = W2 at bX2 bF2 bN2 bE2 bS2 hB2 hs2 ⊢
    clear bF1 bN1 bE1 hB1 hT1
    refine wpIn_rangeFunc_ownH rfl (by decide) (gf := 19) (lb := #[.pointer (some ⟨w1.heap.size + 1, 0, none⟩)]) rfl trivial (enters_of Try.func19 (by kernel_rfl) rfl)
      (backward_stops Fence.wide _ trivial rfl (by decide) (w1.heap.size + 1) w.heap.size A c us fu (by omega) W2 (by omega) hB2.size bS2.cell (h.below hB2)) Kept.trans (kept_b hB2.size (by omega)) (Below.refl _ _) (fun _ => rfl)
      (fun pre W => ((∀ q, q <+: pre → needF q ≤ F) ∧ 0 ≤ needF pre) ∧ (Boxed W w1.heap.size 3 (.int .i64 (needF pre)) ∧ Boxed W w.heap.size 3 (.int .i64 F) ∧ Boxed W (w.heap.size + 1) 3 (.int .i64 0) ∧ Boxed W (w.heap.size + 1 + 1) 25 (.int .i64 0) ∧ Boxed W (w1.heap.size + 1) 22 (.slice A us.length c)) ∧ Below w.heap.size w W)
      (fun cd pre W => (cd = .ret ∧ F < needF pre) ∧ (Boxed W (w.heap.size + 1) 3 (.int .i64 0) ∧ Boxed W (w.heap.size + 1 + 1) 25 (.int .i64 28)) ∧ Below w.heap.size w W)
      (OwnFrom.and (ownFrom_pure _ _) (OwnFrom.and (OwnFrom.and (Own.from (boxed_own _ _ _) _) (OwnFrom.and (Own.from (boxed_own _ _ _) _) (OwnFrom.and (Own.from (boxed_own _ _ _) _) (OwnFrom.and (Own.from (boxed_own _ _ _) _) (Own.from (boxed_own _ _ _) _))))) (ownFrom_below (Nat.le_refl _) (by omega))))
      (fun cd => OwnFrom.and (ownFrom_pure _ _) (OwnFrom.and (OwnFrom.and (Own.from (boxed_own _ _ _) _) (Own.from (boxed_own _ _ _) _)) (ownFrom_below (Nat.le_refl _) (by omega))))
      ⟨⟨fun q hq => by rw [List.prefix_nil.1 hq]; exact f0, Int.le_refl _⟩, ⟨bX2, bF2, bN2, bE2, bS2⟩, hB2⟩
      (fun x a' W => ∃ Bx, w1.heap.size + 1 < Bx ∧ Held W Bx (useBox x.1.2) ∧ a' = { tmps := #[.int .i64 F, .slice A us.length c, .pointer (some ⟨w.heap.size, 0, none⟩), undef, .pointer (some ⟨w.heap.size + 1, 0, none⟩), .pointer (some ⟨w.heap.size + 1 + 1, 0, none⟩), .pointer (some ⟨w1.heap.size, 0, none⟩), undef, .pointer (some ⟨Bx, 0, none⟩), .int .i64 F, .slice A us.length c, .bool true, .bool false, .slice A us.length c, .func (.func 19) #[] #[.pointer (some ⟨w1.heap.size + 1, 0, none⟩)], .int .i64 (x.1.1 : Int), .agg #[.int .i64 x.1.2.a, .int .i64 x.1.2.b], undef, undef, undef, undef, undef, undef, undef, undef, undef], defers := [] })
      (fun x a' _ X Y row hs hg hr => by obtain ⟨Bx, h1, h2, h3⟩ := hs; exact ⟨Bx, h1, held_own Bx (useBox x.1.2) rfl () X Y row h2 hg (fun r e => (hr r e).2), h3⟩)
      ?assign ?body ?done ?stop
    case assign =>
      rintro l pre x W K ⟨hp, ⟨b1, b2, b3, b4, b5⟩, hB⟩ hK
      simp only [encs]
      gi_wp2
      exact hK _ _ ((KeepsOthers.alloc _ _).from _) ⟨(Below.refl _ W).alloc hB.size _, World.cell?_alloc_past _ _ _ (by have := b5.lt; simp; omega)⟩ ⟨hp, ⟨b1.alloc _, b2.alloc _, b3.alloc _, b4.alloc _, b5.alloc _⟩, hB.alloc hB.size _⟩ ⟨W.heap.size, b5.lt, World.alloc_heap_new W _, rfl⟩
    case body =>
      rintro l pre x a' W hl ⟨r, hr⟩ ⟨hp, ⟨b1, b2, b3, b4, b5⟩, hB⟩ ⟨Bx, hBx, bX, rfl⟩ hlt
      have hx := x.2
      have hF0 := hp.1 pre (List.prefix_refl _)
      have hP0 := hp.2
      have wv : IntKind.i64.wrap (needF pre + x.1.2.b) = needF pre + x.1.2.b := IntWalk.i64_in _ (by omega)
      have hv : (if 0 < needF pre + x.1.2.b then needF pre + x.1.2.b else 0) = needF (pre ++ [x]) := by rw [needF_snoc]; rfl
      have hnn : 0 ≤ needF (pre ++ [x]) := by rw [needF_snoc]; exact mx_nn _
      generalize hnx : needF (pre ++ [x]) = nx at hv hnn
      have HNX := Lib.hid hnx
      clear hnx
      have cX := b1.cell
      have fX := b1.frozen
      have cF := b2.cell
      have c3 := b3.cell
      have f3 := b3.frozen
      have c4 := b4.cell
      have f4 := b4.frozen
      have u1 : W.cell? ⟨Bx, 1, none⟩ = some (.int .i64 x.1.2.b) := by
        rw [World.cell?]
        rw [show W.heap[Bx]? = _ from bX]
        rfl
      have hne : w.heap.size ≠ w1.heap.size := by omega
      have hP := hp.1
      by_cases hF : F < nx
      · gi_wp2
        refine ⟨((KeepsOthers.setCell _ _ _).from _).trans (((KeepsOthers.setCell _ _ _).from _).trans ((KeepsOthers.setCell _ _ _).from _)), ⟨⟨rfl, by rw [HNX.out]; exact hF⟩, ⟨?_, ?_⟩, ?_⟩⟩
        · exact ((b3.other (B' := w1.heap.size) (by omega) _).set _).other (by omega) _
        · exact ((b4.other (B' := w1.heap.size) (by omega) _).other (B' := w.heap.size + 1) (by omega) _).set _
        · exact ((hB.setCell (p := ⟨w1.heap.size, 0, none⟩) (by simp; omega) _).setCell (p := ⟨w.heap.size + 1, 0, none⟩) (by simp) _).setCell (p := ⟨w.heap.size + 1 + 1, 0, none⟩) (by simp; omega) _
      · have hF' := decide_eq_false hF
        gi_wp2
        have b5' := b5.other (B' := w1.heap.size) (by omega) (.int .i64 nx)
        refine ⟨(KeepsOthers.setCell _ _ _).from _, ⟨(Below.refl _ W).setCell (p := ⟨w1.heap.size, 0, none⟩) (by simp; omega) _, b5'.cell.trans b5.cell.symm⟩, ⟨⟨fun q hq => ?_, by rw [HNX.out]; exact hnn⟩, ⟨?_, b2.other (by omega) _, b3.other (by omega) _, b4.other (by omega) _, b5'⟩, hB.setCell (p := ⟨w1.heap.size, 0, none⟩) (by simp; omega) _⟩⟩
        · rcases List.prefix_concat_iff.1 hq with rfl | hq'
          · rw [HNX.out]; omega
          · exact hP q hq'
        · rw [HNX.out]; exact b1.set _
    case done =>
      rintro D zs W hD rfl ⟨hp, ⟨b1, b2, b3, b4, b5⟩, hB⟩ hK
      have cX := b1.cell
      have c3 := b3.cell
      have f3 := b3.frozen
      have c4 := b4.cell
      have f4 := b4.frozen
      gi_wp2
      have hK' := ((KeepsOthers.setCell W ⟨w.heap.size + 1, 0, none⟩ (.int .i64 (needF (came us fu us.length)))).trans (KeepsOthers.setCell _ ⟨w.heap.size + 1 + 1, 0, none⟩ (.int .i64 0))).same D _ hK rfl
      have r1 := ((b3.set (.int .i64 (needF (came us fu us.length)))).other (B' := w.heap.size + 1 + 1) (by omega) (.int .i64 0)).cell
      have r2 := ((b4.other (B' := w.heap.size + 1) (by omega) (.int .i64 (needF (came us fu us.length)))).set (.int .i64 0)).cell
      have q1 := cell_kept r1 (grownBy_putObj' _ D (.deferred none)) (fun r e => by cases e; exact ⟨_, hK', rfl⟩)
      have q2 := cell_kept r2 (grownBy_putObj' _ D (.deferred none)) (fun r e => by cases e; exact ⟨_, hK', rfl⟩)
      refine ⟨by simp, .inl ⟨_, _, rfl, run_takeDeferred hK', ?_⟩⟩
      have hf : firstNeed F us = none := find_range_none (fun j hj => by
        have := hp.1 _ (came_take us fu (show j + 1 ≤ us.length by omega))
        rw [needF_came] at this
        exact decide_eq_false (by omega))
      refine ⟨.tuple #[.int .i64 (needF (came us fu us.length)), .int .i64 0], ?_, ?_, ?_⟩
      · simp [results, Try.f10, go_sem, q1, q2]
      · simp [needN, needE, HR.out, hf, needF_came]
      · exact ((hB.setCell (p := ⟨w.heap.size + 1, 0, none⟩) (by simp) _).setCell (p := ⟨w.heap.size + 1 + 1, 0, none⟩) (by simp; omega) _).trans (belowK_b (w := w) (Nat.le_refl _) _ D _ _ (by omega) hK' rfl rfl)
    case stop =>
      rintro D cd pre W hD ⟨k, hk, rfl⟩ ⟨⟨rfl, hlt⟩, ⟨b3, b4⟩, hB⟩ hK
      gi_wp2
      have q1 := cell_kept b3.cell (grownBy_putObj' _ D (.deferred none)) (fun r e => by cases e; exact ⟨_, hK, rfl⟩)
      have q2 := cell_kept b4.cell (grownBy_putObj' _ D (.deferred none)) (fun r e => by cases e; exact ⟨_, hK, rfl⟩)
      refine ⟨by simp, .inl ⟨_, _, rfl, run_takeDeferred hK, ?_⟩⟩
      rw [needF_came] at hlt
      have hf : ∃ j, firstNeed F us = some j := by
        cases k with
        | zero => simp [needAt] at hlt; omega
        | succ k =>
          cases hf : firstNeed F us with
          | some j => exact ⟨j, rfl⟩
          | none => exact absurd (List.find?_eq_none.1 hf k (List.mem_range.2 (by omega))) (by simpa using hlt)
      obtain ⟨j, hf⟩ := hf
      refine ⟨.tuple #[.int .i64 0, .int .i64 28], ?_, ?_, ?_⟩
      · simp [results, Try.f10, go_sem, q1, q2]
      · simp [needN, needE, HR.out, hf]
      · exact hB.trans (belowK_b (w := w) (Nat.le_refl _) W D _ _ (by omega) hK rfl rfl)

set_option maxHeartbeats 1000000 in
theorem rneed_any (F : Int) (A : Option Addr) (c : Nat) (us : List P2) (w : World) (h : Two w w.heap.size A us) (hlen : us.length ≤ 9223372036854775807) :
    Calls Try.prog 11 #[.int .i64 F, .slice A us.length c] w fun e W' => e = .returned (.tuple #[.int .i64 (needN F us), .int .i64 (needE F us)]) ∧ Below w.heap.size w W' := by
  go_enter Try.func11, Try.ntmps11
  go_wp2_with fail
  refine (rright_any _ _ _ _ _ h hlen).mono ?_
  rintro e w1 ⟨rfl, hb1⟩
  cases hr : rightB F us
  · have HR := Lib.hid hr
    clear hr
    go_wp2_with fail
    go_ret2
    exact ⟨by simp [needN, needE, HR.out], hb1⟩
  · obtain ⟨f0, f1, hn, fu⟩ := right_parts hr
    have HR := Lib.hid hr
    clear hr
    have wl : IntKind.i64.wrap ((us.length : Int) - 1) = (us.length : Int) - 1 := IntWalk.i64_in _ (by omega)
    go_wp2_with fail
    clear wl
    go_loopw [6, 7] (fun v i wr => ∃ k : Nat, k ≤ us.length ∧ i = .int .i64 ((us.length : Int) - 1 - k) ∧ v = .int .i64 (needAt us k) ∧ 0 ≤ needAt us k ∧ needAt us k ≤ F ∧ (∀ j, j < k → decide (F < needAt us (j + 1)) = false) ∧ wr = w1)
      (fun _ i _ => (intOf i + 1).toNat)
    case atStart => exact ⟨0, Nat.zero_le _, by simp, rfl, Int.le_refl _, f0, fun j h => absurd h (by omega), rfl⟩
    case round =>
      obtain ⟨k, hk, rfl, rfl, hk0, hkF, hall, rfl⟩ := hrel
      have HA := Lib.hid hall
      clear hall
      by_cases hlt : k < us.length
      · have hx := fu.at_ (us.length - 1 - k)
        have hm : us.length - 1 - k < us.length := by omega
        have hi : (us.length : Int) - 1 - k = ((us.length - 1 - k : Nat) : Int) := by omega
        have hv : (if 0 < needAt us k + (us.getD (us.length - 1 - k) ⟨0, 0⟩).b then needAt us k + (us.getD (us.length - 1 - k) ⟨0, 0⟩).b else 0) = needAt us (k + 1) := rfl
        have hnn : 0 ≤ needAt us (k + 1) := mx_nn _
        generalize hnx : needAt us (k + 1) = nx at hv hnn
        have HNX := Lib.hid hnx
        clear hnx
        rw [hi]
        rw [getD_eq hm] at hv hx
        generalize us.length - 1 - k = m at hm hv hi hx
        obtain ⟨b, o, rfl, hb, e0, e1⟩ := (h.below hb1).at_ hm
        have i0' : (0 : Int) ≤ m := by omega
        have i1' : (m : Int) < (us.length : Int) := by omega
        have wm : IntKind.i64.wrap ((m : Int) - 1) = (m : Int) - 1 := IntWalk.i64_in _ (by omega)
        have wv : IntKind.i64.wrap (needAt us k + us[m].b) = needAt us k + us[m].b := IntWalk.i64_in _ (by omega)
        by_cases hF : F < nx
        · go_wp2_with fail
          go_ret2
          have hf : firstNeed F us = some k := find_range_some (by omega) (by rw [HNX.out]; exact decide_eq_true hF) HA.out
          exact ⟨by simp [needN, needE, HR.out, hf], hb1⟩
        · have hF' := decide_eq_false hF
          go_wp2_with fail
          go_roundw
          case rel =>
            refine ⟨k + 1, by omega, by first | (rw [← hi]; done) | (rw [← hi]; go_num), by rw [HNX.out], by rw [HNX.out]; exact hnn, by rw [HNX.out]; omega, fun j hj => ?_, by first | rfl | trivial⟩
            by_cases e : j = k
            · subst e; rw [HNX.out]; exact hF'
            · exact HA.out j (by omega)
          case measure => simp [intOf] <;> omega
      · obtain rfl : k = us.length := by omega
        have hi : (us.length : Int) - 1 - us.length = -1 := by omega
        rw [hi]
        go_wp2_with fail
        go_ret2
        have hf : firstNeed F us = none := find_range_none HA.out
        exact ⟨by simp [needN, needE, HR.out, hf], hb1⟩
end Go.Proofs.Ytlbndoddkialkaa
