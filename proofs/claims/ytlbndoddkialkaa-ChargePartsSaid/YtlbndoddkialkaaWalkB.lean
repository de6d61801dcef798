/-
  The walks of charge.Run and the reference's Run, Right and Ints: what each computes. Conditions: none.
-/
import Derived.Test.YtlbndoddkialkaaWalkA
namespace Go.Proofs.Ytlbndoddkialkaa
open Go.RowKit

def mn (x y : Int) : Int := if y < x then y else x
theorem mn_le {x y : Int} : mn x y ≤ x ∧ mn x y ≤ y ∧ (mn x y = x ∨ mn x y = y) := by unfold mn; split <;> omega
/-- the least charge after k legs -/
def lowAt (F s : Int) (us : List P2) : Nat → Int
  | 0 => s
  | k + 1 => mn F (lowAt F s us k - (us.getD k ⟨0, 0⟩).b)
/-- the greatest charge after k legs -/
def highAt (F s : Int) (us : List P2) : Nat → Int
  | 0 => s
  | k + 1 => mn F (highAt F s us k - (us.getD k ⟨0, 0⟩).a)
def lows (F s : Int) (us : List P2) (n : Nat) : List Int := (List.range n).map fun i => lowAt F s us (i + 1)
def highs (F s : Int) (us : List P2) (n : Nat) : List Int := (List.range n).map fun i => highAt F s us (i + 1)
theorem lows_length (F s : Int) (us : List P2) (n : Nat) : (lows F s us n).length = n := by simp [lows]
theorem highs_length (F s : Int) (us : List P2) (n : Nat) : (highs F s us n).length = n := by simp [highs]
theorem lows_succ (F s : Int) (us : List P2) (n : Nat) : ints (lows F s us n) ++ [.int .i64 (lowAt F s us (n + 1))] = ints (lows F s us (n + 1)) := by simp [lows, ints, List.range_succ]
theorem highs_succ (F s : Int) (us : List P2) (n : Nat) : ints (highs F s us n) ++ [.int .i64 (highAt F s us (n + 1))] = ints (highs F s us (n + 1)) := by simp [highs, ints, List.range_succ]
def fails (F s : Int) (us : List P2) (i : Nat) : Bool := decide (lowAt F s us (i + 1) < 0)
def firstLow (F s : Int) (us : List P2) : Option Nat := (List.range us.length).find? (fails F s us)
def okRun (F s : Int) (us : List P2) : Bool := rightB F us && decide (0 ≤ s) && decide (s ≤ F)
def runE (F s : Int) (us : List P2) : Int := if okRun F s us then (match firstLow F s us with | none => 0 | some _ => 28) else 1
def runI (F s : Int) (us : List P2) : Int := if okRun F s us then (match firstLow F s us with | none => 0 | some i => i) else 0
def runL (F s : Int) (us : List P2) : List Int := if okRun F s us then (match firstLow F s us with | none => lows F s us us.length | some _ => []) else []
def runH (F s : Int) (us : List P2) : List Int := if okRun F s us then (match firstLow F s us with | none => highs F s us us.length | some _ => []) else []

theorem runL_le (F s : Int) (us : List P2) : (runL F s us).length ≤ us.length := by
  unfold runL
  split
  · split
    · rw [lows_length]; exact Nat.le_refl _
    · exact Nat.zero_le _
  · exact Nat.zero_le _
theorem runH_le (F s : Int) (us : List P2) : (runH F s us).length ≤ us.length := by
  unfold runH
  split
  · split
    · rw [highs_length]; exact Nat.le_refl _
    · exact Nat.zero_le _
  · exact Nat.zero_le _

/-- the numbers are right -/
def Fine (l : List P2) : Prop := ∀ x ∈ l, -1000000 ≤ x.a ∧ x.a ≤ x.b ∧ x.b ≤ 1000000
theorem Fine.at_ {l : List P2} (h : Fine l) (k : Nat) : -1000000 ≤ (l.getD k ⟨0, 0⟩).a ∧ (l.getD k ⟨0, 0⟩).a ≤ (l.getD k ⟨0, 0⟩).b ∧ (l.getD k ⟨0, 0⟩).b ≤ 1000000 := by
  by_cases hk : k < l.length
  · have := h l[k] (List.getElem_mem _)
    simpa [List.getD, List.getElem?_eq_getElem hk] using this
  · simp [List.getD, List.getElem?_eq_none (Nat.le_of_not_lt hk)]
theorem fine_of_any {l : List P2} (h : l.any badUse = false) : Fine l := fun x hx => by
  have := List.any_eq_false.1 h x hx
  simp [badUse] at this
  omega
theorem right_parts {F : Int} {us : List P2} (h : rightB F us = true) : 0 ≤ F ∧ F ≤ 1000000 ∧ us.length ≤ 200 ∧ Fine us := by
  simp only [rightB, Bool.and_eq_true, decide_eq_true_eq, Bool.not_eq_true'] at h
  obtain ⟨⟨⟨h1, h2⟩, h3⟩, h4⟩ := h
  exact ⟨h1, h2, h3, fine_of_any h4⟩
theorem low_le_high {F s : Int} {us : List P2} (f : Fine us) (k : Nat) : lowAt F s us k ≤ highAt F s us k := by
  induction k with
  | zero => exact Int.le_refl _
  | succ k ih =>
    have := f.at_ k
    have := mn_le (x := F) (y := lowAt F s us k - (us.getD k ⟨0, 0⟩).b)
    have := mn_le (x := F) (y := highAt F s us k - (us.getD k ⟨0, 0⟩).a)
    simp only [lowAt, highAt]
    omega
theorem high_le {F s : Int} {us : List P2} (hs : s ≤ F) (k : Nat) : highAt F s us k ≤ F := by
  cases k with
  | zero => exact hs
  | succ k => exact mn_le.1
theorem low_le {F s : Int} {us : List P2} (hs : s ≤ F) (k : Nat) : lowAt F s us k ≤ F := by
  cases k with
  | zero => exact hs
  | succ k => exact mn_le.1
theorem getD_eq {l : List P2} {k : Nat} (hk : k < l.length) : l.getD k ⟨0, 0⟩ = l[k] := by simp [List.getD, hk]
theorem low_succ {F s : Int} {us : List P2} {k : Nat} (h : k < us.length) : (if lowAt F s us k - us[k].b < F then lowAt F s us k - us[k].b else F) = lowAt F s us (k + 1) := by rw [lowAt, getD_eq h]; rfl
theorem high_succ {F s : Int} {us : List P2} {k : Nat} (h : k < us.length) : (if highAt F s us k - us[k].a < F then highAt F s us k - us[k].a else F) = highAt F s us (k + 1) := by rw [highAt, getD_eq h]; rfl

def RunSays (F s : Int) (us : List P2) (w : World) (e : Ending) (w' : World) : Prop :=
  ∃ A1 c1 A2 c2, e = .returned (.tuple #[.slice A1 (runL F s us).length c1, .slice A2 (runH F s us).length c2, .int .i64 (runI F s us), .int .i64 (runE F s us)]) ∧
      Nums w' w'.heap.size A1 (runL F s us) ∧ Nums w' w'.heap.size A2 (runH F s us) ∧ Below w.heap.size w w'
/-- .. and how much room there is -/
def RunSays2 (F s : Int) (us : List P2) (w : World) (e : Ending) (w' : World) : Prop :=
  ∃ A1 c1 A2 c2, ((runL F s us).length ≤ c1 ∧ c1 ≤ maxLen ∧ (runH F s us).length ≤ c2 ∧ c2 ≤ maxLen) ∧ e = .returned (.tuple #[.slice A1 (runL F s us).length c1, .slice A2 (runH F s us).length c2, .int .i64 (runI F s us), .int .i64 (runE F s us)]) ∧
      Nums w' w'.heap.size A1 (runL F s us) ∧ Nums w' w'.heap.size A2 (runH F s us) ∧ Below w.heap.size w w'
theorem says_bad {F s : Int} {us : List P2} (h : okRun F s us = false) {w w' : World} (hb : Below w.heap.size w w') : RunSays2 F s us w (.returned (.tuple #[.slice none 0 0, .slice none 0 0, .int .i64 0, .int .i64 1])) w' := by
  have q1 : runL F s us = [] := by simp [runL, h]
  have q2 : runH F s us = [] := by simp [runH, h]
  unfold RunSays2
  rw [q1, q2]
  exact ⟨none, 0, none, 0, by simp [maxLen], by simp [runI, runE, h], Shows.empty _ _ _ _, Shows.empty _ _ _ _, hb⟩
theorem says_fail {F s : Int} {us : List P2} (h : okRun F s us = true) {i : Nat} (hf : firstLow F s us = some i) {w w' : World} (hb : Below w.heap.size w w') : RunSays2 F s us w (.returned (.tuple #[.slice none 0 0, .slice none 0 0, .int .i64 i, .int .i64 28])) w' := by
  have q1 : runL F s us = [] := by simp [runL, h, hf]
  have q2 : runH F s us = [] := by simp [runH, h, hf]
  unfold RunSays2
  rw [q1, q2]
  exact ⟨none, 0, none, 0, by simp [maxLen], by simp [runI, runE, h, hf], Shows.empty _ _ _ _, Shows.empty _ _ _ _, hb⟩
theorem says_ok {F s : Int} {us : List P2} (h : okRun F s us = true) (hf : firstLow F s us = none) {w w' : World} (hb : Below w.heap.size w w') {v1 v2 : Value}
    (own1 : w'.ownsRow w.heap.size 3 1 v1 us.length (ints (lows F s us us.length))) (own2 : w'.ownsRow w.heap.size 3 1 v2 us.length (ints (highs F s us us.length))) : RunSays2 F s us w (.returned (.tuple #[v1, v2, .int .i64 0, .int .i64 0])) w' := by
  obtain ⟨A1, c1, rfl, sh1, k1, k2⟩ := caps_of_own own1
  obtain ⟨A2, c2, rfl, sh2, k3, k4⟩ := caps_of_own own2
  have q1 : runL F s us = lows F s us us.length := by simp [runL, h, hf]
  have q2 : runH F s us = highs F s us us.length := by simp [runH, h, hf]
  unfold RunSays2
  rw [q1, q2]
  refine ⟨A1, c1, A2, c2, by rw [lows_length, highs_length]; exact ⟨k1, k2, k3, k4⟩, ?_, ?_, ?_, hb⟩
  · rw [lows_length, highs_length]
    simp [runI, runE, h, hf]
  · unfold Nums
    rw [lows_length]
    exact sh1
  · unfold Nums
    rw [highs_length]
    exact sh2

set_option maxHeartbeats 2000000 in
set_option maxRecDepth 100000 in
theorem run_any2 (F s : Int) (A : Option Addr) (c : Nat) (us : List P2) (w : World) (h : Two w w.heap.size A us) (hlen : us.length ≤ 9223372036854775807) :
    Calls Try.prog 8 #[.int .i64 F, .int .i64 s, .slice A us.length c] w (RunSays2 F s us w) := by
  go_enter Try.func8, Try.ntmps8
  go_wp2_with fail
  refine (right_any _ _ _ _ _ h).mono ?_
  rintro e w1 ⟨rfl, hbx⟩
  by_cases hok : okRun F s us = true
  · have hok' := hok
    simp only [okRun, Bool.and_eq_true, decide_eq_true_eq] at hok'
    obtain ⟨⟨hr, hs0⟩, hs1⟩ := hok'
    obtain ⟨f0, f1, hn, fu⟩ := right_parts hr
    rw [hr]
    have HR := Lib.hid hok
    have HS := Lib.hid hs1
    have ts0 : decide (s < 0) = false := by simp; omega
    have ts1 : decide (F < s) = false := by simp; omega
    clear hok hr hs1
    have HFU := Lib.hid fu
    go_wp2_with fail
    obtain ⟨i0, hi, hz0, hz1, hz2⟩ := info_parts info3
    clear ts0 ts1
    go_loopw [12, 13, 10, 11, 33] (fun l2 h2 v1 v2 i wr => ∃ k : Nat, k ≤ us.length ∧ i = .int .i64 k ∧ l2 = .int .i64 (lowAt F s us k) ∧ h2 = .int .i64 (highAt F s us k) ∧ 0 ≤ lowAt F s us k ∧ (∀ j, j < k → fails F s us j = false) ∧ Apart v1 v2 ∧
      wr.ownsRow w.heap.size 3 1 v1 k (ints (lows F s us k)) ∧ wr.ownsRow w.heap.size 3 1 v2 k (ints (highs F s us k)) ∧ Below w.heap.size w wr) (fun _ _ _ _ i _ => us.length - (intOf i).toNat)
    case atStart => exact ⟨0, Nat.zero_le _, rfl, rfl, rfl, hs0, fun j h => absurd h (by omega), Apart.nil _ _ _, World.ownsRow_nil _ _ _ _, World.ownsRow_nil _ _ _ _, hbx⟩
    case round =>
      obtain ⟨k, hk, rfl, rfl, rfl, hk0, hall, hap, own1, own2, hbw⟩ := hrel
      have HA := Lib.hid hall
      clear hall
      by_cases hlt : k < us.length
      · obtain ⟨b, o, rfl, hb, e0, e1⟩ := (h.below hbw).at_ hlt
        have d1 := low_le (us := us) HS.out k
        have d2 := high_le (us := us) HS.out k
        have d3 := low_le_high (F := F) (s := s) HFU.out k
        have x1 := HFU.out us[k] (List.getElem_mem _)
        have HL := low_succ (F := F) (s := s) hlt
        have HH := high_succ (F := F) (s := s) hlt
        generalize hlx : lowAt F s us (k + 1) = lx at HL
        generalize hhx : highAt F s us (k + 1) = hxx at HH
        have HLX := Lib.hid hlx
        have HHX := Lib.hid hhx
        clear hlx hhx
        have w1' : IntKind.i64.wrap (lowAt F s us k - us[k].b) = lowAt F s us k - us[k].b := IntWalk.i64_in _ (by omega)
        have w2' : IntKind.i64.wrap (highAt F s us k - us[k].a) = highAt F s us k - us[k].a := IntWalk.i64_in _ (by omega)
        have hsz := hbw.size
        have i0' : (0 : Int) ≤ k := by omega
        have i1' : (k : Int) < (us.length : Int) := by omega
        have i2' : b < wr.heap.size := by omega
        go_wp2_with fail
        have hbA := hbw.alloc (o := .cells #[.int .i64 us[k].a, .int .i64 us[k].b] 35) (by omega)
        have hszA := size_alloc wr (.cells #[.int .i64 us[k].a, .int .i64 us[k].b] 35)
        refine wp_region_mix [(0, true), (1, true), (2, true), (3, true), (4, true), (5, true), (6, true), (7, true), (8, true), (9, true), (10, true), (11, true), (12, true)] [13] (SB w.heap.size w (wr.heap.size+1) none _) (by kernel_rfl) (by kernel_rfl) (by kernel_rfl) (by kernel_rfl) (by decide) (SB.start hbA (by omega)) (fun hS => ?_)
        simp only [planned, List.filterMap_cons, List.filterMap_nil, List.getElem?_cons_zero, List.getElem?_cons_succ, Option.map_some]
        repeat (first
          | (refine mix_skip (by rfl) ?_; try simp only [Act.put, List.setIfInBounds_toArray, List.set_cons_zero, List.set_cons_succ])
          | (refine mix_pass hS (by rfl) ?_; try simp only [Act.put, List.setIfInBounds_toArray, List.set_cons_zero, List.set_cons_succ])
          | (refine mix_pure (by rfl) (by rfl) (fun K hK => ?_); go_big_quiet_op; refine hK _ ?_; clear hK K)
          | (refine mix_take (by rfl) ?_
             apply Exists.intro
             refine ⟨?_, ?_⟩
             · intro w' hSw
               have hSc := hSw.cell
               clear hSw
               go_simp
               try with_reducible rfl
             try simp only [Act.put, List.setIfInBounds_toArray, List.set_cons_zero, List.set_cons_succ])
          | (refine mix_move (by rfl) (fun K hK => ?_)
             go_simp
             try dsimp only
             first
               | refine hK.out _ _ (hS.step hx (by omega)) ?_
               | refine hK.out _ _ hS ?_
               | refine hK.out _ _ (hS.alloc _ (by omega)) ?_
               | refine hK.out _ _ (hS.grown hg hx) ?_
             clear hK K hS
             intro hS
             try simp only [Act.put, List.setIfInBounds_toArray, List.set_cons_zero, List.set_cons_succ])
          | fail)
        refine mix_nil ?_
        simp only [tailed, List.filterMap_cons, List.filterMap_nil, List.getElem?_cons_zero, List.getElem?_cons_succ]
        go_wp2_with fail
        refine NoPanic.normal ?_
        have own1 := (own1.alloc (.cells #[.int .i64 us[k].a, .int .i64 us[k].b] 35)).drew
        have own2 := (own2.alloc (.cells #[.int .i64 us[k].a, .int .i64 us[k].b] 35)).drew
        have hbw' := hbA.drew
        generalize (wr.alloc (.cells #[.int .i64 us[k].a, .int .i64 us[k].b] 35)).drew = wm at own1 own2 hbw' ⊢
        clear hS
        have hsz' := hbw'.size
        by_cases hneg : lx < 0
        · go_wp2_with fail
          ((try simp only [Exit.inBlock, Exit.then]); refine bodyPost_ret (results_tmp4 rfl _ _ _) rfl ?_)
          have ht : fails F s us k = true := by simp [fails, HLX.out, hneg]
          have hf : firstLow F s us = some k := find_range_some hlt ht HA.out
          exact says_fail HR.out hf hbw'
        · have hneg' := decide_eq_false hneg
          go_wp2_with (first
            | (at_builtin; refine push_own2 rfl _ _ 24 rfl w.heap.size 3 i0 (.int .i64 0) 1 8 Try.underlying24 hi hz0 hz1 hz2 rfl (by decide) _ _ _ _ rfl own1 1 1 [.int .i64 lx] rfl rfl (by simp [Value.oneCell']) hsz' (by omega) (by omega) ?_; intro v1' wa own1' hba hga hoa; have hap1 := hap.off own2 hoa; have own2a := hap.own own2 hga)
            | (at_builtin; refine push_own2 rfl _ _ 24 rfl w.heap.size 3 i0 (.int .i64 0) 1 8 Try.underlying24 hi hz0 hz1 hz2 rfl (by decide) _ _ _ _ rfl own2a 1 1 [.int .i64 hxx] rfl rfl (by simp [Value.oneCell']) (Nat.le_trans hsz' hba.size) (by omega) (by omega) ?_; intro v2' wb own2' hbb hgb hob; have hap2 := (hap1.comm.off own1' hob).comm; have own1b := hap1.comm.own own1' hgb))
          go_roundw
          case rel =>
            refine ⟨k + 1, by omega, by go_num, ?_, ?_, by rw [HLX.out]; omega, fun j hj => ?_, hap2, ?_, ?_, hbw'.trans (hba.trans hbb)⟩
            · rw [HLX.out]
            · rw [HHX.out]
            · by_cases e : j = k
              · subst e; simp [fails, HLX.out]; omega
              · exact HA.out j (by omega)
            · rw [← lows_succ, HLX.out]; exact own1b
            · rw [← highs_succ, HHX.out]; exact own2'
          case measure => simp [intOf]; omega
      · go_wp2_with fail
        ((try simp only [Exit.inBlock, Exit.then]); refine bodyPost_ret (results_tmp4 rfl _ _ _) rfl ?_)
        have hf : firstLow F s us = none := find_range_none (fun j hj => HA.out j (by omega))
        obtain rfl : k = us.length := by omega
        exact says_ok HR.out hf hbw own1 own2
  · have hok2 : okRun F s us = false := by simpa using hok
    have HB := Lib.hid hok2
    clear hok2
    cases hr : rightB F us
    · go_wp2_with fail
      ((try simp only [Exit.inBlock, Exit.then]); refine bodyPost_ret (results_tmp4 rfl _ _ _) rfl ?_)
      exact says_bad HB.out hbx
    · simp only [okRun, hr, Bool.true_and, Bool.and_eq_true, decide_eq_true_eq] at hok
      by_cases hs0 : s < 0
      · clear hok
        go_wp2_with fail
        ((try simp only [Exit.inBlock, Exit.then]); refine bodyPost_ret (results_tmp4 rfl _ _ _) rfl ?_)
        exact says_bad HB.out hbx
      · have ts0 := decide_eq_false hs0
        have ts1 : F < s := by omega
        clear hok
        go_wp2_with fail
        ((try simp only [Exit.inBlock, Exit.then]); refine bodyPost_ret (results_tmp4 rfl _ _ _) rfl ?_)
        exact says_bad HB.out hbx

set_option maxHeartbeats 1000000 in
theorem rright_any (F : Int) (A : Option Addr) (c : Nat) (us : List P2) (w : World) (h : Two w w.heap.size A us) (hlen : us.length ≤ 9223372036854775807) :
    Calls Try.prog 14 #[.int .i64 F, .slice A us.length c] w fun e w' => e = .returned (.bool (rightB F us)) ∧ Below w.heap.size w w' := by
  go_enter Try.func14, Try.ntmps14
  go_wp2_with fail
  go_loopw [5] (fun i wr => ∃ k : Nat, k ≤ us.length ∧ i = .int .i64 k ∧ (∀ j, (hj : j < us.length) → j < k → badUse us[j] = false) ∧ Below w.heap.size w wr) (fun i _ => us.length - (intOf i).toNat)
  case atStart => exact ⟨0, Nat.zero_le _, rfl, fun j _ h => absurd h (by omega), Below.refl _ _⟩
  case round =>
    obtain ⟨k, hk, rfl, hall, hbw⟩ := hrel
    have HA := Lib.hid hall
    clear hall
    by_cases hlt : k < us.length
    · obtain ⟨b, o, rfl, hb, e0, e1⟩ := (h.below hbw).at_ hlt
      have i0' : (0 : Int) ≤ k := by omega
      have i1' : (k : Int) < (us.length : Int) := by omega
      have hsz := hbw.size
      have i2' : b < wr.heap.size := by omega
      have hbad : badUse us[k] = (decide (us[k].a < -1000000) || decide (us[k].b < us[k].a) || decide (1000000 < us[k].b)) := rfl
      have HB := Lib.hid hbad
      clear hbad
      generalize us[k].a = x at HB e0 e1
      generalize us[k].b = y at HB e0 e1
      by_cases h1 : x < -1000000
      all_goals by_cases h2 : y < x
      all_goals by_cases h3 : 1000000 < y
      all_goals try (exfalso; omega)
      all_goals
        (try have h1' := decide_eq_false h1)
        (try have h2' := decide_eq_false h2)
        (try have h3' := decide_eq_false h3)
        go_wp2
      all_goals first
        | (go_ret
           have hb1 : badUse us[k] = true := by rw [HB.out]; simp; omega
           have : us.any badUse = true := List.any_eq_true.2 ⟨us[k], List.getElem_mem _, hb1⟩
           exact ⟨by simp [rightB, this], hbw.alloc (by omega) _⟩)
        | (go_roundw
           case rel =>
             refine ⟨k + 1, by omega, by go_num, fun j hj hjk => ?_, hbw.alloc (by omega) _⟩
             by_cases e : j = k
             · subst e; rw [HB.out]; simp; omega
             · exact HA.out j hj (by omega)
           case measure => simp [intOf]; omega)
    · have hany : us.any badUse = false := not_any (fun j hj => HA.out j hj (by omega))
      have HN := Lib.hid hany
      clear hany
      by_cases h1 : 0 ≤ F
      all_goals by_cases h2 : F ≤ 1000000
      all_goals by_cases h3 : us.length ≤ 200
      all_goals try (exfalso; omega)
      all_goals
        have hq : rightB F us = (decide (0 ≤ F) && decide (F ≤ 1000000) && decide (us.length ≤ 200)) := by simp [rightB, HN.out]
        have HQ := Lib.hid hq
        clear hq
        (try have h1' := decide_eq_false h1)
        (try have h2' := decide_eq_false h2)
        (try have h3' : decide ((us.length : Int) ≤ 200) = false := decide_eq_false (fun h => h3 (by omega)))
        go_wp2_with fail
        go_ret
        exact ⟨ret_bool (by rw [HQ.out]; first | (simp; done) | (simp; omega) | (rw [Bool.eq_iff_iff]; simp only [Bool.and_eq_true, decide_eq_true_eq]; omega)), hbw⟩

/-- What the reference's Ints says. -/
theorem ints_any (A1 A2 : Option Addr) (c1 c2 : Nat) (xs ys : List Int) (w : World) (h1 : Nums w w.heap.size A1 xs) (h2 : Nums w w.heap.size A2 ys) (hlen : xs.length ≤ 9223372036854775807) (hlen2 : ys.length ≤ 9223372036854775807) :
    Calls Try.prog 12 #[.slice A1 xs.length c1, .slice A2 ys.length c2] w fun e w' => e = .returned (.bool (decide (xs = ys))) ∧ Below w.heap.size w w' := by
  go_enter Try.func12, Try.ntmps12
  by_cases hn : xs.length = ys.length
  · have hnb : ((xs.length : Int) != (ys.length : Int)) = false := by simp [hn]
    go_wp2_with fail
    go_loopw [5] (fun i wr => ∃ k : Nat, k ≤ xs.length ∧ i = .int .i64 k ∧ (∀ j, (hj : j < xs.length) → (hj2 : j < ys.length) → j < k → xs[j] = ys[j]) ∧ Below w.heap.size w wr) (fun i _ => xs.length - (intOf i).toNat)
    case atStart => exact ⟨0, Nat.zero_le _, rfl, fun j _ _ h => absurd h (by omega), Below.refl _ _⟩
    case round =>
      obtain ⟨k, hk, rfl, hall, hbw⟩ := hrel
      have HA := Lib.hid hall
      clear hall
      by_cases hlt : k < xs.length
      · obtain ⟨b, o, rfl, hb, e0⟩ := (h1.below hbw).at_ hlt
        obtain ⟨b2, o2, rfl, hb2, g0⟩ := (h2.below hbw).at_ (k := k) (by omega)
        have i0' : (0 : Int) ≤ k := by omega
        have i1' : (k : Int) < (xs.length : Int) := by omega
        have i2' : (k : Int) < (ys.length : Int) := by omega
        have hsz := hbw.size
        have p1 : b < wr.heap.size := by omega
        have p2 : b2 < wr.heap.size := by omega
        go_wp2_with fail
        refine wp_region_mix [(0, true), (1, true), (2, true), (3, true), (4, true), (5, true), (6, true), (7, true), (8, true)] [] (SB w.heap.size w wr.heap.size none _) (by kernel_rfl) (by kernel_rfl) (by kernel_rfl) (by kernel_rfl) (by decide) (SB.start hbw (by omega)) (fun hS => ?_)
        simp only [planned, List.filterMap_cons, List.filterMap_nil, List.getElem?_cons_zero, List.getElem?_cons_succ, Option.map_some]
        repeat (first
          | (refine mix_skip (by rfl) ?_; try simp only [Act.put, List.setIfInBounds_toArray, List.set_cons_zero, List.set_cons_succ])
          | (refine mix_pass hS (by rfl) ?_; try simp only [Act.put, List.setIfInBounds_toArray, List.set_cons_zero, List.set_cons_succ])
          | (refine mix_pure (by rfl) (by rfl) (fun K hK => ?_); go_big_quiet_op; refine hK _ ?_; clear hK K)
          | (refine mix_take (by rfl) ?_
             apply Exists.intro
             refine ⟨?_, ?_⟩
             · intro w' hSw
               have hSc := hSw.cell
               clear hSw
               go_simp
               try with_reducible rfl
             try simp only [Act.put, List.setIfInBounds_toArray, List.set_cons_zero, List.set_cons_succ])
          | (refine mix_move (by rfl) (fun K hK => ?_)
             go_simp
             try dsimp only
             first
               | refine hK.out _ _ (hS.step hx (by omega)) ?_
               | refine hK.out _ _ hS ?_
               | refine hK.out _ _ (hS.alloc _ (by omega)) ?_
               | refine hK.out _ _ (hS.grown hg hx) ?_
             clear hK K hS
             intro hS
             try simp only [Act.put, List.setIfInBounds_toArray, List.set_cons_zero, List.set_cons_succ])
          | fail)
        refine mix_nil ?_
        simp only [tailed, List.filterMap_nil]
        go_wp2_with fail
        refine NoPanic.normal ?_
        by_cases he : xs[k] = ys[k]
        · have heb : (xs[k] != ys[k]) = false := by simp [he]
          have HE := Lib.hid he
          clear he
          go_wp2_with fail
          go_roundw
          case rel =>
            refine ⟨k + 1, by omega, by go_num, fun j hj hj2 hjk => ?_, hbw.drew⟩
            by_cases e : j = k
            · subst e; exact HE.out
            · exact HA.out j hj hj2 (by omega)
          case measure => simp [intOf]; omega
        · have heb : (xs[k] != ys[k]) = true := by simp [he]
          have hne : ¬ xs = ys := fun e => he (by subst e; rfl)
          have HE := Lib.hid hne
          clear he hne
          go_wp2_with fail
          go_ret
          exact ⟨by simp [HE.out], hbw.drew⟩
      · go_wp2_with fail
        go_ret
        have : xs = ys := List.ext_getElem hn fun j hj hj2 => HA.out j hj hj2 (by omega)
        exact ⟨by simp [this], hbw⟩
  · have hnb : ((xs.length : Int) != (ys.length : Int)) = true := by simp; omega
    go_wp2_with fail
    go_ret
    have : ¬ xs = ys := fun e => hn (by rw [e])
    exact ⟨by simp [this], Below.refl _ _⟩

set_option maxHeartbeats 2000000 in
set_option maxRecDepth 100000 in
theorem rrun_any2 (F s : Int) (A : Option Addr) (c : Nat) (us : List P2) (w : World) (h : Two w w.heap.size A us) (hlen : us.length ≤ 9223372036854775807) :
    Calls Try.prog 9 #[.int .i64 F, .int .i64 s, .slice A us.length c] w (RunSays2 F s us w) := by
  go_enter Try.func9, Try.ntmps9
  go_wp2_with fail
  refine (rright_any _ _ _ _ _ h hlen).mono ?_
  rintro e w1 ⟨rfl, hbx⟩
  by_cases hok : okRun F s us = true
  · have hok' := hok
    simp only [okRun, Bool.and_eq_true, decide_eq_true_eq] at hok'
    obtain ⟨⟨hr, hs0⟩, hs1⟩ := hok'
    obtain ⟨f0, f1, hn, fu⟩ := right_parts hr
    rw [hr]
    have HR := Lib.hid hok
    have HS := Lib.hid hs1
    have ts0 : decide (s < 0) = false := by simp; omega
    have ts1 : decide (F < s) = false := by simp; omega
    clear hok hr hs1
    have HFU := Lib.hid fu
    go_wp2_with fail
    obtain ⟨i0, hi, hz0, hz1, hz2⟩ := info_parts info3
    clear ts0 ts1
    go_loopw [12, 13, 10, 11, 14] (fun l2 h2 v1 v2 i wr => ∃ k : Nat, k ≤ us.length ∧ i = .int .i64 k ∧ l2 = .int .i64 (lowAt F s us k) ∧ h2 = .int .i64 (highAt F s us k) ∧ 0 ≤ lowAt F s us k ∧ (∀ j, j < k → fails F s us j = false) ∧ Apart v1 v2 ∧
      wr.ownsRow w.heap.size 3 1 v1 k (ints (lows F s us k)) ∧ wr.ownsRow w.heap.size 3 1 v2 k (ints (highs F s us k)) ∧ Below w.heap.size w wr) (fun _ _ _ _ i _ => us.length - (intOf i).toNat)
    case atStart => exact ⟨0, Nat.zero_le _, rfl, rfl, rfl, hs0, fun j h => absurd h (by omega), Apart.nil _ _ _, World.ownsRow_nil _ _ _ _, World.ownsRow_nil _ _ _ _, hbx⟩
    case round =>
      obtain ⟨k, hk, rfl, rfl, rfl, hk0, hall, hap, own1, own2, hbw⟩ := hrel
      have HA := Lib.hid hall
      clear hall
      by_cases hlt : k < us.length
      · obtain ⟨b, o, rfl, hb, e0, e1⟩ := (h.below hbw).at_ hlt
        have d1 := low_le (us := us) HS.out k
        have d2 := high_le (us := us) HS.out k
        have d3 := low_le_high (F := F) (s := s) HFU.out k
        have x1 := HFU.out us[k] (List.getElem_mem _)
        have HL := low_succ (F := F) (s := s) hlt
        have HH := high_succ (F := F) (s := s) hlt
        generalize hlx : lowAt F s us (k + 1) = lx at HL
        generalize hhx : highAt F s us (k + 1) = hxx at HH
        have HLX := Lib.hid hlx
        have HHX := Lib.hid hhx
        clear hlx hhx
        have w1' : IntKind.i64.wrap (lowAt F s us k - us[k].b) = lowAt F s us k - us[k].b := IntWalk.i64_in _ (by omega)
        have w2' : IntKind.i64.wrap (highAt F s us k - us[k].a) = highAt F s us k - us[k].a := IntWalk.i64_in _ (by omega)
        have hsz := hbw.size
        have i0' : (0 : Int) ≤ k := by omega
        have i1' : (k : Int) < (us.length : Int) := by omega
        have i2' : b < wr.heap.size := by omega
        have hbw' := hbw
        have hsz' := hbw'.size
        by_cases hneg : lx < 0
        · go_wp2_with fail
          ((try simp only [Exit.inBlock, Exit.then]); refine bodyPost_ret (results_tmp4 rfl _ _ _) rfl ?_)
          have ht : fails F s us k = true := by simp [fails, HLX.out, hneg]
          have hf : firstLow F s us = some k := find_range_some hlt ht HA.out
          exact says_fail HR.out hf hbw'
        · have hneg' := decide_eq_false hneg
          go_wp2_with (first
            | (at_builtin; refine push_own2 rfl _ _ 24 rfl w.heap.size 3 i0 (.int .i64 0) 1 8 Try.underlying24 hi hz0 hz1 hz2 rfl (by decide) _ _ _ _ rfl own1 1 1 [.int .i64 lx] rfl rfl (by simp [Value.oneCell']) hsz' (by omega) (by omega) ?_; intro v1' wa own1' hba hga hoa; have hap1 := hap.off own2 hoa; have own2a := hap.own own2 hga)
            | (at_builtin; refine push_own2 rfl _ _ 24 rfl w.heap.size 3 i0 (.int .i64 0) 1 8 Try.underlying24 hi hz0 hz1 hz2 rfl (by decide) _ _ _ _ rfl own2a 1 1 [.int .i64 hxx] rfl rfl (by simp [Value.oneCell']) (Nat.le_trans hsz' hba.size) (by omega) (by omega) ?_; intro v2' wb own2' hbb hgb hob; have hap2 := (hap1.comm.off own1' hob).comm; have own1b := hap1.comm.own own1' hgb))
          go_roundw
          case rel =>
            refine ⟨k + 1, by omega, by go_num, ?_, ?_, by rw [HLX.out]; omega, fun j hj => ?_, hap2, ?_, ?_, hbw'.trans (hba.trans hbb)⟩
            · rw [HLX.out]
            · rw [HHX.out]
            · by_cases e : j = k
              · subst e; simp [fails, HLX.out]; omega
              · exact HA.out j (by omega)
            · rw [← lows_succ, HLX.out]; exact own1b
            · rw [← highs_succ, HHX.out]; exact own2'
          case measure => simp [intOf]; omega
      · go_wp2_with fail
        ((try simp only [Exit.inBlock, Exit.then]); refine bodyPost_ret (results_tmp4 rfl _ _ _) rfl ?_)
        have hf : firstLow F s us = none := find_range_none (fun j hj => HA.out j (by omega))
        obtain rfl : k = us.length := by omega
        exact says_ok HR.out hf hbw own1 own2
  · have hok2 : okRun F s us = false := by simpa using hok
    have HB := Lib.hid hok2
    clear hok2
    cases hr : rightB F us
    · go_wp2_with fail
      ((try simp only [Exit.inBlock, Exit.then]); refine bodyPost_ret (results_tmp4 rfl _ _ _) rfl ?_)
      exact says_bad HB.out hbx
    · simp only [okRun, hr, Bool.true_and, Bool.and_eq_true, decide_eq_true_eq] at hok
      by_cases hs0 : s < 0
      · clear hok
        go_wp2_with fail
        ((try simp only [Exit.inBlock, Exit.then]); refine bodyPost_ret (results_tmp4 rfl _ _ _) rfl ?_)
        exact says_bad HB.out hbx
      · have ts0 := decide_eq_false hs0
        have ts1 : F < s := by omega
        clear hok
        go_wp2_with fail
        ((try simp only [Exit.inBlock, Exit.then]); refine bodyPost_ret (results_tmp4 rfl _ _ _) rfl ?_)
        exact says_bad HB.out hbx

theorem run_any (F s : Int) (A : Option Addr) (c : Nat) (us : List P2) (w : World) (h : Two w w.heap.size A us) (hlen : us.length ≤ 9223372036854775807) :
    Calls Try.prog 8 #[.int .i64 F, .int .i64 s, .slice A us.length c] w (RunSays F s us w) :=
  (run_any2 F s A c us w h hlen).mono fun _ _ ⟨A1, c1, A2, c2, _, h⟩ => ⟨A1, c1, A2, c2, h⟩
theorem rrun_any (F s : Int) (A : Option Addr) (c : Nat) (us : List P2) (w : World) (h : Two w w.heap.size A us) (hlen : us.length ≤ 9223372036854775807) :
    Calls Try.prog 9 #[.int .i64 F, .int .i64 s, .slice A us.length c] w (RunSays F s us w) :=
  (rrun_any2 F s A c us w h hlen).mono fun _ _ ⟨A1, c1, A2, c2, _, h⟩ => ⟨A1, c1, A2, c2, h⟩
end Go.Proofs.Ytlbndoddkialkaa
