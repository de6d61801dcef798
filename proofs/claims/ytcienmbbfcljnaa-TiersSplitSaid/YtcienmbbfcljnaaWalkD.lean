/-
  The walks of tiers.Run and of the reference's Run: what each computes. Conditions: none.
-/
import Derived.Test.YtcienmbbfcljnaaWalkC
import Derived.OwnWalk
namespace Go.Proofs.Ytcienmbbfcljnaa
open Go.RowKit

/-- the first i numbers of P added to those of U -/
def addTo (U P : List Int) : Nat → List Int
  | 0 => U
  | i + 1 => (addTo U P i).set i (U.getD i 0 + P.getD i 0)
theorem addTo_length (U P : List Int) (i : Nat) : (addTo U P i).length = U.length := by
  induction i with
  | zero => rfl
  | succ i ih => simp [addTo, ih]
theorem addTo_get (U P : List Int) (i j : Nat) : (addTo U P i).getD j 0 = if j < i ∧ j < U.length then U.getD j 0 + P.getD j 0 else U.getD j 0 := by
  induction i with
  | zero => simp [addTo]
  | succ i ih =>
    by_cases e : i = j
    · subst e
      by_cases hj : i < U.length
      · simp [addTo, List.getD, hj, addTo_length]
      · have : (addTo U P i).length ≤ i := by rw [addTo_length]; omega
        simp [addTo, List.getD, hj, addTo_length]
    · have : ((addTo U P i).set i (U.getD i 0 + P.getD i 0)).getD j 0 = (addTo U P i).getD j 0 := by simp [List.getD, e]
      rw [addTo, this, ih]
      have : (j < i + 1 ∧ j < U.length) ↔ (j < i ∧ j < U.length) := by omega
      simp only [this]
/-- what has been used of each tier after k claims -/
def useAt (L : List P3) (cs : List Int) : Nat → List Int
  | 0 => List.replicate L.length 0
  | k + 1 => addTo (useAt L cs k) (pays L (useAt L cs k) (cs.getD k 0) L.length) L.length
def rests (L : List P3) (cs : List Int) (k : Nat) : List Int := (List.range k).map fun j => restAt L (useAt L cs j) (cs.getD j 0) L.length
theorem rests_length (L : List P3) (cs : List Int) (k : Nat) : (rests L cs k).length = k := by simp [rests]
theorem rests_succ (L : List P3) (cs : List Int) (k : Nat) : ints (rests L cs k) ++ [.int .i64 (restAt L (useAt L cs k) (cs.getD k 0) L.length)] = ints (rests L cs (k + 1)) := by simp [rests, ints, List.range_succ]
theorem useAt_length (L : List P3) (cs : List Int) (k : Nat) : (useAt L cs k).length = L.length := by
  induction k with
  | zero => simp [useAt]
  | succ k ih => rw [useAt, addTo_length, ih]
theorem pays_get {L : List P3} {U : List Int} {x : Int} {n i : Nat} (h : i < n) : (pays L U x n).getD i 0 = payAt L U x i := by simp [pays, List.getD, h]
theorem useAt_get {L : List P3} {cs : List Int} {k i : Nat} (h : i < L.length) : (useAt L cs (k + 1)).getD i 0 = (useAt L cs k).getD i 0 + payAt L (useAt L cs k) (cs.getD k 0) i := by
  rw [useAt, addTo_get, if_pos ⟨h, by rw [useAt_length]; exact h⟩, pays_get h]
theorem useAt_zero {L : List P3} {cs : List Int} {i : Nat} : (useAt L cs 0).getD i 0 = 0 := by
  simp only [useAt, List.getD, List.getElem?_replicate]
  split <;> rfl
theorem useAt_bounds {L : List P3} (hL : FineT L) (cs : List Int) (k : Nat) : ∀ i, i < L.length → 0 ≤ (useAt L cs k).getD i 0 ∧ (useAt L cs k).getD i 0 ≤ (L.getD i ⟨0, 0, 0⟩).c := by
  induction k with
  | zero =>
    intro i hi
    have := hL.2 i hi
    rw [useAt_zero]
    omega
  | succ k ih =>
    intro i hi
    have a := ih i hi
    have b := payAt_bounds (x := cs.getD k 0) hL ih hi
    rw [useAt_get hi]
    omega
theorem usable_at {L : List P3} (hL : FineT L) (cs : List Int) (k : Nat) : usableB L (useAt L cs k) = true :=
  usable_good (useAt_length _ _ _) fun i hi => by
    rw [useAt_length] at hi
    have := useAt_bounds hL cs k i hi
    simp only [badU, Bool.or_eq_false_iff, decide_eq_false_iff_not]
    omega
theorem claims_at {cs : List Int} (h : claimsB cs = true) {k : Nat} (hk : k < cs.length) : okMoney (cs.getD k 0) = true := by
  simp only [claimsB, Bool.not_eq_true', List.any_eq_false] at h
  have := h cs[k] (List.getElem_mem _)
  rw [getD1 hk]
  simpa using this

def okRun (L : List P3) (cs : List Int) : Bool := rightB L && claimsB cs
def runE (L : List P3) (cs : List Int) : Int := if okRun L cs then (if 10000 < cs.length then 6 else 0) else 1
def runR (L : List P3) (cs : List Int) : List Int := if okRun L cs && decide (cs.length ≤ 10000) then rests L cs cs.length else []
def runU (L : List P3) (cs : List Int) : List Int := if okRun L cs && decide (cs.length ≤ 10000) then useAt L cs cs.length else []
def RunSays (L : List P3) (cs : List Int) (w : World) (e : Ending) (w' : World) : Prop :=
  ∃ A1 c1 A2 c2, ((runR L cs).length ≤ c1 ∧ c1 ≤ maxLen ∧ (runU L cs).length ≤ c2 ∧ c2 ≤ maxLen) ∧ e = .returned (.tuple #[.slice A1 (runR L cs).length c1, .slice A2 (runU L cs).length c2, .int .i64 (runE L cs)]) ∧
    Nums w' w'.heap.size A1 (runR L cs) ∧ Nums w' w'.heap.size A2 (runU L cs) ∧ Below w.heap.size w w'
theorem run_bad {L : List P3} {cs : List Int} (h : okRun L cs = false) {w w' : World} (hb : Below w.heap.size w w') : RunSays L cs w (.returned (.tuple #[.slice none 0 0, .slice none 0 0, .int .i64 1])) w' := by
  unfold RunSays
  rw [show runR L cs = [] from by simp [runR, h], show runU L cs = [] from by simp [runU, h], show runE L cs = 1 from by simp [runE, h]]
  exact ⟨none, 0, none, 0, by simp [maxLen], rfl, Shows.empty _ _ _ _, Shows.empty _ _ _ _, hb⟩
theorem run_full {L : List P3} {cs : List Int} (h : okRun L cs = true) (h1 : ¬ cs.length ≤ 10000) {w w' : World} (hb : Below w.heap.size w w') : RunSays L cs w (.returned (.tuple #[.slice none 0 0, .slice none 0 0, .int .i64 6])) w' := by
  unfold RunSays
  rw [show runR L cs = [] from by simp [runR, h1], show runU L cs = [] from by simp [runU, h1], show runE L cs = 6 from by simp [runE, h]; omega]
  exact ⟨none, 0, none, 0, by simp [maxLen], rfl, Shows.empty _ _ _ _, Shows.empty _ _ _ _, hb⟩
theorem run_good {L : List P3} {cs : List Int} (h : okRun L cs = true) (h1 : cs.length ≤ 10000) {w w' : World} (hb : Below w.heap.size w w') {v1 v2 : Value}
    (own1 : w'.ownsRow w.heap.size 3 1 v1 cs.length (ints (rests L cs cs.length))) (own2 : w'.ownsRow w.heap.size 3 1 v2 L.length (ints (useAt L cs cs.length))) : RunSays L cs w (.returned (.tuple #[v1, v2, .int .i64 0])) w' := by
  obtain ⟨A1, c1, rfl, sh1, k1, k2⟩ := caps_of_own own1
  obtain ⟨A2, c2, rfl, sh2, k3, k4⟩ := caps_of_own own2
  unfold RunSays
  rw [show runR L cs = rests L cs cs.length from by simp [runR, h, h1], show runU L cs = useAt L cs cs.length from by simp [runU, h, h1], show runE L cs = 0 from by simp [runE, h]; omega]
  refine ⟨A1, c1, A2, c2, by rw [rests_length, useAt_length]; exact ⟨k1, k2, k3, k4⟩, by rw [rests_length, useAt_length], ?_, ?_, hb⟩
  · unfold Nums
    rw [rests_length]
    exact sh1
  · unfold Nums
    rw [useAt_length]
    exact sh2
theorem zeros (n : Nat) : (madeCells (Value.int .i64 0).cells (n * 1)).toList = ints (List.replicate n 0) := by
  have := toList_madeCells_one (.int .i64 0) n
  simp only [Nat.mul_one, ints, List.map_replicate]
  exact this
theorem ints_set (l : List Int) (j : Nat) (x : Int) : (ints l).set j (.int .i64 x) = ints (l.set j x) := by simp [ints, List.map_set]

/-- Pay of what has been used: it pays. -/
theorem pay_runs {L : List P3} {cs : List Int} (hL : rightB L = true) (hC : claimsB cs = true) {k : Nat} (hk : k < cs.length) :
    payR L (useAt L cs k) (cs.getD k 0) = restAt L (useAt L cs k) (cs.getD k 0) L.length ∧ payL L (useAt L cs k) (cs.getD k 0) = pays L (useAt L cs k) (cs.getD k 0) L.length ∧ payE L (useAt L cs k) (cs.getD k 0) = 0 := by
  have : okPay L (useAt L cs k) (cs.getD k 0) = true := by simp only [okPay, hL, usable_at (fine_of_right hL), claims_at hC hk, Bool.and_self]
  exact ⟨by rw [payR, if_pos this], by rw [payL, if_pos this], by rw [payE, if_pos this]⟩
theorem pay_n (A A2 : Option Addr) (c c2 n : Nat) (L : List P3) (U : List Int) (x : Int) (w : World) (hn : U.length = n) (h : Three w w.heap.size A L) (h2 : Nums w w.heap.size A2 U) (hl : L.length ≤ 9223372036854775807) (hl2 : n ≤ 9223372036854775807) :
    Calls Try.prog 10 #[.slice A L.length c, .slice A2 n c2, .int .i64 x] w (PaySays L U x w) := by
  subst hn
  exact pay_any A A2 c c2 L U x w h h2 hl hl2
theorem rpay_n (A A2 : Option Addr) (c c2 n : Nat) (L : List P3) (U : List Int) (x : Int) (w : World) (hn : U.length = n) (h : Three w w.heap.size A L) (h2 : Nums w w.heap.size A2 U) (hl : L.length ≤ 9223372036854775807) (hl2 : n ≤ 9223372036854775807) :
    Calls Try.prog 11 #[.slice A L.length c, .slice A2 n c2, .int .i64 x] w (PaySays L U x w) := by
  subst hn
  exact rpay_any A A2 c c2 L U x w h h2 hl hl2

theorem ints_getD {l : List Int} {k : Nat} (hk : k < l.length) : (ints l)[k]? = some (.int .i64 (l.getD k 0)) := by rw [ints_get l k hk, getD1 hk]
set_option maxHeartbeats 4000000 in
set_option maxRecDepth 100000 in
theorem run_any (A A2 : Option Addr) (c c2 : Nat) (L : List P3) (cs : List Int) (w : World) (h : Three w w.heap.size A L) (h2 : Nums w w.heap.size A2 cs) (hl : L.length ≤ 9223372036854775807) (hl2 : cs.length ≤ 9223372036854775807) :
    Calls Try.prog 12 #[.slice A L.length c, .slice A2 cs.length c2] w (RunSays L cs w) := by
  go_enter Try.func12, Try.ntmps12
  go_wp2_with fail
  refine (right_any _ _ _ _ h hl).mono ?_
  rintro e w1 ⟨rfl, hb1⟩
  cases hr : rightB L
  · go_wp2_with fail
    ((try simp only [Exit.inBlock, Exit.then]); refine bodyPost_ret (results_tmp3 rfl _ _ _) rfl ?_)
    exact run_bad (by simp [okRun, hr]) hb1
  have HR := Lib.hid hr
  clear hr
  go_wp2_with fail
  refine (contains_any _ _ _ _ (num_ext h2 hb1) hl2).mono ?_
  rintro e w2 ⟨rfl, hx2⟩
  have hb2 := hb1.trans (hx2.mono hb1.size)
  cases hc : claimsB cs
  · go_wp2_with fail
    ((try simp only [Exit.inBlock, Exit.then]); refine bodyPost_ret (results_tmp3 rfl _ _ _) rfl ?_)
    exact run_bad (by simp [okRun, hc]) hb2
  have HC := Lib.hid hc
  clear hc hx2 hb1
  have hok : okRun L cs = true := by simp [okRun, HR.out, HC.out]
  have HOK := Lib.hid hok
  clear hok
  by_cases hlen : cs.length ≤ 10000
  rotate_left
  · go_wp2_with fail
    ((try simp only [Exit.inBlock, Exit.then]); refine bodyPost_ret (results_tmp3 rfl _ _ _) rfl ?_)
    exact run_full HOK.out hlen hb2
  obtain ⟨i0, hi, hz0, hz1, hz2⟩ := info_parts info3
  have HL := Lib.hid (fine_of_right HR.out)
  have hn6 := HL.out.1
  have hsz2 := hb2.size
  have hlen' : ((cs.length : Int) ≤ 10000) := by omega
  go_wp2_with (at_make; refine wpList_make_full w2 rfl _ _ 23 rfl w.heap.size 3 i0 _ 1 Try.underlying23 hi hz0 hz1 .i64 .i64 _ _ L.length rfl rfl rfl rfl (by rw [hz2]; omega) (by unfold maxLen; omega) hsz2 ?_; intro w3 own2 hg3)
  rw [zeros] at own2
  have hb3 := hb2.grown hg3 hsz2 (fun k e => by cases e)
  have hg2 : w.heap.size ≤ w2.heap.size := hsz2
  have hg2' : w2.heap.size < w3.heap.size := (own2.lt _ rfl).2
  generalize w2.heap.size = g at own2 hg2 hg2'
  clear hg3 hb2 hsz2
  go_loopw [8, 33] (fun v i wr => ∃ k : Nat, k ≤ cs.length ∧ i = .int .i64 k ∧ wr.ownsRow w.heap.size 3 1 v k (ints (rests L cs k)) ∧ wr.ownsRow w.heap.size 3 1 (.slice (some ⟨g, 0, none⟩) L.length L.length) L.length (ints (useAt L cs k)) ∧ v.ownBlock ≠ some g ∧ Below w.heap.size w wr) (fun _ i _ => cs.length - (intOf i).toNat)
  case atStart => exact ⟨0, Nat.zero_le _, rfl, World.ownsRow_nil _ _ _ _, own2, by simp [Value.ownBlock], hb3⟩
  case round =>
    obtain ⟨k, hk, rfl, own1, own2, hap, hbw⟩ := hrel
    generalize u8 = v at own1 hap ⊢
    by_cases hlt : k < cs.length
    · obtain ⟨b, o, rfl, hb, e0⟩ := (h2.below hbw).at_ hlt
      have hgw := (own2.lt _ rfl).2
      have hgb := (own2.lt _ rfl).1
      obtain ⟨A2', c2', ev, sh, _, _⟩ := caps_of_own own2
      cases ev
      have hU : Nums wr wr.heap.size (some ⟨g, 0, none⟩) (useAt L cs k) := by
        unfold Nums
        rw [useAt_length]
        exact sh
      clear sh
      have hx : cs[k] = cs.getD k 0 := (getD1 hlt).symm
      rw [hx] at e0
      clear hx
      have HB := Lib.hid (useAt_bounds HL.out cs k)
      have HP := Lib.hid (fun i hi => payAt_bounds (x := cs.getD k 0) (i := i) HL.out HB.out hi)
      have HRS := Lib.hid (rests_succ L cs k)
      have HQ := Lib.hid (pay_runs HR.out HC.out hlt)
      have HUL := Lib.hid (useAt_length L cs k)
      have HUS : useAt L cs (k + 1) = addTo (useAt L cs k) (pays L (useAt L cs k) (cs.getD k 0) L.length) L.length := rfl
      have HUS := Lib.hid HUS
      generalize cs.getD k 0 = x at *
      generalize hUU : useAt L cs k = U at *
      clear hUU
      go_wp2_with fail
      refine (pay_n _ _ _ _ L.length L U x wr HUL.out (three_ext h hbw) hU hl (by omega)).mono ?_
      unfold PaySays
      rw [HQ.out.1, HQ.out.2.1, HQ.out.2.2, pays_length]
      rintro e w4 ⟨v3, rfl, own3, hx4⟩
      obtain ⟨A3, c3, rfl, _, _, _⟩ := caps_of_own own3
      have own1 := own_below own1 hx4
      have own2 := own_below own2 hx4
      have hb4 := hbw.trans (hx4.mono hbw.size)
      have HPG := Lib.hid (fun i (hi : i < L.length) => pays_get (L := L) (U := U) (x := x) hi)
      have HPL := Lib.hid (pays_length L U x L.length)
      generalize pays L U x L.length = P at *
      go_wp2_with fail
      go_loopw [47] (fun i wj => ∃ j : Nat, j ≤ L.length ∧ i = .int .i64 j ∧ wj.ownsRow w.heap.size 3 1 v k (ints (rests L cs k)) ∧ wj.ownsRow w.heap.size 3 1 (.slice (some ⟨g, 0, none⟩) L.length L.length) L.length (ints (addTo U P j)) ∧ wj.ownsRow wr.heap.size 3 1 (.slice A3 L.length c3) L.length (ints P) ∧ Below w.heap.size w wj) (fun i _ => L.length - (intOf i).toNat)
      case atStart => exact ⟨0, Nat.zero_le _, rfl, own1, own2, own3, hb4⟩
      case round =>
        obtain ⟨j, hj, rfl, own1, own2, own3, hbj⟩ := hrel
        by_cases hltj : j < L.length
        · obtain ⟨g3, cap3, ev, hg3, hg3', _⟩ := own_form own3 (by omega)
          cases ev
          have hgj := (own2.lt _ rfl).2
          have a0 := own2.cellAt j (by omega)
          rw [ints_getD (by rw [addTo_length, HUL.out]; exact hltj), addTo_get, if_neg (fun h => absurd h.1 (by omega))] at a0
          have af := own2.frozenAt j
          have p0 := own3.cellAt j (by omega)
          rw [ints_getD (by rw [HPL.out]; exact hltj)] at p0
          have q1 := HB.out j hltj
          have q2 := HP.out j hltj
          have q3 := HL.out.2 j hltj
          rw [← HPG.out j hltj] at q2
          have hnx : addTo U P (j + 1) = (addTo U P j).set j (U.getD j 0 + P.getD j 0) := rfl
          have HNX := Lib.hid hnx
          clear hnx
          generalize U.getD j 0 = uj at *
          generalize P.getD j 0 = pj at *
          have ws : IntKind.i64.wrap (uj + pj) = uj + pj := IntWalk.i64_in _ (by omega)
          have j0 : (0 : Int) ≤ (j : Int) := by omega
          have j1 : (j : Int) < (L.length : Int) := by omega
          clear q1 q2 q3
          go_wp2_with fail
          go_roundw
          case rel =>
            obtain ⟨own2', hgr⟩ := own2.stored j (.int .i64 (uj + pj))
            rw [ints_set, ← HNX.out] at own2'
            first
              | exact ⟨j + 1, by omega, by go_num, own1.kept hgr (by cases hv : v.ownBlock with | none => exact .inl rfl | some q => exact .inr (fun e => hap (by rw [hv, e]))), own2', own3.kept hgr (.inr (by simp [Value.ownBlock]; omega)), hbj.setCell (by simp; omega) _⟩
              | exact ⟨j + 1, by omega, by go_num, (own1.kept hgr (by cases hv : v.ownBlock with | none => exact .inl rfl | some q => exact .inr (fun e => hap (by rw [hv, e])))).drew, own2'.drew, (own3.kept hgr (.inr (by simp [Value.ownBlock]; omega))).drew, (hbj.setCell (by simp; omega) _).drew⟩
          case measure => simp [intOf]; omega
        · obtain rfl : j = L.length := by omega
          rw [← HUS.out] at own2
          have hszj := hbj.size
          have hgj := (own2.lt _ rfl).2
          go_wp2_with (first | (at_builtin; refine push_own2 rfl _ _ 23 rfl w.heap.size 3 i0 (.int .i64 0) 1 8 Try.underlying23 hi hz0 hz1 hz2 rfl (by decide) _ _ _ _ rfl own1 1 1 [.int .i64 (restAt L U x L.length)] rfl rfl (by simp [Value.oneCell']) hszj (by omega) (by omega) ?_; intro v1' wa own1' hba hga hoa))
          have hga : World.grownBy _ wa v.ownBlock := hga
          have hoa : Off v _ v1' := hoa
          go_roundw
          case rel => exact ⟨k + 1, by omega, by go_num, by rw [← HRS.out]; exact own1', own2.kept hga (.inr (fun e => hap (e.symm.trans rfl))), hoa g hgj hap, hbj.trans hba⟩
          case measure => simp [intOf]; omega
    · go_wp2_with fail
      ((try simp only [Exit.inBlock, Exit.then]); refine bodyPost_ret (results_tmp3 rfl _ _ _) rfl ?_)
      obtain rfl : k = cs.length := by omega
      exact run_good HOK.out hlen hbw own1 own2
set_option maxHeartbeats 4000000 in
set_option maxRecDepth 100000 in
theorem rrun_any (A A2 : Option Addr) (c c2 : Nat) (L : List P3) (cs : List Int) (w : World) (h : Three w w.heap.size A L) (h2 : Nums w w.heap.size A2 cs) (hl : L.length ≤ 9223372036854775807) (hl2 : cs.length ≤ 9223372036854775807) :
    Calls Try.prog 13 #[.slice A L.length c, .slice A2 cs.length c2] w (RunSays L cs w) := by
  go_enter Try.func13, Try.ntmps13
  go_wp2_with fail
  refine (rright_any _ _ _ _ h hl).mono ?_
  rintro e w1 ⟨rfl, hb1⟩
  cases hr : rightB L
  · go_wp2_with fail
    ((try simp only [Exit.inBlock, Exit.then]); refine bodyPost_ret (results_tmp3 rfl _ _ _) rfl ?_)
    exact run_bad (by simp [okRun, hr]) hb1
  have HR := Lib.hid hr
  clear hr
  go_wp2_with fail
  refine (rclaims_any _ _ _ _ (num_ext h2 hb1) hl2).mono ?_
  rintro e w2 ⟨rfl, hx2⟩
  have hb2 := hb1.trans (hx2.mono hb1.size)
  cases hc : claimsB cs
  · go_wp2_with fail
    ((try simp only [Exit.inBlock, Exit.then]); refine bodyPost_ret (results_tmp3 rfl _ _ _) rfl ?_)
    exact run_bad (by simp [okRun, hc]) hb2
  have HC := Lib.hid hc
  clear hc hx2 hb1
  have hok : okRun L cs = true := by simp [okRun, HR.out, HC.out]
  have HOK := Lib.hid hok
  clear hok
  by_cases hlen : cs.length ≤ 10000
  rotate_left
  · go_wp2_with fail
    ((try simp only [Exit.inBlock, Exit.then]); refine bodyPost_ret (results_tmp3 rfl _ _ _) rfl ?_)
    exact run_full HOK.out hlen hb2
  obtain ⟨i0, hi, hz0, hz1, hz2⟩ := info_parts info3
  have HL := Lib.hid (fine_of_right HR.out)
  have hn6 := HL.out.1
  have hsz2 := hb2.size
  have hlen' : ((cs.length : Int) ≤ 10000) := by omega
  go_wp2_with (at_make; refine wpList_make_full w2 rfl _ _ 23 rfl w.heap.size 3 i0 _ 1 Try.underlying23 hi hz0 hz1 .i64 .i64 _ _ L.length rfl rfl rfl rfl (by rw [hz2]; omega) (by unfold maxLen; omega) hsz2 ?_; intro w3 own2 hg3)
  rw [zeros] at own2
  have hb3 := hb2.grown hg3 hsz2 (fun k e => by cases e)
  have hg2 : w.heap.size ≤ w2.heap.size := hsz2
  have hg2' : w2.heap.size < w3.heap.size := (own2.lt _ rfl).2
  generalize w2.heap.size = g at own2 hg2 hg2'
  clear hg3 hb2 hsz2
  go_loopw [8, 9] (fun v i wr => ∃ k : Nat, k ≤ cs.length ∧ i = .int .i64 k ∧ wr.ownsRow w.heap.size 3 1 v k (ints (rests L cs k)) ∧ wr.ownsRow w.heap.size 3 1 (.slice (some ⟨g, 0, none⟩) L.length L.length) L.length (ints (useAt L cs k)) ∧ v.ownBlock ≠ some g ∧ Below w.heap.size w wr) (fun _ i _ => cs.length - (intOf i).toNat)
  case atStart => exact ⟨0, Nat.zero_le _, rfl, World.ownsRow_nil _ _ _ _, own2, by simp [Value.ownBlock], hb3⟩
  case round =>
    obtain ⟨k, hk, rfl, own1, own2, hap, hbw⟩ := hrel
    generalize u8 = v at own1 hap ⊢
    by_cases hlt : k < cs.length
    · obtain ⟨b, o, rfl, hb, e0⟩ := (h2.below hbw).at_ hlt
      have hgw := (own2.lt _ rfl).2
      have hgb := (own2.lt _ rfl).1
      obtain ⟨A2', c2', ev, sh, _, _⟩ := caps_of_own own2
      cases ev
      have hU : Nums wr wr.heap.size (some ⟨g, 0, none⟩) (useAt L cs k) := by
        unfold Nums
        rw [useAt_length]
        exact sh
      clear sh
      have hx : cs[k] = cs.getD k 0 := (getD1 hlt).symm
      rw [hx] at e0
      clear hx
      have HB := Lib.hid (useAt_bounds HL.out cs k)
      have HP := Lib.hid (fun i hi => payAt_bounds (x := cs.getD k 0) (i := i) HL.out HB.out hi)
      have HRS := Lib.hid (rests_succ L cs k)
      have HQ := Lib.hid (pay_runs HR.out HC.out hlt)
      have HUL := Lib.hid (useAt_length L cs k)
      have HUS : useAt L cs (k + 1) = addTo (useAt L cs k) (pays L (useAt L cs k) (cs.getD k 0) L.length) L.length := rfl
      have HUS := Lib.hid HUS
      generalize cs.getD k 0 = x at *
      generalize hUU : useAt L cs k = U at *
      clear hUU
      go_wp2_with fail
      refine (rpay_n _ _ _ _ L.length L U x wr HUL.out (three_ext h hbw) hU hl (by omega)).mono ?_
      unfold PaySays
      rw [HQ.out.1, HQ.out.2.1, HQ.out.2.2, pays_length]
      rintro e w4 ⟨v3, rfl, own3, hx4⟩
      obtain ⟨A3, c3, rfl, _, _, _⟩ := caps_of_own own3
      have own1 := own_below own1 hx4
      have own2 := own_below own2 hx4
      have hb4 := hbw.trans (hx4.mono hbw.size)
      have HPG := Lib.hid (fun i (hi : i < L.length) => pays_get (L := L) (U := U) (x := x) hi)
      have HPL := Lib.hid (pays_length L U x L.length)
      generalize pays L U x L.length = P at *
      go_wp2_with fail
      go_loopw [13] (fun i wj => ∃ j : Nat, j ≤ L.length ∧ i = .int .i64 j ∧ wj.ownsRow w.heap.size 3 1 v k (ints (rests L cs k)) ∧ wj.ownsRow w.heap.size 3 1 (.slice (some ⟨g, 0, none⟩) L.length L.length) L.length (ints (addTo U P j)) ∧ wj.ownsRow wr.heap.size 3 1 (.slice A3 L.length c3) L.length (ints P) ∧ Below w.heap.size w wj) (fun i _ => L.length - (intOf i).toNat)
      case atStart => exact ⟨0, Nat.zero_le _, rfl, own1, own2, own3, hb4⟩
      case round =>
        obtain ⟨j, hj, rfl, own1, own2, own3, hbj⟩ := hrel
        by_cases hltj : j < L.length
        · obtain ⟨g3, cap3, ev, hg3, hg3', _⟩ := own_form own3 (by omega)
          cases ev
          have hgj := (own2.lt _ rfl).2
          have a0 := own2.cellAt j (by omega)
          rw [ints_getD (by rw [addTo_length, HUL.out]; exact hltj), addTo_get, if_neg (fun h => absurd h.1 (by omega))] at a0
          have af := own2.frozenAt j
          have p0 := own3.cellAt j (by omega)
          rw [ints_getD (by rw [HPL.out]; exact hltj)] at p0
          have q1 := HB.out j hltj
          have q2 := HP.out j hltj
          have q3 := HL.out.2 j hltj
          rw [← HPG.out j hltj] at q2
          have hnx : addTo U P (j + 1) = (addTo U P j).set j (U.getD j 0 + P.getD j 0) := rfl
          have HNX := Lib.hid hnx
          clear hnx
          generalize U.getD j 0 = uj at *
          generalize P.getD j 0 = pj at *
          have ws : IntKind.i64.wrap (uj + pj) = uj + pj := IntWalk.i64_in _ (by omega)
          have j0 : (0 : Int) ≤ (j : Int) := by omega
          have j1 : (j : Int) < (L.length : Int) := by omega
          clear q1 q2 q3
          go_wp2_with fail
          refine wp_region_mix [(0, true), (1, true), (2, true), (3, true), (4, true), (5, true), (6, true), (7, true), (8, true), (9, true), (10, true)] [11, 12] (SB w.heap.size w wr.heap.size none _) (by kernel_rfl) (by kernel_rfl) (by kernel_rfl) (by kernel_rfl) (by decide) (SB.start hbj (by omega)) (fun hS => ?_)
          simp only [planned, List.filterMap_cons, List.filterMap_nil, List.getElem?_cons_zero, List.getElem?_cons_succ, Option.map_some]
          repeat (first
            | (refine mix_skip (by rfl) ?_; try simp only [Act.put, List.setIfInBounds_toArray, List.set_cons_zero, List.set_cons_succ])
            | (refine mix_pass hS (by rfl) ?_; try simp only [Act.put, List.setIfInBounds_toArray, List.set_cons_zero, List.set_cons_succ])
            | (refine mix_pure (by rfl) (by rfl) (fun K hK => ?_); go_big_quiet_op; refine hK _ ?_; clear hK K)
            | (refine mix_take (by rfl) ?_
               apply Exists.intro
               refine ⟨?_, ?_⟩
               · intro w' hSw
                 have hSc := hSw.cell
                 clear hSw
                 go_simp
                 try with_reducible rfl
               try simp only [Act.put, List.setIfInBounds_toArray, List.set_cons_zero, List.set_cons_succ])
            | (refine mix_move (by rfl) (fun K hK => ?_)
               go_simp
               try dsimp only
               first
                 | refine hK.out _ _ (hS.step hx (by omega)) ?_
                 | refine hK.out _ _ hS ?_
                 | refine hK.out _ _ (hS.alloc _ (by omega)) ?_
                 | refine hK.out _ _ (hS.grown hg hx) ?_
               clear hK K hS
               intro hS
               try simp only [Act.put, List.setIfInBounds_toArray, List.set_cons_zero, List.set_cons_succ])
            | fail)
          refine mix_nil ?_
          simp only [tailed, List.filterMap_cons, List.filterMap_nil, List.getElem?_cons_zero, List.getElem?_cons_succ]
          go_wp2_with fail
          refine NoPanic.normal ?_
          go_wp2_with fail
          go_roundw
          case rel =>
            obtain ⟨own2', hgr⟩ := own2.stored j (.int .i64 (uj + pj))
            rw [ints_set, ← HNX.out] at own2'
            first
              | exact ⟨j + 1, by omega, by go_num, own1.kept hgr (by cases hv : v.ownBlock with | none => exact .inl rfl | some q => exact .inr (fun e => hap (by rw [hv, e]))), own2', own3.kept hgr (.inr (by simp [Value.ownBlock]; omega)), hbj.setCell (by simp; omega) _⟩
              | exact ⟨j + 1, by omega, by go_num, (own1.kept hgr (by cases hv : v.ownBlock with | none => exact .inl rfl | some q => exact .inr (fun e => hap (by rw [hv, e])))).drew, own2'.drew, (own3.kept hgr (.inr (by simp [Value.ownBlock]; omega))).drew, (hbj.setCell (by simp; omega) _).drew⟩
          case measure => simp [intOf]; omega
        · obtain rfl : j = L.length := by omega
          rw [← HUS.out] at own2
          have hszj := hbj.size
          have hgj := (own2.lt _ rfl).2
          go_wp2_with (first | (at_builtin; refine push_own2 rfl _ _ 23 rfl w.heap.size 3 i0 (.int .i64 0) 1 8 Try.underlying23 hi hz0 hz1 hz2 rfl (by decide) _ _ _ _ rfl own1 1 1 [.int .i64 (restAt L U x L.length)] rfl rfl (by simp [Value.oneCell']) hszj (by omega) (by omega) ?_; intro v1' wa own1' hba hga hoa))
          have hga : World.grownBy _ wa v.ownBlock := hga
          have hoa : Off v _ v1' := hoa
          go_roundw
          case rel => exact ⟨k + 1, by omega, by go_num, by rw [← HRS.out]; exact own1', own2.kept hga (.inr (fun e => hap (e.symm.trans rfl))), hoa g hgj hap, hbj.trans hba⟩
          case measure => simp [intOf]; omega
    · go_wp2_with fail
      ((try simp only [Exit.inBlock, Exit.then]); refine bodyPost_ret (results_tmp3 rfl _ _ _) rfl ?_)
      obtain rfl : k = cs.length := by omega
      exact run_good HOK.out hlen hbw own1 own2
end Go.Proofs.Ytcienmbbfcljnaa
