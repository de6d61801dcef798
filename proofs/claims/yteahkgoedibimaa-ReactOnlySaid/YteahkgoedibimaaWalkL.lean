/-
  The walks of Keeps and of the reference's Keeps. Conditions: none.
-/
import Derived.Test.YteahkgoedibimaaWalkI
namespace Go.Proofs.Yteahkgoedibimaa
open Go.RowKit

def winB (ws : List P2) (T : List Int) (k : Nat) : Bool := inB (T.getD k 0) (ws.getD k ⟨0, 0⟩).a (ws.getD k ⟨0, 0⟩).b
def lateR (T : List Int) (r : P3) : Bool := decide (r.c < T.getD r.b.toNat 0 - T.getD r.a.toNat 0)
def keepB (ws ls : List P2) (rs : List P3) (T : List Int) : Bool := rightC ws ls rs && decide (T.length = ws.length) && (List.range ws.length).all (winB ws T) && !rs.any (lateR T)
theorem keep_win {ws ls : List P2} {rs : List P3} {T : List Int} {k : Nat} (hk : k < ws.length) (h : winB ws T k = false) : keepB ws ls rs T = false := by
  have : (List.range ws.length).all (winB ws T) = false := by
    rw [List.all_eq_false]
    exact ⟨k, by simpa using hk, by simp [h]⟩
  simp [keepB, this]
theorem win_all {ws : List P2} {T : List Int} (h : ∀ k, k < ws.length → winB ws T k = true) : (List.range ws.length).all (winB ws T) = true := by
  rw [List.all_eq_true]
  intro k hk
  exact h k (by simpa using hk)
theorem win_bounds {ws ls : List P2} {rs : List P3} {T : List Int} (hF : FineC ws ls rs) {k : Nat} (h : winB ws T k = true) : 0 ≤ T.getD k 0 ∧ T.getD k 0 ≤ 1048576 := by
  have := hF.2.1 k
  unfold okP at this
  simp only [winB, inB, Bool.and_eq_true, decide_eq_true_eq] at h
  omega
theorem not_anyL {T : List Int} {l : List P3} : (∀ j, (hj : j < l.length) → lateR T l[j] = false) → l.any (lateR T) = false := fun h => List.any_eq_false.2 (fun x hx => by
  obtain ⟨j, hj, rfl⟩ := List.getElem_of_mem hx
  simpa using h j hj)
/-- a ride among n events -/
def inR (n : Nat) (t : P3) : Prop := 0 ≤ t.a ∧ t.a < n ∧ 0 ≤ t.b ∧ t.b < n
set_option maxHeartbeats 1000000 in
theorem late_ride (g : Nat) (A : Option Addr) (c : Nat) (T : List Int) (t : P3) (w : World) (hg : w.cell? ⟨g, 0, none⟩ = some (.slice A T.length c)) (hgs : g < w.heap.size) (h : Nums w w.heap.size A T) (hin : inR T.length t)
    (hT : ∀ k, k < T.length → 0 ≤ T.getD k 0 ∧ T.getD k 0 ≤ 1048576) :
    Calls Try.prog 40 #[.agg #[.int .i64 t.a, .int .i64 t.b, .int .i64 t.c], .pointer (some ⟨g, 0, none⟩)] w fun e w' => e = .returned (.bool (lateR T t)) ∧ Below w.heap.size w w' := by
  obtain ⟨ta, tb, tc⟩ := t
  obtain ⟨h0, h1, h2, h3⟩ := hin
  simp only at h0 h1 h2 h3
  obtain ⟨na, rfl⟩ := Int.eq_ofNat_of_zero_le h0
  obtain ⟨nb, rfl⟩ := Int.eq_ofNat_of_zero_le h2
  have hna : na < T.length := by omega
  have hnb : nb < T.length := by omega
  obtain ⟨b, o, rfl, hb, e0⟩ := h.at_ hna
  obtain ⟨b', o', q, _, e1⟩ := h.at_ hnb
  cases q
  rw [← getD1 hna] at e0
  rw [← getD1 hnb] at e1
  have f0 := hT na hna
  have f1 := hT nb hnb
  have hl : lateR T ⟨na, nb, tc⟩ = decide (tc < T.getD nb 0 - T.getD na 0) := by simp [lateR]
  have HL := Lib.hid hl
  clear hl
  generalize T.getD na 0 = ya at e0 f0 HL
  generalize T.getD nb 0 = yb at e1 f1 HL
  have wk : IntKind.i64.wrap (yb - ya) = yb - ya := IntWalk.i64_in _ (by omega)
  have hbA := lit_below w (.cells #[.int .i64 na, .int .i64 nb, .int .i64 tc] 49)
  have hsA := size_alloc w (.cells #[.int .i64 na, .int .i64 nb, .int .i64 tc] 49)
  go_enter Try.func40, Try.ntmps40
  go_wp2_with fail
  refine wp_region_mix [(0, true), (1, true), (2, true), (3, true), (4, true), (5, true), (6, true), (7, true), (8, true), (9, true), (10, true), (11, true), (12, true), (13, true)] [14] (SB w.heap.size w (w.heap.size+1) none _) (by kernel_rfl) (by kernel_rfl) (by kernel_rfl) (by kernel_rfl) (by decide) (SB.start hbA (by omega)) (fun hS => ?_)
  simp only [planned, List.filterMap_cons, List.filterMap_nil, List.getElem?_cons_zero, List.getElem?_cons_succ, Option.map_some]
  repeat (first
    | (refine mix_skip (by rfl) ?_; try simp only [Act.put, List.setIfInBounds_toArray, List.set_cons_zero, List.set_cons_succ])
    | (refine mix_pass hS (by rfl) ?_; try simp only [Act.put, List.setIfInBounds_toArray, List.set_cons_zero, List.set_cons_succ])
    | (refine mix_pure (by rfl) (by rfl) (fun K hK => ?_); go_big_quiet_op; refine hK _ ?_; clear hK K)
    | (refine mix_take (by rfl) ?_
       apply Exists.intro
       refine ⟨?_, ?_⟩
       · intro w' hSw
         have hSc := hSw.cell
         clear hSw
         go_simp
         try with_reducible rfl
       try simp only [Act.put, List.setIfInBounds_toArray, List.set_cons_zero, List.set_cons_succ])
    | (refine mix_move (by rfl) (fun K hK => ?_)
       go_simp
       try dsimp only
       first
         | refine hK.out _ _ (hS.step hx (by omega)) ?_
         | refine hK.out _ _ hS ?_
         | refine hK.out _ _ (hS.alloc _ (by omega)) ?_
         | refine hK.out _ _ (hS.grown hg hx) ?_
       clear hK K hS
       intro hS
       try simp only [Act.put, List.setIfInBounds_toArray, List.set_cons_zero, List.set_cons_succ])
    | fail)
  refine mix_nil ?_
  simp only [tailed, List.filterMap_cons, List.filterMap_nil, List.getElem?_cons_zero, List.getElem?_cons_succ]
  go_wp2_with fail
  refine NoPanic.normal ?_
  have hb9 := hS.below
  go_wp2_with fail
  go_ret
  exact ⟨ret_bool HL.out.symm, hb9⟩
def SaysL (T : List Int) (l : List P3) (r : Int) : Prop := (decide (0 ≤ r)) = l.any (lateR T)
set_option maxHeartbeats 400000 in
theorem index_late (g : Nat) (A1 : Option Addr) (c1 : Nat) (T : List Int) (A : Option Addr) (c : Nat) (l : List P3) (w : World) (h : Three w w.heap.size A l) (hl : l.length ≤ 1000000000)
    (hg : w.cell? ⟨g, 0, none⟩ = some (.slice A1 T.length c1)) (hgs : g < w.heap.size) (h5 : Nums w w.heap.size A1 T) (hin : ∀ k, (hk : k < l.length) → inR T.length l[k]) (hT : ∀ k, k < T.length → 0 ≤ T.getD k 0 ∧ T.getD k 0 ≤ 1048576) :
    Calls Try.prog 46 #[.slice A l.length c, .func (.func 40) #[] #[.pointer (some ⟨g, 0, none⟩)]] w fun e w' => ∃ r, SaysL T l r ∧ e = .returned (.int .i64 r) ∧ Below w.heap.size w w' := by
  have HT := Lib.hid hT
  have HI := Lib.hid hin
  clear hT hin
  go_enter Try.func46, Try.ntmps46
  go_wp2
  go_loopw [8] (fun i wr => ∃ k : Nat, k ≤ l.length ∧ i = .int .i64 k ∧ (∀ j, (hj : j < l.length) → j < k → lateR T l[j] = false) ∧ Below w.heap.size w wr) (fun i _ => l.length - (intOf i).toNat)
  case atStart => exact ⟨0, Nat.zero_le _, rfl, fun j _ h => absurd h (by omega), Below.refl _ _⟩
  case round =>
    obtain ⟨k, hk, rfl, hall, hbw⟩ := hrel
    have HA := Lib.hid hall
    clear hall
    by_cases hlt : k < l.length
    · obtain ⟨b, o, rfl, hb, e0, e1, e2⟩ := (h.below hbw).at_ hlt
      go_wp2_with fail
      refine (late_ride g A1 c1 T l[k] _ (((bcell hbw).1 _ _ hgs).trans hg) (Nat.lt_of_lt_of_le hgs hbw.size) (num_ext h5 hbw) (HI.out k hlt) HT.out).mono ?_
      rintro e w1 ⟨rfl, hx⟩
      cases hbad : lateR T l[k]
      · have HB := Lib.hid hbad
        clear hbad
        go_wp2_with fail
        go_roundw
        case rel =>
          refine ⟨k + 1, by omega, by go_num, fun j hj hjk => ?_, hbw.trans (hx.mono hbw.size)⟩
          by_cases e : j = k
          · subst e; exact HB.out
          · exact HA.out j hj (by omega)
        case measure => simp [intOf]; omega
      · have HB := Lib.hid hbad
        clear hbad
        go_wp2_with fail
        go_ret
        refine ⟨_, ?_, rfl, hbw.trans (hx.mono hbw.size)⟩
        show decide (0 ≤ (k : Int)) = _
        have : l.any (lateR T) = true := List.any_eq_true.2 ⟨l[k], List.getElem_mem _, HB.out⟩
        rw [this]; simp
    · go_wp2_with fail
      go_ret
      refine ⟨_, ?_, rfl, hbw⟩
      have : l.any (lateR T) = false := not_anyL (fun j hj => HA.out j hj (by omega))
      show decide (0 ≤ (-1 : Int)) = _
      rw [this]; rfl
set_option maxHeartbeats 400000 in
theorem contains_late (g : Nat) (A1 : Option Addr) (c1 : Nat) (T : List Int) (A : Option Addr) (c : Nat) (l : List P3) (w : World) (h : Three w w.heap.size A l) (hl : l.length ≤ 1000000000)
    (hg : w.cell? ⟨g, 0, none⟩ = some (.slice A1 T.length c1)) (hgs : g < w.heap.size) (h5 : Nums w w.heap.size A1 T) (hin : ∀ k, (hk : k < l.length) → inR T.length l[k]) (hT : ∀ k, k < T.length → 0 ≤ T.getD k 0 ∧ T.getD k 0 ≤ 1048576) :
    Calls Try.prog 39 #[.slice A l.length c, .func (.func 40) #[] #[.pointer (some ⟨g, 0, none⟩)]] w fun e w' => e = .returned (.bool (l.any (lateR T))) ∧ Below w.heap.size w w' := by
  go_enter Try.func39, Try.ntmps39
  go_wp2_with fail
  refine (index_late g _ _ T _ _ _ _ h hl hg hgs h5 hin hT).mono ?_
  rintro e w1 ⟨r, hr, rfl, hx⟩
  have HR : decide (0 ≤ r) = l.any (lateR T) := hr
  have H := Lib.hid HR
  clear HR hr
  go_wp2_with fail
  go_ret
  exact ⟨ret_bool H.out, hx⟩
def BoxV (w : World) (g : Nat) (v : Value) : Prop := w.cell? ⟨g, 0, none⟩ = some v ∧ g < w.heap.size
theorem BoxV.new (w : World) (v : Value) (e : TypeId) : BoxV (w.alloc (.cells #[v] e)) w.heap.size v := by
  have h : ∀ j u, [v][j]? = some u → _ := fun j u hu => cell_alloc_add w [v] e j u hu
  exact ⟨h 0 _ rfl, by simp⟩
theorem BoxV.ext {w w' : World} {g : Nat} {v : Value} (h : BoxV w g v) (hx : Below w.heap.size w w') : BoxV w' g v := ⟨((bcell hx).1 _ _ h.2).trans h.1, Nat.lt_of_lt_of_le h.2 hx.size⟩
set_option maxHeartbeats 2000000 in
theorem keeps_any (A1 A2 A3 A4 : Option Addr) (c1 c2 c3 c4 : Nat) (ws ls : List P2) (rs : List P3) (T : List Int) (w : World) (h1 : Two w w.heap.size A1 ws) (h2 : Two w w.heap.size A2 ls) (h3 : Three w w.heap.size A3 rs) (h4 : Nums w w.heap.size A4 T)
    (hl1 : ws.length ≤ 9223372036854775807) :
    Calls Try.prog 19 #[.agg #[.slice A1 ws.length c1, .slice A2 ls.length c2, .slice A3 rs.length c3], .slice A4 T.length c4] w fun e w' => e = .returned (.bool (keepB ws ls rs T)) ∧ Below w.heap.size w w' := by
  go_enter Try.func19, Try.ntmps19
  go_wp2_with fail
  have hbox := BoxC.new w (.slice A1 ws.length c1) (.slice A2 ls.length c2) (.slice A3 rs.length c3) 26
  have hbA := lit_below w (.cells #[.slice A1 ws.length c1, .slice A2 ls.length c2, .slice A3 rs.length c3] 26)
  have hsA : (w.alloc (.cells #[.slice A1 ws.length c1, .slice A2 ls.length c2, .slice A3 rs.length c3] 26)).heap.size = w.heap.size + 1 := size_alloc _ _
  generalize w.alloc (.cells #[.slice A1 ws.length c1, .slice A2 ls.length c2, .slice A3 rs.length c3] 26) = wA at hbA hbox hsA ⊢
  have hbox2 := BoxV.new wA (.slice A4 T.length c4) 27
  have hbox := hbox.ext (lit_below wA (.cells #[.slice A4 T.length c4] 27))
  have hbB := hbA.alloc hbA.size (.cells #[.slice A4 T.length c4] 27)
  rw [hsA] at hbox2
  generalize wA.alloc (.cells #[.slice A4 T.length c4] 27) = wB at hbB hbox hbox2 ⊢
  clear hbA hsA
  obtain ⟨x0, x1, x2, sA⟩ := hbox
  refine (right_any _ _ _ _ _ _ ws ls rs _ (two_ext h1 hbB) (two_ext h2 hbB) (three_ext h3 hbB) hl1).mono ?_
  rintro e w1 ⟨rfl, hx1⟩
  have hb1 := hbB.trans (hx1.mono hbB.size)
  obtain ⟨x0, x1, x2, sA⟩ := BoxC.ext ⟨x0, x1, x2, sA⟩ hx1
  obtain ⟨v0, sV⟩ := hbox2.ext hx1
  cases hr : rightC ws ls rs
  · have HR := Lib.hid hr
    clear hr
    go_wp2_with fail
    go_ret
    exact ⟨ret_bool (by simp [keepB, HR.out]), hb1⟩
  by_cases hn : T.length = ws.length
  rotate_left
  · have hnb : ((T.length : Int) != (ws.length : Int)) = true := by simp; omega
    have HR := Lib.hid hr
    clear hr
    go_wp2_with fail
    go_ret
    exact ⟨ret_bool (by simp [keepB, hn]), hb1⟩
  have hnb : ((T.length : Int) != (ws.length : Int)) = false := by simp; omega
  have HR := Lib.hid hr
  have HF := Lib.hid (fine_right hr)
  have HN := Lib.hid hn
  clear hr hn
  have hn82 : ws.length ≤ 82 := HF.out.1.2.1
  have hr200 : rs.length ≤ 200 := HF.out.1.2.2.2
  have s1 := hb1.size
  go_wp2_with fail
  clear hnb
  go_loopw [21] (fun i wr => ∃ k : Nat, k ≤ ws.length ∧ i = .int .i64 k ∧ (∀ j, j < k → winB ws T j = true) ∧ Below w1.heap.size w1 wr) (fun i _ => ws.length - (intOf i).toNat)
  case atStart => exact ⟨0, Nat.zero_le _, rfl, fun j h => absurd h (by omega), Below.refl _ _⟩
  case round =>
    obtain ⟨k, hk, rfl, hall, hbC⟩ := hrel
    have HA := Lib.hid hall
    clear hall
    have hbw := hb1.trans (hbC.mono hb1.size)
    obtain ⟨y0, y1, y2, sB⟩ := BoxC.ext ⟨x0, x1, x2, sA⟩ hbC
    obtain ⟨v1, sW⟩ := BoxV.ext ⟨v0, sV⟩ hbC
    have hszc := hbC.size
    by_cases hlt : k < ws.length
    · have hltT : k < T.length := by have := HN.out; omega
      obtain ⟨b', o, rfl, hb', e0, e1⟩ := (h1.below hbw).at_ hlt
      obtain ⟨b5, o5, rfl, hb5, f0⟩ := (h4.below hbw).at_ hltT
      rw [← getD2 hlt] at e0 e1
      rw [← getD1 hltT] at f0
      have i0' : (0 : Int) ≤ k := by omega
      have i1' : (k : Int) < (ws.length : Int) := by omega
      have i2' : (k : Int) < (T.length : Int) := by omega
      have HQ := Lib.hid (show winB ws T k = inB (T.getD k 0) (ws.getD k ⟨0, 0⟩).a (ws.getD k ⟨0, 0⟩).b from rfl)
      generalize ws.getD k ⟨0, 0⟩ = t at e0 e1 HQ
      generalize T.getD k 0 = y at f0 HQ
      have hsz := hbw.size
      have i3' : b5 < wr.heap.size := by omega
      have i4' : b' < wr.heap.size := by omega
      have hbD := hbw.alloc (o := .cells #[.int .i64 t.a, .int .i64 t.b] 47) hsz
      have hbE := hbC.alloc (o := .cells #[.int .i64 t.a, .int .i64 t.b] 47) hszc
      have hszA := size_alloc wr (.cells #[.int .i64 t.a, .int .i64 t.b] 47)
      by_cases q1 : y < t.a
      · skip
        go_wp2_with fail
        refine wp_region_mix [(0, true), (1, true), (2, true), (3, true), (4, true), (5, true), (6, true), (7, true), (8, true), (9, true), (10, true), (11, true), (12, true), (13, true), (14, true), (15, true)] [] (SB w.heap.size w (wr.heap.size+1) none _) (by kernel_rfl) (by kernel_rfl) (by kernel_rfl) (by kernel_rfl) (by decide) (SB.start hbD (by omega)) (fun hS => ?_)
        simp only [planned, List.filterMap_cons, List.filterMap_nil, List.getElem?_cons_zero, List.getElem?_cons_succ, Option.map_some]
        repeat (first
          | (refine mix_skip (by rfl) ?_; try simp only [Act.put, List.setIfInBounds_toArray, List.set_cons_zero, List.set_cons_succ])
          | (refine mix_pass hS (by rfl) ?_; try simp only [Act.put, List.setIfInBounds_toArray, List.set_cons_zero, List.set_cons_succ])
          | (refine mix_pure (by rfl) (by rfl) (fun K hK => ?_); go_big_quiet_op; refine hK _ ?_; clear hK K)
          | (refine mix_take (by rfl) ?_
             apply Exists.intro
             refine ⟨?_, ?_⟩
             · intro w' hSw
               have hSc := hSw.cell
               clear hSw
               go_simp
               try with_reducible rfl
             try simp only [Act.put, List.setIfInBounds_toArray, List.set_cons_zero, List.set_cons_succ])
          | (refine mix_move (by rfl) (fun K hK => ?_)
             go_simp
             try dsimp only
             first
               | refine hK.out _ _ (hS.step hx (by omega)) ?_
               | refine hK.out _ _ hS ?_
               | refine hK.out _ _ (hS.alloc _ (by omega)) ?_
               | refine hK.out _ _ (hS.grown hg hx) ?_
             clear hK K hS
             intro hS
             try simp only [Act.put, List.setIfInBounds_toArray, List.set_cons_zero, List.set_cons_succ])
          | fail)
        refine mix_nil ?_
        simp only [tailed, List.filterMap_nil]
        go_wp2_with fail
        refine NoPanic.normal ?_
        have hb9 := hS.below
        go_wp2_with fail
        go_ret
        exact ⟨ret_bool (keep_win hlt (by rw [HQ.out]; simp [inB]; omega)).symm, hb9⟩
      have q1' := decide_eq_false q1
      by_cases q2 : t.b < y
      · skip
        go_wp2_with fail
        refine wp_region_mix [(0, true), (1, true), (2, true), (3, true), (4, true), (5, true), (6, true), (7, true), (8, true), (9, true), (10, true), (11, true), (12, true), (13, true), (14, true), (15, true)] [] (SB w.heap.size w (wr.heap.size+1) none _) (by kernel_rfl) (by kernel_rfl) (by kernel_rfl) (by kernel_rfl) (by decide) (SB.start hbD (by omega)) (fun hS => ?_)
        simp only [planned, List.filterMap_cons, List.filterMap_nil, List.getElem?_cons_zero, List.getElem?_cons_succ, Option.map_some]
        repeat (first
          | (refine mix_skip (by rfl) ?_; try simp only [Act.put, List.setIfInBounds_toArray, List.set_cons_zero, List.set_cons_succ])
          | (refine mix_pass hS (by rfl) ?_; try simp only [Act.put, List.setIfInBounds_toArray, List.set_cons_zero, List.set_cons_succ])
          | (refine mix_pure (by rfl) (by rfl) (fun K hK => ?_); go_big_quiet_op; refine hK _ ?_; clear hK K)
          | (refine mix_take (by rfl) ?_
             apply Exists.intro
             refine ⟨?_, ?_⟩
             · intro w' hSw
               have hSc := hSw.cell
               clear hSw
               go_simp
               try with_reducible rfl
             try simp only [Act.put, List.setIfInBounds_toArray, List.set_cons_zero, List.set_cons_succ])
          | (refine mix_move (by rfl) (fun K hK => ?_)
             go_simp
             try dsimp only
             first
               | refine hK.out _ _ (hS.step hx (by omega)) ?_
               | refine hK.out _ _ hS ?_
               | refine hK.out _ _ (hS.alloc _ (by omega)) ?_
               | refine hK.out _ _ (hS.grown hg hx) ?_
             clear hK K hS
             intro hS
             try simp only [Act.put, List.setIfInBounds_toArray, List.set_cons_zero, List.set_cons_succ])
          | fail)
        refine mix_nil ?_
        simp only [tailed, List.filterMap_nil]
        go_wp2_with fail
        refine NoPanic.normal ?_
        have hb9 := hS.below
        go_wp2_with fail
        go_ret
        exact ⟨ret_bool (keep_win hlt (by rw [HQ.out]; simp [inB]; omega)).symm, hb9⟩
      have q2' := decide_eq_false q2
      go_wp2_with fail
      refine wp_region_mix [(0, true), (1, true), (2, true), (3, true), (4, true), (5, true), (6, true), (7, true), (8, true), (9, true), (10, true), (11, true), (12, true), (13, true), (14, true), (15, true)] [] (SB w1.heap.size w1 (wr.heap.size+1) none _) (by kernel_rfl) (by kernel_rfl) (by kernel_rfl) (by kernel_rfl) (by decide) (SB.start hbE (by omega)) (fun hS => ?_)
      simp only [planned, List.filterMap_cons, List.filterMap_nil, List.getElem?_cons_zero, List.getElem?_cons_succ, Option.map_some]
      repeat (first
        | (refine mix_skip (by rfl) ?_; try simp only [Act.put, List.setIfInBounds_toArray, List.set_cons_zero, List.set_cons_succ])
        | (refine mix_pass hS (by rfl) ?_; try simp only [Act.put, List.setIfInBounds_toArray, List.set_cons_zero, List.set_cons_succ])
        | (refine mix_pure (by rfl) (by rfl) (fun K hK => ?_); go_big_quiet_op; refine hK _ ?_; clear hK K)
        | (refine mix_take (by rfl) ?_
           apply Exists.intro
           refine ⟨?_, ?_⟩
           · intro w' hSw
             have hSc := hSw.cell
             clear hSw
             go_simp
             try with_reducible rfl
           try simp only [Act.put, List.setIfInBounds_toArray, List.set_cons_zero, List.set_cons_succ])
        | (refine mix_move (by rfl) (fun K hK => ?_)
           go_simp
           try dsimp only
           first
             | refine hK.out _ _ (hS.step hx (by omega)) ?_
             | refine hK.out _ _ hS ?_
             | refine hK.out _ _ (hS.alloc _ (by omega)) ?_
             | refine hK.out _ _ (hS.grown hg hx) ?_
           clear hK K hS
           intro hS
           try simp only [Act.put, List.setIfInBounds_toArray, List.set_cons_zero, List.set_cons_succ])
        | fail)
      refine mix_nil ?_
      simp only [tailed, List.filterMap_nil]
      go_wp2_with fail
      refine NoPanic.normal ?_
      have hb9 := hS.below
      go_wp2_with fail
      go_roundw
      case rel =>
        refine ⟨k + 1, by omega, by go_num, fun j hj => ?_, hb9⟩
        by_cases e : j = k
        · subst e; rw [HQ.out]; simp [inB]; omega
        · exact HA.out j (by omega)
      case measure => simp [intOf]; omega
    · have HW := Lib.hid (win_all (ws := ws) (T := T) (fun j hj => HA.out j (by omega)))
      go_wp2_with fail
      refine (contains_late (w.heap.size + 1) _ _ T _ _ rs _ (three_ext h3 hbw) (by omega) v1 sW (num_ext h4 hbw) (fun q hq => ?_) (fun q hq => win_bounds HF.out (HA.out q (by have := HN.out; omega)))).mono ?_
      · have h5 := HF.out.2.2.2 q hq
        have := HN.out
        rw [getD3 hq] at h5
        unfold inR
        omega
      rintro e w5 ⟨rfl, hx5⟩
      have hb5 := hbw.trans (hx5.mono hbw.size)
      go_wp2_with fail
      go_ret
      exact ⟨ret_bool (by simp only [keepB, HR.out, HN.out, HW.out, decide_true, Bool.true_and]), hb5⟩
set_option maxHeartbeats 4000000 in
set_option maxRecDepth 100000 in
theorem rkeeps_any (A1 A2 A3 A4 : Option Addr) (c1 c2 c3 c4 : Nat) (ws ls : List P2) (rs : List P3) (T : List Int) (w : World) (h1 : Two w w.heap.size A1 ws) (h2 : Two w w.heap.size A2 ls) (h3 : Three w w.heap.size A3 rs) (h4 : Nums w w.heap.size A4 T)
    (hl1 : ws.length ≤ 9223372036854775807) :
    Calls Try.prog 20 #[.agg #[.slice A1 ws.length c1, .slice A2 ls.length c2, .slice A3 rs.length c3], .slice A4 T.length c4] w fun e w' => e = .returned (.bool (keepB ws ls rs T)) ∧ Below w.heap.size w w' := by
  go_enter Try.func20, Try.ntmps20
  go_wp2_with fail
  have hbA := lit_below w (.cells #[.slice A1 ws.length c1, .slice A2 ls.length c2, .slice A3 rs.length c3] 26)
  have hbox := BoxC.new w (.slice A1 ws.length c1) (.slice A2 ls.length c2) (.slice A3 rs.length c3) 26
  generalize w.alloc (.cells #[.slice A1 ws.length c1, .slice A2 ls.length c2, .slice A3 rs.length c3] 26) = wA at hbA hbox ⊢
  obtain ⟨x0, x1, x2, sA⟩ := hbox
  refine (rright_any _ _ _ _ _ _ ws ls rs _ (two_ext h1 hbA) (two_ext h2 hbA) (three_ext h3 hbA) hl1).mono ?_
  rintro e w1 ⟨rfl, hx1⟩
  have hb1 := hbA.trans (hx1.mono hbA.size)
  obtain ⟨x0, x1, x2, sA⟩ := BoxC.ext ⟨x0, x1, x2, sA⟩ hx1
  cases hr : rightC ws ls rs
  · have HR := Lib.hid hr
    clear hr
    go_wp2_with fail
    go_ret
    exact ⟨ret_bool (by simp [keepB, HR.out]), hb1⟩
  by_cases hn : T.length = ws.length
  rotate_left
  · have hnb : ((T.length : Int) != (ws.length : Int)) = true := by simp; omega
    have HR := Lib.hid hr
    clear hr
    go_wp2_with fail
    go_ret
    exact ⟨ret_bool (by simp [keepB, hn]), hb1⟩
  have hnb : ((T.length : Int) != (ws.length : Int)) = false := by simp; omega
  have HR := Lib.hid hr
  have HF := Lib.hid (fine_right hr)
  have HN := Lib.hid hn
  clear hr hn
  have hn82 : ws.length ≤ 82 := HF.out.1.2.1
  have hr200 : rs.length ≤ 200 := HF.out.1.2.2.2
  have hT82 : T.length ≤ 82 := by have := HN.out; omega
  have s1 := hb1.size
  go_wp2_with fail
  clear hnb
  go_loopw [5] (fun i wr => ∃ k : Nat, k ≤ T.length ∧ i = .int .i64 k ∧ (∀ j, j < k → winB ws T j = true) ∧ Below w1.heap.size w1 wr) (fun i _ => T.length - (intOf i).toNat)
  case atStart => exact ⟨0, Nat.zero_le _, rfl, fun j h => absurd h (by omega), Below.refl _ _⟩
  case round =>
    obtain ⟨k, hk, rfl, hall, hbC⟩ := hrel
    have HA := Lib.hid hall
    clear hall
    have hbw := hb1.trans (hbC.mono hb1.size)
    obtain ⟨y0, y1, y2, sB⟩ := BoxC.ext ⟨x0, x1, x2, sA⟩ hbC
    have hszc := hbC.size
    by_cases hltT : k < T.length
    · have hlt : k < ws.length := by have := HN.out; omega
      obtain ⟨b', o, rfl, hb', e0, e1⟩ := (h1.below hbw).at_ hlt
      obtain ⟨b5, o5, rfl, hb5, f0⟩ := (h4.below hbw).at_ hltT
      rw [← getD2 hlt] at e0 e1
      rw [← getD1 hltT] at f0
      have i0' : (0 : Int) ≤ k := by omega
      have i1' : (k : Int) < (ws.length : Int) := by omega
      have i2' : (k : Int) < (T.length : Int) := by omega
      have HQ := Lib.hid (show winB ws T k = inB (T.getD k 0) (ws.getD k ⟨0, 0⟩).a (ws.getD k ⟨0, 0⟩).b from rfl)
      generalize ws.getD k ⟨0, 0⟩ = t at e0 e1 HQ
      generalize T.getD k 0 = y at f0 HQ
      have i3' : b5 < wr.heap.size := by omega
      have i4' : b' < wr.heap.size := by omega
      cases hin : inB y t.a t.b
      · go_wp2_with fail
        refine wp_region_mix [(0, true), (1, true), (2, true), (3, true), (4, true), (5, true), (6, true), (7, true), (8, true), (9, true), (10, true), (11, true), (12, true), (13, true), (14, true), (15, true), (16, false), (17, true)] [] (SB w.heap.size w wr.heap.size none _) (by kernel_rfl) (by kernel_rfl) (by kernel_rfl) (by kernel_rfl) (by decide) (SB.start hbw (by omega)) (fun hS => ?_)
        simp only [planned, List.filterMap_cons, List.filterMap_nil, List.getElem?_cons_zero, List.getElem?_cons_succ, Option.map_some]
        repeat (first
          | (refine mix_skip (by rfl) ?_; try simp only [Act.put, List.setIfInBounds_toArray, List.set_cons_zero, List.set_cons_succ])
          | (refine mix_pass hS (by rfl) ?_; try simp only [Act.put, List.setIfInBounds_toArray, List.set_cons_zero, List.set_cons_succ])
          | (refine mix_pure (by rfl) (by rfl) (fun K hK => ?_); go_big_quiet_op; refine hK _ ?_; clear hK K)
          | (refine mix_take (by rfl) ?_
             apply Exists.intro
             refine ⟨?_, ?_⟩
             · intro w' hSw
               have hSc := hSw.cell
               clear hSw
               go_simp
               try with_reducible rfl
             try simp only [Act.put, List.setIfInBounds_toArray, List.set_cons_zero, List.set_cons_succ])
          | (refine mix_move (by rfl) (fun K hK => ?_)
             first
               | (go_simp; go_at_call 33; refine (in_any _ _ _ _).mono ?_; rw [hin]; rintro e w6 ⟨rfl, hx⟩)
               | go_simp
             try dsimp only
             first
               | refine hK.out _ _ (hS.step hx (by omega)) ?_
               | refine hK.out _ _ hS ?_
               | refine hK.out _ _ (hS.alloc _ (by omega)) ?_
               | refine hK.out _ _ (hS.grown hg hx) ?_
             clear hK K hS
             intro hS
             try simp only [Act.put, List.setIfInBounds_toArray, List.set_cons_zero, List.set_cons_succ])
          | fail)
        refine mix_nil ?_
        simp only [tailed, List.filterMap_nil]
        go_wp2_with fail
        refine NoPanic.normal ?_
        have hb9 := hS.below
        have HI := Lib.hid hin
        clear hin
        go_wp2_with fail
        go_ret
        exact ⟨ret_bool (keep_win hlt (by rw [HQ.out, HI.out])).symm, hb9⟩
      · go_wp2_with fail
        refine wp_region_mix [(0, true), (1, true), (2, true), (3, true), (4, true), (5, true), (6, true), (7, true), (8, true), (9, true), (10, true), (11, true), (12, true), (13, true), (14, true), (15, true), (16, false), (17, true)] [] (SB w1.heap.size w1 wr.heap.size none _) (by kernel_rfl) (by kernel_rfl) (by kernel_rfl) (by kernel_rfl) (by decide) (SB.start hbC (by omega)) (fun hS => ?_)
        simp only [planned, List.filterMap_cons, List.filterMap_nil, List.getElem?_cons_zero, List.getElem?_cons_succ, Option.map_some]
        repeat (first
          | (refine mix_skip (by rfl) ?_; try simp only [Act.put, List.setIfInBounds_toArray, List.set_cons_zero, List.set_cons_succ])
          | (refine mix_pass hS (by rfl) ?_; try simp only [Act.put, List.setIfInBounds_toArray, List.set_cons_zero, List.set_cons_succ])
          | (refine mix_pure (by rfl) (by rfl) (fun K hK => ?_); go_big_quiet_op; refine hK _ ?_; clear hK K)
          | (refine mix_take (by rfl) ?_
             apply Exists.intro
             refine ⟨?_, ?_⟩
             · intro w' hSw
               have hSc := hSw.cell
               clear hSw
               go_simp
               try with_reducible rfl
             try simp only [Act.put, List.setIfInBounds_toArray, List.set_cons_zero, List.set_cons_succ])
          | (refine mix_move (by rfl) (fun K hK => ?_)
             first
               | (go_simp; go_at_call 33; refine (in_any _ _ _ _).mono ?_; rw [hin]; rintro e w6 ⟨rfl, hx⟩)
               | go_simp
             try dsimp only
             first
               | refine hK.out _ _ (hS.step hx (by omega)) ?_
               | refine hK.out _ _ hS ?_
               | refine hK.out _ _ (hS.alloc _ (by omega)) ?_
               | refine hK.out _ _ (hS.grown hg hx) ?_
             clear hK K hS
             intro hS
             try simp only [Act.put, List.setIfInBounds_toArray, List.set_cons_zero, List.set_cons_succ])
          | fail)
        refine mix_nil ?_
        simp only [tailed, List.filterMap_nil]
        go_wp2_with fail
        refine NoPanic.normal ?_
        have hb9 := hS.below
        have HI := Lib.hid hin
        clear hin
        go_wp2_with fail
        go_roundw
        case rel =>
          refine ⟨k + 1, by omega, by go_num, fun j hj => ?_, hb9⟩
          by_cases e : j = k
          · subst e; rw [HQ.out, HI.out]
          · exact HA.out j (by omega)
        case measure => simp [intOf]; omega
    · have HW := Lib.hid (win_all (ws := ws) (T := T) (fun j hj => HA.out j (by have := HN.out; omega)))
      have HB := Lib.hid (fun q (hq : q < ws.length) => win_bounds HF.out (HA.out q (by have := HN.out; omega)))
      go_wp2_with fail
      clear y0 y1 y2 sB
      go_loopw [6] (fun i wr => ∃ k : Nat, k ≤ rs.length ∧ i = .int .i64 k ∧ (∀ j, (hj : j < rs.length) → j < k → lateR T rs[j] = false) ∧ Below w1.heap.size w1 wr) (fun i _ => rs.length - (intOf i).toNat)
      case atStart => exact ⟨0, Nat.zero_le _, rfl, fun j _ h => absurd h (by omega), hbC⟩
      case round =>
        obtain ⟨m, hm, rfl, hall, hbC⟩ := hrel
        have HA2 := Lib.hid hall
        clear hall
        have hbz := hb1.trans (hbC.mono hb1.size)
        obtain ⟨y0, y1, y2, sB⟩ := BoxC.ext ⟨x0, x1, x2, sA⟩ hbC
        have hszd := hbC.size
        by_cases hlm : m < rs.length
        · obtain ⟨b3, o3, rfl, hb3', e0, e1, e2⟩ := (h3.below hbz).at_ hlm
          have h5 := HF.out.2.2.2 m hlm
          rw [getD3 hlm] at h5
          have HLT := Lib.hid (show (rs[m] = rs[m]) from rfl)
          generalize hT : rs[m] = t at e0 e1 e2 h5
          have HT := Lib.hid hT
          clear hT HLT
          obtain ⟨ta, tb, tc⟩ := t
          obtain ⟨g0, g1, g2, g3, g4⟩ := h5
          simp only at g0 g1 g2 g3 g4 e0 e1 e2
          obtain ⟨na, rfl⟩ := Int.eq_ofNat_of_zero_le g0
          obtain ⟨nb, rfl⟩ := Int.eq_ofNat_of_zero_le (a := tb) (by omega)
          have hna : na < T.length := by have := HN.out; omega
          have hnb : nb < T.length := by have := HN.out; omega
          obtain ⟨b5, o5, rfl, hb5, f0⟩ := (h4.below hbz).at_ hna
          obtain ⟨b6, o6, q6, _, f1⟩ := (h4.below hbz).at_ hnb
          cases q6
          rw [← getD1 hna] at f0
          rw [← getD1 hnb] at f1
          have k0 := HB.out na (by omega)
          have k1 := HB.out nb (by omega)
          have HL := Lib.hid (show lateR T ⟨na, nb, tc⟩ = decide (tc < T.getD nb 0 - T.getD na 0) by simp [lateR])
          generalize T.getD na 0 = ya at f0 k0 HL
          generalize T.getD nb 0 = yb at f1 k1 HL
          have wk : IntKind.i64.wrap (yb - ya) = yb - ya := IntWalk.i64_in _ (by omega)
          have i0' : (0 : Int) ≤ m := by omega
          have i1' : (m : Int) < (rs.length : Int) := by omega
          have i3' : b5 < wr.heap.size := by omega
          have i4' : b3 < wr.heap.size := by omega
          have hsz := hbz.size
          have hbD := hbz.alloc (o := .cells #[.int .i64 na, .int .i64 nb, .int .i64 tc] 49) hsz
          have hbE := hbC.alloc (o := .cells #[.int .i64 na, .int .i64 nb, .int .i64 tc] 49) hszd
          have hszA := size_alloc wr (.cells #[.int .i64 na, .int .i64 nb, .int .i64 tc] 49)
          by_cases hbad : tc < yb - ya
          · go_wp2_with fail
            refine wp_region_mix [(0, true), (1, true), (2, true), (3, true), (4, true), (5, true), (6, true), (7, true), (8, true), (9, true), (10, true), (11, true), (12, true), (13, true)] [] (SB w.heap.size w (wr.heap.size+1) none _) (by kernel_rfl) (by kernel_rfl) (by kernel_rfl) (by kernel_rfl) (by decide) (SB.start hbD (by omega)) (fun hS => ?_)
            simp only [planned, List.filterMap_cons, List.filterMap_nil, List.getElem?_cons_zero, List.getElem?_cons_succ, Option.map_some]
            repeat (first
              | (refine mix_skip (by rfl) ?_; try simp only [Act.put, List.setIfInBounds_toArray, List.set_cons_zero, List.set_cons_succ])
              | (refine mix_pass hS (by rfl) ?_; try simp only [Act.put, List.setIfInBounds_toArray, List.set_cons_zero, List.set_cons_succ])
              | (refine mix_pure (by rfl) (by rfl) (fun K hK => ?_); go_big_quiet_op; refine hK _ ?_; clear hK K)
              | (refine mix_take (by rfl) ?_
                 apply Exists.intro
                 refine ⟨?_, ?_⟩
                 · intro w' hSw
                   have hSc := hSw.cell
                   clear hSw
                   go_simp
                   try with_reducible rfl
                 try simp only [Act.put, List.setIfInBounds_toArray, List.set_cons_zero, List.set_cons_succ])
              | (refine mix_move (by rfl) (fun K hK => ?_)
                 go_simp
                 try dsimp only
                 first
                   | refine hK.out _ _ (hS.step hx (by omega)) ?_
                   | refine hK.out _ _ hS ?_
                   | refine hK.out _ _ (hS.alloc _ (by omega)) ?_
                   | refine hK.out _ _ (hS.grown hg hx) ?_
                 clear hK K hS
                 intro hS
                 try simp only [Act.put, List.setIfInBounds_toArray, List.set_cons_zero, List.set_cons_succ])
              | fail)
            refine mix_nil ?_
            simp only [tailed, List.filterMap_nil]
            go_wp2_with fail
            refine NoPanic.normal ?_
            have hb9 := hS.below
            go_wp2_with fail
            go_ret
            have : rs.any (lateR T) = true := List.any_eq_true.2 ⟨rs[m], List.getElem_mem _, by rw [HT.out, HL.out]; simp [hbad]⟩
            exact ⟨ret_bool (by simp [keepB, this]), hb9⟩
          · have hbad' := decide_eq_false hbad
            have HBD := Lib.hid hbad
            clear hbad
            go_wp2_with fail
            refine wp_region_mix [(0, true), (1, true), (2, true), (3, true), (4, true), (5, true), (6, true), (7, true), (8, true), (9, true), (10, true), (11, true), (12, true), (13, true)] [] (SB w1.heap.size w1 (wr.heap.size+1) none _) (by kernel_rfl) (by kernel_rfl) (by kernel_rfl) (by kernel_rfl) (by decide) (SB.start hbE (by omega)) (fun hS => ?_)
            simp only [planned, List.filterMap_cons, List.filterMap_nil, List.getElem?_cons_zero, List.getElem?_cons_succ, Option.map_some]
            repeat (first
              | (refine mix_skip (by rfl) ?_; try simp only [Act.put, List.setIfInBounds_toArray, List.set_cons_zero, List.set_cons_succ])
              | (refine mix_pass hS (by rfl) ?_; try simp only [Act.put, List.setIfInBounds_toArray, List.set_cons_zero, List.set_cons_succ])
              | (refine mix_pure (by rfl) (by rfl) (fun K hK => ?_); go_big_quiet_op; refine hK _ ?_; clear hK K)
              | (refine mix_take (by rfl) ?_
                 apply Exists.intro
                 refine ⟨?_, ?_⟩
                 · intro w' hSw
                   have hSc := hSw.cell
                   clear hSw
                   go_simp
                   try with_reducible rfl
                 try simp only [Act.put, List.setIfInBounds_toArray, List.set_cons_zero, List.set_cons_succ])
              | (refine mix_move (by rfl) (fun K hK => ?_)
                 go_simp
                 try dsimp only
                 first
                   | refine hK.out _ _ (hS.step hx (by omega)) ?_
                   | refine hK.out _ _ hS ?_
                   | refine hK.out _ _ (hS.alloc _ (by omega)) ?_
                   | refine hK.out _ _ (hS.grown hg hx) ?_
                 clear hK K hS
                 intro hS
                 try simp only [Act.put, List.setIfInBounds_toArray, List.set_cons_zero, List.set_cons_succ])
              | fail)
            refine mix_nil ?_
            simp only [tailed, List.filterMap_nil]
            go_wp2_with fail
            refine NoPanic.normal ?_
            have hb9 := hS.below
            go_wp2_with fail
            go_roundw
            case rel =>
              refine ⟨m + 1, by omega, by go_num, fun j hj hjk => ?_, hb9⟩
              by_cases e : j = m
              · subst e; rw [HT.out, HL.out]; exact decide_eq_false (by have := HBD.out; omega)
              · exact HA2.out j hj (by omega)
            case measure => simp [intOf]; omega
        · have HE := Lib.hid (not_anyL (T := T) (fun j hj => HA2.out j hj (by omega)))
          go_wp2_with fail
          go_ret
          exact ⟨ret_bool (by simp only [keepB, HR.out, HN.out, HW.out, HE.out, decide_true, Bool.true_and, Bool.not_false]), hbz⟩
end Go.Proofs.Yteahkgoedibimaa
