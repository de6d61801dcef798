/-
  The walks of package tiers' small functions and of the reference's: what each computes. Conditions: none.
-/
import Derived.Test.YtcienmbbfcljnaaRow
import Derived.Test.YtcienmbbfcljnaaMix
import Derived.Test.YtcienmbbfcljnaaThree
import Derived.Test.YtcienmbbfcljnaaProg
namespace Go.Proofs.Ytcienmbbfcljnaa
open Go.RowKit
theorem info3 : (Try.prog.info? 3).map (fun i => (i.zero, i.size, i.bytes)) = some (some (.int .i64 0), 1, 8) := by kernel_rfl
theorem num_ext {w w' : World} {A : Option Addr} {l : List Int} (h : Nums w w.heap.size A l) (hb : Below w.heap.size w w') : Nums w' w'.heap.size A l := Shows.more (h.below hb) hb.size

/-- What a slice literal of ints has made. -/
theorem nums_lit (w : World) (l : List Int) (e : TypeId) : Nums (w.alloc (.cells (ints l).toArray e)) (w.alloc (.cells (ints l).toArray e)).heap.size (some ⟨w.heap.size, 0, none⟩) l := by
  refine ⟨by simp [ints], fun _ => ⟨_, 0, rfl, by simp, fun j u hu => ?_⟩⟩
  rw [cell_of_row _ w.heap.size (0 + j) _ e (0, 0) (heap_alloc_new w _), Nat.zero_add]
  simpa using hu
/-- A box of three ints. -/
def Box3 (w : World) (g : Nat) (t : P3) : Prop := w.cell? ⟨g, 0, none⟩ = some (.int .i64 t.a) ∧ w.cell? ⟨g, 1, none⟩ = some (.int .i64 t.b) ∧ w.cell? ⟨g, 2, none⟩ = some (.int .i64 t.c) ∧ g < w.heap.size
theorem Box3.new (w : World) (t : P3) (e : TypeId) : Box3 (w.alloc (.cells #[.int .i64 t.a, .int .i64 t.b, .int .i64 t.c] e)) w.heap.size t := by
  have h : ∀ j u, [Value.int .i64 t.a, Value.int .i64 t.b, Value.int .i64 t.c][j]? = some u → _ := fun j u hu => cell_alloc_add w [.int .i64 t.a, .int .i64 t.b, .int .i64 t.c] e j u hu
  exact ⟨h 0 _ rfl, h 1 _ rfl, h 2 _ rfl, by simp⟩
theorem Box3.ext {w w' : World} {g : Nat} {t : P3} (h : Box3 w g t) (hx : Below w.heap.size w w') : Box3 w' g t := by
  obtain ⟨h0, h1, h2, h3⟩ := h
  have := (bcell hx).1
  exact ⟨(this _ _ h3).trans h0, (this _ _ h3).trans h1, (this _ _ h3).trans h2, Nat.lt_of_lt_of_le h3 hx.size⟩

def okMoney (n : Int) : Bool := decide (0 ≤ n) && decide (n ≤ 1000000000000000)
theorem okMoney_iff {n : Int} : okMoney n = true ↔ 0 ≤ n ∧ n ≤ 1000000000000000 := by simp [okMoney]
def badT (least : Int) (t : P3) : Bool := decide (t.a < least) || decide (t.b ≤ t.a) || !okMoney t.b || !okMoney t.c
def leastAt (L : List P3) : Nat → Int
  | 0 => 0
  | k + 1 => (L.getD k ⟨0, 0, 0⟩).b
def badAt (L : List P3) (k : Nat) : Bool := badT (leastAt L k) (L.getD k ⟨0, 0, 0⟩)
def rightB (L : List P3) : Bool := (List.range L.length).all (fun k => !badAt L k) && decide (L.length ≤ 6)
theorem getD3 {l : List P3} {k : Nat} (hk : k < l.length) : l.getD k ⟨0, 0, 0⟩ = l[k] := by simp [List.getD, hk]
theorem right_bad {L : List P3} {k : Nat} (hk : k < L.length) (h : badAt L k = true) : rightB L = false := by
  simp only [rightB, Bool.and_eq_false_iff]
  left
  rw [List.all_eq_false]
  exact ⟨k, by simpa using hk, by simp [h]⟩
theorem right_good {L : List P3} (h : ∀ k, k < L.length → badAt L k = false) : rightB L = decide (L.length ≤ 6) := by
  have : (List.range L.length).all (fun k => !badAt L k) = true := by
    rw [List.all_eq_true]
    intro k hk
    simp [h k (by simpa using hk)]
  simp [rightB, this]

set_option maxHeartbeats 400000 in
theorem money_any (n : Int) (w : World) : Calls Try.prog 21 #[.int .i64 n] w fun e w' => e = .returned (.bool (okMoney n)) ∧ Below w.heap.size w w' := by
  by_cases h1 : 0 ≤ n
  all_goals by_cases h2 : n ≤ 1000000000000000
  all_goals try (exfalso; omega)
  all_goals
    (try have h1' := decide_eq_false h1)
    (try have h2' := decide_eq_false h2)
    go_enter Try.func21, Try.ntmps21
    go_wp2
    go_ret
    exact ⟨by simp [okMoney]; omega, Below.refl _ _⟩
set_option maxHeartbeats 400000 in
theorem poor_any (n : Int) (w : World) : Calls Try.prog 26 #[.int .i64 n] w fun e w' => e = .returned (.bool (!okMoney n)) ∧ Below w.heap.size w w' := by
  go_enter Try.func26, Try.ntmps26
  go_wp2_with fail
  refine (money_any _ _).mono ?_
  rintro e w1 ⟨rfl, hx⟩
  go_wp2_with fail
  go_ret
  exact ⟨rfl, hx⟩

/-- What slices.IndexFunc says: whether there is one. -/
def Says (l : List Int) (r : Int) : Prop := (decide (0 ≤ r)) = l.any (fun x => !okMoney x)
theorem not_any {l : List Int} : (∀ j, (hj : j < l.length) → okMoney l[j] = true) → l.any (fun x => !okMoney x) = false := fun h => List.any_eq_false.2 (fun x hx => by
  obtain ⟨j, hj, rfl⟩ := List.getElem_of_mem hx
  simpa using h j hj)
def claimsB (l : List Int) : Bool := !l.any (fun x => !okMoney x)

set_option maxHeartbeats 400000 in
theorem index_any (A : Option Addr) (c : Nat) (l : List Int) (w : World) (h : Nums w w.heap.size A l) (hl : l.length ≤ 9223372036854775807) :
    Calls Try.prog 27 #[.slice A l.length c, .func (.func 26) #[] #[]] w fun e w' => ∃ r, Says l r ∧ e = .returned (.int .i64 r) ∧ Below w.heap.size w w' := by
  go_enter Try.func27, Try.ntmps27
  go_wp2
  go_loopw [8] (fun i wr => ∃ k : Nat, k ≤ l.length ∧ i = .int .i64 k ∧ (∀ j, (hj : j < l.length) → j < k → okMoney l[j] = true) ∧ Below w.heap.size w wr) (fun i _ => l.length - (intOf i).toNat)
  case atStart => exact ⟨0, Nat.zero_le _, rfl, fun j _ h => absurd h (by omega), Below.refl _ _⟩
  case round =>
    obtain ⟨k, hk, rfl, hall, hbw⟩ := hrel
    have HA := Lib.hid hall
    clear hall
    by_cases hlt : k < l.length
    · obtain ⟨b, o, rfl, hb, e0⟩ := (h.below hbw).at_ hlt
      go_wp2_with fail
      refine (poor_any _ _).mono ?_
      rintro e w1 ⟨rfl, hx⟩
      cases hbad : okMoney l[k]
      · have HB := Lib.hid hbad
        clear hbad
        go_wp2_with fail
        go_ret
        refine ⟨_, ?_, rfl, hbw.trans (hx.mono hbw.size)⟩
        show decide (0 ≤ (k : Int)) = _
        have : l.any (fun x => !okMoney x) = true := List.any_eq_true.2 ⟨l[k], List.getElem_mem _, by rw [HB.out]; rfl⟩
        rw [this]; simp
      · have HB := Lib.hid hbad
        clear hbad
        go_wp2_with fail
        go_roundw
        case rel =>
          refine ⟨k + 1, by omega, by go_num, fun j hj hjk => ?_, hbw.trans (hx.mono hbw.size)⟩
          by_cases e : j = k
          · subst e; exact HB.out
          · exact HA.out j hj (by omega)
        case measure => simp [intOf]; omega
    · go_wp2_with fail
      go_ret
      refine ⟨_, ?_, rfl, hbw⟩
      have : l.any (fun x => !okMoney x) = false := not_any (fun j hj => HA.out j hj (by omega))
      show decide (0 ≤ (-1 : Int)) = _
      rw [this]; rfl

set_option maxHeartbeats 400000 in
theorem contains_any (A : Option Addr) (c : Nat) (l : List Int) (w : World) (h : Nums w w.heap.size A l) (hl : l.length ≤ 9223372036854775807) :
    Calls Try.prog 25 #[.slice A l.length c, .func (.func 26) #[] #[]] w fun e w' => e = .returned (.bool (!claimsB l)) ∧ Below w.heap.size w w' := by
  go_enter Try.func25, Try.ntmps25
  go_wp2_with fail
  refine (index_any _ _ _ _ h hl).mono ?_
  rintro e w1 ⟨r, hr, rfl, hx⟩
  have HR : decide (0 ≤ r) = l.any (fun x => !okMoney x) := hr
  have H := Lib.hid HR
  clear HR hr
  go_wp2_with fail
  go_ret
  exact ⟨ret_bool (by rw [H.out]; simp [claimsB]), hx⟩

set_option maxHeartbeats 2000000 in
theorem right_any (A : Option Addr) (c : Nat) (L : List P3) (w : World) (h : Three w w.heap.size A L) (hl : L.length ≤ 9223372036854775807) :
    Calls Try.prog 15 #[.slice A L.length c] w fun e w' => e = .returned (.bool (rightB L)) ∧ Below w.heap.size w w' := by
  go_enter Try.func15, Try.ntmps15
  go_wp2_with fail
  go_loopw [3, 8] (fun m i wr => ∃ k : Nat, k ≤ L.length ∧ i = .int .i64 k ∧ m = .int .i64 (leastAt L k) ∧ (∀ j, j < k → badAt L j = false) ∧ Below w.heap.size w wr) (fun _ i _ => L.length - (intOf i).toNat)
  case atStart => exact ⟨0, Nat.zero_le _, rfl, rfl, fun j h => absurd h (by omega), Below.refl _ _⟩
  case round =>
    obtain ⟨k, hk, rfl, rfl, hall, hbw⟩ := hrel
    have HA := Lib.hid hall
    clear hall
    by_cases hlt : k < L.length
    · obtain ⟨b, o, rfl, hb, e0, e1, e2⟩ := (h.below hbw).at_ hlt
      have hbad : badAt L k = badT (leastAt L k) L[k] := by rw [badAt, getD3 hlt]
      have hnext : leastAt L (k + 1) = L[k].b := by rw [leastAt, getD3 hlt]
      have HB := Lib.hid hbad
      have HN := Lib.hid hnext
      clear hbad hnext
      generalize leastAt L k = m at HB ⊢
      have hbox := Box3.new wr L[k] 36
      generalize L[k] = t at HB HN e0 e1 e2 hbox
      have hbA := hbw.alloc (o := .cells #[.int .i64 t.a, .int .i64 t.b, .int .i64 t.c] 36) hbw.size
      by_cases h1 : t.a < m
      · go_wp2_with fail
        go_ret
        exact ⟨ret_bool (right_bad hlt (by rw [HB.out]; simp [badT, h1])).symm, hbA⟩
      by_cases h2 : t.b ≤ t.a
      · have h1' := decide_eq_false h1
        go_wp2_with fail
        go_ret
        exact ⟨ret_bool (right_bad hlt (by rw [HB.out]; simp [badT, h2])).symm, hbA⟩
      have h1' := decide_eq_false h1
      have h2' := decide_eq_false h2
      go_wp2_with fail
      refine (money_any _ _).mono ?_
      rintro e w1 ⟨rfl, hx1⟩
      have hb1 := hbA.trans (hx1.mono hbA.size)
      have hbox1 := hbox.ext hx1
      obtain ⟨c0, c1, c2, c3⟩ := hbox1
      cases hm : okMoney t.b
      · have HM := Lib.hid hm
        clear hm
        go_wp2_with fail
        go_ret
        exact ⟨ret_bool (right_bad hlt (by rw [HB.out]; simp [badT, HM.out])).symm, hb1⟩
      have HM := Lib.hid hm
      clear hm
      go_wp2_with fail
      refine (money_any _ _).mono ?_
      rintro e w2 ⟨rfl, hx2⟩
      have hb2 := hb1.trans (hx2.mono hb1.size)
      have hbox2 : Box3 w2 wr.heap.size t := Box3.ext ⟨c0, c1, c2, c3⟩ hx2
      clear c0 c1 c2 c3
      obtain ⟨c0, c1, c2, c3⟩ := hbox2
      cases hm : okMoney t.c
      · have HM := Lib.hid hm
        clear hm
        go_wp2_with fail
        go_ret
        exact ⟨ret_bool (right_bad hlt (by rw [HB.out]; simp [badT, HM.out])).symm, hb2⟩
      have HM2 := Lib.hid hm
      clear hm
      go_wp2_with fail
      go_roundw
      case rel =>
        refine ⟨k + 1, by omega, by go_num, by rw [HN.out], fun j hj => ?_, hb2⟩
        by_cases e : j = k
        · subst e; rw [HB.out]; simp [badT, HM.out, HM2.out]; omega
        · exact HA.out j (by omega)
      case measure => simp [intOf]; omega
    · go_wp2_with fail
      go_ret
      exact ⟨ret_bool (by rw [right_good (fun j hj => HA.out j (by omega))]; rw [Bool.eq_iff_iff]; simp only [decide_eq_true_eq]; omega), hbw⟩

set_option maxHeartbeats 4000000 in
theorem rright_any (A : Option Addr) (c : Nat) (L : List P3) (w : World) (h : Three w w.heap.size A L) (hl : L.length ≤ 9223372036854775807) :
    Calls Try.prog 16 #[.slice A L.length c] w fun e w' => e = .returned (.bool (rightB L)) ∧ Below w.heap.size w w' := by
  go_enter Try.func16, Try.ntmps16
  go_wp2_with fail
  go_loopw [3] (fun i wr => ∃ k : Nat, k ≤ L.length ∧ i = .int .i64 k ∧ 0 ≤ leastAt L k ∧ (∀ j, j < k → badAt L j = false) ∧ Below w.heap.size w wr) (fun i _ => L.length - (intOf i).toNat)
  case atStart => exact ⟨0, Nat.zero_le _, rfl, Int.le_refl _, fun j h => absurd h (by omega), Below.refl _ _⟩
  case round =>
    obtain ⟨k, hk, rfl, hm0, hall, hbw⟩ := hrel
    have HA := Lib.hid hall
    clear hall
    by_cases hlt : k < L.length
    · obtain ⟨b, o, rfl, hb, e0, e1, e2⟩ := (h.below hbw).at_ hlt
      have hbad : badAt L k = badT (leastAt L k) L[k] := by rw [badAt, getD3 hlt]
      have hnext : leastAt L (k + 1) = L[k].b := by rw [leastAt, getD3 hlt]
      have HB := Lib.hid hbad
      have HN := Lib.hid hnext
      clear hbad hnext
      have hbA := hbw.alloc (o := .cells #[.int .i64 L[k].a, .int .i64 L[k].b, .int .i64 L[k].c] 36) hbw.size
      have hbAd := hbA.drew
      have i0' : (0 : Int) ≤ k := by omega
      have i1' : (k : Int) < (L.length : Int) := by omega
      have hsz := hbw.size
      have i2' : b < wr.heap.size := by omega
      have hprev : k = 0 ∨ ∃ (j : Nat) (q : Int), k = j + 1 ∧ leastAt L k = q ∧ wr.cell? ⟨b, o + j * 3 + 1, none⟩ = some (.int .i64 q) := by
        cases k with
        | zero => exact .inl rfl
        | succ j =>
          obtain ⟨b', o', q1, _, _, q2, _⟩ := (h.below hbw).at_ (k := j) (by omega)
          cases q1
          exact .inr ⟨j, _, rfl, by rw [leastAt, getD3 (by omega)], q2⟩
      have hbox := Box3.new wr L[k] 36
      generalize L[k] = t at HB HN e0 e1 e2 hbox hbA hbAd
      have hszA := size_alloc wr (.cells #[.int .i64 t.a, .int .i64 t.b, .int .i64 t.c] 36)
      rcases hprev with hk0 | ⟨j, q, rfl, hq, cq⟩
      · have hq := ()
        have t0 : decide (0 < k) = false := decide_eq_false (by omega)
        have hm1 : leastAt L k = 0 := by rw [hk0]; rfl
        have HM := Lib.hid hm1
        clear hk0 hm1
        by_cases h1 : t.a < 0
        · skip
          go_wp2_with fail
          refine wp_region_mix [(0, true), (1, true), (2, true), (3, true), (4, true), (5, true), (6, true), (7, true), (8, true), (9, true), (10, true), (11, true), (12, true), (13, true), (14, true), (15, true), (16, true), (17, true), (18, true), (19, true), (20, true), (21, true), (22, true), (23, true), (24, true), (25, true), (26, true), (27, true), (28, true), (29, true), (30, true), (31, true), (32, true), (33, true), (34, true), (35, true), (36, true), (37, true), (38, true), (39, true), (40, true)] [] (SB w.heap.size w (wr.heap.size+1) none _) (by kernel_rfl) (by kernel_rfl) (by kernel_rfl) (by kernel_rfl) (by decide) (SB.start hbA (by omega)) (fun hS => ?_)
          simp only [planned, List.filterMap_cons, List.filterMap_nil, List.getElem?_cons_zero, List.getElem?_cons_succ, Option.map_some]
          repeat (first
            | (refine mix_skip (by rfl) ?_; try simp only [Act.put, List.setIfInBounds_toArray, List.set_cons_zero, List.set_cons_succ])
            | (refine mix_pass hS (by rfl) ?_; try simp only [Act.put, List.setIfInBounds_toArray, List.set_cons_zero, List.set_cons_succ])
            | (refine mix_pure (by rfl) (by rfl) (fun K hK => ?_); go_big_quiet_op; refine hK _ ?_; clear hK K)
            | (refine mix_take (by rfl) ?_
               apply Exists.intro
               refine ⟨?_, ?_⟩
               · intro w' hSw
                 have hSc := hSw.cell
                 clear hSw
                 go_simp
                 try with_reducible rfl
               try simp only [Act.put, List.setIfInBounds_toArray, List.set_cons_zero, List.set_cons_succ])
            | (refine mix_move (by rfl) (fun K hK => ?_)
               go_simp
               try dsimp only
               first
                 | refine hK.out _ _ (hS.step hx (by omega)) ?_
                 | refine hK.out _ _ hS ?_
                 | refine hK.out _ _ (hS.alloc _ (by omega)) ?_
                 | refine hK.out _ _ (hS.grown hg hx) ?_
               clear hK K hS
               intro hS
               try simp only [Act.put, List.setIfInBounds_toArray, List.set_cons_zero, List.set_cons_succ])
            | fail)
          refine mix_nil ?_
          simp only [tailed, List.filterMap_nil]
          go_wp2_with fail
          refine NoPanic.normal ?_
          go_wp2_with fail
          go_ret
          exact ⟨ret_bool (right_bad hlt (by rw [HB.out, HM.out]; simp [badT, okMoney]; omega)).symm, hbAd⟩
        have h1' := decide_eq_false h1
        by_cases h2 : t.b ≤ t.a
        · skip
          go_wp2_with fail
          refine wp_region_mix [(0, true), (1, true), (2, true), (3, true), (4, true), (5, true), (6, true), (7, true), (8, true), (9, true), (10, true), (11, true), (12, true), (13, true), (14, true), (15, true), (16, true), (17, true), (18, true), (19, true), (20, true), (21, true), (22, true), (23, true), (24, true), (25, true), (26, true), (27, true), (28, true), (29, true), (30, true), (31, true), (32, true), (33, true), (34, true), (35, true), (36, true), (37, true), (38, true), (39, true), (40, true)] [] (SB w.heap.size w (wr.heap.size+1) none _) (by kernel_rfl) (by kernel_rfl) (by kernel_rfl) (by kernel_rfl) (by decide) (SB.start hbA (by omega)) (fun hS => ?_)
          simp only [planned, List.filterMap_cons, List.filterMap_nil, List.getElem?_cons_zero, List.getElem?_cons_succ, Option.map_some]
          repeat (first
            | (refine mix_skip (by rfl) ?_; try simp only [Act.put, List.setIfInBounds_toArray, List.set_cons_zero, List.set_cons_succ])
            | (refine mix_pass hS (by rfl) ?_; try simp only [Act.put, List.setIfInBounds_toArray, List.set_cons_zero, List.set_cons_succ])
            | (refine mix_pure (by rfl) (by rfl) (fun K hK => ?_); go_big_quiet_op; refine hK _ ?_; clear hK K)
            | (refine mix_take (by rfl) ?_
               apply Exists.intro
               refine ⟨?_, ?_⟩
               · intro w' hSw
                 have hSc := hSw.cell
                 clear hSw
                 go_simp
                 try with_reducible rfl
               try simp only [Act.put, List.setIfInBounds_toArray, List.set_cons_zero, List.set_cons_succ])
            | (refine mix_move (by rfl) (fun K hK => ?_)
               go_simp
               try dsimp only
               first
                 | refine hK.out _ _ (hS.step hx (by omega)) ?_
                 | refine hK.out _ _ hS ?_
                 | refine hK.out _ _ (hS.alloc _ (by omega)) ?_
                 | refine hK.out _ _ (hS.grown hg hx) ?_
               clear hK K hS
               intro hS
               try simp only [Act.put, List.setIfInBounds_toArray, List.set_cons_zero, List.set_cons_succ])
            | fail)
          refine mix_nil ?_
          simp only [tailed, List.filterMap_nil]
          go_wp2_with fail
          refine NoPanic.normal ?_
          go_wp2_with fail
          go_ret
          exact ⟨ret_bool (right_bad hlt (by rw [HB.out, HM.out]; simp [badT, okMoney]; omega)).symm, hbAd⟩
        have h2' := decide_eq_false h2
        by_cases h3 : 1000000000000000 < t.b
        · skip
          go_wp2_with fail
          refine wp_region_mix [(0, true), (1, true), (2, true), (3, true), (4, true), (5, true), (6, true), (7, true), (8, true), (9, true), (10, true), (11, true), (12, true), (13, true), (14, true), (15, true), (16, true), (17, true), (18, true), (19, true), (20, true), (21, true), (22, true), (23, true), (24, true), (25, true), (26, true), (27, true), (28, true), (29, true), (30, true), (31, true), (32, true), (33, true), (34, true), (35, true), (36, true), (37, true), (38, true), (39, true), (40, true)] [] (SB w.heap.size w (wr.heap.size+1) none _) (by kernel_rfl) (by kernel_rfl) (by kernel_rfl) (by kernel_rfl) (by decide) (SB.start hbA (by omega)) (fun hS => ?_)
          simp only [planned, List.filterMap_cons, List.filterMap_nil, List.getElem?_cons_zero, List.getElem?_cons_succ, Option.map_some]
          repeat (first
            | (refine mix_skip (by rfl) ?_; try simp only [Act.put, List.setIfInBounds_toArray, List.set_cons_zero, List.set_cons_succ])
            | (refine mix_pass hS (by rfl) ?_; try simp only [Act.put, List.setIfInBounds_toArray, List.set_cons_zero, List.set_cons_succ])
            | (refine mix_pure (by rfl) (by rfl) (fun K hK => ?_); go_big_quiet_op; refine hK _ ?_; clear hK K)
            | (refine mix_take (by rfl) ?_
               apply Exists.intro
               refine ⟨?_, ?_⟩
               · intro w' hSw
                 have hSc := hSw.cell
                 clear hSw
                 go_simp
                 try with_reducible rfl
               try simp only [Act.put, List.setIfInBounds_toArray, List.set_cons_zero, List.set_cons_succ])
            | (refine mix_move (by rfl) (fun K hK => ?_)
               go_simp
               try dsimp only
               first
                 | refine hK.out _ _ (hS.step hx (by omega)) ?_
                 | refine hK.out _ _ hS ?_
                 | refine hK.out _ _ (hS.alloc _ (by omega)) ?_
                 | refine hK.out _ _ (hS.grown hg hx) ?_
               clear hK K hS
               intro hS
               try simp only [Act.put, List.setIfInBounds_toArray, List.set_cons_zero, List.set_cons_succ])
            | fail)
          refine mix_nil ?_
          simp only [tailed, List.filterMap_nil]
          go_wp2_with fail
          refine NoPanic.normal ?_
          go_wp2_with fail
          go_ret
          exact ⟨ret_bool (right_bad hlt (by rw [HB.out, HM.out]; simp [badT, okMoney]; omega)).symm, hbAd⟩
        have h3' := decide_eq_false h3
        by_cases h4 : t.c < 0
        · skip
          go_wp2_with fail
          refine wp_region_mix [(0, true), (1, true), (2, true), (3, true), (4, true), (5, true), (6, true), (7, true), (8, true), (9, true), (10, true), (11, true), (12, true), (13, true), (14, true), (15, true), (16, true), (17, true), (18, true), (19, true), (20, true), (21, true), (22, true), (23, true), (24, true), (25, true), (26, true), (27, true), (28, true), (29, true), (30, true), (31, true), (32, true), (33, true), (34, true), (35, true), (36, true), (37, true), (38, true), (39, true), (40, true)] [] (SB w.heap.size w (wr.heap.size+1) none _) (by kernel_rfl) (by kernel_rfl) (by kernel_rfl) (by kernel_rfl) (by decide) (SB.start hbA (by omega)) (fun hS => ?_)
          simp only [planned, List.filterMap_cons, List.filterMap_nil, List.getElem?_cons_zero, List.getElem?_cons_succ, Option.map_some]
          repeat (first
            | (refine mix_skip (by rfl) ?_; try simp only [Act.put, List.setIfInBounds_toArray, List.set_cons_zero, List.set_cons_succ])
            | (refine mix_pass hS (by rfl) ?_; try simp only [Act.put, List.setIfInBounds_toArray, List.set_cons_zero, List.set_cons_succ])
            | (refine mix_pure (by rfl) (by rfl) (fun K hK => ?_); go_big_quiet_op; refine hK _ ?_; clear hK K)
            | (refine mix_take (by rfl) ?_
               apply Exists.intro
               refine ⟨?_, ?_⟩
               · intro w' hSw
                 have hSc := hSw.cell
                 clear hSw
                 go_simp
                 try with_reducible rfl
               try simp only [Act.put, List.setIfInBounds_toArray, List.set_cons_zero, List.set_cons_succ])
            | (refine mix_move (by rfl) (fun K hK => ?_)
               go_simp
               try dsimp only
               first
                 | refine hK.out _ _ (hS.step hx (by omega)) ?_
                 | refine hK.out _ _ hS ?_
                 | refine hK.out _ _ (hS.alloc _ (by omega)) ?_
                 | refine hK.out _ _ (hS.grown hg hx) ?_
               clear hK K hS
               intro hS
               try simp only [Act.put, List.setIfInBounds_toArray, List.set_cons_zero, List.set_cons_succ])
            | fail)
          refine mix_nil ?_
          simp only [tailed, List.filterMap_nil]
          go_wp2_with fail
          refine NoPanic.normal ?_
          go_wp2_with fail
          go_ret
          exact ⟨ret_bool (right_bad hlt (by rw [HB.out, HM.out]; simp [badT, okMoney]; omega)).symm, hbAd⟩
        have h4' := decide_eq_false h4
        by_cases h5 : 1000000000000000 < t.c
        · skip
          go_wp2_with fail
          refine wp_region_mix [(0, true), (1, true), (2, true), (3, true), (4, true), (5, true), (6, true), (7, true), (8, true), (9, true), (10, true), (11, true), (12, true), (13, true), (14, true), (15, true), (16, true), (17, true), (18, true), (19, true), (20, true), (21, true), (22, true), (23, true), (24, true), (25, true), (26, true), (27, true), (28, true), (29, true), (30, true), (31, true), (32, true), (33, true), (34, true), (35, true), (36, true), (37, true), (38, true), (39, true), (40, true)] [] (SB w.heap.size w (wr.heap.size+1) none _) (by kernel_rfl) (by kernel_rfl) (by kernel_rfl) (by kernel_rfl) (by decide) (SB.start hbA (by omega)) (fun hS => ?_)
          simp only [planned, List.filterMap_cons, List.filterMap_nil, List.getElem?_cons_zero, List.getElem?_cons_succ, Option.map_some]
          repeat (first
            | (refine mix_skip (by rfl) ?_; try simp only [Act.put, List.setIfInBounds_toArray, List.set_cons_zero, List.set_cons_succ])
            | (refine mix_pass hS (by rfl) ?_; try simp only [Act.put, List.setIfInBounds_toArray, List.set_cons_zero, List.set_cons_succ])
            | (refine mix_pure (by rfl) (by rfl) (fun K hK => ?_); go_big_quiet_op; refine hK _ ?_; clear hK K)
            | (refine mix_take (by rfl) ?_
               apply Exists.intro
               refine ⟨?_, ?_⟩
               · intro w' hSw
                 have hSc := hSw.cell
                 clear hSw
                 go_simp
                 try with_reducible rfl
               try simp only [Act.put, List.setIfInBounds_toArray, List.set_cons_zero, List.set_cons_succ])
            | (refine mix_move (by rfl) (fun K hK => ?_)
               go_simp
               try dsimp only
               first
                 | refine hK.out _ _ (hS.step hx (by omega)) ?_
                 | refine hK.out _ _ hS ?_
                 | refine hK.out _ _ (hS.alloc _ (by omega)) ?_
                 | refine hK.out _ _ (hS.grown hg hx) ?_
               clear hK K hS
               intro hS
               try simp only [Act.put, List.setIfInBounds_toArray, List.set_cons_zero, List.set_cons_succ])
            | fail)
          refine mix_nil ?_
          simp only [tailed, List.filterMap_nil]
          go_wp2_with fail
          refine NoPanic.normal ?_
          go_wp2_with fail
          go_ret
          exact ⟨ret_bool (right_bad hlt (by rw [HB.out, HM.out]; simp [badT, okMoney]; omega)).symm, hbAd⟩
        have h5' := decide_eq_false h5
        go_wp2_with fail
        refine wp_region_mix [(0, true), (1, true), (2, true), (3, true), (4, true), (5, true), (6, true), (7, true), (8, true), (9, true), (10, true), (11, true), (12, true), (13, true), (14, true), (15, true), (16, true), (17, true), (18, true), (19, true), (20, true), (21, true), (22, true), (23, true), (24, true), (25, true), (26, true), (27, true), (28, true), (29, true), (30, true), (31, true), (32, true), (33, true), (34, true), (35, true), (36, true), (37, true), (38, true), (39, true), (40, true)] [] (SB w.heap.size w (wr.heap.size+1) none _) (by kernel_rfl) (by kernel_rfl) (by kernel_rfl) (by kernel_rfl) (by decide) (SB.start hbA (by omega)) (fun hS => ?_)
        simp only [planned, List.filterMap_cons, List.filterMap_nil, List.getElem?_cons_zero, List.getElem?_cons_succ, Option.map_some]
        repeat (first
          | (refine mix_skip (by rfl) ?_; try simp only [Act.put, List.setIfInBounds_toArray, List.set_cons_zero, List.set_cons_succ])
          | (refine mix_pass hS (by rfl) ?_; try simp only [Act.put, List.setIfInBounds_toArray, List.set_cons_zero, List.set_cons_succ])
          | (refine mix_pure (by rfl) (by rfl) (fun K hK => ?_); go_big_quiet_op; refine hK _ ?_; clear hK K)
          | (refine mix_take (by rfl) ?_
             apply Exists.intro
             refine ⟨?_, ?_⟩
             · intro w' hSw
               have hSc := hSw.cell
               clear hSw
               go_simp
               try with_reducible rfl
             try simp only [Act.put, List.setIfInBounds_toArray, List.set_cons_zero, List.set_cons_succ])
          | (refine mix_move (by rfl) (fun K hK => ?_)
             go_simp
             try dsimp only
             first
               | refine hK.out _ _ (hS.step hx (by omega)) ?_
               | refine hK.out _ _ hS ?_
               | refine hK.out _ _ (hS.alloc _ (by omega)) ?_
               | refine hK.out _ _ (hS.grown hg hx) ?_
             clear hK K hS
             intro hS
             try simp only [Act.put, List.setIfInBounds_toArray, List.set_cons_zero, List.set_cons_succ])
          | fail)
        refine mix_nil ?_
        simp only [tailed, List.filterMap_nil]
        go_wp2_with fail
        refine NoPanic.normal ?_
        go_wp2_with fail
        go_roundw
        case rel =>
          refine ⟨k + 1, by omega, by go_num, by rw [HN.out]; omega, fun i hi => ?_, hbAd⟩
          by_cases e : i = k
          · subst e; rw [HB.out, HM.out]; simp [badT, okMoney]; omega
          · exact HA.out i (by omega)
        case measure => simp [intOf]; omega
      · have HM := Lib.hid hq
        by_cases h1 : t.a < 0
        · skip
          go_wp2_with fail
          refine wp_region_mix [(0, true), (1, true), (2, true), (3, true), (4, true), (5, true), (6, true), (7, true), (8, true), (9, true), (10, true), (11, true), (12, true), (13, true), (14, true), (15, true), (16, true), (17, true), (18, true), (19, true), (20, true), (21, true), (22, true), (23, true), (24, true), (25, true), (26, true), (27, true), (28, true), (29, true), (30, true), (31, true), (32, true), (33, true), (34, true), (35, true), (36, true), (37, true), (38, true), (39, true), (40, true)] [] (SB w.heap.size w (wr.heap.size+1) none _) (by kernel_rfl) (by kernel_rfl) (by kernel_rfl) (by kernel_rfl) (by decide) (SB.start hbA (by omega)) (fun hS => ?_)
          simp only [planned, List.filterMap_cons, List.filterMap_nil, List.getElem?_cons_zero, List.getElem?_cons_succ, Option.map_some]
          repeat (first
            | (refine mix_skip (by rfl) ?_; try simp only [Act.put, List.setIfInBounds_toArray, List.set_cons_zero, List.set_cons_succ])
            | (refine mix_pass hS (by rfl) ?_; try simp only [Act.put, List.setIfInBounds_toArray, List.set_cons_zero, List.set_cons_succ])
            | (refine mix_pure (by rfl) (by rfl) (fun K hK => ?_); go_big_quiet_op; refine hK _ ?_; clear hK K)
            | (refine mix_take (by rfl) ?_
               apply Exists.intro
               refine ⟨?_, ?_⟩
               · intro w' hSw
                 have hSc := hSw.cell
                 clear hSw
                 go_simp
                 try with_reducible rfl
               try simp only [Act.put, List.setIfInBounds_toArray, List.set_cons_zero, List.set_cons_succ])
            | (refine mix_move (by rfl) (fun K hK => ?_)
               go_simp
               try dsimp only
               first
                 | refine hK.out _ _ (hS.step hx (by omega)) ?_
                 | refine hK.out _ _ hS ?_
                 | refine hK.out _ _ (hS.alloc _ (by omega)) ?_
                 | refine hK.out _ _ (hS.grown hg hx) ?_
               clear hK K hS
               intro hS
               try simp only [Act.put, List.setIfInBounds_toArray, List.set_cons_zero, List.set_cons_succ])
            | fail)
          refine mix_nil ?_
          simp only [tailed, List.filterMap_nil]
          go_wp2_with fail
          refine NoPanic.normal ?_
          go_wp2_with fail
          go_ret
          exact ⟨ret_bool (right_bad hlt (by rw [HB.out, HM.out]; simp [badT, okMoney]; omega)).symm, hbAd⟩
        have h1' := decide_eq_false h1
        by_cases h2 : t.b ≤ t.a
        · skip
          go_wp2_with fail
          refine wp_region_mix [(0, true), (1, true), (2, true), (3, true), (4, true), (5, true), (6, true), (7, true), (8, true), (9, true), (10, true), (11, true), (12, true), (13, true), (14, true), (15, true), (16, true), (17, true), (18, true), (19, true), (20, true), (21, true), (22, true), (23, true), (24, true), (25, true), (26, true), (27, true), (28, true), (29, true), (30, true), (31, true), (32, true), (33, true), (34, true), (35, true), (36, true), (37, true), (38, true), (39, true), (40, true)] [] (SB w.heap.size w (wr.heap.size+1) none _) (by kernel_rfl) (by kernel_rfl) (by kernel_rfl) (by kernel_rfl) (by decide) (SB.start hbA (by omega)) (fun hS => ?_)
          simp only [planned, List.filterMap_cons, List.filterMap_nil, List.getElem?_cons_zero, List.getElem?_cons_succ, Option.map_some]
          repeat (first
            | (refine mix_skip (by rfl) ?_; try simp only [Act.put, List.setIfInBounds_toArray, List.set_cons_zero, List.set_cons_succ])
            | (refine mix_pass hS (by rfl) ?_; try simp only [Act.put, List.setIfInBounds_toArray, List.set_cons_zero, List.set_cons_succ])
            | (refine mix_pure (by rfl) (by rfl) (fun K hK => ?_); go_big_quiet_op; refine hK _ ?_; clear hK K)
            | (refine mix_take (by rfl) ?_
               apply Exists.intro
               refine ⟨?_, ?_⟩
               · intro w' hSw
                 have hSc := hSw.cell
                 clear hSw
                 go_simp
                 try with_reducible rfl
               try simp only [Act.put, List.setIfInBounds_toArray, List.set_cons_zero, List.set_cons_succ])
            | (refine mix_move (by rfl) (fun K hK => ?_)
               go_simp
               try dsimp only
               first
                 | refine hK.out _ _ (hS.step hx (by omega)) ?_
                 | refine hK.out _ _ hS ?_
                 | refine hK.out _ _ (hS.alloc _ (by omega)) ?_
                 | refine hK.out _ _ (hS.grown hg hx) ?_
               clear hK K hS
               intro hS
               try simp only [Act.put, List.setIfInBounds_toArray, List.set_cons_zero, List.set_cons_succ])
            | fail)
          refine mix_nil ?_
          simp only [tailed, List.filterMap_nil]
          go_wp2_with fail
          refine NoPanic.normal ?_
          go_wp2_with fail
          go_ret
          exact ⟨ret_bool (right_bad hlt (by rw [HB.out, HM.out]; simp [badT, okMoney]; omega)).symm, hbAd⟩
        have h2' := decide_eq_false h2
        by_cases h3 : 1000000000000000 < t.b
        · skip
          go_wp2_with fail
          refine wp_region_mix [(0, true), (1, true), (2, true), (3, true), (4, true), (5, true), (6, true), (7, true), (8, true), (9, true), (10, true), (11, true), (12, true), (13, true), (14, true), (15, true), (16, true), (17, true), (18, true), (19, true), (20, true), (21, true), (22, true), (23, true), (24, true), (25, true), (26, true), (27, true), (28, true), (29, true), (30, true), (31, true), (32, true), (33, true), (34, true), (35, true), (36, true), (37, true), (38, true), (39, true), (40, true)] [] (SB w.heap.size w (wr.heap.size+1) none _) (by kernel_rfl) (by kernel_rfl) (by kernel_rfl) (by kernel_rfl) (by decide) (SB.start hbA (by omega)) (fun hS => ?_)
          simp only [planned, List.filterMap_cons, List.filterMap_nil, List.getElem?_cons_zero, List.getElem?_cons_succ, Option.map_some]
          repeat (first
            | (refine mix_skip (by rfl) ?_; try simp only [Act.put, List.setIfInBounds_toArray, List.set_cons_zero, List.set_cons_succ])
            | (refine mix_pass hS (by rfl) ?_; try simp only [Act.put, List.setIfInBounds_toArray, List.set_cons_zero, List.set_cons_succ])
            | (refine mix_pure (by rfl) (by rfl) (fun K hK => ?_); go_big_quiet_op; refine hK _ ?_; clear hK K)
            | (refine mix_take (by rfl) ?_
               apply Exists.intro
               refine ⟨?_, ?_⟩
               · intro w' hSw
                 have hSc := hSw.cell
                 clear hSw
                 go_simp
                 try with_reducible rfl
               try simp only [Act.put, List.setIfInBounds_toArray, List.set_cons_zero, List.set_cons_succ])
            | (refine mix_move (by rfl) (fun K hK => ?_)
               go_simp
               try dsimp only
               first
                 | refine hK.out _ _ (hS.step hx (by omega)) ?_
                 | refine hK.out _ _ hS ?_
                 | refine hK.out _ _ (hS.alloc _ (by omega)) ?_
                 | refine hK.out _ _ (hS.grown hg hx) ?_
               clear hK K hS
               intro hS
               try simp only [Act.put, List.setIfInBounds_toArray, List.set_cons_zero, List.set_cons_succ])
            | fail)
          refine mix_nil ?_
          simp only [tailed, List.filterMap_nil]
          go_wp2_with fail
          refine NoPanic.normal ?_
          go_wp2_with fail
          go_ret
          exact ⟨ret_bool (right_bad hlt (by rw [HB.out, HM.out]; simp [badT, okMoney]; omega)).symm, hbAd⟩
        have h3' := decide_eq_false h3
        by_cases h4 : t.c < 0
        · skip
          go_wp2_with fail
          refine wp_region_mix [(0, true), (1, true), (2, true), (3, true), (4, true), (5, true), (6, true), (7, true), (8, true), (9, true), (10, true), (11, true), (12, true), (13, true), (14, true), (15, true), (16, true), (17, true), (18, true), (19, true), (20, true), (21, true), (22, true), (23, true), (24, true), (25, true), (26, true), (27, true), (28, true), (29, true), (30, true), (31, true), (32, true), (33, true), (34, true), (35, true), (36, true), (37, true), (38, true), (39, true), (40, true)] [] (SB w.heap.size w (wr.heap.size+1) none _) (by kernel_rfl) (by kernel_rfl) (by kernel_rfl) (by kernel_rfl) (by decide) (SB.start hbA (by omega)) (fun hS => ?_)
          simp only [planned, List.filterMap_cons, List.filterMap_nil, List.getElem?_cons_zero, List.getElem?_cons_succ, Option.map_some]
          repeat (first
            | (refine mix_skip (by rfl) ?_; try simp only [Act.put, List.setIfInBounds_toArray, List.set_cons_zero, List.set_cons_succ])
            | (refine mix_pass hS (by rfl) ?_; try simp only [Act.put, List.setIfInBounds_toArray, List.set_cons_zero, List.set_cons_succ])
            | (refine mix_pure (by rfl) (by rfl) (fun K hK => ?_); go_big_quiet_op; refine hK _ ?_; clear hK K)
            | (refine mix_take (by rfl) ?_
               apply Exists.intro
               refine ⟨?_, ?_⟩
               · intro w' hSw
                 have hSc := hSw.cell
                 clear hSw
                 go_simp
                 try with_reducible rfl
               try simp only [Act.put, List.setIfInBounds_toArray, List.set_cons_zero, List.set_cons_succ])
            | (refine mix_move (by rfl) (fun K hK => ?_)
               go_simp
               try dsimp only
               first
                 | refine hK.out _ _ (hS.step hx (by omega)) ?_
                 | refine hK.out _ _ hS ?_
                 | refine hK.out _ _ (hS.alloc _ (by omega)) ?_
                 | refine hK.out _ _ (hS.grown hg hx) ?_
               clear hK K hS
               intro hS
               try simp only [Act.put, List.setIfInBounds_toArray, List.set_cons_zero, List.set_cons_succ])
            | fail)
          refine mix_nil ?_
          simp only [tailed, List.filterMap_nil]
          go_wp2_with fail
          refine NoPanic.normal ?_
          go_wp2_with fail
          go_ret
          exact ⟨ret_bool (right_bad hlt (by rw [HB.out, HM.out]; simp [badT, okMoney]; omega)).symm, hbAd⟩
        have h4' := decide_eq_false h4
        by_cases h5 : 1000000000000000 < t.c
        · skip
          go_wp2_with fail
          refine wp_region_mix [(0, true), (1, true), (2, true), (3, true), (4, true), (5, true), (6, true), (7, true), (8, true), (9, true), (10, true), (11, true), (12, true), (13, true), (14, true), (15, true), (16, true), (17, true), (18, true), (19, true), (20, true), (21, true), (22, true), (23, true), (24, true), (25, true), (26, true), (27, true), (28, true), (29, true), (30, true), (31, true), (32, true), (33, true), (34, true), (35, true), (36, true), (37, true), (38, true), (39, true), (40, true)] [] (SB w.heap.size w (wr.heap.size+1) none _) (by kernel_rfl) (by kernel_rfl) (by kernel_rfl) (by kernel_rfl) (by decide) (SB.start hbA (by omega)) (fun hS => ?_)
          simp only [planned, List.filterMap_cons, List.filterMap_nil, List.getElem?_cons_zero, List.getElem?_cons_succ, Option.map_some]
          repeat (first
            | (refine mix_skip (by rfl) ?_; try simp only [Act.put, List.setIfInBounds_toArray, List.set_cons_zero, List.set_cons_succ])
            | (refine mix_pass hS (by rfl) ?_; try simp only [Act.put, List.setIfInBounds_toArray, List.set_cons_zero, List.set_cons_succ])
            | (refine mix_pure (by rfl) (by rfl) (fun K hK => ?_); go_big_quiet_op; refine hK _ ?_; clear hK K)
            | (refine mix_take (by rfl) ?_
               apply Exists.intro
               refine ⟨?_, ?_⟩
               · intro w' hSw
                 have hSc := hSw.cell
                 clear hSw
                 go_simp
                 try with_reducible rfl
               try simp only [Act.put, List.setIfInBounds_toArray, List.set_cons_zero, List.set_cons_succ])
            | (refine mix_move (by rfl) (fun K hK => ?_)
               go_simp
               try dsimp only
               first
                 | refine hK.out _ _ (hS.step hx (by omega)) ?_
                 | refine hK.out _ _ hS ?_
                 | refine hK.out _ _ (hS.alloc _ (by omega)) ?_
                 | refine hK.out _ _ (hS.grown hg hx) ?_
               clear hK K hS
               intro hS
               try simp only [Act.put, List.setIfInBounds_toArray, List.set_cons_zero, List.set_cons_succ])
            | fail)
          refine mix_nil ?_
          simp only [tailed, List.filterMap_nil]
          go_wp2_with fail
          refine NoPanic.normal ?_
          go_wp2_with fail
          go_ret
          exact ⟨ret_bool (right_bad hlt (by rw [HB.out, HM.out]; simp [badT, okMoney]; omega)).symm, hbAd⟩
        have h5' := decide_eq_false h5
        have wj : IntKind.i64.wrap (j : Int) = (j : Int) := IntWalk.i64_in _ (by omega)
        have wj' : IntKind.i64.wrap ((j : Int) + 1 - 1) = (j : Int) := by rw [show (j : Int) + 1 - 1 = j from by omega]; exact wj
        have j0 : (0 : Int) ≤ (j : Int) := by omega
        have j1 : decide ((j : Int) < 0) = false := decide_eq_false (by omega)
        have j2 : (j : Int) < (L.length : Int) := by omega
        by_cases h6 : t.a < q
        · skip
          go_wp2_with fail
          refine wp_region_mix [(0, true), (1, true), (2, true), (3, true), (4, true), (5, true), (6, true), (7, true), (8, true), (9, true), (10, true), (11, true), (12, true), (13, true), (14, true), (15, true), (16, true), (17, true), (18, true), (19, true), (20, true), (21, true), (22, true), (23, true), (24, true), (25, true), (26, true), (27, true), (28, true), (29, true), (30, true), (31, true), (32, true), (33, true), (34, true), (35, true), (36, true), (37, true), (38, true), (39, true), (40, true)] [] (SB w.heap.size w (wr.heap.size+1) none _) (by kernel_rfl) (by kernel_rfl) (by kernel_rfl) (by kernel_rfl) (by decide) (SB.start hbA (by omega)) (fun hS => ?_)
          simp only [planned, List.filterMap_cons, List.filterMap_nil, List.getElem?_cons_zero, List.getElem?_cons_succ, Option.map_some]
          repeat (first
            | (refine mix_skip (by rfl) ?_; try simp only [Act.put, List.setIfInBounds_toArray, List.set_cons_zero, List.set_cons_succ])
            | (refine mix_pass hS (by rfl) ?_; try simp only [Act.put, List.setIfInBounds_toArray, List.set_cons_zero, List.set_cons_succ])
            | (refine mix_pure (by rfl) (by rfl) (fun K hK => ?_); go_big_quiet_op; refine hK _ ?_; clear hK K)
            | (refine mix_take (by rfl) ?_
               apply Exists.intro
               refine ⟨?_, ?_⟩
               · intro w' hSw
                 have hSc := hSw.cell
                 clear hSw
                 go_simp
                 try with_reducible rfl
               try simp only [Act.put, List.setIfInBounds_toArray, List.set_cons_zero, List.set_cons_succ])
            | (refine mix_move (by rfl) (fun K hK => ?_)
               go_simp
               try dsimp only
               first
                 | refine hK.out _ _ (hS.step hx (by omega)) ?_
                 | refine hK.out _ _ hS ?_
                 | refine hK.out _ _ (hS.alloc _ (by omega)) ?_
                 | refine hK.out _ _ (hS.grown hg hx) ?_
               clear hK K hS
               intro hS
               try simp only [Act.put, List.setIfInBounds_toArray, List.set_cons_zero, List.set_cons_succ])
            | fail)
          refine mix_nil ?_
          simp only [tailed, List.filterMap_nil]
          go_wp2_with fail
          refine NoPanic.normal ?_
          go_wp2_with fail
          go_ret
          exact ⟨ret_bool (right_bad hlt (by rw [HB.out, HM.out]; simp [badT, okMoney]; omega)).symm, hbAd⟩
        have h6' := decide_eq_false h6
        go_wp2_with fail
        refine wp_region_mix [(0, true), (1, true), (2, true), (3, true), (4, true), (5, true), (6, true), (7, true), (8, true), (9, true), (10, true), (11, true), (12, true), (13, true), (14, true), (15, true), (16, true), (17, true), (18, true), (19, true), (20, true), (21, true), (22, true), (23, true), (24, true), (25, true), (26, true), (27, true), (28, true), (29, true), (30, true), (31, true), (32, true), (33, true), (34, true), (35, true), (36, true), (37, true), (38, true), (39, true), (40, true)] [] (SB w.heap.size w (wr.heap.size+1) none _) (by kernel_rfl) (by kernel_rfl) (by kernel_rfl) (by kernel_rfl) (by decide) (SB.start hbA (by omega)) (fun hS => ?_)
        simp only [planned, List.filterMap_cons, List.filterMap_nil, List.getElem?_cons_zero, List.getElem?_cons_succ, Option.map_some]
        repeat (first
          | (refine mix_skip (by rfl) ?_; try simp only [Act.put, List.setIfInBounds_toArray, List.set_cons_zero, List.set_cons_succ])
          | (refine mix_pass hS (by rfl) ?_; try simp only [Act.put, List.setIfInBounds_toArray, List.set_cons_zero, List.set_cons_succ])
          | (refine mix_pure (by rfl) (by rfl) (fun K hK => ?_); go_big_quiet_op; refine hK _ ?_; clear hK K)
          | (refine mix_take (by rfl) ?_
             apply Exists.intro
             refine ⟨?_, ?_⟩
             · intro w' hSw
               have hSc := hSw.cell
               clear hSw
               go_simp
               try with_reducible rfl
             try simp only [Act.put, List.setIfInBounds_toArray, List.set_cons_zero, List.set_cons_succ])
          | (refine mix_move (by rfl) (fun K hK => ?_)
             go_simp
             try dsimp only
             first
               | refine hK.out _ _ (hS.step hx (by omega)) ?_
               | refine hK.out _ _ hS ?_
               | refine hK.out _ _ (hS.alloc _ (by omega)) ?_
               | refine hK.out _ _ (hS.grown hg hx) ?_
             clear hK K hS
             intro hS
             try simp only [Act.put, List.setIfInBounds_toArray, List.set_cons_zero, List.set_cons_succ])
          | fail)
        refine mix_nil ?_
        simp only [tailed, List.filterMap_nil]
        go_wp2_with fail
        refine NoPanic.normal ?_
        go_wp2_with fail
        go_roundw
        case rel =>
          refine ⟨j + 1 + 1, by omega, by go_num, by rw [HN.out]; omega, fun i hi => ?_, hbAd⟩
          by_cases e : i = j + 1
          · subst e; rw [HB.out, HM.out]; simp [badT, okMoney]; omega
          · exact HA.out i (by omega)
        case measure => simp [intOf]; omega
    · go_wp2_with fail
      go_ret
      exact ⟨ret_bool (by rw [right_good (fun j hj => HA.out j (by omega))]; rw [Bool.eq_iff_iff]; simp only [decide_eq_true_eq]; omega), hbw⟩
end Go.Proofs.Ytcienmbbfcljnaa
