/-
  The walks of the reference's fits, high, highs and play. Conditions: none.
-/
import Derived.Test.YteahkgoedibimaaLaw0
namespace Go.Proofs.Yteahkgoedibimaa
open Go.RowKit

set_option maxHeartbeats 1000000 in
theorem rfits_any (A1 A2 A3 A4 : Option Addr) (c1 c2 c3 c4 : Nat) (ws ls : List P2) (rs : List P3) (G : List Int) (w : World) (h4 : Nums w w.heap.size A4 G) (hl4 : G.length ≤ 9223372036854775807) :
    Calls Try.prog 32 #[.agg #[.slice A1 ws.length c1, .slice A2 ls.length c2, .slice A3 rs.length c3], .slice A4 G.length c4] w fun e w' => e = .returned (.bool (fitsB ws.length G)) ∧ Below w.heap.size w w' := by
  go_enter Try.func32, Try.ntmps32
  go_wp2_with fail
  have hbA := lit_below w (.cells #[.slice A1 ws.length c1, .slice A2 ls.length c2, .slice A3 rs.length c3] 26)
  have hbox := BoxC.new w (.slice A1 ws.length c1) (.slice A2 ls.length c2) (.slice A3 rs.length c3) 26
  generalize w.alloc (.cells #[.slice A1 ws.length c1, .slice A2 ls.length c2, .slice A3 rs.length c3] 26) = wA at hbA hbox ⊢
  obtain ⟨x0, x1, x2, sA⟩ := hbox
  go_loopw [5] (fun i wr => ∃ k : Nat, k ≤ G.length ∧ i = .int .i64 k ∧ (∀ j, (hj : j < G.length) → j < k → okG G[j] = true) ∧ Below wA.heap.size wA wr) (fun i _ => G.length - (intOf i).toNat)
  case atStart => exact ⟨0, Nat.zero_le _, rfl, fun j _ h => absurd h (by omega), Below.refl _ _⟩
  case round =>
    obtain ⟨k, hk, rfl, hall, hbB⟩ := hrel
    have HA := Lib.hid hall
    clear hall
    have hbw := hbA.trans (hbB.mono hbA.size)
    have x0 := ((bcell hbB).1 _ _ sA).trans x0
    by_cases hlt : k < G.length
    · obtain ⟨b, o, rfl, hb, e0⟩ := (h4.below hbw).at_ hlt
      have i0' : (0 : Int) ≤ k := by omega
      have i1' : (k : Int) < (G.length : Int) := by omega
      generalize hT : G[k] = t at e0
      have HT := Lib.hid hT
      clear hT
      go_wp2_with fail
      refine (in_any _ _ _ _).mono ?_
      rintro e w6 ⟨rfl, hx⟩
      have hbC := hbB.trans (hx.mono hbB.size)
      cases hin : inB t 0 2097152
      · have HI := Lib.hid hin
        clear hin
        go_wp2_with fail
        go_ret
        have : G.any (fun x => !okG x) = true := List.any_eq_true.2 ⟨G[k], List.getElem_mem _, by rw [HT.out, okG, HI.out]; rfl⟩
        exact ⟨ret_bool (by simp [fitsB, this]), hbA.trans (hbC.mono hbA.size)⟩
      · have HI := Lib.hid hin
        clear hin
        go_wp2_with fail
        go_roundw
        case rel =>
          refine ⟨k + 1, by omega, by go_num, fun j hj hjk => ?_, hbC⟩
          by_cases e : j = k
          · subst e; rw [HT.out]; exact HI.out
          · exact HA.out j hj (by omega)
        case measure => simp [intOf]; omega
    · have hany : G.any (fun x => !okG x) = false := not_anyG (fun j hj => HA.out j hj (by omega))
      have HN := Lib.hid hany
      clear hany
      go_wp2_with fail
      go_ret
      refine ⟨ret_bool ?_, hbw⟩
      rw [fitsB, HN.out]
      rw [Bool.eq_iff_iff]
      simp
      omega

set_option maxHeartbeats 1000000 in
theorem high_any (A1 A2 A3 : Option Addr) (c1 c2 c3 : Nat) (ws ls : List P2) (rs : List P3) (a b : Nat) (w : World) (h2 : Two w w.heap.size A2 ls) (hF : FineC ws ls rs) (hab : a ≤ b) (hb : b ≤ ls.length) :
    Calls Try.prog 26 #[.agg #[.slice A1 ws.length c1, .slice A2 ls.length c2, .slice A3 rs.length c3], .int .i64 a, .int .i64 b] w fun e w' => e = .returned (.int .i64 (Sm ls b - Sm ls a)) ∧ Below w.heap.size w w' := by
  go_enter Try.func26, Try.ntmps26
  go_wp2_with fail
  have hbA := lit_below w (.cells #[.slice A1 ws.length c1, .slice A2 ls.length c2, .slice A3 rs.length c3] 26)
  have hbox := BoxC.new w (.slice A1 ws.length c1) (.slice A2 ls.length c2) (.slice A3 rs.length c3) 26
  generalize w.alloc (.cells #[.slice A1 ws.length c1, .slice A2 ls.length c2, .slice A3 rs.length c3] 26) = wA at hbA hbox ⊢
  obtain ⟨x0, x1, x2, sA⟩ := hbox
  have hbl : b ≤ 81 := by have := hF.1; omega
  go_loopw [7, 8] (fun s i wr => ∃ k : Nat, a ≤ k ∧ k ≤ b ∧ i = .int .i64 k ∧ s = .int .i64 (Sm ls k - Sm ls a) ∧ Below wA.heap.size wA wr) (fun _ i _ => b - (intOf i).toNat)
  case atStart => exact ⟨a, Nat.le_refl _, hab, rfl, by simp, Below.refl _ _⟩
  case round =>
    obtain ⟨k, hak, hk, rfl, rfl, hbB⟩ := hrel
    have hbw := hbA.trans (hbB.mono hbA.size)
    have x1 := ((bcell hbB).1 _ _ sA).trans x1
    by_cases hlt : k < b
    · obtain ⟨b', o, rfl, hb', e0, e1⟩ := (h2.below hbw).at_ (k := k) (by omega)
      have i0' : (0 : Int) ≤ k := by omega
      have i1' : (k : Int) < (ls.length : Int) := by omega
      have hnx : Sm ls (k + 1) = Sm ls k + ls[k].b := by rw [Sm, getD2 (by omega)]
      have hk1 := Sm_le hF k
      have hk2 := Sm_mono hF hak
      have hk3 := Sm_nonneg hF a
      have hk4 := hF.2.2.1 k
      unfold okP at hk4
      rw [getD2 (by omega)] at hk4
      have HN := Lib.hid hnx
      clear hnx
      generalize ls[k] = t at *
      generalize Sm ls a = sa at *
      generalize Sm ls k = sk at *
      have ws : IntKind.i64.wrap (sk - sa + t.b) = sk - sa + t.b := IntWalk.i64_in _ (by omega)
      clear hk1 hk2 hk3 hk4
      go_wp2_with fail
      go_roundw
      case rel => exact ⟨k + 1, by omega, by omega, by go_num, by rw [HN.out]; congr 1; omega, hbB⟩
      case measure => simp [intOf]; omega
    · go_wp2_with fail
      go_ret
      obtain rfl : k = b := by omega
      exact ⟨rfl, hbw⟩
/-- A row of the call's own is handed back. -/
def RowSays (l : List Int) (w : World) (e : Ending) (w' : World) : Prop := ∃ v, e = .returned v ∧ w'.ownsRow w.heap.size 3 1 v l.length (ints l) ∧ Below w.heap.size w w'
set_option maxHeartbeats 1000000 in
theorem highs_any (A1 A2 A3 : Option Addr) (c1 c2 c3 : Nat) (ws ls : List P2) (rs : List P3) (w : World) (h2 : Two w w.heap.size A2 ls) (hl : ls.length ≤ 1000000000) :
    Calls Try.prog 29 #[.agg #[.slice A1 ws.length c1, .slice A2 ls.length c2, .slice A3 rs.length c3]] w (RowSays (highL ls) w) := by
  go_enter Try.func29, Try.ntmps29
  go_wp2_with fail
  have hbA := lit_below w (.cells #[.slice A1 ws.length c1, .slice A2 ls.length c2, .slice A3 rs.length c3] 26)
  have hbox := BoxC.new w (.slice A1 ws.length c1) (.slice A2 ls.length c2) (.slice A3 rs.length c3) 26
  generalize w.alloc (.cells #[.slice A1 ws.length c1, .slice A2 ls.length c2, .slice A3 rs.length c3] 26) = wA at hbA hbox ⊢
  obtain ⟨x0, x1, x2, sA⟩ := hbox
  obtain ⟨i0, hi, hz0, hz1, hz2⟩ := info_parts info3
  go_loopw [3, 4] (fun v i wr => ∃ k : Nat, k ≤ ls.length ∧ i = .int .i64 k ∧ wr.ownsRow wA.heap.size 3 1 v k (ints ((highL ls).take k)) ∧ Below wA.heap.size wA wr) (fun _ i _ => ls.length - (intOf i).toNat)
  case atStart => exact ⟨0, Nat.zero_le _, rfl, World.ownsRow_nil _ _ _ _, Below.refl _ _⟩
  case round =>
    obtain ⟨k, hk, rfl, own1, hbB⟩ := hrel
    generalize u3 = v at own1 ⊢
    have hbw := hbA.trans (hbB.mono hbA.size)
    have x1 := ((bcell hbB).1 _ _ sA).trans x1
    by_cases hlt : k < ls.length
    · obtain ⟨b', o, rfl, hb', e0, e1⟩ := (h2.below hbw).at_ hlt
      have i0' : (0 : Int) ≤ k := by omega
      have i1' : (k : Int) < (ls.length : Int) := by omega
      have hnx : ints ((highL ls).take k) ++ [.int .i64 ls[k].b] = ints ((highL ls).take (k + 1)) := by
        rw [take_snoc _ k (by rw [highL_length]; exact hlt)]; simp [ints, highL]
      have HN := Lib.hid hnx
      clear hnx
      generalize ls[k] = t at *
      have hsz' := hbB.size
      go_wp2_with (first | (at_builtin; refine push_own rfl _ _ 27 rfl wA.heap.size 3 i0 (.int .i64 0) 1 8 Try.underlying27 hi hz0 hz1 hz2 rfl (by decide) _ _ _ _ rfl own1 1 1 [.int .i64 t.b] rfl rfl (by simp [Value.oneCell']) hsz' (by omega) (by omega) ?_; intro v1' wa own1' hba hga))
      go_roundw
      case rel => exact ⟨k + 1, by omega, by go_num, by rw [← HN.out]; exact own1', hbB.trans hba⟩
      case measure => simp [intOf]; omega
    · go_wp2_with fail
      go_ret
      obtain rfl : k = ls.length := by omega
      rw [← highL_length, List.take_length] at own1
      exact ⟨_, rfl, own_mono own1 (by omega), hbw⟩
end Go.Proofs.Yteahkgoedibimaa
