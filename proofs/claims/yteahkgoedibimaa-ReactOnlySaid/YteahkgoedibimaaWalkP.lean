/-
  The walk of the reference's Wins. Conditions: none.
-/
import Derived.Test.YteahkgoedibimaaWalkO
import Derived.Test.YteahkgoedibimaaPast
namespace Go.Proofs.Yteahkgoedibimaa
open Go.RowKit

theorem BoxC.lt' {w : World} {g : Nat} {v1 v2 v3 : Value} (h : BoxC w g v1 v2 v3) : g < w.heap.size := h.2.2.2
/-- t is a choice that wins -/
def GoodT (ws ls : List P2) (rs : List P3) (f k : Nat) (T : List Int) (t : Int) : Prop :=
  keptAt rs k t T ∧ (k < ls.length → ∀ d, (ls.getD k ⟨0, 0⟩).a ≤ d → d ≤ (ls.getD k ⟨0, 0⟩).b → Win ws ls rs f (k + 1) (t + d) (T ++ [t]))
theorem win_of {ws ls : List P2} {rs : List P3} {f k : Nat} {T : List Int} {now t : Int} (h1 : mx now (ws.getD k ⟨0, 0⟩).a ≤ t) (h2 : t ≤ (ws.getD k ⟨0, 0⟩).b) (h : GoodT ws ls rs f k T t) : Win ws ls rs (f + 1) k now T := ⟨t, h1, h2, h.1, h.2⟩
theorem not_win {ws ls : List P2} {rs : List P3} {f k : Nat} {T : List Int} {now : Int} (h : ∀ t, mx now (ws.getD k ⟨0, 0⟩).a ≤ t → t ≤ (ws.getD k ⟨0, 0⟩).b → ¬ GoodT ws ls rs f k T t) : ¬ Win ws ls rs (f + 1) k now T := by
  rintro ⟨t, h1, h2, h3, h4⟩
  exact h t h1 h2 ⟨h3, h4⟩
theorem app_bounds {T : List Int} {t : Int} (ht : 0 ≤ t ∧ t ≤ 1048576) (hT : ∀ i, 0 ≤ T.getD i 0 ∧ T.getD i 0 ≤ 1048576) (i : Nat) : 0 ≤ (T ++ [t]).getD i 0 ∧ (T ++ [t]).getD i 0 ≤ 1048576 := by
  by_cases h : i < T.length
  · rw [getD_app h]; exact hT i
  · by_cases e : i = T.length
    · subst e; rw [getD_last]; exact ht
    · rw [getD_out 0 (by simp; omega)]; omega
set_option maxHeartbeats 8000000 in
set_option maxRecDepth 100000 in
theorem wins_any (ws ls : List P2) (rs : List P3) (hF : FineC ws ls rs) : ∀ (f : Nat) (A1 A2 A3 A4 : Option Addr) (c1 c2 c3 c4 k n : Nat) (kk now : Int) (T : List Int) (w : World) (_ : Two w w.heap.size A1 ws) (_ : Two w w.heap.size A2 ls) (_ : Three w w.heap.size A3 rs)
    (_ : Shows w w.heap.size 1 A4 n (ints T)) (_ : kk = k) (_ : n = k) (_ : k + f = ws.length) (_ : T.length = k) (_ : 0 ≤ now ∧ now ≤ 2097152) (_ : ∀ i, 0 ≤ T.getD i 0 ∧ T.getD i 0 ≤ 1048576),
    Calls Try.prog 23 #[.agg #[.slice A1 ws.length c1, .slice A2 ls.length c2, .slice A3 rs.length c3], .int .i64 kk, .int .i64 now, .slice A4 n c4] w fun e w' => e = .returned (.bool (isB (Win ws ls rs f k now T))) ∧ Below w.heap.size w w' := by
  have HF := Lib.hid hF
  have hn82 : ws.length ≤ 82 := hF.1.2.1
  have hll : ls.length + 1 = ws.length := hF.1.2.2.1
  clear hF
  intro f
  induction f with
  | zero =>
    intro A1 A2 A3 A4 c1 c2 c3 c4 k n kk now T w h1 h2 h3 h4 hkk hnk hf hTl hnow hT
    subst hkk hnk
    have hkn : n = ws.length := by omega
    have hb : ((n : Int) == (ws.length : Int)) = true := by simp [hkn]
    have hb' : (n == ws.length) = true := by simp [hkn]
    have HKN := Lib.hid hkn
    clear hkn hf hTl
    go_enter Try.func23, Try.ntmps23
    go_wp2_with fail
    go_ret
    exact ⟨ret_bool (isB_true trivial).symm, lit_below _ _⟩
  | succ f ih =>
    intro A1 A2 A3 A4 c1 c2 c3 c4 k n kk now T w h1 h2 h3 h4 hkk hnk hf hTl hnow hT
    have HKK := Lib.hid hkk
    have HNK := Lib.hid hnk
    have HTL := Lib.hid hTl
    have HT := Lib.hid hT
    have HIH := Lib.hid ih
    clear hT ih
    subst hkk
    have hkn : k < ws.length := by omega
    have hb : ((k : Int) == (ws.length : Int)) = false := beq_eq_false_iff_ne.2 (by omega)
    have hb' : (k == ws.length) = false := beq_eq_false_iff_ne.2 (by omega)
    clear hTl hnk
    go_enter Try.func23, Try.ntmps23
    obtain ⟨bw, ow, rfl, hbw', e0, e1⟩ := h1.at_ hkn
    rw [← getD2 hkn] at e0 e1
    have dk := HF.out.2.1 k
    unfold okP at dk
    have HWN := Lib.hid (fun h => not_win (ws := ws) (ls := ls) (rs := rs) (f := f) (k := k) (T := T) (now := now) h)
    have HWO := Lib.hid (fun t h1 h2 h => win_of (ws := ws) (ls := ls) (rs := rs) (f := f) (k := k) (T := T) (now := now) (t := t) h1 h2 h)
    generalize ws.getD k ⟨0, 0⟩ = u at e0 e1 dk HWN HWO
    have hm : (if now < u.a then u.a else now) = mx now u.a := rfl
    have m1 := le_mx1 now u.a
    have m2 := le_mx2 now u.a
    have m3 := mx_le (x := now) (y := u.a) (b := 2097152) (by omega) (by omega)
    have i0' : (0 : Int) ≤ k := by omega
    have i1' : (k : Int) < (ws.length : Int) := by omega
    go_wp2_with fail
    have hbA := lit_below w (.cells #[.slice (some ⟨bw, ow, none⟩) ws.length c1, .slice A2 ls.length c2, .slice A3 rs.length c3] 26)
    have hbox := BoxC.new w (.slice (some ⟨bw, ow, none⟩) ws.length c1) (.slice A2 ls.length c2) (.slice A3 rs.length c3) 26
    generalize w.alloc (.cells #[.slice (some ⟨bw, ow, none⟩) ws.length c1, .slice A2 ls.length c2, .slice A3 rs.length c3] 26) = wA at hbA hbox ⊢
    clear hm hb hb' e0
    generalize mx now u.a = t0 at m1 m2 m3 HWN HWO ⊢
    go_loopw [9] (fun v wr => ∃ t : Int, v = .int .i64 t ∧ t0 ≤ t ∧ t ≤ 2097153 ∧ (∀ t', t0 ≤ t' → t' < t → ¬ GoodT ws ls rs f k T t') ∧ Below wA.heap.size wA wr) (fun v _ => (u.b + 1 - intOf v).toNat)
    case atStart => exact ⟨t0, rfl, Int.le_refl _, by omega, fun t' h1 h2 => by omega, Below.refl _ _⟩
    case round =>
      obtain ⟨t, rfl, ht0, htb, hall, hbB⟩ := hrel
      have HA := Lib.hid hall
      clear hall
      have hbw := hbA.trans (hbB.mono hbA.size)
      obtain ⟨x0, x1, x2, sA⟩ := hbox.ext hbB
      have e1 := ((bcell hbw).1 _ _ hbw').trans e1
      by_cases hlt : t ≤ u.b
      rotate_left
      · have hlt' := decide_eq_false hlt
        go_wp2_with fail
        go_ret
        exact ⟨ret_bool (isB_false (HWN.out fun t' h1 h2 => HA.out t' h1 (by omega))).symm, hbw⟩
      go_wp2_with fail
      refine (kept_any _ _ _ _ _ _ _ _ n ws ls rs k t T _ (three_ext h3 hbw) (Shows.more (h4.below hbw) hbw.size) (HTL.out.trans HNK.out.symm) HNK.out HF.out (by omega) (fun i => by have := HT.out i; omega)).mono ?_
      rintro e w1 ⟨rfl, hx1⟩
      have hb1 := hbB.trans (hx1.mono hbB.size)
      have hb1w := hbA.trans (hb1.mono hbA.size)
      clear x0 x1 x2 sA
      obtain ⟨x0, x1, x2, sA⟩ := hbox.ext hb1
      by_cases hkp : keptAt rs k t T
      rotate_left
      · rw [isB_false hkp]
        have HNG := Lib.hid (show ¬ GoodT ws ls rs f k T t from fun h => hkp h.1)
        clear hkp
        have wt : IntKind.i64.wrap (t + 1) = t + 1 := IntWalk.i64_in _ (by omega)
        go_wp2_with fail
        go_roundw
        case rel =>
          refine ⟨t + 1, rfl, by omega, by omega, fun t' h1 h2 => ?_, hb1⟩
          by_cases e : t' = t
          · subst e; exact HNG.out
          · exact HA.out t' h1 (by omega)
        case measure => simp [intOf]; omega
      rw [isB_true hkp]
      have HKP := Lib.hid hkp
      clear hkp
      obtain ⟨i0, hi, hz0, hz1, hz2⟩ := info_parts info3
      have hk82 : k ≤ 82 := by omega
      have hn82' : n ≤ 82 := by have := HNK.out; omega
      go_wp2_with (at_builtin; refine wpList_app rfl _ _ 27 rfl w1.heap.size 3 i0 _ 1 8 Try.underlying27 hi hz0 hz1 hz2 rfl (by decide) _ _ 0 [] rfl (World.ownsRow_lit w1 #[] 0 (Nat.le_refl _) (by decide) rfl) w1.heap.size A4 n c4 (ints T) rfl (Shows.alloc (Shows.more (h4.below hb1w) hb1w.size) (Nat.le_refl _) _) (nums_oneCells T) (by simp) (by omega) (by omega) ?_)
      intro v5 w5 own5 hx5 _
      have hx5 := ((Below.refl w1.heap.size w1).alloc (Nat.le_refl _) (.cells #[] 3)).trans hx5
      have own5 : w5.ownsRow w1.heap.size 3 1 v5 n (ints T) := own5
      have hsz5 := hx5.size
      have hb5 := hb1.trans (hx5.mono hb1.size)
      clear x0 x1 x2 sA
      obtain ⟨x0, x1, x2, sA⟩ := hbox.ext hb5
      have sA1 : w.heap.size < w1.heap.size := Nat.lt_of_lt_of_le (hbox.lt') hb1.size
      go_wp2_with (at_builtin; refine push_own rfl _ _ 27 rfl w1.heap.size 3 i0 (.int .i64 0) 1 8 Try.underlying27 hi hz0 hz1 hz2 rfl (by decide) _ _ _ _ rfl own5 1 1 [.int .i64 t] rfl rfl (by simp [Value.oneCell']) hsz5 (by omega) (by omega) ?_)
      intro v6 w6 own6 hx6 _
      have own6 : w6.ownsRow w1.heap.size 3 1 v6 (n + 1) (ints T ++ [.int .i64 t]) := own6
      have hE : ints T ++ [.int .i64 t] = ints (T ++ [t]) := by simp [ints]
      rw [hE] at own6
      clear hE
      have hb6 := hb5.trans (hx6.mono hb1.size)
      have hb6w := hbA.trans (hb6.mono hbA.size)
      obtain ⟨A6, c6, rfl, sh6, _, _⟩ := caps_of_own own6
      clear own6 own5 hx6 x0 x1 x2 sA hsz5
      obtain ⟨x0, x1, x2, sA⟩ := hbox.ext hb6
      by_cases hkl : k < ls.length
      rotate_left
      · have tk : decide ((k : Int) < (ls.length : Int)) = false := decide_eq_false (by omega)
        have tk' : decide (k < ls.length) = false := decide_eq_false hkl
        have HKL := Lib.hid hkl
        clear hkl
        go_wp2_with fail
        go_ret
        exact ⟨ret_bool (isB_true (HWO.out t ht0 hlt ⟨HKP.out, fun h => absurd h HKL.out⟩)).symm, hb6w⟩
      have tk : decide ((k : Int) < (ls.length : Int)) = true := decide_eq_true (by omega)
      have tk' : decide (k < ls.length) = true := decide_eq_true hkl
      have k2 : (k : Int) < (ls.length : Int) := by omega
      obtain ⟨bl, ol, rfl, hbl, l0, l1⟩ := (h2.below hb6w).at_ hkl
      rw [← getD2 hkl] at l0 l1
      have dl := HF.out.2.2.1 k
      unfold okP at dl
      have HGO := Lib.hid (show GoodT ws ls rs f k T t ↔ (keptAt rs k t T ∧ (k < ls.length → ∀ d, (ls.getD k ⟨0, 0⟩).a ≤ d → d ≤ (ls.getD k ⟨0, 0⟩).b → Win ws ls rs f (k + 1) (t + d) (T ++ [t]))) from Iff.rfl)
      generalize hLG : ls.getD k ⟨0, 0⟩ = g at l0 l1 dl HGO
      clear hLG
      have HTA := Lib.hid (app_bounds (T := T) (t := t) (by omega) HT.out)
      have HTN := Lib.hid (show (T ++ [t]).length = k + 1 by simp [HTL.out])
      have wk1 : IntKind.i64.wrap ((k : Int) + 1) = (k : Int) + 1 := IntWalk.i64_in _ (by omega)
      have s6 := hb6.size
      go_wp2_with fail
      clear tk tk'
      go_loopw [10, 12] (fun v10 v12 wr => ∃ (d : Int) (b : Bool), v12 = .int .i64 d ∧ v10 = .bool b ∧ g.a ≤ d ∧ d ≤ g.b + 1 ∧ (b = true ↔ ∀ d', g.a ≤ d' → d' < d → Win ws ls rs f (k + 1) (t + d') (T ++ [t])) ∧ Below w6.heap.size w6 wr) (fun _ v12 _ => (g.b + 1 - intOf v12).toNat)
      case atStart => exact ⟨g.a, true, rfl, rfl, Int.le_refl _, by omega, by simp; intro d' h1 h2; omega, Below.refl _ _⟩
      case round =>
        obtain ⟨d, b, rfl, rfl, hd1, hd2, hb9, hbC⟩ := hrel
        have HB9 := Lib.hid hb9
        clear hb9
        have hbz := hb6.trans (hbC.mono hb6.size)
        have hbzw := hb6w.trans (hbC.mono hb6w.size)
        obtain ⟨z0, z1, z2, sZ⟩ := (hbox.ext hb6).ext hbC
        have l1' := ((bcell hbC).1 _ _ (show bl < w6.heap.size by omega)).trans l1
        by_cases hdb : d ≤ g.b
        · have td : decide (d ≤ g.b) = true := decide_eq_true hdb
          cases b
          · have HNG := Lib.hid (show ¬ GoodT ws ls rs f k T t from fun h => by
              have h2 := (HGO.out.1 h).2 hkl
              have := HB9.out.2 (fun d' d1 d2 => h2 d' d1 (by omega))
              cases this)
            have wt : IntKind.i64.wrap (t + 1) = t + 1 := IntWalk.i64_in _ (by omega)
            go_wp2_with fail
            go_roundw
            case rel =>
              refine ⟨t + 1, rfl, by omega, by omega, fun t' h1 h2 => ?_, hbz⟩
              by_cases e : t' = t
              · subst e; exact HNG.out
              · exact HA.out t' h1 (by omega)
            case measure => simp [intOf]; omega
          · have wd : IntKind.i64.wrap (t + d) = t + d := IntWalk.i64_in _ (by omega)
            have wd1 : IntKind.i64.wrap (d + 1) = d + 1 := IntWalk.i64_in _ (by omega)
            go_wp2_with fail
            refine (HIH.out _ _ _ _ c1 c2 c3 c6 (k + 1) (n + 1) ((k : Int) + 1) (t + d) (T ++ [t]) _ (two_ext h1 hbzw) (two_ext h2 hbzw) (three_ext h3 hbzw) (Shows.more (sh6.below hbC) hbC.size) (by omega) (by have := HNK.out; omega) (by omega) HTN.out (by omega) HTA.out).mono ?_
            rintro e w8 ⟨rfl, hx8⟩
            have HB8 := Lib.hid (show (isB (Win ws ls rs f (k + 1) (t + d) (T ++ [t])) = true ↔ ∀ d', g.a ≤ d' → d' < d + 1 → Win ws ls rs f (k + 1) (t + d') (T ++ [t])) from ⟨fun h d' d1 d2 => by
              by_cases e : d' = d
              · subst e
                by_cases hw : Win ws ls rs f (k + 1) (t + d') (T ++ [t])
                · exact hw
                · rw [isB_false hw] at h; cases h
              · exact HB9.out.1 (by first | rfl | trivial) d' d1 (by omega), fun h => isB_true (h d hd1 (by omega))⟩)
            generalize isB (Win ws ls rs f (k + 1) (t + d) (T ++ [t])) = b8 at HB8 ⊢
            go_wp2_with fail
            go_roundw
            case rel => exact ⟨d + 1, b8, rfl, rfl, by omega, by omega, HB8.out, hbC.trans (hx8.mono hbC.size)⟩
            case measure => simp [intOf]; omega
        · have td := decide_eq_false hdb
          have HDB := Lib.hid hdb
          clear hdb
          cases b
          · have HNG := Lib.hid (show ¬ GoodT ws ls rs f k T t from fun h => by
              have h2 := (HGO.out.1 h).2 hkl
              have := HB9.out.2 (fun d' d1 d2 => h2 d' d1 (by omega))
              cases this)
            have wt : IntKind.i64.wrap (t + 1) = t + 1 := IntWalk.i64_in _ (by omega)
            go_wp2_with fail
            go_roundw
            case rel =>
              refine ⟨t + 1, rfl, by omega, by omega, fun t' h1 h2 => ?_, hbz⟩
              by_cases e : t' = t
              · subst e; exact HNG.out
              · exact HA.out t' h1 (by omega)
            case measure => simp [intOf]; omega
          · have HG9 := Lib.hid (show GoodT ws ls rs f k T t from HGO.out.2 ⟨HKP.out, fun _ d' d1 d2 => HB9.out.1 (by first | rfl | trivial) d' d1 (by have := HDB.out; omega)⟩)
            go_wp2_with fail
            go_ret
            exact ⟨ret_bool (isB_true (HWO.out t ht0 hlt HG9.out)).symm, hbzw⟩
end Go.Proofs.Yteahkgoedibimaa
