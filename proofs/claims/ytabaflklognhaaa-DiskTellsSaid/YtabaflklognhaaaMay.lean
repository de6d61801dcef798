/-
  The reference's disk: Write. Conditions: none.
  The reference's disk: Sync, Truncate. Conditions: none.
-/
import Derived.Test.YtabaflklognhaaaMax
section
set_option linter.unusedSimpArgs false
set_option linter.unusedVariables false
namespace Go.Proofs.Ytabaflklognhaaa
open Go.RowKit Go.ChangeMaps

theorem comes_write {st : DS} (he : endsB st = true) (f at_ : Int) (s : ByteArray) : comesS st f at_ s = crashS (wrS (endS st) f at_ s) st.keep := by
  unfold comesS
  rw [if_pos he]
  by_cases hw : wrE (endS st) f at_ s = 0
  · rw [if_pos hw]
  · rw [if_neg hw, show wrS (endS st) f at_ s = endS st from if_pos (.inl hw)]
theorem comes_none {st : DS} (he : endsB st = false) (f at_ : Int) (s : ByteArray) : comesS st f at_ s = endS st := by
  unfold comesS
  rw [if_neg (by rw [he]; decide)]
section
variable {k : Nat} {fs : List RFile} {st : DS}
set_option maxHeartbeats 8000000 in
set_option maxRecDepth 20000 in
theorem rWrite_ends (h : RkOk fs st) (f at_ : Int) (s : ByteArray) (hs : s.size ≤ 9223372036837998591) (he : endsB st = true) : ObC 38 [.box 1000 0, .d (.int f), .d (.int at_), .d (.str s)] (rsk 1000 1001 k fs st) [] (fun x o => x = .d (.int 8) ∧ ROut (crashS (wrS (endS st) f at_ s) st.keep) o) := by
  have hc := rcomes_any (k := k) h f at_ s hs
  rw [comes_write he] at hc
  have hm := fun k fs => rmay_any (k := k) (fs := fs) (st := crashS (wrS (endS st) f at_ s) st.keep) f
  rw [may_down (crash_isdown _ _)] at hm
  refine ob_enter Try.func38 rfl (by decide) _ Try.ntmps38 (le_ok rfl) rfl (fun w Pr β κ hE => ?_)
  dsimp only [slotsV, Nat.zero_add, Nat.reduceAdd]
  repeat' (first | (apply at_call; refine k_ocall [(1000, 1000), (1001, 1001)] (hc) hE ?_; rintro _ _ ⟨rfl, k2, fs2, hR2, rfl⟩ <;> (intro _ _ h1 h2; simp only [renEqs, Nat.reduceBEq, renL_app, renL_ds, renL_und] at h1 h2; subst h1 h2)) | (apply at_call; refine k_ocall [(1000, 1000), (1001, 1001)] (hm k2 fs2) hE ?_; rintro _ _ ⟨rfl, rfl⟩ <;> (intro _ _ h1 h2; simp only [renEqs, Nat.reduceBEq, renL_app, renL_ds, renL_und] at h1 h2; subst h1 h2)) | apply aw_seq | apply aw_region | apply al_nil | apply aq_np | apply aq_then | apply aq_then_x | apply aq_then_r | apply aw_skip | apply aw_exit | apply aw_ret | (apply at_op (.move _); refine r_move ?_) | (apply at_op (.assign _); refine r_assign ?_) | (apply at_cond; first | refine c_t ?_ | refine c_f ?_ | (refine aw_cond rfl (fun hb => ?_) (fun hb => ?_) <;> ((first | have hq := of_decide_eq_true hb | have hq := of_decide_eq_false hb | have hq := dNT hb | have hq := dNF hb | skip); (try (exfalso; omega))))) | (apply at_op (.binOp .lss _ _ _ _); refine r_lss ?_) | (apply at_op (.binOp .neq _ _ _ _); refine r_neq ?_) | (apply at_op (.unOp .not _ _); refine r_not ?_))
  refine oret1 (rsk 1000 1001 k2 fs2 (crashS (wrS (endS st) f at_ s) st.keep)) (by rfl) (by first | exact ResV.x _ _ (ResX.tmp _ _ (by first | exact ToD.d _ | exact ToD.row _ _ _ _ _ rfl | exact ToD.nil _)) | exact ResV.tmp _ _ rfl | exact ResV.x _ _ (ResX.cellA _ _ _ _ _ _ _ rfl rfl rfl (by first | (simp only [normV, normList, normMap]; rfl) | rfl) rfl)) (⟨rfl, k2, fs2, hR2, rfl⟩) (by (repeat (first | exact obs_nil | (apply obs_cons; focus (first | rfl | (simp [find]; done)))))) (by first | (simp [okOut, V.within, V.withinL, O.within, keys, mem, look, nbeq_def, withinL_app, withinL_ds, withinL_und]; done) | rfl)
set_option maxHeartbeats 8000000 in
set_option maxRecDepth 20000 in
theorem rWrite_not (h : RkOk fs st) (f at_ : Int) (s : ByteArray) (hs : s.size ≤ 9223372036837998591) (he : endsB st = false) : ObC 38 [.box 1000 0, .d (.int f), .d (.int at_), .d (.str s)] (rsk 1000 1001 k fs st) [] (fun x o => x = .d (.int (wrE (endS st) f at_ s)) ∧ ROut (wrS (endS st) f at_ s) o) := by
  have hc := rcomes_any (k := k) h f at_ s hs
  rw [comes_none he] at hc
  have hm := fun k fs => rmay_any (k := k) (fs := fs) (st := endS st) f
  by_cases hm0 : mayE (endS st) f = 0
  · have hm1 := hm
    rw [hm0] at hm1
    have ht0 : (!decide ((0 : Int) = 0)) = false := rfl
    obtain ⟨hd, hf⟩ := may_ok hm0
    have hfi := rfits_any at_ s hs
    have hiff := fits_wr (st := endS st) hd (f := f) (by omega) (at_ := at_) s
    by_cases ha : at_ < 0
    · have hw : wrE (endS st) f at_ s = 1 := by unfold wrE; rw [if_neg (by simp [hm0]), if_pos ha]
      rw [hw, show wrS (endS st) f at_ s = endS st from if_pos (.inl (by rw [hw]; decide))]
      refine ob_enter Try.func38 rfl (by decide) _ Try.ntmps38 (le_ok rfl) rfl (fun w Pr β κ hE => ?_)
      dsimp only [slotsV, Nat.zero_add, Nat.reduceAdd]
      repeat' (first | (apply at_call; refine k_ocall [(1000, 1000), (1001, 1001)] (hc) hE ?_; rintro _ _ ⟨rfl, k2, fs2, hR2, rfl⟩ <;> (intro _ _ h1 h2; simp only [renEqs, Nat.reduceBEq, renL_app, renL_ds, renL_und] at h1 h2; subst h1 h2)) | (apply at_call; refine k_ocall [(1000, 1000), (1001, 1001)] (hm1 k2 fs2) hE ?_; rintro _ _ ⟨rfl, rfl⟩ <;> (intro _ _ h1 h2; simp only [renEqs, Nat.reduceBEq, renL_app, renL_ds, renL_und] at h1 h2; subst h1 h2)) | apply aw_seq | apply aw_region | apply al_nil | apply aq_np | apply aq_then | apply aq_then_x | apply aq_then_r | apply aw_skip | apply aw_exit | apply aw_ret | (apply at_op (.move _); refine r_move ?_) | (apply at_op (.assign _); refine r_assign ?_) | (apply at_cond; first | refine c_t ?_ | refine c_f ?_ | (refine aw_cond rfl (fun hb => ?_) (fun hb => ?_) <;> ((first | have hq := of_decide_eq_true hb | have hq := of_decide_eq_false hb | have hq := dNT hb | have hq := dNF hb | skip); (try (exfalso; omega))))) | (apply at_op (.binOp .lss _ _ _ _); refine r_lss ?_) | (apply at_op (.binOp .neq _ _ _ _); refine r_neq ?_) | (apply at_op (.unOp .not _ _); refine r_not ?_))
      refine oret1 (rsk 1000 1001 k2 fs2 (endS st)) (by rfl) (by first | exact ResV.x _ _ (ResX.tmp _ _ (by first | exact ToD.d _ | exact ToD.row _ _ _ _ _ rfl | exact ToD.nil _)) | exact ResV.tmp _ _ rfl | exact ResV.x _ _ (ResX.cellA _ _ _ _ _ _ _ rfl rfl rfl (by first | (simp only [normV, normList, normMap]; rfl) | rfl) rfl)) (⟨rfl, k2, fs2, hR2, rfl⟩) (by (repeat (first | exact obs_nil | (apply obs_cons; focus (first | rfl | (simp [find]; done)))))) (by first | (simp [okOut, V.within, V.withinL, O.within, keys, mem, look, nbeq_def, withinL_app, withinL_ds, withinL_und]; done) | rfl)
    · cases hfit : fitsB at_ s
      · have hw0 : wrE (endS st) f at_ s ≠ 0 := fun e => by
          rw [hiff, hfit] at e
          cases e
        have hw : wrE (endS st) f at_ s = 6 := by
          unfold wrE at hw0 ⊢
          rw [if_neg (by simp [hm0]), if_neg ha] at hw0 ⊢
          split
          · rfl
          · rename_i hn
            rw [if_neg hn] at hw0
            exact absurd rfl hw0
        rw [hfit] at hfi
        rw [hw, show wrS (endS st) f at_ s = endS st from if_pos (.inl hw0)]
        refine ob_enter Try.func38 rfl (by decide) _ Try.ntmps38 (le_ok rfl) rfl (fun w Pr β κ hE => ?_)
        dsimp only [slotsV, Nat.zero_add, Nat.reduceAdd]
        repeat' (first | (apply at_call; refine k_ocall [(1000, 1000), (1001, 1001)] (hc) hE ?_; rintro _ _ ⟨rfl, k2, fs2, hR2, rfl⟩ <;> (intro _ _ h1 h2; simp only [renEqs, Nat.reduceBEq, renL_app, renL_ds, renL_und] at h1 h2; subst h1 h2)) | (apply at_call; refine k_ocall [(1000, 1000), (1001, 1001)] (hm1 k2 fs2) hE ?_; rintro _ _ ⟨rfl, rfl⟩ <;> (intro _ _ h1 h2; simp only [renEqs, Nat.reduceBEq, renL_app, renL_ds, renL_und] at h1 h2; subst h1 h2)) | (apply at_call; refine k_call (hfi) hE ?_; rintro _ rfl) | apply aw_seq | apply aw_region | apply al_nil | apply aq_np | apply aq_then | apply aq_then_x | apply aq_then_r | apply aw_skip | apply aw_exit | apply aw_ret | (apply at_op (.move _); refine r_move ?_) | (apply at_op (.assign _); refine r_assign ?_) | (apply at_cond; first | refine c_t ?_ | refine c_f ?_ | (refine aw_cond rfl (fun hb => ?_) (fun hb => ?_) <;> ((first | have hq := of_decide_eq_true hb | have hq := of_decide_eq_false hb | have hq := dNT hb | have hq := dNF hb | skip); (try (exfalso; omega))))) | (apply at_op (.binOp .lss _ _ _ _); refine r_lss ?_) | (apply at_op (.binOp .neq _ _ _ _); refine r_neq ?_) | (apply at_op (.unOp .not _ _); refine r_not ?_))
        refine oret1 (rsk 1000 1001 k2 fs2 (endS st)) (by rfl) (by first | exact ResV.x _ _ (ResX.tmp _ _ (by first | exact ToD.d _ | exact ToD.row _ _ _ _ _ rfl | exact ToD.nil _)) | exact ResV.tmp _ _ rfl | exact ResV.x _ _ (ResX.cellA _ _ _ _ _ _ _ rfl rfl rfl (by first | (simp only [normV, normList, normMap]; rfl) | rfl) rfl)) (⟨rfl, k2, fs2, hR2, rfl⟩) (by (repeat (first | exact obs_nil | (apply obs_cons; focus (first | rfl | (simp [find]; done)))))) (by first | (simp [okOut, V.within, V.withinL, O.within, keys, mem, look, nbeq_def, withinL_app, withinL_ds, withinL_und]; done) | rfl)
      · have hw := hiff.2 hfit
        rw [hfit] at hfi
        rw [hw]
        refine ob_enter Try.func38 rfl (by decide) _ Try.ntmps38 (le_ok rfl) rfl (fun w Pr β κ hE => ?_)
        dsimp only [slotsV, Nat.zero_add, Nat.reduceAdd]
        repeat' (first | (apply at_call; refine k_ocall [(1000, 1000), (1001, 1001)] (hc) hE ?_; rintro _ _ ⟨rfl, k2, fs2, hR2, rfl⟩ <;> (intro _ _ h1 h2; simp only [renEqs, Nat.reduceBEq, renL_app, renL_ds, renL_und] at h1 h2; subst h1 h2)) | (apply at_call; refine k_ocall [(1000, 1000), (1001, 1001)] (hm1 k2 fs2) hE ?_; rintro _ _ ⟨rfl, rfl⟩ <;> (intro _ _ h1 h2; simp only [renEqs, Nat.reduceBEq, renL_app, renL_ds, renL_und] at h1 h2; subst h1 h2)) | (apply at_call; refine k_call (hfi) hE ?_; rintro _ rfl) | (apply at_call; refine k_ocall [(1000, 1000), (1001, 1001)] (radd_any hR2 hw) hE ?_; rintro _ _ ⟨rfl, k3, fs3, hR3, rfl⟩ <;> (intro _ _ h1 h2; simp only [renEqs, Nat.reduceBEq, renL_app, renL_ds, renL_und] at h1 h2; subst h1 h2)) | apply aw_seq | apply aw_region | apply al_nil | apply aq_np | apply aq_then | apply aq_then_x | apply aq_then_r | apply aw_skip | apply aw_exit | apply aw_ret | (apply at_op (.move _); refine r_move ?_) | (apply at_op (.assign _); refine r_assign ?_) | (apply at_cond; first | refine c_t ?_ | refine c_f ?_ | (refine aw_cond rfl (fun hb => ?_) (fun hb => ?_) <;> ((first | have hq := of_decide_eq_true hb | have hq := of_decide_eq_false hb | have hq := dNT hb | have hq := dNF hb | skip); (try (exfalso; omega))))) | (apply at_op (.binOp .lss _ _ _ _); refine r_lss ?_) | (apply at_op (.binOp .neq _ _ _ _); refine r_neq ?_) | (apply at_op (.unOp .not _ _); refine r_not ?_))
        refine oret1 (rsk 1000 1001 k3 fs3 (wrS (endS st) f at_ s)) (by rfl) (by first | exact ResV.x _ _ (ResX.tmp _ _ (by first | exact ToD.d _ | exact ToD.row _ _ _ _ _ rfl | exact ToD.nil _)) | exact ResV.tmp _ _ rfl | exact ResV.x _ _ (ResX.cellA _ _ _ _ _ _ _ rfl rfl rfl (by first | (simp only [normV, normList, normMap]; rfl) | rfl) rfl)) (⟨rfl, k3, fs3, hR3, rfl⟩) (by (repeat (first | exact obs_nil | (apply obs_cons; focus (first | rfl | (simp [find]; done)))))) (by first | (simp [okOut, V.within, V.withinL, O.within, keys, mem, look, nbeq_def, withinL_app, withinL_ds, withinL_und]; done) | rfl)
  · have hw : wrE (endS st) f at_ s = mayE (endS st) f := by unfold wrE; rw [if_pos hm0]
    have hS : wrS (endS st) f at_ s = endS st := if_pos (.inl (by rw [hw]; exact hm0))
    rw [hw, hS]
    have hq2 : (!decide (mayE (endS st) f = 0)) = true := by rw [decide_eq_false hm0]; rfl
    refine ob_enter Try.func38 rfl (by decide) _ Try.ntmps38 (le_ok rfl) rfl (fun w Pr β κ hE => ?_)
    dsimp only [slotsV, Nat.zero_add, Nat.reduceAdd]
    repeat' (first | (apply at_call; refine k_ocall [(1000, 1000), (1001, 1001)] (hc) hE ?_; rintro _ _ ⟨rfl, k2, fs2, hR2, rfl⟩ <;> (intro _ _ h1 h2; simp only [renEqs, Nat.reduceBEq, renL_app, renL_ds, renL_und] at h1 h2; subst h1 h2)) | (apply at_call; refine k_ocall [(1000, 1000), (1001, 1001)] (hm k2 fs2) hE ?_; rintro _ _ ⟨rfl, rfl⟩ <;> (intro _ _ h1 h2; simp only [renEqs, Nat.reduceBEq, renL_app, renL_ds, renL_und] at h1 h2; subst h1 h2)) | apply aw_seq | apply aw_region | apply al_nil | apply aq_np | apply aq_then | apply aq_then_x | apply aq_then_r | apply aw_skip | apply aw_exit | apply aw_ret | (apply at_op (.move _); refine r_move ?_) | (apply at_op (.assign _); refine r_assign ?_) | (apply at_cond; first | refine c_t ?_ | refine c_f ?_ | (refine aw_cond rfl (fun hb => ?_) (fun hb => ?_) <;> ((first | have hq := of_decide_eq_true hb | have hq := of_decide_eq_false hb | have hq := dNT hb | have hq := dNF hb | skip); (try (exfalso; omega))))) | (apply at_op (.binOp .lss _ _ _ _); refine r_lss ?_) | (apply at_op (.binOp .neq _ _ _ _); refine r_neq ?_) | (apply at_op (.unOp .not _ _); refine r_not ?_))
    refine oret1 (rsk 1000 1001 k2 fs2 (endS st)) (by rfl) (by first | exact ResV.x _ _ (ResX.tmp _ _ (by first | exact ToD.d _ | exact ToD.row _ _ _ _ _ rfl | exact ToD.nil _)) | exact ResV.tmp _ _ rfl | exact ResV.x _ _ (ResX.cellA _ _ _ _ _ _ _ rfl rfl rfl (by first | (simp only [normV, normList, normMap]; rfl) | rfl) rfl)) (⟨rfl, k2, fs2, hR2, rfl⟩) (by (repeat (first | exact obs_nil | (apply obs_cons; focus (first | rfl | (simp [find]; done)))))) (by first | (simp [okOut, V.within, V.withinL, O.within, keys, mem, look, nbeq_def, withinL_app, withinL_ds, withinL_und]; done) | rfl)
end
end Go.Proofs.Ytabaflklognhaaa
end
section
set_option linter.unusedSimpArgs false
set_option linter.unusedVariables false
namespace Go.Proofs.Ytabaflklognhaaa
open Go.RowKit Go.ChangeMaps

theorem RkOk.lose {fs : List RFile} {st : DS} (h : RkOk fs st) {n : Int} (hn : 0 ≤ n ∧ n ≤ 9223372036854775807) : RkOk fs { st with lost := n } := ⟨h.get, h.nodup, h.num, ⟨h.ok.now, h.ok.last, h.ok.out, h.ok.nodup, h.ok.file, h.ok.num, hn, h.ok.armed0, h.ok.keepl⟩⟩
/-- comes, of no write -/
theorem comes_sync {st : DS} (h : endsB st = true) : comesS st 0 0 ⟨#[]⟩ = crashS (endS st) st.keep := by
  rw [comes_write h]
  have : wrS (endS st) 0 0 ⟨#[]⟩ = endS st := if_pos (.inr rfl)
  rw [this]
section
variable {k : Nat} {fs : List RFile} {st : DS}
set_option maxHeartbeats 8000000 in
set_option maxRecDepth 20000 in
theorem rSync_any (h : RkOk fs st) (f : Int) : ObC 32 [.box 1000 0, .d (.int f)] (rsk 1000 1001 k fs st) [] (fun x o => x = .d (.int (syncR st f).1) ∧ ROut (syncR st f).2 o) := by
  have hc := rcomes_any (k := k) h 0 0 ⟨#[]⟩ (by decide)
  unfold syncR
  cases he : endsB st
  · rw [comes_none he] at hc
    rw [if_neg (by decide)]
    have hm := fun k fs => rmay_any (k := k) (fs := fs) (st := endS st) f
    by_cases hm0 : mayE (endS st) f = 0
    · rw [if_neg (by simp [hm0])]
      have hmf := (may_ok hm0).2
      rw [hm0] at hm
      have ht0 : (!decide ((0 : Int) = 0)) = false := rfl
      have hl := h.ends.ok.lost0
      by_cases hlost : 0 < (endS st).lost
      · rw [if_pos hlost]
        have hq : decide (0 < (endS st).lost) = true := decide_eq_true hlost
        refine ob_enter Try.func32 rfl (by decide) _ Try.ntmps32 (le_ok rfl) rfl (fun w Pr β κ hE => ?_)
        dsimp only [slotsV, Nat.zero_add, Nat.reduceAdd]
        repeat' (first | (apply at_call; refine k_ocall [(1000, 1000), (1001, 1001)] (hc) hE ?_; rintro _ _ ⟨rfl, k2, fs2, hR2, rfl⟩ <;> (intro _ _ h1 h2; simp only [renEqs, Nat.reduceBEq, renL_app, renL_ds, renL_und] at h1 h2; subst h1 h2)) | (apply at_call; refine k_ocall [(1000, 1000), (1001, 1001)] (hm k2 fs2) hE ?_; rintro _ _ ⟨rfl, rfl⟩ <;> (intro _ _ h1 h2; simp only [renEqs, Nat.reduceBEq, renL_app, renL_ds, renL_und] at h1 h2; subst h1 h2)) | apply aw_seq | apply aw_region | apply al_nil | apply aq_np | apply aq_then | apply aq_then_x | apply aq_then_r | apply aw_skip | apply aw_exit | apply aw_ret | (apply at_op (.move _); refine r_move ?_) | (apply at_op (.assign _); refine r_assign ?_) | (apply at_cond; first | refine c_t ?_ | refine c_f ?_ | (refine aw_cond rfl (fun hb => ?_) (fun hb => ?_) <;> ((first | have hq := of_decide_eq_true hb | have hq := of_decide_eq_false hb | have hq := dNT hb | have hq := dNF hb | skip); (try (exfalso; omega))))) | (apply at_op (.binOp .gtr _ _ _ _); refine r_gtr ?_) | (apply at_op (.binOp .neq _ _ _ _); refine r_neq ?_) | (apply at_op (.binOp .sub _ _ _ _); refine r_sub ?_) | (apply at_op (.load _ _); refine r_load ?_) | (apply at_op (.fieldAddr _ _ _); refine r_faddr ?_) | (apply at_op (.field _ _ _); refine r_field ?_) | (apply at_op (.nilCheck _); refine r_nilck ?_) | (apply at_op (.store _ _ _); refine r_store ?_))
        refine oret1 (rsk 1000 1001 k2 fs2 { endS st with lost := (endS st).lost - 1 }) (by rfl) (by first | exact ResV.x _ _ (ResX.tmp _ _ (by first | exact ToD.d _ | exact ToD.row _ _ _ _ _ rfl | exact ToD.nil _)) | exact ResV.tmp _ _ rfl | exact ResV.x _ _ (ResX.cellA _ _ _ _ _ _ _ rfl rfl rfl (by first | (simp only [normV, normList, normMap]; rfl) | rfl) rfl)) (⟨rfl, k2, fs2, hR2.lose (by omega), rfl⟩) (by (repeat (first | exact obs_nil | (apply obs_cons; focus (first | rfl | (simp [find]; done)))))) (by first | (simp [okOut, V.within, V.withinL, O.within, keys, mem, look, nbeq_def, withinL_app, withinL_ds, withinL_und]; done) | rfl)
      · rw [if_neg hlost]
        have hq : decide (0 < (endS st).lost) = false := decide_eq_false hlost
        refine ob_enter Try.func32 rfl (by decide) _ Try.ntmps32 (le_ok rfl) rfl (fun w Pr β κ hE => ?_)
        dsimp only [slotsV, Nat.zero_add, Nat.reduceAdd]
        repeat' (first | (apply at_call; refine k_ocall [(1000, 1000), (1001, 1001)] (hc) hE ?_; rintro _ _ ⟨rfl, k2, fs2, hR2, rfl⟩ <;> (intro _ _ h1 h2; simp only [renEqs, Nat.reduceBEq, renL_app, renL_ds, renL_und] at h1 h2; subst h1 h2)) | (apply at_call; refine k_ocall [(1000, 1000), (1001, 1001)] (hm k2 fs2) hE ?_; rintro _ _ ⟨rfl, rfl⟩ <;> (intro _ _ h1 h2; simp only [renEqs, Nat.reduceBEq, renL_app, renL_ds, renL_und] at h1 h2; subst h1 h2)) | (apply at_call; refine k_ocall [(1000, 1000), (1001, 1001)] (rget_any hR2 f) hE ?_; rintro _ _ ⟨rfl, rfl⟩ <;> (intro _ _ h1 h2; simp only [renEqs, Nat.reduceBEq, renL_app, renL_ds, renL_und] at h1 h2; subst h1 h2)) | (apply at_call; refine k_ocall [(1000, 1000), (1001, 1001)] (rsettle_any hR2 f ((endS st).F f).now) hE ?_; rintro _ _ ⟨rfl, k3, rfl⟩ <;> (intro _ _ h1 h2; simp only [renEqs, Nat.reduceBEq, renL_app, renL_ds, renL_und] at h1 h2; subst h1 h2)) | apply aw_seq | apply aw_region | apply al_nil | apply aq_np | apply aq_then | apply aq_then_x | apply aq_then_r | apply aw_skip | apply aw_exit | apply aw_ret | (apply at_op (.move _); refine r_move ?_) | (apply at_op (.assign _); refine r_assign ?_) | (apply at_cond; first | refine c_t ?_ | refine c_f ?_ | (refine aw_cond rfl (fun hb => ?_) (fun hb => ?_) <;> ((first | have hq := of_decide_eq_true hb | have hq := of_decide_eq_false hb | have hq := dNT hb | have hq := dNF hb | skip); (try (exfalso; omega))))) | (apply at_op (.binOp .gtr _ _ _ _); refine r_gtr ?_) | (apply at_op (.binOp .neq _ _ _ _); refine r_neq ?_) | (apply at_op (.binOp .sub _ _ _ _); refine r_sub ?_) | (apply at_op (.load _ _); refine r_load ?_) | (apply at_op (.fieldAddr _ _ _); refine r_faddr ?_) | (apply at_op (.field _ _ _); refine r_field ?_) | (apply at_op (.nilCheck _); refine r_nilck ?_) | (apply at_op (.store _ _ _); refine r_store ?_))
        refine oret1 (rsk 1000 1001 k3 (rset fs2 (f, ⟨((endS st).F f).now, ((endS st).F f).now⟩)) (settleS (endS st) f ((endS st).F f).now)) (by rfl) (by first | exact ResV.x _ _ (ResX.tmp _ _ (by first | exact ToD.d _ | exact ToD.row _ _ _ _ _ rfl | exact ToD.nil _)) | exact ResV.tmp _ _ rfl | exact ResV.x _ _ (ResX.cellA _ _ _ _ _ _ _ rfl rfl rfl (by first | (simp only [normV, normList, normMap]; rfl) | rfl) rfl)) (⟨rfl, k3, _, hR2.put hmf rfl (hR2.ok.settle hmf (hR2.ok.now f)), rfl⟩) (by (repeat (first | exact obs_nil | (apply obs_cons; focus (first | rfl | (simp [find]; done)))))) (by first | (simp [okOut, V.within, V.withinL, O.within, keys, mem, look, nbeq_def, withinL_app, withinL_ds, withinL_und]; done) | rfl)
    · rw [if_pos hm0]
      have hq2 : (!decide (mayE (endS st) f = 0)) = true := by rw [decide_eq_false hm0]; rfl
      refine ob_enter Try.func32 rfl (by decide) _ Try.ntmps32 (le_ok rfl) rfl (fun w Pr β κ hE => ?_)
      dsimp only [slotsV, Nat.zero_add, Nat.reduceAdd]
      repeat' (first | (apply at_call; refine k_ocall [(1000, 1000), (1001, 1001)] (hc) hE ?_; rintro _ _ ⟨rfl, k2, fs2, hR2, rfl⟩ <;> (intro _ _ h1 h2; simp only [renEqs, Nat.reduceBEq, renL_app, renL_ds, renL_und] at h1 h2; subst h1 h2)) | (apply at_call; refine k_ocall [(1000, 1000), (1001, 1001)] (hm k2 fs2) hE ?_; rintro _ _ ⟨rfl, rfl⟩ <;> (intro _ _ h1 h2; simp only [renEqs, Nat.reduceBEq, renL_app, renL_ds, renL_und] at h1 h2; subst h1 h2)) | apply aw_seq | apply aw_region | apply al_nil | apply aq_np | apply aq_then | apply aq_then_x | apply aq_then_r | apply aw_skip | apply aw_exit | apply aw_ret | (apply at_op (.move _); refine r_move ?_) | (apply at_op (.assign _); refine r_assign ?_) | (apply at_cond; first | refine c_t ?_ | refine c_f ?_ | (refine aw_cond rfl (fun hb => ?_) (fun hb => ?_) <;> ((first | have hq := of_decide_eq_true hb | have hq := of_decide_eq_false hb | have hq := dNT hb | have hq := dNF hb | skip); (try (exfalso; omega))))) | (apply at_op (.binOp .gtr _ _ _ _); refine r_gtr ?_) | (apply at_op (.binOp .neq _ _ _ _); refine r_neq ?_) | (apply at_op (.binOp .sub _ _ _ _); refine r_sub ?_) | (apply at_op (.load _ _); refine r_load ?_) | (apply at_op (.fieldAddr _ _ _); refine r_faddr ?_) | (apply at_op (.field _ _ _); refine r_field ?_) | (apply at_op (.nilCheck _); refine r_nilck ?_) | (apply at_op (.store _ _ _); refine r_store ?_))
      refine oret1 (rsk 1000 1001 k2 fs2 (endS st)) (by rfl) (by first | exact ResV.x _ _ (ResX.tmp _ _ (by first | exact ToD.d _ | exact ToD.row _ _ _ _ _ rfl | exact ToD.nil _)) | exact ResV.tmp _ _ rfl | exact ResV.x _ _ (ResX.cellA _ _ _ _ _ _ _ rfl rfl rfl (by first | (simp only [normV, normList, normMap]; rfl) | rfl) rfl)) (⟨rfl, k2, fs2, hR2, rfl⟩) (by (repeat (first | exact obs_nil | (apply obs_cons; focus (first | rfl | (simp [find]; done)))))) (by first | (simp [okOut, V.within, V.withinL, O.within, keys, mem, look, nbeq_def, withinL_app, withinL_ds, withinL_und]; done) | rfl)
  · rw [comes_sync he] at hc
    rw [if_pos rfl]
    have hm := fun k fs => rmay_any (k := k) (fs := fs) (st := crashS (endS st) st.keep) f
    rw [may_down (crash_isdown _ _)] at hm
    refine ob_enter Try.func32 rfl (by decide) _ Try.ntmps32 (le_ok rfl) rfl (fun w Pr β κ hE => ?_)
    dsimp only [slotsV, Nat.zero_add, Nat.reduceAdd]
    repeat' (first | (apply at_call; refine k_ocall [(1000, 1000), (1001, 1001)] (hc) hE ?_; rintro _ _ ⟨rfl, k2, fs2, hR2, rfl⟩ <;> (intro _ _ h1 h2; simp only [renEqs, Nat.reduceBEq, renL_app, renL_ds, renL_und] at h1 h2; subst h1 h2)) | (apply at_call; refine k_ocall [(1000, 1000), (1001, 1001)] (hm k2 fs2) hE ?_; rintro _ _ ⟨rfl, rfl⟩ <;> (intro _ _ h1 h2; simp only [renEqs, Nat.reduceBEq, renL_app, renL_ds, renL_und] at h1 h2; subst h1 h2)) | apply aw_seq | apply aw_region | apply al_nil | apply aq_np | apply aq_then | apply aq_then_x | apply aq_then_r | apply aw_skip | apply aw_exit | apply aw_ret | (apply at_op (.move _); refine r_move ?_) | (apply at_op (.assign _); refine r_assign ?_) | (apply at_cond; first | refine c_t ?_ | refine c_f ?_ | (refine aw_cond rfl (fun hb => ?_) (fun hb => ?_) <;> ((first | have hq := of_decide_eq_true hb | have hq := of_decide_eq_false hb | have hq := dNT hb | have hq := dNF hb | skip); (try (exfalso; omega))))) | (apply at_op (.binOp .gtr _ _ _ _); refine r_gtr ?_) | (apply at_op (.binOp .neq _ _ _ _); refine r_neq ?_) | (apply at_op (.binOp .sub _ _ _ _); refine r_sub ?_) | (apply at_op (.load _ _); refine r_load ?_) | (apply at_op (.fieldAddr _ _ _); refine r_faddr ?_) | (apply at_op (.field _ _ _); refine r_field ?_) | (apply at_op (.nilCheck _); refine r_nilck ?_) | (apply at_op (.store _ _ _); refine r_store ?_))
    refine oret1 (rsk 1000 1001 k2 fs2 (crashS (endS st) st.keep)) (by rfl) (by first | exact ResV.x _ _ (ResX.tmp _ _ (by first | exact ToD.d _ | exact ToD.row _ _ _ _ _ rfl | exact ToD.nil _)) | exact ResV.tmp _ _ rfl | exact ResV.x _ _ (ResX.cellA _ _ _ _ _ _ _ rfl rfl rfl (by first | (simp only [normV, normList, normMap]; rfl) | rfl) rfl)) (⟨rfl, k2, fs2, hR2, rfl⟩) (by (repeat (first | exact obs_nil | (apply obs_cons; focus (first | rfl | (simp [find]; done)))))) (by first | (simp [okOut, V.within, V.withinL, O.within, keys, mem, look, nbeq_def, withinL_app, withinL_ds, withinL_und]; done) | rfl)
end
end Go.Proofs.Ytabaflklognhaaa
end
