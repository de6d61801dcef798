/-
  The journal: Open. Conditions: none.
  The journal's contracts with given results, whatever happens; what the law calls. Conditions: none.
  The package's variables, as the rows list them. Conditions: none.
  What comes in: lists of numbers, of texts, of operations. Conditions: none.
-/
import Derived.Test.YtfgibalcdjlnhaaDoorRows
import Derived.LaidLaws
import Derived.Handed
import Derived.Lib.LaidTab
import Derived.Stop.LaidErr
import Derived.Test.YtfgibalcdjlnhaaDoorMay
section
set_option linter.unusedSimpArgs false
set_option linter.unusedVariables false
namespace Go.Proofs.YtfgibalcdjlnhaaDoor
open Go.RowKit Go.ChangeMaps

section
variable {k cm cs : Nat} {lm ls : List ME} {st : DS}
attribute [local irreducible] syncR truncR recsOf readP
set_option maxHeartbeats 16000000 in
set_option maxRecDepth 20000 in
theorem jopen_any (hD : DkOk lm ls st) (f : Int) : ObC 10 [.box 1000 0, .d (.int f)] (dsk 1000 1001 1002 1003 k cm cs lm ls st) [57, 9, 20] (fun x o => JOpen (openJ st f) x o) := by
  by_cases hf0 : f < 0 ∨ 15 < f
  · have hO : openJ st f = (1, none, st) := if_pos hf0
    rw [hO]
    by_cases hf1 : f < 0
    · skip
      refine ob_enter Tryd.func10 rfl (by decide) _ Tryd.ntmps10 (le_ok rfl) rfl (fun w Pr β κ hE => ?_)
      dsimp only [slotsV, Nat.zero_add, Nat.reduceAdd]
      repeat' (first | apply aw_seq | apply aw_region | apply al_nil | apply aq_np | apply aq_then | apply aq_then_x | apply aq_then_r | apply aw_skip | apply aw_exit | apply aw_ret | (apply at_op (.move _); refine r_move ?_) | (apply at_op (.assign _); refine r_assign ?_) | (apply at_cond; first | refine c_t ?_ | refine c_f ?_ | (refine aw_cond rfl (fun hb => ?_) (fun hb => ?_) <;> ((first | have hq := of_decide_eq_true hb | have hq := of_decide_eq_false hb | have hq := dNT hb | have hq := dNF hb | skip); (try (exfalso; omega))))) | (apply at_guard; first | refine g_go ?_ | refine g_nt ?_ | refine g_nf ?_ | refine g_nu ?_ | ((first | refine al_split_t rfl rfl (lt_ok rfl) (fun hb => ?_) (fun hb => ?_) | refine al_split_f rfl rfl (lt_ok rfl) (fun hb => ?_) (fun hb => ?_)) <;> ((first | have hq := of_decide_eq_true hb | have hq := of_decide_eq_false hb | have hq := dNT hb | have hq := dNF hb | skip); (try (exfalso; omega))))) | (apply at_op (.pick _ _ _); refine r_pick ?_) | (apply at_op (.binOp .lss _ _ _ _); refine r_lss ?_) | (apply at_op (.binOp .gtr _ _ _ _); refine r_gtr ?_))
      refine oret2 (dsk 1000 1001 1002 1003 k cm cs lm ls st) (by rfl) (by first | exact ResV.x _ _ (ResX.tmp _ _ (by first | exact ToD.d _ | exact ToD.row _ _ _ _ _ rfl | exact ToD.nil _)) | exact ResV.tmp _ _ rfl | exact ResV.x _ _ (ResX.cellA _ _ _ _ _ _ _ rfl rfl rfl (by first | (simp only [normV, normList, normMap]; rfl) | rfl) rfl)) (by first | exact ResV.x _ _ (ResX.tmp _ _ (by first | exact ToD.d _ | exact ToD.row _ _ _ _ _ rfl | exact ToD.nil _)) | exact ResV.tmp _ _ rfl | exact ResV.x _ _ (ResX.cellA _ _ _ _ _ _ _ rfl rfl rfl (by first | (simp only [normV, normList, normMap]; rfl) | rfl) rfl)) (openJ_none rfl hD (.inl rfl) rfl rfl) (by (repeat (first | exact obs_nil | (apply obs_cons; focus (first | rfl | (simp [find]; done)))))) (by first | (simp [okOut, V.within, V.withinL, O.within, keys, mem, look, nbeq_def, withinL_app, withinL_ds, withinL_und]; done) | rfl)
    · skip
      refine ob_enter Tryd.func10 rfl (by decide) _ Tryd.ntmps10 (le_ok rfl) rfl (fun w Pr β κ hE => ?_)
      dsimp only [slotsV, Nat.zero_add, Nat.reduceAdd]
      repeat' (first | apply aw_seq | apply aw_region | apply al_nil | apply aq_np | apply aq_then | apply aq_then_x | apply aq_then_r | apply aw_skip | apply aw_exit | apply aw_ret | (apply at_op (.move _); refine r_move ?_) | (apply at_op (.assign _); refine r_assign ?_) | (apply at_cond; first | refine c_t ?_ | refine c_f ?_ | (refine aw_cond rfl (fun hb => ?_) (fun hb => ?_) <;> ((first | have hq := of_decide_eq_true hb | have hq := of_decide_eq_false hb | have hq := dNT hb | have hq := dNF hb | skip); (try (exfalso; omega))))) | (apply at_guard; first | refine g_go ?_ | refine g_nt ?_ | refine g_nf ?_ | refine g_nu ?_ | ((first | refine al_split_t rfl rfl (lt_ok rfl) (fun hb => ?_) (fun hb => ?_) | refine al_split_f rfl rfl (lt_ok rfl) (fun hb => ?_) (fun hb => ?_)) <;> ((first | have hq := of_decide_eq_true hb | have hq := of_decide_eq_false hb | have hq := dNT hb | have hq := dNF hb | skip); (try (exfalso; omega))))) | (apply at_op (.pick _ _ _); refine r_pick ?_) | (apply at_op (.binOp .lss _ _ _ _); refine r_lss ?_) | (apply at_op (.binOp .gtr _ _ _ _); refine r_gtr ?_))
      refine oret2 (dsk 1000 1001 1002 1003 k cm cs lm ls st) (by rfl) (by first | exact ResV.x _ _ (ResX.tmp _ _ (by first | exact ToD.d _ | exact ToD.row _ _ _ _ _ rfl | exact ToD.nil _)) | exact ResV.tmp _ _ rfl | exact ResV.x _ _ (ResX.cellA _ _ _ _ _ _ _ rfl rfl rfl (by first | (simp only [normV, normList, normMap]; rfl) | rfl) rfl)) (by first | exact ResV.x _ _ (ResX.tmp _ _ (by first | exact ToD.d _ | exact ToD.row _ _ _ _ _ rfl | exact ToD.nil _)) | exact ResV.tmp _ _ rfl | exact ResV.x _ _ (ResX.cellA _ _ _ _ _ _ _ rfl rfl rfl (by first | (simp only [normV, normList, normMap]; rfl) | rfl) rfl)) (openJ_none rfl hD (.inl rfl) rfl rfl) (by (repeat (first | exact obs_nil | (apply obs_cons; focus (first | rfl | (simp [find]; done)))))) (by first | (simp [okOut, V.within, V.withinL, O.within, keys, mem, look, nbeq_def, withinL_app, withinL_ds, withinL_und]; done) | rfl)
  · have hf6 : i64 f := by unfold i64; omega
    have hfr : 0 ≤ f ∧ f ≤ 15 := by omega
    have hO : openJ st f = _ := if_neg hf0
    obtain ⟨e, su, hS⟩ : ∃ e su, syncR st f = (e, su) := ⟨_, _, rfl⟩
    have hS1 : (syncR st f).1 = e := by rw [hS]
    have hS2 : (syncR st f).2 = su := by rw [hS]
    have hSy := smS (k := k) (cm := cm) (cs := cs) hD hf6 hS1 hS2
    by_cases he : e = 0
    · have q1 : (!decide (e = 0)) = false := by simp [he]
      subst he
      have hrd := sync_read hD.ok hS1
      rw [hS2] at hrd
      rw [hS1, hS2, if_neg (by simp)] at hO
      obtain ⟨hmay, hread, hnow⟩ := hrd
      have hsz := fun {k cm cs : Nat} {lm ls : List ME} (h : DkOk lm ls su) => size_any (k := k) (cm := cm) (cs := cs) h hf6
      generalize (su.F f).now = s at hO hread hnow hsz
      have hrec := read_is s (by omega)
      have hR := recsOf_is (L s)
      have hRle := hR.le
      rw [L_len] at hRle
      generalize recsOf (L s) = rs at hO hrec hR hRle
      have hjs : JS.Ok ⟨f, rs, false⟩ := ⟨hfr, hR.small, by show (forms rs).length ≤ _; omega⟩
      have hn := hjs.num
      simp only at hn
      generalize hn0 : (forms rs).length = n at hO hrec hRle
      by_cases hlt : n < s.size
      · have q2 : decide ((n : Int) < s.size) = true := decide_eq_true (by omega)
        rw [if_pos hlt] at hO
        obtain ⟨e2, sv, hT⟩ : ∃ e sv, truncR su f n = (e, sv) := ⟨_, _, rfl⟩
        rw [hT] at hO
        have hTr : ∀ {k cm cs : Nat} {lm ls : List ME} (h : DkOk lm ls su), ObC 36 [.box 1000 0, .d (.int f), .d (.int n)] (dsk 1000 1001 1002 1003 k cm cs lm ls su) [15] (fun x o => x = .d (.int e2) ∧ OutN 15 sv o) := fun {k cm cs lm ls} h => by
          have := Truncate_any (k := k) (cm := cm) (cs := cs) h hf6 (n : Int)
          rwa [hT] at this
        by_cases he2 : e2 = 0
        · have q3 : (!decide (e2 = 0)) = false := by simp [he2]
          have hO : openJ st f = (0, some ⟨f, rs, false⟩, sv) := by rw [hO, if_neg (by simp [he2])]
          rw [hO]
          refine ob_enter Tryd.func10 rfl (by decide) _ Tryd.ntmps10 (le_ok rfl) rfl (fun w Pr β κ hE => ?_)
          dsimp only [slotsV, Nat.zero_add, Nat.reduceAdd]
          repeat' (first | (apply at_call; refine k_ocall [(1000, 1000), (1001, 1001), (1002, 1002), (1003, 1003), (13, 20)] (hSy) hE ?_; rintro _ _ ⟨rfl, s3, k3, cm3, cs3, lm3, ls3, hs3, hD3, rfl⟩; rcases hs3 with rfl | rfl <;> (intro _ _ h1 h2; simp only [renEqs, Nat.reduceBEq, renL_app, renL_ds, renL_und] at h1 h2; subst h1 h2)) | apply aw_seq | apply aw_region | apply al_nil | apply aq_np | apply aq_then | apply aq_then_x | apply aq_then_r | apply aw_skip | apply aw_exit | apply aw_ret | (apply at_op (.move _); refine r_move ?_) | (apply at_op (.assign _); refine r_assign ?_) | (apply at_cond; first | refine c_t ?_ | refine c_f ?_ | (refine aw_cond rfl (fun hb => ?_) (fun hb => ?_) <;> ((first | have hq := of_decide_eq_true hb | have hq := of_decide_eq_false hb | have hq := dNT hb | have hq := dNF hb | skip); (try (exfalso; omega))))) | (apply at_guard; first | refine g_go ?_ | refine g_nt ?_ | refine g_nf ?_ | refine g_nu ?_ | ((first | refine al_split_t rfl rfl (lt_ok rfl) (fun hb => ?_) (fun hb => ?_) | refine al_split_f rfl rfl (lt_ok rfl) (fun hb => ?_) (fun hb => ?_)) <;> ((first | have hq := of_decide_eq_true hb | have hq := of_decide_eq_false hb | have hq := dNT hb | have hq := dNF hb | skip); (try (exfalso; omega))))) | (apply at_op (.pick _ _ _); refine r_pick ?_) | (apply at_op (.binOp .lss _ _ _ _); refine r_lss ?_) | (apply at_op (.binOp .gtr _ _ _ _); refine r_gtr ?_))
          · skip
            repeat' (first | (apply at_call; refine k_ocall [(1000, 1000), (1001, 1001), (1002, 1002), (1003, 1003)] (hsz hD3) hE ?_; rintro _ _ ⟨rfl, rfl⟩ <;> (intro _ _ h1 h2; simp only [renEqs, Nat.reduceBEq, renL_app, renL_ds, renL_und] at h1 h2; subst h1 h2)) | (apply at_call; refine k_ocall [(1000, 1000), (1001, 1001), (1002, 1002), (1003, 1003)] (smR hD3 hf6 hread) hE ?_; rintro _ _ ⟨rfl, rfl⟩ <;> (intro _ _ h1 h2; simp only [renEqs, Nat.reduceBEq, renL_app, renL_ds, renL_und] at h1 h2; subst h1 h2)) | (apply at_call; refine k_ocall [(4, 9)] (hrec) hE ?_; rintro _ _ ⟨kr, rfl, rfl⟩ <;> (intro _ _ h1 h2; simp only [renEqs, Nat.reduceBEq, renL_app, renL_ds, renL_und] at h1 h2; subst h1 h2)) | apply aw_seq | apply aw_region | apply al_nil | apply aq_np | apply aq_then | apply aq_then_x | apply aq_then_r | apply aw_skip | apply aw_exit | apply aw_ret | (apply at_op (.move _); refine r_move ?_) | (apply at_op (.assign _); refine r_assign ?_) | (apply at_cond; first | refine c_t ?_ | refine c_f ?_ | (refine aw_cond rfl (fun hb => ?_) (fun hb => ?_) <;> ((first | have hq := of_decide_eq_true hb | have hq := of_decide_eq_false hb | have hq := dNT hb | have hq := dNF hb | skip); (try (exfalso; omega))))) | (apply at_op (.binOp .lss _ _ _ _); refine r_lss ?_) | (apply at_op (.binOp .neq _ _ _ _); refine r_neq ?_) | (apply at_op (.call { callee := .builtin .len, args := _, argTypes := _ }); refine r_len ?_) | (apply at_op (.extract _ _); refine r_extract ?_))
            repeat' (first | (apply at_call; refine k_ocall [(1000, 1000), (1001, 1001), (1002, 1002), (1003, 1003), (15, 48)] (hTr hD3) hE ?_; rintro _ _ ⟨rfl, s4, k4, cm4, cs4, lm4, ls4, hs4, hD4, rfl⟩; rcases hs4 with rfl | rfl <;> (intro _ _ h1 h2; simp only [renEqs, Nat.reduceBEq, renL_app, renL_ds, renL_und] at h1 h2; subst h1 h2)) | apply aw_seq | apply aw_region | apply al_nil | apply aq_np | apply aq_then | apply aq_then_x | apply aq_then_r | apply aw_skip | apply aw_exit | apply aw_ret | (apply at_op (.move _); refine r_move ?_) | (apply at_op (.assign _); refine r_assign ?_) | (apply at_cond; first | refine c_t ?_ | refine c_f ?_ | (refine aw_cond rfl (fun hb => ?_) (fun hb => ?_) <;> ((first | have hq := of_decide_eq_true hb | have hq := of_decide_eq_false hb | have hq := dNT hb | have hq := dNF hb | skip); (try (exfalso; omega))))) | (apply at_op (.binOp .neq _ _ _ _); refine r_neq ?_))
            · skip
              repeat' (first | (apply at_op (.build _ _); refine al_y (y_buildS rfl (by repeat (first | exact PartsS.nil | (apply PartsS.cons; rfl; constructor; rfl))) rfl rfl) (lt_ok rfl) ?_) | (apply at_op (.box _ _); refine al_step (st_box (ev_agg rfl) nofun (by first | (simp only [normV, normList, normMap]; rfl) | rfl) (lt_ok rfl) rfl rfl) rfl ?_) | apply aw_seq | apply aw_region | apply al_nil | apply aq_np | apply aq_then | apply aq_then_x | apply aq_then_r | apply aw_skip | apply aw_exit | apply aw_ret | (apply at_op (.move _); refine r_move ?_) | (apply at_op (.assign _); refine r_assign ?_) | (apply at_cond; first | refine c_t ?_ | refine c_f ?_ | (refine aw_cond rfl (fun hb => ?_) (fun hb => ?_) <;> ((first | have hq := of_decide_eq_true hb | have hq := of_decide_eq_false hb | have hq := dNT hb | have hq := dNF hb | skip); (try (exfalso; omega))))) | (apply at_op (.box _ _); refine r_boxed ?_) | (apply at_op (.build _ _); refine r_build ?_))
              subst hn0
              refine oret2 (jrn 57 9 kr ⟨f, rs, false⟩ 1000 1001 1002 1003 k4 cm4 cs4 lm4 ls4 sv) (by rfl) (ResV.tmp _ _ rfl) (ResV.tmp _ _ rfl) (openJ_some rfl hjs hD4 (.inl rfl) rfl rfl) (by (repeat (first | exact obs_nil | (apply obs_cons; focus (first | rfl | (simp [find]; done)))))) (by first | (simp [okOut, V.within, V.withinL, O.within, keys, mem, look, nbeq_def, withinL_app, withinL_ds, withinL_und]; done) | rfl)
            · skip
              repeat' (first | (apply at_op (.build _ _); refine al_y (y_buildS rfl (by repeat (first | exact PartsS.nil | (apply PartsS.cons; rfl; constructor; rfl))) rfl rfl) (lt_ok rfl) ?_) | (apply at_op (.box _ _); refine al_step (st_box (ev_agg rfl) nofun (by first | (simp only [normV, normList, normMap]; rfl) | rfl) (lt_ok rfl) rfl rfl) rfl ?_) | apply aw_seq | apply aw_region | apply al_nil | apply aq_np | apply aq_then | apply aq_then_x | apply aq_then_r | apply aw_skip | apply aw_exit | apply aw_ret | (apply at_op (.move _); refine r_move ?_) | (apply at_op (.assign _); refine r_assign ?_) | (apply at_cond; first | refine c_t ?_ | refine c_f ?_ | (refine aw_cond rfl (fun hb => ?_) (fun hb => ?_) <;> ((first | have hq := of_decide_eq_true hb | have hq := of_decide_eq_false hb | have hq := dNT hb | have hq := dNF hb | skip); (try (exfalso; omega))))) | (apply at_op (.box _ _); refine r_boxed ?_) | (apply at_op (.build _ _); refine r_build ?_))
              subst hn0
              refine aq_less (sl' := [(4, .box 57 0), (5, .d (.int 0))]) (ob' := jrn 57 9 kr ⟨f, rs, false⟩ 1000 1001 1002 48 k4 cm4 cs4 lm4 ls4 sv) (by (repeat (first | exact sub_nil | (apply sub_cons; focus (first | rfl | exact vint (by first | omega) | (simp [look]; done)))))) (by (repeat (first | exact obs_nil | (apply obs_cons; focus (first | rfl | (simp [find]; done)))))) ?_
              refine aq_ren 48 20 rfl rfl ?_
              refine oret2 (jrn 57 9 kr ⟨f, rs, false⟩ 1000 1001 1002 20 k4 cm4 cs4 lm4 ls4 sv) (by rfl) (ResV.tmp _ _ rfl) (ResV.tmp _ _ rfl) (openJ_some rfl hjs hD4 (.inr rfl) rfl rfl) (by (repeat (first | exact obs_nil | (apply obs_cons; focus (first | rfl | (simp [find]; done)))))) (by first | (simp [okOut, V.within, V.withinL, O.within, keys, mem, look, nbeq_def, withinL_app, withinL_ds, withinL_und]; done) | rfl)
          · skip
            repeat' (first | (apply at_call; refine k_ocall [(1000, 1000), (1001, 1001), (1002, 1002), (1003, 20)] (hsz hD3) hE ?_; rintro _ _ ⟨rfl, rfl⟩ <;> (intro _ _ h1 h2; simp only [renEqs, Nat.reduceBEq, renL_app, renL_ds, renL_und] at h1 h2; subst h1 h2)) | (apply at_call; refine k_ocall [(1000, 1000), (1001, 1001), (1002, 1002), (1003, 20)] (smR hD3 hf6 hread) hE ?_; rintro _ _ ⟨rfl, rfl⟩ <;> (intro _ _ h1 h2; simp only [renEqs, Nat.reduceBEq, renL_app, renL_ds, renL_und] at h1 h2; subst h1 h2)) | (apply at_call; refine k_ocall [(4, 9)] (hrec) hE ?_; rintro _ _ ⟨kr, rfl, rfl⟩ <;> (intro _ _ h1 h2; simp only [renEqs, Nat.reduceBEq, renL_app, renL_ds, renL_und] at h1 h2; subst h1 h2)) | apply aw_seq | apply aw_region | apply al_nil | apply aq_np | apply aq_then | apply aq_then_x | apply aq_then_r | apply aw_skip | apply aw_exit | apply aw_ret | (apply at_op (.move _); refine r_move ?_) | (apply at_op (.assign _); refine r_assign ?_) | (apply at_cond; first | refine c_t ?_ | refine c_f ?_ | (refine aw_cond rfl (fun hb => ?_) (fun hb => ?_) <;> ((first | have hq := of_decide_eq_true hb | have hq := of_decide_eq_false hb | have hq := dNT hb | have hq := dNF hb | skip); (try (exfalso; omega))))) | (apply at_op (.binOp .lss _ _ _ _); refine r_lss ?_) | (apply at_op (.binOp .neq _ _ _ _); refine r_neq ?_) | (apply at_op (.call { callee := .builtin .len, args := _, argTypes := _ }); refine r_len ?_) | (apply at_op (.extract _ _); refine r_extract ?_))
            repeat' (first | (apply at_call; refine k_ocall [(1000, 1000), (1001, 1001), (1002, 1002), (1003, 20), (15, 48)] (hTr hD3) hE ?_; rintro _ _ ⟨rfl, s4, k4, cm4, cs4, lm4, ls4, hs4, hD4, rfl⟩; rcases hs4 with rfl | rfl <;> (intro _ _ h1 h2; simp only [renEqs, Nat.reduceBEq, renL_app, renL_ds, renL_und] at h1 h2; subst h1 h2)) | apply aw_seq | apply aw_region | apply al_nil | apply aq_np | apply aq_then | apply aq_then_x | apply aq_then_r | apply aw_skip | apply aw_exit | apply aw_ret | (apply at_op (.move _); refine r_move ?_) | (apply at_op (.assign _); refine r_assign ?_) | (apply at_cond; first | refine c_t ?_ | refine c_f ?_ | (refine aw_cond rfl (fun hb => ?_) (fun hb => ?_) <;> ((first | have hq := of_decide_eq_true hb | have hq := of_decide_eq_false hb | have hq := dNT hb | have hq := dNF hb | skip); (try (exfalso; omega))))) | (apply at_op (.binOp .neq _ _ _ _); refine r_neq ?_))
            · skip
              repeat' (first | (apply at_op (.build _ _); refine al_y (y_buildS rfl (by repeat (first | exact PartsS.nil | (apply PartsS.cons; rfl; constructor; rfl))) rfl rfl) (lt_ok rfl) ?_) | (apply at_op (.box _ _); refine al_step (st_box (ev_agg rfl) nofun (by first | (simp only [normV, normList, normMap]; rfl) | rfl) (lt_ok rfl) rfl rfl) rfl ?_) | apply aw_seq | apply aw_region | apply al_nil | apply aq_np | apply aq_then | apply aq_then_x | apply aq_then_r | apply aw_skip | apply aw_exit | apply aw_ret | (apply at_op (.move _); refine r_move ?_) | (apply at_op (.assign _); refine r_assign ?_) | (apply at_cond; first | refine c_t ?_ | refine c_f ?_ | (refine aw_cond rfl (fun hb => ?_) (fun hb => ?_) <;> ((first | have hq := of_decide_eq_true hb | have hq := of_decide_eq_false hb | have hq := dNT hb | have hq := dNF hb | skip); (try (exfalso; omega))))) | (apply at_op (.box _ _); refine r_boxed ?_) | (apply at_op (.build _ _); refine r_build ?_))
              subst hn0
              refine oret2 (jrn 57 9 kr ⟨f, rs, false⟩ 1000 1001 1002 20 k4 cm4 cs4 lm4 ls4 sv) (by rfl) (ResV.tmp _ _ rfl) (ResV.tmp _ _ rfl) (openJ_some rfl hjs hD4 (.inr rfl) rfl rfl) (by (repeat (first | exact obs_nil | (apply obs_cons; focus (first | rfl | (simp [find]; done)))))) (by first | (simp [okOut, V.within, V.withinL, O.within, keys, mem, look, nbeq_def, withinL_app, withinL_ds, withinL_und]; done) | rfl)
            · skip
              repeat' (first | (apply at_op (.build _ _); refine al_y (y_buildS rfl (by repeat (first | exact PartsS.nil | (apply PartsS.cons; rfl; constructor; rfl))) rfl rfl) (lt_ok rfl) ?_) | (apply at_op (.box _ _); refine al_step (st_box (ev_agg rfl) nofun (by first | (simp only [normV, normList, normMap]; rfl) | rfl) (lt_ok rfl) rfl rfl) rfl ?_) | apply aw_seq | apply aw_region | apply al_nil | apply aq_np | apply aq_then | apply aq_then_x | apply aq_then_r | apply aw_skip | apply aw_exit | apply aw_ret | (apply at_op (.move _); refine r_move ?_) | (apply at_op (.assign _); refine r_assign ?_) | (apply at_cond; first | refine c_t ?_ | refine c_f ?_ | (refine aw_cond rfl (fun hb => ?_) (fun hb => ?_) <;> ((first | have hq := of_decide_eq_true hb | have hq := of_decide_eq_false hb | have hq := dNT hb | have hq := dNF hb | skip); (try (exfalso; omega))))) | (apply at_op (.box _ _); refine r_boxed ?_) | (apply at_op (.build _ _); refine r_build ?_))
              subst hn0
              refine aq_less (sl' := [(4, .box 57 0), (5, .d (.int 0))]) (ob' := jrn 57 9 kr ⟨f, rs, false⟩ 1000 1001 1002 48 k4 cm4 cs4 lm4 ls4 sv) (by (repeat (first | exact sub_nil | (apply sub_cons; focus (first | rfl | exact vint (by first | omega) | (simp [look]; done)))))) (by (repeat (first | exact obs_nil | (apply obs_cons; focus (first | rfl | (simp [find]; done)))))) ?_
              refine aq_ren 48 20 rfl rfl ?_
              refine oret2 (jrn 57 9 kr ⟨f, rs, false⟩ 1000 1001 1002 20 k4 cm4 cs4 lm4 ls4 sv) (by rfl) (ResV.tmp _ _ rfl) (ResV.tmp _ _ rfl) (openJ_some rfl hjs hD4 (.inr rfl) rfl rfl) (by (repeat (first | exact obs_nil | (apply obs_cons; focus (first | rfl | (simp [find]; done)))))) (by first | (simp [okOut, V.within, V.withinL, O.within, keys, mem, look, nbeq_def, withinL_app, withinL_ds, withinL_und]; done) | rfl)
        · have q3 : (!decide (e2 = 0)) = true := by simp [he2]
          have hO : openJ st f = (e2, none, sv) := by rw [hO, if_pos he2]
          rw [hO]
          refine ob_enter Tryd.func10 rfl (by decide) _ Tryd.ntmps10 (le_ok rfl) rfl (fun w Pr β κ hE => ?_)
          dsimp only [slotsV, Nat.zero_add, Nat.reduceAdd]
          repeat' (first | (apply at_call; refine k_ocall [(1000, 1000), (1001, 1001), (1002, 1002), (1003, 1003), (13, 20)] (hSy) hE ?_; rintro _ _ ⟨rfl, s3, k3, cm3, cs3, lm3, ls3, hs3, hD3, rfl⟩; rcases hs3 with rfl | rfl <;> (intro _ _ h1 h2; simp only [renEqs, Nat.reduceBEq, renL_app, renL_ds, renL_und] at h1 h2; subst h1 h2)) | apply aw_seq | apply aw_region | apply al_nil | apply aq_np | apply aq_then | apply aq_then_x | apply aq_then_r | apply aw_skip | apply aw_exit | apply aw_ret | (apply at_op (.move _); refine r_move ?_) | (apply at_op (.assign _); refine r_assign ?_) | (apply at_cond; first | refine c_t ?_ | refine c_f ?_ | (refine aw_cond rfl (fun hb => ?_) (fun hb => ?_) <;> ((first | have hq := of_decide_eq_true hb | have hq := of_decide_eq_false hb | have hq := dNT hb | have hq := dNF hb | skip); (try (exfalso; omega))))) | (apply at_guard; first | refine g_go ?_ | refine g_nt ?_ | refine g_nf ?_ | refine g_nu ?_ | ((first | refine al_split_t rfl rfl (lt_ok rfl) (fun hb => ?_) (fun hb => ?_) | refine al_split_f rfl rfl (lt_ok rfl) (fun hb => ?_) (fun hb => ?_)) <;> ((first | have hq := of_decide_eq_true hb | have hq := of_decide_eq_false hb | have hq := dNT hb | have hq := dNF hb | skip); (try (exfalso; omega))))) | (apply at_op (.pick _ _ _); refine r_pick ?_) | (apply at_op (.binOp .lss _ _ _ _); refine r_lss ?_) | (apply at_op (.binOp .gtr _ _ _ _); refine r_gtr ?_))
          · skip
            repeat' (first | (apply at_call; refine k_ocall [(1000, 1000), (1001, 1001), (1002, 1002), (1003, 1003)] (hsz hD3) hE ?_; rintro _ _ ⟨rfl, rfl⟩ <;> (intro _ _ h1 h2; simp only [renEqs, Nat.reduceBEq, renL_app, renL_ds, renL_und] at h1 h2; subst h1 h2)) | (apply at_call; refine k_ocall [(1000, 1000), (1001, 1001), (1002, 1002), (1003, 1003)] (smR hD3 hf6 hread) hE ?_; rintro _ _ ⟨rfl, rfl⟩ <;> (intro _ _ h1 h2; simp only [renEqs, Nat.reduceBEq, renL_app, renL_ds, renL_und] at h1 h2; subst h1 h2)) | (apply at_call; refine k_ocall [(4, 9)] (hrec) hE ?_; rintro _ _ ⟨kr, rfl, rfl⟩ <;> (intro _ _ h1 h2; simp only [renEqs, Nat.reduceBEq, renL_app, renL_ds, renL_und] at h1 h2; subst h1 h2)) | apply aw_seq | apply aw_region | apply al_nil | apply aq_np | apply aq_then | apply aq_then_x | apply aq_then_r | apply aw_skip | apply aw_exit | apply aw_ret | (apply at_op (.move _); refine r_move ?_) | (apply at_op (.assign _); refine r_assign ?_) | (apply at_cond; first | refine c_t ?_ | refine c_f ?_ | (refine aw_cond rfl (fun hb => ?_) (fun hb => ?_) <;> ((first | have hq := of_decide_eq_true hb | have hq := of_decide_eq_false hb | have hq := dNT hb | have hq := dNF hb | skip); (try (exfalso; omega))))) | (apply at_op (.binOp .lss _ _ _ _); refine r_lss ?_) | (apply at_op (.binOp .neq _ _ _ _); refine r_neq ?_) | (apply at_op (.call { callee := .builtin .len, args := _, argTypes := _ }); refine r_len ?_) | (apply at_op (.extract _ _); refine r_extract ?_))
            repeat' (first | (apply at_call; refine k_ocall [(1000, 1000), (1001, 1001), (1002, 1002), (1003, 1003), (15, 48)] (hTr hD3) hE ?_; rintro _ _ ⟨rfl, s4, k4, cm4, cs4, lm4, ls4, hs4, hD4, rfl⟩; rcases hs4 with rfl | rfl <;> (intro _ _ h1 h2; simp only [renEqs, Nat.reduceBEq, renL_app, renL_ds, renL_und] at h1 h2; subst h1 h2)) | apply aw_seq | apply aw_region | apply al_nil | apply aq_np | apply aq_then | apply aq_then_x | apply aq_then_r | apply aw_skip | apply aw_exit | apply aw_ret | (apply at_op (.move _); refine r_move ?_) | (apply at_op (.assign _); refine r_assign ?_) | (apply at_cond; first | refine c_t ?_ | refine c_f ?_ | (refine aw_cond rfl (fun hb => ?_) (fun hb => ?_) <;> ((first | have hq := of_decide_eq_true hb | have hq := of_decide_eq_false hb | have hq := dNT hb | have hq := dNF hb | skip); (try (exfalso; omega))))) | (apply at_op (.binOp .neq _ _ _ _); refine r_neq ?_))
            · skip
              refine oret2 (dsk 1000 1001 1002 1003 k4 cm4 cs4 lm4 ls4 sv) (by rfl) (ResV.tmp _ _ rfl) (ResV.tmp _ _ rfl) (openJ_none rfl hD4 (.inl rfl) rfl rfl) (by (repeat (first | exact obs_nil | (apply obs_cons; focus (first | rfl | (simp [find]; done)))))) (by first | (simp [okOut, V.within, V.withinL, O.within, keys, mem, look, nbeq_def, withinL_app, withinL_ds, withinL_und]; done) | rfl)
            · skip
              refine aq_less (sl' := [(4, .d (.val (.pointer none))), (5, .d (.int e2))]) (ob' := dsk 1000 1001 1002 48 k4 cm4 cs4 lm4 ls4 sv) (by (repeat (first | exact sub_nil | (apply sub_cons; focus (first | rfl | exact vint (by first | omega) | (simp [look]; done)))))) (by (repeat (first | exact obs_nil | (apply obs_cons; focus (first | rfl | (simp [find]; done)))))) ?_
              refine aq_ren 48 20 rfl rfl ?_
              refine oret2 (dsk 1000 1001 1002 20 k4 cm4 cs4 lm4 ls4 sv) (by rfl) (ResV.tmp _ _ rfl) (ResV.tmp _ _ rfl) (openJ_none rfl hD4 (.inr rfl) rfl rfl) (by (repeat (first | exact obs_nil | (apply obs_cons; focus (first | rfl | (simp [find]; done)))))) (by first | (simp [okOut, V.within, V.withinL, O.within, keys, mem, look, nbeq_def, withinL_app, withinL_ds, withinL_und]; done) | rfl)
          · skip
            repeat' (first | (apply at_call; refine k_ocall [(1000, 1000), (1001, 1001), (1002, 1002), (1003, 20)] (hsz hD3) hE ?_; rintro _ _ ⟨rfl, rfl⟩ <;> (intro _ _ h1 h2; simp only [renEqs, Nat.reduceBEq, renL_app, renL_ds, renL_und] at h1 h2; subst h1 h2)) | (apply at_call; refine k_ocall [(1000, 1000), (1001, 1001), (1002, 1002), (1003, 20)] (smR hD3 hf6 hread) hE ?_; rintro _ _ ⟨rfl, rfl⟩ <;> (intro _ _ h1 h2; simp only [renEqs, Nat.reduceBEq, renL_app, renL_ds, renL_und] at h1 h2; subst h1 h2)) | (apply at_call; refine k_ocall [(4, 9)] (hrec) hE ?_; rintro _ _ ⟨kr, rfl, rfl⟩ <;> (intro _ _ h1 h2; simp only [renEqs, Nat.reduceBEq, renL_app, renL_ds, renL_und] at h1 h2; subst h1 h2)) | apply aw_seq | apply aw_region | apply al_nil | apply aq_np | apply aq_then | apply aq_then_x | apply aq_then_r | apply aw_skip | apply aw_exit | apply aw_ret | (apply at_op (.move _); refine r_move ?_) | (apply at_op (.assign _); refine r_assign ?_) | (apply at_cond; first | refine c_t ?_ | refine c_f ?_ | (refine aw_cond rfl (fun hb => ?_) (fun hb => ?_) <;> ((first | have hq := of_decide_eq_true hb | have hq := of_decide_eq_false hb | have hq := dNT hb | have hq := dNF hb | skip); (try (exfalso; omega))))) | (apply at_op (.binOp .lss _ _ _ _); refine r_lss ?_) | (apply at_op (.binOp .neq _ _ _ _); refine r_neq ?_) | (apply at_op (.call { callee := .builtin .len, args := _, argTypes := _ }); refine r_len ?_) | (apply at_op (.extract _ _); refine r_extract ?_))
            repeat' (first | (apply at_call; refine k_ocall [(1000, 1000), (1001, 1001), (1002, 1002), (1003, 20), (15, 48)] (hTr hD3) hE ?_; rintro _ _ ⟨rfl, s4, k4, cm4, cs4, lm4, ls4, hs4, hD4, rfl⟩; rcases hs4 with rfl | rfl <;> (intro _ _ h1 h2; simp only [renEqs, Nat.reduceBEq, renL_app, renL_ds, renL_und] at h1 h2; subst h1 h2)) | apply aw_seq | apply aw_region | apply al_nil | apply aq_np | apply aq_then | apply aq_then_x | apply aq_then_r | apply aw_skip | apply aw_exit | apply aw_ret | (apply at_op (.move _); refine r_move ?_) | (apply at_op (.assign _); refine r_assign ?_) | (apply at_cond; first | refine c_t ?_ | refine c_f ?_ | (refine aw_cond rfl (fun hb => ?_) (fun hb => ?_) <;> ((first | have hq := of_decide_eq_true hb | have hq := of_decide_eq_false hb | have hq := dNT hb | have hq := dNF hb | skip); (try (exfalso; omega))))) | (apply at_op (.binOp .neq _ _ _ _); refine r_neq ?_))
            · skip
              refine oret2 (dsk 1000 1001 1002 20 k4 cm4 cs4 lm4 ls4 sv) (by rfl) (ResV.tmp _ _ rfl) (ResV.tmp _ _ rfl) (openJ_none rfl hD4 (.inr rfl) rfl rfl) (by (repeat (first | exact obs_nil | (apply obs_cons; focus (first | rfl | (simp [find]; done)))))) (by first | (simp [okOut, V.within, V.withinL, O.within, keys, mem, look, nbeq_def, withinL_app, withinL_ds, withinL_und]; done) | rfl)
            · skip
              refine aq_less (sl' := [(4, .d (.val (.pointer none))), (5, .d (.int e2))]) (ob' := dsk 1000 1001 1002 48 k4 cm4 cs4 lm4 ls4 sv) (by (repeat (first | exact sub_nil | (apply sub_cons; focus (first | rfl | exact vint (by first | omega) | (simp [look]; done)))))) (by (repeat (first | exact obs_nil | (apply obs_cons; focus (first | rfl | (simp [find]; done)))))) ?_
              refine aq_ren 48 20 rfl rfl ?_
              refine oret2 (dsk 1000 1001 1002 20 k4 cm4 cs4 lm4 ls4 sv) (by rfl) (ResV.tmp _ _ rfl) (ResV.tmp _ _ rfl) (openJ_none rfl hD4 (.inr rfl) rfl rfl) (by (repeat (first | exact obs_nil | (apply obs_cons; focus (first | rfl | (simp [find]; done)))))) (by first | (simp [okOut, V.within, V.withinL, O.within, keys, mem, look, nbeq_def, withinL_app, withinL_ds, withinL_und]; done) | rfl)
      · have q2 : decide ((n : Int) < s.size) = false := decide_eq_false (by omega)
        have hO : openJ st f = (0, some ⟨f, rs, false⟩, su) := by rw [hO, if_neg hlt]
        rw [hO]
        refine ob_enter Tryd.func10 rfl (by decide) _ Tryd.ntmps10 (le_ok rfl) rfl (fun w Pr β κ hE => ?_)
        dsimp only [slotsV, Nat.zero_add, Nat.reduceAdd]
        repeat' (first | (apply at_call; refine k_ocall [(1000, 1000), (1001, 1001), (1002, 1002), (1003, 1003), (13, 20)] (hSy) hE ?_; rintro _ _ ⟨rfl, s3, k3, cm3, cs3, lm3, ls3, hs3, hD3, rfl⟩; rcases hs3 with rfl | rfl <;> (intro _ _ h1 h2; simp only [renEqs, Nat.reduceBEq, renL_app, renL_ds, renL_und] at h1 h2; subst h1 h2)) | apply aw_seq | apply aw_region | apply al_nil | apply aq_np | apply aq_then | apply aq_then_x | apply aq_then_r | apply aw_skip | apply aw_exit | apply aw_ret | (apply at_op (.move _); refine r_move ?_) | (apply at_op (.assign _); refine r_assign ?_) | (apply at_cond; first | refine c_t ?_ | refine c_f ?_ | (refine aw_cond rfl (fun hb => ?_) (fun hb => ?_) <;> ((first | have hq := of_decide_eq_true hb | have hq := of_decide_eq_false hb | have hq := dNT hb | have hq := dNF hb | skip); (try (exfalso; omega))))) | (apply at_guard; first | refine g_go ?_ | refine g_nt ?_ | refine g_nf ?_ | refine g_nu ?_ | ((first | refine al_split_t rfl rfl (lt_ok rfl) (fun hb => ?_) (fun hb => ?_) | refine al_split_f rfl rfl (lt_ok rfl) (fun hb => ?_) (fun hb => ?_)) <;> ((first | have hq := of_decide_eq_true hb | have hq := of_decide_eq_false hb | have hq := dNT hb | have hq := dNF hb | skip); (try (exfalso; omega))))) | (apply at_op (.pick _ _ _); refine r_pick ?_) | (apply at_op (.binOp .lss _ _ _ _); refine r_lss ?_) | (apply at_op (.binOp .gtr _ _ _ _); refine r_gtr ?_))
        · skip
          repeat' (first | (apply at_call; refine k_ocall [(1000, 1000), (1001, 1001), (1002, 1002), (1003, 1003)] (hsz hD3) hE ?_; rintro _ _ ⟨rfl, rfl⟩ <;> (intro _ _ h1 h2; simp only [renEqs, Nat.reduceBEq, renL_app, renL_ds, renL_und] at h1 h2; subst h1 h2)) | (apply at_call; refine k_ocall [(1000, 1000), (1001, 1001), (1002, 1002), (1003, 1003)] (smR hD3 hf6 hread) hE ?_; rintro _ _ ⟨rfl, rfl⟩ <;> (intro _ _ h1 h2; simp only [renEqs, Nat.reduceBEq, renL_app, renL_ds, renL_und] at h1 h2; subst h1 h2)) | (apply at_call; refine k_ocall [(4, 9)] (hrec) hE ?_; rintro _ _ ⟨kr, rfl, rfl⟩ <;> (intro _ _ h1 h2; simp only [renEqs, Nat.reduceBEq, renL_app, renL_ds, renL_und] at h1 h2; subst h1 h2)) | apply aw_seq | apply aw_region | apply al_nil | apply aq_np | apply aq_then | apply aq_then_x | apply aq_then_r | apply aw_skip | apply aw_exit | apply aw_ret | (apply at_op (.move _); refine r_move ?_) | (apply at_op (.assign _); refine r_assign ?_) | (apply at_cond; first | refine c_t ?_ | refine c_f ?_ | (refine aw_cond rfl (fun hb => ?_) (fun hb => ?_) <;> ((first | have hq := of_decide_eq_true hb | have hq := of_decide_eq_false hb | have hq := dNT hb | have hq := dNF hb | skip); (try (exfalso; omega))))) | (apply at_op (.binOp .lss _ _ _ _); refine r_lss ?_) | (apply at_op (.binOp .neq _ _ _ _); refine r_neq ?_) | (apply at_op (.call { callee := .builtin .len, args := _, argTypes := _ }); refine r_len ?_) | (apply at_op (.extract _ _); refine r_extract ?_))
          repeat' (first | (apply at_op (.build _ _); refine al_y (y_buildS rfl (by repeat (first | exact PartsS.nil | (apply PartsS.cons; rfl; constructor; rfl))) rfl rfl) (lt_ok rfl) ?_) | (apply at_op (.box _ _); refine al_step (st_box (ev_agg rfl) nofun (by first | (simp only [normV, normList, normMap]; rfl) | rfl) (lt_ok rfl) rfl rfl) rfl ?_) | apply aw_seq | apply aw_region | apply al_nil | apply aq_np | apply aq_then | apply aq_then_x | apply aq_then_r | apply aw_skip | apply aw_exit | apply aw_ret | (apply at_op (.move _); refine r_move ?_) | (apply at_op (.assign _); refine r_assign ?_) | (apply at_cond; first | refine c_t ?_ | refine c_f ?_ | (refine aw_cond rfl (fun hb => ?_) (fun hb => ?_) <;> ((first | have hq := of_decide_eq_true hb | have hq := of_decide_eq_false hb | have hq := dNT hb | have hq := dNF hb | skip); (try (exfalso; omega))))) | (apply at_op (.box _ _); refine r_boxed ?_) | (apply at_op (.build _ _); refine r_build ?_))
          subst hn0
          refine oret2 (jrn 57 9 kr ⟨f, rs, false⟩ 1000 1001 1002 1003 k3 cm3 cs3 lm3 ls3 su) (by rfl) (ResV.tmp _ _ rfl) (ResV.tmp _ _ rfl) (openJ_some rfl hjs hD3 (.inl rfl) rfl rfl) (by (repeat (first | exact obs_nil | (apply obs_cons; focus (first | rfl | (simp [find]; done)))))) (by first | (simp [okOut, V.within, V.withinL, O.within, keys, mem, look, nbeq_def, withinL_app, withinL_ds, withinL_und]; done) | rfl)
        · skip
          repeat' (first | (apply at_call; refine k_ocall [(1000, 1000), (1001, 1001), (1002, 1002), (1003, 20)] (hsz hD3) hE ?_; rintro _ _ ⟨rfl, rfl⟩ <;> (intro _ _ h1 h2; simp only [renEqs, Nat.reduceBEq, renL_app, renL_ds, renL_und] at h1 h2; subst h1 h2)) | (apply at_call; refine k_ocall [(1000, 1000), (1001, 1001), (1002, 1002), (1003, 20)] (smR hD3 hf6 hread) hE ?_; rintro _ _ ⟨rfl, rfl⟩ <;> (intro _ _ h1 h2; simp only [renEqs, Nat.reduceBEq, renL_app, renL_ds, renL_und] at h1 h2; subst h1 h2)) | (apply at_call; refine k_ocall [(4, 9)] (hrec) hE ?_; rintro _ _ ⟨kr, rfl, rfl⟩ <;> (intro _ _ h1 h2; simp only [renEqs, Nat.reduceBEq, renL_app, renL_ds, renL_und] at h1 h2; subst h1 h2)) | apply aw_seq | apply aw_region | apply al_nil | apply aq_np | apply aq_then | apply aq_then_x | apply aq_then_r | apply aw_skip | apply aw_exit | apply aw_ret | (apply at_op (.move _); refine r_move ?_) | (apply at_op (.assign _); refine r_assign ?_) | (apply at_cond; first | refine c_t ?_ | refine c_f ?_ | (refine aw_cond rfl (fun hb => ?_) (fun hb => ?_) <;> ((first | have hq := of_decide_eq_true hb | have hq := of_decide_eq_false hb | have hq := dNT hb | have hq := dNF hb | skip); (try (exfalso; omega))))) | (apply at_op (.binOp .lss _ _ _ _); refine r_lss ?_) | (apply at_op (.binOp .neq _ _ _ _); refine r_neq ?_) | (apply at_op (.call { callee := .builtin .len, args := _, argTypes := _ }); refine r_len ?_) | (apply at_op (.extract _ _); refine r_extract ?_))
          repeat' (first | (apply at_op (.build _ _); refine al_y (y_buildS rfl (by repeat (first | exact PartsS.nil | (apply PartsS.cons; rfl; constructor; rfl))) rfl rfl) (lt_ok rfl) ?_) | (apply at_op (.box _ _); refine al_step (st_box (ev_agg rfl) nofun (by first | (simp only [normV, normList, normMap]; rfl) | rfl) (lt_ok rfl) rfl rfl) rfl ?_) | apply aw_seq | apply aw_region | apply al_nil | apply aq_np | apply aq_then | apply aq_then_x | apply aq_then_r | apply aw_skip | apply aw_exit | apply aw_ret | (apply at_op (.move _); refine r_move ?_) | (apply at_op (.assign _); refine r_assign ?_) | (apply at_cond; first | refine c_t ?_ | refine c_f ?_ | (refine aw_cond rfl (fun hb => ?_) (fun hb => ?_) <;> ((first | have hq := of_decide_eq_true hb | have hq := of_decide_eq_false hb | have hq := dNT hb | have hq := dNF hb | skip); (try (exfalso; omega))))) | (apply at_op (.box _ _); refine r_boxed ?_) | (apply at_op (.build _ _); refine r_build ?_))
          subst hn0
          refine oret2 (jrn 57 9 kr ⟨f, rs, false⟩ 1000 1001 1002 20 k3 cm3 cs3 lm3 ls3 su) (by rfl) (ResV.tmp _ _ rfl) (ResV.tmp _ _ rfl) (openJ_some rfl hjs hD3 (.inr rfl) rfl rfl) (by (repeat (first | exact obs_nil | (apply obs_cons; focus (first | rfl | (simp [find]; done)))))) (by first | (simp [okOut, V.within, V.withinL, O.within, keys, mem, look, nbeq_def, withinL_app, withinL_ds, withinL_und]; done) | rfl)
    · have q1 : (!decide (e = 0)) = true := by simp [he]
      have hO : openJ st f = (e, none, su) := by rw [hO, hS1, hS2, if_pos he]
      rw [hO]
      refine ob_enter Tryd.func10 rfl (by decide) _ Tryd.ntmps10 (le_ok rfl) rfl (fun w Pr β κ hE => ?_)
      dsimp only [slotsV, Nat.zero_add, Nat.reduceAdd]
      repeat' (first | (apply at_call; refine k_ocall [(1000, 1000), (1001, 1001), (1002, 1002), (1003, 1003), (13, 20)] (hSy) hE ?_; rintro _ _ ⟨rfl, s3, k3, cm3, cs3, lm3, ls3, hs3, hD3, rfl⟩; rcases hs3 with rfl | rfl <;> (intro _ _ h1 h2; simp only [renEqs, Nat.reduceBEq, renL_app, renL_ds, renL_und] at h1 h2; subst h1 h2)) | apply aw_seq | apply aw_region | apply al_nil | apply aq_np | apply aq_then | apply aq_then_x | apply aq_then_r | apply aw_skip | apply aw_exit | apply aw_ret | (apply at_op (.move _); refine r_move ?_) | (apply at_op (.assign _); refine r_assign ?_) | (apply at_cond; first | refine c_t ?_ | refine c_f ?_ | (refine aw_cond rfl (fun hb => ?_) (fun hb => ?_) <;> ((first | have hq := of_decide_eq_true hb | have hq := of_decide_eq_false hb | have hq := dNT hb | have hq := dNF hb | skip); (try (exfalso; omega))))) | (apply at_guard; first | refine g_go ?_ | refine g_nt ?_ | refine g_nf ?_ | refine g_nu ?_ | ((first | refine al_split_t rfl rfl (lt_ok rfl) (fun hb => ?_) (fun hb => ?_) | refine al_split_f rfl rfl (lt_ok rfl) (fun hb => ?_) (fun hb => ?_)) <;> ((first | have hq := of_decide_eq_true hb | have hq := of_decide_eq_false hb | have hq := dNT hb | have hq := dNF hb | skip); (try (exfalso; omega))))) | (apply at_op (.pick _ _ _); refine r_pick ?_) | (apply at_op (.binOp .lss _ _ _ _); refine r_lss ?_) | (apply at_op (.binOp .gtr _ _ _ _); refine r_gtr ?_) | (apply at_op (.binOp .neq _ _ _ _); refine r_neq ?_))
      · skip
        refine oret2 (dsk 1000 1001 1002 1003 k3 cm3 cs3 lm3 ls3 su) (by rfl) (by first | exact ResV.x _ _ (ResX.tmp _ _ (by first | exact ToD.d _ | exact ToD.row _ _ _ _ _ rfl | exact ToD.nil _)) | exact ResV.tmp _ _ rfl | exact ResV.x _ _ (ResX.cellA _ _ _ _ _ _ _ rfl rfl rfl (by first | (simp only [normV, normList, normMap]; rfl) | rfl) rfl)) (by first | exact ResV.x _ _ (ResX.tmp _ _ (by first | exact ToD.d _ | exact ToD.row _ _ _ _ _ rfl | exact ToD.nil _)) | exact ResV.tmp _ _ rfl | exact ResV.x _ _ (ResX.cellA _ _ _ _ _ _ _ rfl rfl rfl (by first | (simp only [normV, normList, normMap]; rfl) | rfl) rfl)) (openJ_none rfl hD3 (.inl rfl) rfl rfl) (by (repeat (first | exact obs_nil | (apply obs_cons; focus (first | rfl | (simp [find]; done)))))) (by first | (simp [okOut, V.within, V.withinL, O.within, keys, mem, look, nbeq_def, withinL_app, withinL_ds, withinL_und]; done) | rfl)
      · skip
        refine oret2 (dsk 1000 1001 1002 20 k3 cm3 cs3 lm3 ls3 su) (by rfl) (by first | exact ResV.x _ _ (ResX.tmp _ _ (by first | exact ToD.d _ | exact ToD.row _ _ _ _ _ rfl | exact ToD.nil _)) | exact ResV.tmp _ _ rfl | exact ResV.x _ _ (ResX.cellA _ _ _ _ _ _ _ rfl rfl rfl (by first | (simp only [normV, normList, normMap]; rfl) | rfl) rfl)) (by first | exact ResV.x _ _ (ResX.tmp _ _ (by first | exact ToD.d _ | exact ToD.row _ _ _ _ _ rfl | exact ToD.nil _)) | exact ResV.tmp _ _ rfl | exact ResV.x _ _ (ResX.cellA _ _ _ _ _ _ _ rfl rfl rfl (by first | (simp only [normV, normList, normMap]; rfl) | rfl) rfl)) (openJ_none rfl hD3 (.inr rfl) rfl rfl) (by (repeat (first | exact obs_nil | (apply obs_cons; focus (first | rfl | (simp [find]; done)))))) (by first | (simp [okOut, V.within, V.withinL, O.within, keys, mem, look, nbeq_def, withinL_app, withinL_ds, withinL_und]; done) | rfl)
end
end Go.Proofs.YtfgibalcdjlnhaaDoor
end
section
set_option linter.unusedSimpArgs false
set_option linter.unusedVariables false
namespace Go.Proofs.YtfgibalcdjlnhaaDoor
open Go.RowKit Go.ChangeMaps

/-- An object bears one of two names: it bears the first one from now on. -/
theorem merge_at {E : Entry} {ops : Array Oper} {rest : List Oper} {Q : Exit → Go.Act → World → Prop} {sl : Slots} {ob obA obB obC : Objs} {i j : Nat} (hs : ob = obA ∨ ob = obB) (hA : obA = obC) (h0 : find E.ob0 j = none) (hno : noneOf j sl obB = true) (hr : renS [(i, j)] sl = sl) (hB : renO [(i, j)] (dropK [j] obB) = obC) (h : AL E ops rest Q sl obC) : AL E ops rest Q sl ob := by
  rcases hs with rfl | rfl
  · rw [hA]
    exact h
  · refine al_ren i j h0 hno ?_
    rw [hr, hB]
    exact h
section
variable {kk k cm cs : Nat} {lm ls : List ME} {st su : DS} {js ju : JS}
theorem jsync_res {e : Int} (h : js.Ok) (hD : DkOk lm ls st) (hq : syncJ js st = (e, ju, su)) : ObC 27 [.box 1004 0] (jrn 1004 1005 kk js 1000 1001 1002 1003 k cm cs lm ls st) [22] (fun x o => x = .d (.int e) ∧ JOutN 22 ju su o) :=
  (jsync_any h hD).mono fun x o h => by
    rw [hq] at h
    exact h
theorem jappend_res {e : Int} {s : ByteArray} (h : js.Ok) (hD : DkOk lm ls st) (hs : s.size ≤ 1000000000) (hq : appJ js st s = (e, ju, su)) : ObC 11 [.box 1004 0, .d (.str s)] (jrn 1004 1005 kk js 1000 1001 1002 1003 k cm cs lm ls st) [60] (fun x o => x = .d (.int e) ∧ JOutN 60 ju su o) :=
  (jappend_any h hD s hs).mono fun x o h => by
    rw [hq] at h
    exact h
theorem jopen_yes {f : Int} (hD : DkOk lm ls st) (hq : openJ st f = (0, some js, su)) : ObC 10 [.box 1000 0, .d (.int f)] (dsk 1000 1001 1002 1003 k cm cs lm ls st) [57, 9, 20] (fun x o => x = .tup [.box 57 0, .d (.int 0)] ∧ js.Ok ∧ ∃ (s3 kk k cm cs : Nat) (lm ls : List ME), (s3 = 1003 ∨ s3 = 20) ∧ DkOk lm ls su ∧ o = jrn 57 9 kk js 1000 1001 1002 s3 k cm cs lm ls su) :=
  (jopen_any hD f).mono fun x o h => by
    rw [hq] at h
    obtain ⟨s3, kk, k, cm, cs, lm, ls, h1, h2, ⟨h3, _⟩ | ⟨js', h3, h4, h5, h6⟩⟩ := h
    · cases h3
    · cases h3
      exact ⟨h5, h4, s3, kk, k, cm, cs, lm, ls, h1, h2, h6⟩
theorem jopen_no {f e : Int} (hD : DkOk lm ls st) (hq : openJ st f = (e, none, su)) : ObC 10 [.box 1000 0, .d (.int f)] (dsk 1000 1001 1002 1003 k cm cs lm ls st) [57, 9, 20] (fun x o => x = .tup [.d (.val (.pointer none)), .d (.int e)] ∧ ∃ (s3 k cm cs : Nat) (lm ls : List ME), (s3 = 1003 ∨ s3 = 20) ∧ DkOk lm ls su ∧ o = dsk 1000 1001 1002 s3 k cm cs lm ls su) :=
  (jopen_any hD f).mono fun x o h => by
    rw [hq] at h
    obtain ⟨s3, kk, k, cm, cs, lm, ls, h1, h2, ⟨_, h3, h4⟩ | ⟨js', h3, _⟩⟩ := h
    · exact ⟨h3, s3, k, cm, cs, lm, ls, h1, h2, h4⟩
    · cases h3
end
theorem disky_any (e : Int) : PureC 32 [.int e] (· = .bool (decide (e = 8) || decide (e = 9))) := by
  by_cases h : e = 8
  · have q1 : decide (e = 8) = true := decide_eq_true h
    rw [q1]
    clear h
    refine pure_enter Tryd.func32 rfl (by decide) _ Tryd.ntmps32 (le_ok rfl) (fun w Pr hE => ?_)
    dsimp only [slotsOf, Nat.zero_add, Nat.reduceAdd]
    repeat' (first | apply aw_seq | apply aw_region | apply al_nil | apply aq_np | apply aq_then | apply aq_then_x | apply aq_then_r | apply aw_skip | apply aw_exit | apply aw_ret | (apply at_op (.move _); refine r_move ?_) | (apply at_op (.assign _); refine r_assign ?_) | (apply at_guard; first | refine g_go ?_ | refine g_nt ?_ | refine g_nf ?_ | refine g_nu ?_ | ((first | refine al_split_t rfl rfl (lt_ok rfl) (fun hb => ?_) (fun hb => ?_) | refine al_split_f rfl rfl (lt_ok rfl) (fun hb => ?_) (fun hb => ?_)) <;> ((first | have hq := of_decide_eq_true hb | have hq := of_decide_eq_false hb | have hq := dNT hb | have hq := dNF hb | skip); (try (exfalso; omega))))) | (apply at_op (.pick _ _ _); refine r_pick ?_) | (apply at_op (.binOp .eql _ _ _ _); refine r_eql ?_))
    refine ret_one (by rfl) (by first | exact ToD.d _ | exact ToD.row _ _ _ _ _ rfl) ?_
    rfl
  · have q1 : decide (e = 8) = false := decide_eq_false h
    rw [q1]
    clear h
    refine pure_enter Tryd.func32 rfl (by decide) _ Tryd.ntmps32 (le_ok rfl) (fun w Pr hE => ?_)
    dsimp only [slotsOf, Nat.zero_add, Nat.reduceAdd]
    repeat' (first | apply aw_seq | apply aw_region | apply al_nil | apply aq_np | apply aq_then | apply aq_then_x | apply aq_then_r | apply aw_skip | apply aw_exit | apply aw_ret | (apply at_op (.move _); refine r_move ?_) | (apply at_op (.assign _); refine r_assign ?_) | (apply at_guard; first | refine g_go ?_ | refine g_nt ?_ | refine g_nf ?_ | refine g_nu ?_ | ((first | refine al_split_t rfl rfl (lt_ok rfl) (fun hb => ?_) (fun hb => ?_) | refine al_split_f rfl rfl (lt_ok rfl) (fun hb => ?_) (fun hb => ?_)) <;> ((first | have hq := of_decide_eq_true hb | have hq := of_decide_eq_false hb | have hq := dNT hb | have hq := dNF hb | skip); (try (exfalso; omega))))) | (apply at_op (.pick _ _ _); refine r_pick ?_) | (apply at_op (.binOp .eql _ _ _ _); refine r_eql ?_))
    refine ret_one (by rfl) (by first | exact ToD.d _ | exact ToD.row _ _ _ _ _ rfl) ?_
    rfl
theorem begins_any (l a : List ByteArray) (hl : l.length ≤ 1000000) (ha : a.length ≤ 1000000) : PureC 33 [.list 1 (l.map fun n => [.str n]), .list 1 (a.map fun n => [.str n])] (· = .bool (decide (a <+: l))) := by
  by_cases h : a.length ≤ l.length
  · have hm : min (a.length : Int) l.length = ((a.length : Nat) : Int) := by omega
    have hs := sametexts_any (l.take a.length) a (by rw [List.length_take]; omega)
    have hsub : ((l.map fun n => [D.str n]).take a.length).drop 0 = (l.take a.length).map fun n => [D.str n] := by rw [List.drop_zero, List.map_take]
    have he : decide (l.take a.length = a) = decide (a <+: l) := by
      congr 1
      rw [List.prefix_iff_eq_take]
      exact propext ⟨fun h => h.symm, fun h => h.symm⟩
    rw [he] at hs
    refine pure_enter Tryd.func33 rfl (by decide) _ Tryd.ntmps33 (le_ok rfl) (fun w Pr hE => ?_)
    dsimp only [slotsOf, Nat.zero_add, Nat.reduceAdd]
    repeat' (first | (apply at_op (.slice _ _ none (some _) none); refine al_y (y_sub_l (l1 := 0) (h1 := a.length) (ToD.d _) rfl low_none (high_some rfl hm) (by omega) (by rw [List.length_map]; omega) hsub) (lt_ok rfl) ?_) | (apply at_call; refine k_call (hs) hE ?_; rintro _ rfl) | apply aw_seq | apply aw_region | apply al_nil | apply aq_np | apply aq_then | apply aq_then_x | apply aq_then_r | apply aw_skip | apply aw_exit | apply aw_ret | (apply at_op (.move _); refine r_move ?_) | (apply at_op (.assign _); refine r_assign ?_) | (apply at_guard; first | refine g_go ?_ | refine g_nt ?_ | refine g_nf ?_ | refine g_nu ?_ | ((first | refine al_split_t rfl rfl (lt_ok rfl) (fun hb => ?_) (fun hb => ?_) | refine al_split_f rfl rfl (lt_ok rfl) (fun hb => ?_) (fun hb => ?_)) <;> ((first | have hq := of_decide_eq_true hb | have hq := of_decide_eq_false hb | have hq := dNT hb | have hq := dNF hb | skip); (try (exfalso; omega))))) | (apply at_op (.pick _ _ _); refine r_pick ?_) | (apply at_op (.binOp .leq _ _ _ _); refine r_leq ?_) | (apply at_op (.call { callee := .builtin .min, args := _, argTypes := _ }); refine r_min ?_) | (apply at_op (.call { callee := .builtin .len, args := _, argTypes := _ }); refine r_len ?_) | (apply at_op (.slice _ _ _ _ _); refine r_slice ?_))
    refine ret_one (by rfl) (by first | exact ToD.d _ | exact ToD.row _ _ _ _ _ rfl) ?_
    rfl
  · have he : decide (a <+: l) = false := decide_eq_false (fun hp => h hp.length_le)
    rw [he]
    refine pure_enter Tryd.func33 rfl (by decide) _ Tryd.ntmps33 (le_ok rfl) (fun w Pr hE => ?_)
    dsimp only [slotsOf, Nat.zero_add, Nat.reduceAdd]
    repeat' (first | apply aw_seq | apply aw_region | apply al_nil | apply aq_np | apply aq_then | apply aq_then_x | apply aq_then_r | apply aw_skip | apply aw_exit | apply aw_ret | (apply at_op (.move _); refine r_move ?_) | (apply at_op (.assign _); refine r_assign ?_) | (apply at_guard; first | refine g_go ?_ | refine g_nt ?_ | refine g_nf ?_ | refine g_nu ?_ | ((first | refine al_split_t rfl rfl (lt_ok rfl) (fun hb => ?_) (fun hb => ?_) | refine al_split_f rfl rfl (lt_ok rfl) (fun hb => ?_) (fun hb => ?_)) <;> ((first | have hq := of_decide_eq_true hb | have hq := of_decide_eq_false hb | have hq := dNT hb | have hq := dNF hb | skip); (try (exfalso; omega))))) | (apply at_op (.pick _ _ _); refine r_pick ?_) | (apply at_op (.binOp .leq _ _ _ _); refine r_leq ?_) | (apply at_op (.call { callee := .builtin .min, args := _, argTypes := _ }); refine r_min ?_) | (apply at_op (.call { callee := .builtin .len, args := _, argTypes := _ }); refine r_len ?_) | (apply at_op (.slice _ _ _ _ _); refine r_slice ?_))
    refine ret_one (by rfl) (by first | exact ToD.d _ | exact ToD.row _ _ _ _ _ rfl) ?_
    rfl
end Go.Proofs.YtfgibalcdjlnhaaDoor
end
section
namespace Go.Proofs.YtfgibalcdjlnhaaDoor
open Go.ChangeShapes Go.WideShapes Go.ChangeAt Go.RowKit Go.Deep Go.Joins

abbrev laidL : List (String × DataW Unit) := [("math/bits.deBruijn32tab", Rows.laid_math_bits_deBruijn32tab), ("math/bits.deBruijn64tab", Rows.laid_math_bits_deBruijn64tab), ("internal/strconv.uint64pow10", Rows.laid_internal_strconv_uint64pow10), ("strconv.ErrRange", Rows.laid_strconv_ErrRange), ("strconv.ErrSyntax", Rows.laid_strconv_ErrSyntax)]
theorem gP : Tryd.prog.globalNamed "internal/strconv.uint64pow10" = some 3 := by kernel_rfl
theorem gR : Tryd.prog.globalNamed "strconv.ErrRange" = some 2 := by kernel_rfl
theorem gS : Tryd.prog.globalNamed "strconv.ErrSyntax" = some 1 := by kernel_rfl
theorem rowE : ∀ u, Tryd.prog.typeName? 3 u = some "*errors.errorString" → u = 123 := fun u h => by
  have star : "*" ++ "errors.errorString" = "*errors.errorString" := by decide
  exact typeName_ptr_named (nm := "errors.errorString") (by rw [star]; kernel_rfl) (by kernel_rfl) (by decide) u (by rw [star]; exact h)
theorem pow_data : (Rows.laid_internal_strconv_uint64pow10 : DataW Unit) = Lib.tabData .u64 Lib.pow10Tab := by
  unfold Rows.laid_internal_strconv_uint64pow10 Lib.tabData
  kernel_rfl
theorem env_cells {W : World} {Pr : Prot} {name : String} {g : Nat} {vs : List Value} {ds : List D} (hg : Tryd.prog.globalNamed name = some g) (hv : W.var? Tryd.prog name = some vs.toArray) (hP : ∀ o, Pr g o) (hl : vs.length = ds.length) (hr : ∀ (i : Nat) (v : Value) (d : D), vs[i]? = some v → ds[i]? = some d → RepD W Pr v d) :
    (∀ (j : Nat) (d : D), ds[j]? = some d → ∃ u, W.cell? ⟨g, j, none⟩ = some u ∧ Pr g j ∧ RepD W Pr u d) ∧ ∀ j, ds[j]? = none → W.cell? ⟨g, j, none⟩ = none ∧ Pr g j := by
  refine ⟨fun j d hd => ?_, fun j hd => ?_⟩
  · have hj : j < vs.length := by rw [hl]; exact (List.getElem?_eq_some_iff.1 hd).1
    refine ⟨vs[j], (World.var?_cell hg hv j).trans (by simp [hj]), hP j, hr j _ d (List.getElem?_eq_getElem hj) hd⟩
  · have hj : ds.length ≤ j := List.getElem?_eq_none_iff.1 hd
    exact ⟨(World.var?_cell hg hv j).trans (by simp; omega), hP j⟩
theorem reps_cons' {w : World} {Pr : Prot} {v : Value} {d : D} (h : RepD w Pr v d) : ∀ (i : Nat) (u : Value) (e : D), [v][i]? = some u → [d][i]? = some e → RepD w Pr u e
  | 0, _, _, h1, h2 => by cases h1; cases h2; exact h
  | i + 1, _, _, h1, _ => by simp at h1
theorem var_lt {W : World} {name : String} {g : Nat} {cs : Array Value} (hg : Tryd.prog.globalNamed name = some g) (hv : W.var? Tryd.prog name = some cs) : g < W.heap.size := by
  simp only [World.var?, hg, Option.bind_some] at hv
  cases hh : W.heap[g]? with
  | none => rw [hh] at hv; cases hv
  | some o => exact (Array.getElem?_eq_some_iff.1 hh).1
theorem env_of_laid {W : World} (h : laidMet Tryd.prog laidL W) : EnvOk W (fun b _ => b < W.heap.size) := by
  have h2 := h.tail.tail
  have hp := Lib.tabIs_of_head (t := 116) (e := 104) (n := 20) gP (by kernel_rfl) (by kernel_rfl) (by kernel_rfl) (by kernel_rfl) (by kernel_rfl) (pow_data ▸ h2)
  obtain ⟨a0, s0, hv0, -, -, -⟩ := laid_sentinel h2.tail gR (ti := 84) (by kernel_rfl) Tryd.underlying84 rowE Tryd.underlying123 Tryd.underlying125 rfl rfl Tryd.underlying9 (by kernel_rfl) (by kernel_rfl)
  obtain ⟨a1, s1, hv1, -, -, -⟩ := laid_sentinel h2.tail.tail gS (ti := 84) (by kernel_rfl) Tryd.underlying84 rowE Tryd.underlying123 Tryd.underlying125 rfl rfl Tryd.underlying9 (by kernel_rfl) (by kernel_rfl)
  intro g l hm
  unfold laidG at hm
  rcases List.mem_cons.1 hm with e | hm
  · cases e
    refine env_cells (Pr := fun b _ => b < W.heap.size) gP hp (fun _ => var_lt gP hp) (by simp) (fun i v d h1 h2 => ?_)
    rw [List.getElem?_map, h1] at h2
    cases h2
    exact .val _
  rcases List.mem_cons.1 hm with e | hm
  · cases e
    refine env_cells (Pr := fun b _ => b < W.heap.size) (vs := [_]) gS hv1 (fun _ => var_lt gS hv1) rfl (reps_cons' (.err _ _))
  rcases List.mem_cons.1 hm with e | hm
  · cases e
    refine env_cells (Pr := fun b _ => b < W.heap.size) (vs := [_]) gR hv0 (fun _ => var_lt gR hv0) rfl (reps_cons' (.err _ _))
  · cases hm
def dataVals : DataW Unit → List Value
  | .agg l => l.map fun
    | .lit (.int k z) => .int k z
    | _ => .nilFunc
  | _ => []
abbrev synS : ByteArray := { data := #[105, 110, 118, 97, 108, 105, 100, 32, 115, 121, 110, 116, 97, 120] }
abbrev rngS : ByteArray := { data := #[118, 97, 108, 117, 101, 32, 111, 117, 116, 32, 111, 102, 32, 114, 97, 110, 103, 101] }
/-- So many blocks has the settled world. -/
noncomputable def low : Nat := (World.holding Tryd.prog default ⟨#[], #[], []⟩).heap.size
def setVar (h : Array Obj) (g : Nat) (vs : List Value) : Array Obj := h.modify g fun
  | .cells _ t frozen => .cells vs.toArray t frozen
  | o => o
/-- The settled world, with the variables as they are listed. -/
noncomputable def laidWorld (os : Os) : World :=
  let w0 := World.holding Tryd.prog os ⟨#[.cells #[.string rngS] 125, .cells #[.string synS] 125], #[], []⟩
  { w0 with heap := setVar (setVar (setVar (setVar (setVar w0.heap 4 (dataVals Rows.laid_math_bits_deBruijn32tab)) 5 (dataVals Rows.laid_math_bits_deBruijn64tab)) 3 (dataVals Rows.laid_internal_strconv_uint64pow10))
      2 [.iface 123 (.pointer (some ⟨low, 0, none⟩))]) 1 [.iface 123 (.pointer (some ⟨low + 1, 0, none⟩))] }
theorem laid_met (os : Os) (args : Array Value) : laidMet Tryd.prog laidL ((laidWorld os).forCall (fun _ _ => 0) ⟨#[], args, []⟩).memory :=
  laidMet_of_run (ps := (List.range 32).map (MemPlace.cell 4) ++ (List.range 64).map (MemPlace.cell 5) ++ (List.range 20).map (MemPlace.cell 3) ++ [.cell 2 0, .cell low 0, .cell 1 0, .cell (low + 1) 0]) 8 (by kernel_rfl) (by kernel_rfl) (by kernel_rfl)
/-- What a walk of a law over abstract values says of a call. -/
theorem law_call {f : FuncId} {ds : List D} {w : World} {vs : List Value} (h : PureC f ds (· = .bool true)) (hL : laidMet Tryd.prog laidL w) (hl : vs.length = ds.length)
    (hr : ∀ (i : Nat) (v : Value) (d : D), vs[i]? = some v → ds[i]? = some d → RepD w (fun b _ => b < w.heap.size) v d) :
    Calls Tryd.prog f vs.toArray w fun e w' => e = .returned (.bool true) ∧ Below w.heap.size w w' := by
  refine (h.2 w (fun b _ => b < w.heap.size) vs (fun _ _ h => h) (env_of_laid hL) hl hr).mono fun e w' ⟨v, r, he, hp, hrep, hb⟩ => ?_
  subst hp
  cases hrep
  exact ⟨he, hb⟩
end Go.Proofs.YtfgibalcdjlnhaaDoor
end
section
namespace Go.Proofs.YtfgibalcdjlnhaaDoor
open Go.ChangeShapes Go.WideShapes Go.ChangeAt Go.RowKit Go.Deep Go.Joins

theorem i64_of {n : Int} (h : IntKind.i64.min ≤ n ∧ n ≤ IntKind.i64.max) : i64 n := by simpa [i64, IntKind.min, IntKind.max, IntKind.signed, IntKind.bits] using h
theorem max_of {n : Nat} (h : n ≤ maxLen) : n ≤ 9223372036854775807 := by unfold maxLen at h; omega
section
variable {H : Type} {enc : TypeId × Value → H} {w : World} {base : Nat}
theorem show_ints : Show enc Tryd.prog w base 23 1 (fun l : List Int => [.list 1 (l.map fun n => [.int n])]) (fun l => l.length ≤ maxLen ∧ ∀ e ∈ l, IntKind.i64.min ≤ e ∧ e ≤ IntKind.i64.max) :=
  show_list Tryd.underlying23 (by kernel_rfl) (by decide) (show_int Tryd.underlying3)
/-- what comes in as an operation -/
structure Opn.In (o : Opn) : Prop where
  kind : i64 o.kind
  s : o.s.size ≤ 9223372036854775807
  n : i64 o.n
  keep : o.keep.length ≤ 9223372036854775807
theorem show_op : Show enc Tryd.prog w base 52 4 Opn.cells Opn.In :=
  (show_struct Tryd.underlying52 (by kernel_rfl) (shows_cons (show_int Tryd.underlying3) rfl (by kernel_rfl) (shows_cons (show_string Tryd.underlying9) rfl (by kernel_rfl) (shows_cons (show_int Tryd.underlying3) rfl (by kernel_rfl) (shows_cons show_ints rfl (by kernel_rfl) shows_nil))))).as Opn.cells _
    (fun x => ⟨x.1, x.2.1, x.2.2.1, x.2.2.2.1⟩) (fun _ => rfl) (fun x h => ⟨i64_of h.1, max_of h.2.1, i64_of h.2.2.1, max_of h.2.2.2.1.1⟩)
theorem show_ops : Show enc Tryd.prog w base 49 1 (fun l : List Opn => [.list 4 (l.map Opn.cells)]) (fun l => l.length ≤ maxLen ∧ ∀ e ∈ l, e.In) :=
  show_list Tryd.underlying49 (by kernel_rfl) (by decide) show_op
end
end Go.Proofs.YtfgibalcdjlnhaaDoor
end
