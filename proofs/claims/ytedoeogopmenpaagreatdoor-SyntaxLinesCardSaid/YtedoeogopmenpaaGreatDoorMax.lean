/-
  Conditions: none.
-/
import Derived.Test.YtedoeogopmenpaaGreatDoorMaw
set_option maxHeartbeats 16000000
set_option maxRecDepth 20000
section
set_option linter.unusedSimpArgs false
set_option linter.unusedVariables false
namespace Go.Proofs.YtedoeogopmenpaaGreatDoor
open Go.RowKit
def parseED (r : Ex × Int × Int) : D := .tup [.agg (exC r.1), .int r.2.1, .int r.2.2]
theorem parseE_any (s : ByteArray) (hs : s.size ≤ 1000000) : PureC 11 [.str s] (· = parseED (parseEV s)) := by
 have hopen := open_any s hs
 rcases hL : lexV s with ⟨L, p, e⟩
 have hV : parseEV s = if e = 0 then (match allP L with
  | .ok x _ => (x, 0, 0)
  | .bad q c => (Ex.zero, q, c)) else (Ex.zero, p, e) := by
  unfold parseEV
  rw [hL]
  try rfl
 rw [hL] at hopen
 dsimp only at hopen
 by_cases he : e = 0
 ·subst he
  rw [if_pos rfl] at hV
  obtain ⟨h1, h2, h3, h4, h5, h6, h7⟩ := lex_ready hL
  have r0 := h4.rdy h5
  have at0 : ((atN L L : Nat) : Int) = 0 := by simp [atN]
  have hrd := rec_read r0 h6
  unfold psr at hrd
  rw [at0] at hrd
  have q0 : (!decide ((0 : Int) = 0)) = false := rfl
  unfold allP at hV
  refine pure_enterD Tryz.func11 rfl (by decide) _ Tryz.ntmps11 (le_ok rfl) (fun w Pr hE => ?_)
  dsimp only [slotsOf, Nat.zero_add, Nat.reduceAdd]
  repeat' (first | (apply at_call; refine k_ocall [(16, 30)] (hopen) hE ?_; rintro _ _ ⟨rfl, rfl⟩ <;> (intro _ _ h1 h2; simp only [renEqs, Nat.reduceBEq, renL_app, renL_ds, renL_und] at h1 h2; subst h1 h2)) | (apply at_op (.makeFunc _ _ _); refine al_y (y_clo rfl) (lt_ok rfl) ?_) | refine nx ?_ | apply aq_pq | (apply qr_move; refine r_move ?_) | (apply qr_assign; refine r_assign ?_) | (apply at_cond; first | refine c_t ?_ | refine c_f ?_ | (refine aw_cond rfl (fun hb => ?_) (fun hb => ?_) <;> ((try have hq := dX hb); (try (exfalso; omega))))) | (apply qr_neq; refine r_neq ?_) | (apply qr_extract; refine r_extract ?_) | (apply qr_func; refine r_func ?_) | (apply qr_load; refine r_load ?_) | (apply qr_alloc; refine r_alloc ?_) | (apply qr_store; refine r_store ?_))
  refine al_less (sl' := [(18, .clo (.func 41) [.box 3 0, .box 4 0, .box 2 0]), (5, .box 30 0), (4, .box 4 0), (3, .box 3 0), (2, .box 2 0)]) (ob' := [(30, psB L 0), (2, zeroB), (3, intB p), (4, errB 0)]) (by (repeat (first | exact sub_nil | (apply sub_cons; focus (first | rfl | exact vint (by first | omega) | (simp [look]; done)))))) (by (repeat (first | exact obs_nil | (apply obs_cons; focus (first | rfl | (simp [find]; done)))))) ?_
  refine al_ren 2 1002 rfl rfl ?_
  refine al_less (sl' := [(18, .clo (.func 41) [.box 3 0, .box 4 0, .box 1002 0]), (5, .box 30 0), (4, .box 4 0), (3, .box 3 0), (2, .box 1002 0)]) (ob' := [(30, psB L 0), (1002, zeroB), (3, intB p), (4, errB 0)]) (by (repeat (first | exact sub_nil | (apply sub_cons; focus (first | rfl | exact vint (by first | omega) | (simp [look]; done)))))) (by (repeat (first | exact obs_nil | (apply obs_cons; focus (first | rfl | (simp [find]; done)))))) ?_
  refine al_ren 3 1003 rfl rfl ?_
  refine al_less (sl' := [(18, .clo (.func 41) [.box 1003 0, .box 4 0, .box 1002 0]), (5, .box 30 0), (4, .box 4 0), (3, .box 1003 0), (2, .box 1002 0)]) (ob' := [(30, psB L 0), (1002, zeroB), (1003, intB p), (4, errB 0)]) (by (repeat (first | exact sub_nil | (apply sub_cons; focus (first | rfl | exact vint (by first | omega) | (simp [look]; done)))))) (by (repeat (first | exact obs_nil | (apply obs_cons; focus (first | rfl | (simp [find]; done)))))) ?_
  refine al_ren 4 1004 rfl rfl ?_
  refine al_less (sl' := [(18, .clo (.func 41) [.box 1003 0, .box 1004 0, .box 1002 0]), (5, .box 30 0), (4, .box 1004 0), (3, .box 1003 0), (2, .box 1002 0)]) (ob' := [(30, psB L 0), (1002, zeroB), (1003, intB p), (1004, errB 0)]) (by (repeat (first | exact sub_nil | (apply sub_cons; focus (first | rfl | exact vint (by first | omega) | (simp [look]; done)))))) (by (repeat (first | exact obs_nil | (apply obs_cons; focus (first | rfl | (simp [find]; done)))))) ?_
  refine al_ren 30 1000 rfl rfl ?_
  refine al_less (sl' := [(18, .clo (.func 41) [.box 1003 0, .box 1004 0, .box 1002 0]), (5, .box 1000 0), (4, .box 1004 0), (3, .box 1003 0), (2, .box 1002 0)]) (ob' := [(1000, psB L 0), (1002, zeroB), (1003, intB p), (1004, errB 0)]) (by (repeat (first | exact sub_nil | (apply sub_cons; focus (first | rfl | exact vint (by first | omega) | (simp [look]; done)))))) (by (repeat (first | exact obs_nil | (apply obs_cons; focus (first | rfl | (simp [find]; done)))))) ?_
  refine al_defer rfl hE rfl rfl rfl (fun E' cs en eo hN hE' hdf hcl hcs => ?_)
  obtain ⟨w', Pr', n', ob0', β', κ', df'⟩ := E'
  dsimp only at en eo hdf hcs
  subst en eo hdf
  have hE := hE'
  rcases hx : readE L with ⟨x, t⟩ | ⟨q, c⟩
  ·rw [hx, then_ok] at hV
   have hok := out_ok hrd hx
   have r1 := r0.to (readE_suf hx)
   obtain ⟨o, hd⟩ := readE_der hx
   have hlv := hd.levels
   have hwd := hd.wid
   have hlev := levels_any x.levels x (Nat.le_refl _) (by omega) (by omega)
   have hnx := pnext r1
   by_cases hk : (nxt t).k = 3
   ·have c1 := pcheck_y (L := L) (l := t) 12
    rw [← decide_eq_true hk] at c1
    rw [if_pos hk] at hV
    by_cases hv : x.levels ≤ 12
    ·have c2 := pcheck_y (L := L) (l := t) 6
     rw [← decide_eq_true (show (x.levels : Int) ≤ 12 by omega)] at c2
     rw [if_pos hv] at hV
     repeat' (first | (apply at_call; refine k_ocall [(1000, 1000)] (hok) hE ?_; rintro _ _ ⟨rfl, rfl⟩ <;> (intro _ _ h1 h2; simp only [renEqs, Nat.reduceBEq, renL_app, renL_ds, renL_und] at h1 h2; subst h1 h2)) | (apply at_call; refine k_ocall [(1000, 1000)] (hnx) hE ?_; rintro _ _ ⟨rfl, rfl⟩ <;> (intro _ _ h1 h2; simp only [renEqs, Nat.reduceBEq, renL_app, renL_ds, renL_und] at h1 h2; subst h1 h2)) | (apply at_call; refine k_ocall [(1000, 1000)] (c1) hE ?_; rintro _ _ ⟨rfl, rfl⟩ <;> (intro _ _ h1 h2; simp only [renEqs, Nat.reduceBEq, renL_app, renL_ds, renL_und] at h1 h2; subst h1 h2)) | (apply at_call; refine k_call (hlev) hE ?_; rintro _ rfl) | (apply at_call; refine k_ocall [(1000, 1000)] (c2) hE ?_; rintro _ _ ⟨rfl, rfl⟩ <;> (intro _ _ h1 h2; simp only [renEqs, Nat.reduceBEq, renL_app, renL_ds, renL_und] at h1 h2; subst h1 h2)) | refine nx ?_ | apply aq_pq | (apply qr_move; refine r_move ?_) | (apply at_cond; first | refine c_t ?_ | refine c_f ?_ | (refine aw_cond rfl (fun hb => ?_) (fun hb => ?_) <;> ((try have hq := dX hb); (try (exfalso; omega))))) | (apply qr_leq; refine r_leq ?_) | (apply qr_eql; refine r_eql ?_) | (apply qr_load; refine r_load ?_) | (apply qr_field; refine r_field ?_) | (apply qr_alloc; refine r_alloc ?_) | (apply qr_store; refine r_store ?_))
     refine aq_less (sl' := [(4, .box 1004 0), (3, .box 1003 0), (2, .box 1002 0)]) (ob' := [(1003, intB 0), (1004, errB 0), (1002, exB x)]) (by (repeat (first | exact sub_nil | (apply sub_cons; focus (first | rfl | exact vint (by first | omega) | (simp [look]; done)))))) (by (repeat (first | exact obs_nil | (apply obs_cons; focus (first | rfl | (simp [find]; done)))))) ?_
     refine aq_leave (.inl ⟨rfl, rfl⟩) rfl hN hE' rfl hcl hcs rfl (parseE1_no 0 0 _ rfl) rfl rfl (fun E'' ob'' k1 k2 hN'' ho => ?_) (fun _ _ => trivial)
     subst ho
     rw [hV]
     exact retN3 hN'' rfl (by first | exact ResX.tmp _ _ (by first | exact ToD.d _ | exact ToD.row _ _ _ _ _ rfl) | exact ResX.cellA _ _ _ _ _ _ _ rfl rfl rfl (by first | (simp only [normV, normList, normMap]; rfl) | rfl) rfl | exact ResX.cell1 _ _ _ _ _ _ rfl rfl rfl (by first | exact ToD.d _ | exact ToD.row _ _ _ _ _ rfl)) (by first | exact ResX.tmp _ _ (by first | exact ToD.d _ | exact ToD.row _ _ _ _ _ rfl) | exact ResX.cellA _ _ _ _ _ _ _ rfl rfl rfl (by first | (simp only [normV, normList, normMap]; rfl) | rfl) rfl | exact ResX.cell1 _ _ _ _ _ _ rfl rfl rfl (by first | exact ToD.d _ | exact ToD.row _ _ _ _ _ rfl)) (by first | exact ResX.tmp _ _ (by first | exact ToD.d _ | exact ToD.row _ _ _ _ _ rfl) | exact ResX.cellA _ _ _ _ _ _ _ rfl rfl rfl (by first | (simp only [normV, normList, normMap]; rfl) | rfl) rfl | exact ResX.cell1 _ _ _ _ _ _ rfl rfl rfl (by first | exact ToD.d _ | exact ToD.row _ _ _ _ _ rfl)) rfl k1
    ·have c2 := pcheck_n r1 6
     rw [← decide_eq_false (show ¬ (x.levels : Int) ≤ 12 by omega)] at c2
     rw [if_neg hv] at hV
     repeat' (first | (apply at_call; refine k_ocall [(1000, 1000)] (hok) hE ?_; rintro _ _ ⟨rfl, rfl⟩ <;> (intro _ _ h1 h2; simp only [renEqs, Nat.reduceBEq, renL_app, renL_ds, renL_und] at h1 h2; subst h1 h2)) | (apply at_call; refine k_ocall [(1000, 1000)] (hnx) hE ?_; rintro _ _ ⟨rfl, rfl⟩ <;> (intro _ _ h1 h2; simp only [renEqs, Nat.reduceBEq, renL_app, renL_ds, renL_und] at h1 h2; subst h1 h2)) | (apply at_call; refine k_ocall [(1000, 1000)] (c1) hE ?_; rintro _ _ ⟨rfl, rfl⟩ <;> (intro _ _ h1 h2; simp only [renEqs, Nat.reduceBEq, renL_app, renL_ds, renL_und] at h1 h2; subst h1 h2)) | (apply at_call; refine k_call (hlev) hE ?_; rintro _ rfl) | refine nx ?_ | apply aq_pq | (apply qr_move; refine r_move ?_) | (apply at_cond; first | refine c_t ?_ | refine c_f ?_ | (refine aw_cond rfl (fun hb => ?_) (fun hb => ?_) <;> ((try have hq := dX hb); (try (exfalso; omega))))) | (apply qr_leq; refine r_leq ?_) | (apply qr_eql; refine r_eql ?_) | (apply qr_load; refine r_load ?_) | (apply qr_field; refine r_field ?_) | (apply qr_alloc; refine r_alloc ?_) | (apply qr_store; refine r_store ?_))
     refine al_pcall [(1000, 1000)] c2 rfl hE (lt_ok rfl) (by (repeat (first | refine ArgsV.cons (.same _ _ rfl) ?_ | refine ArgsV.cons (.toD _ _ (by first | exact ToD.d _ | exact ToD.row _ _ _ _ _ rfl | exact ToD.nil _)) ?_)); exact ArgsV.nil) ⟨obs_cons rfl obs_nil, rfl, rfl, rfl, rfl⟩ (fun v hv => ?_) (fun _ _ h => h.elim)
     subst hv
     repeat (first | refine aq_then_p ?_ | refine aq_block_p ?_)
     refine aq_less (sl' := [(4, .box 1004 0), (3, .box 1003 0), (2, .box 1002 0)]) (ob' := [(1003, intB p), (1004, errB 0), (1002, zeroB)]) (by (repeat (first | exact sub_nil | (apply sub_cons; focus (first | rfl | exact vint (by first | omega) | (simp [look]; done)))))) (by (repeat (first | exact obs_nil | (apply obs_cons; focus (first | rfl | (simp [find]; done)))))) ?_
     refine aq_leave (.inr ⟨_, rfl, rfl⟩) (settle_caught (nxt t).p 6) hN hE' rfl hcl hcs rfl (parseE1_yes (nxt t).p 6 p 0 _ rfl) rfl rfl (fun E'' ob'' k1 k2 hN'' ho => ?_) (fun _ _ => trivial)
     subst ho
     rw [hV]
     refine aq_nilcell 1002 4 5 rfl rfl rfl ?_
     exact retN3 hN'' rfl (by first | exact ResX.tmp _ _ (by first | exact ToD.d _ | exact ToD.row _ _ _ _ _ rfl) | exact ResX.cellA _ _ _ _ _ _ _ rfl rfl rfl (by first | (simp only [normV, normList, normMap]; rfl) | rfl) rfl | exact ResX.cell1 _ _ _ _ _ _ rfl rfl rfl (by first | exact ToD.d _ | exact ToD.row _ _ _ _ _ rfl)) (by first | exact ResX.tmp _ _ (by first | exact ToD.d _ | exact ToD.row _ _ _ _ _ rfl) | exact ResX.cellA _ _ _ _ _ _ _ rfl rfl rfl (by first | (simp only [normV, normList, normMap]; rfl) | rfl) rfl | exact ResX.cell1 _ _ _ _ _ _ rfl rfl rfl (by first | exact ToD.d _ | exact ToD.row _ _ _ _ _ rfl)) (by first | exact ResX.tmp _ _ (by first | exact ToD.d _ | exact ToD.row _ _ _ _ _ rfl) | exact ResX.cellA _ _ _ _ _ _ _ rfl rfl rfl (by first | (simp only [normV, normList, normMap]; rfl) | rfl) rfl | exact ResX.cell1 _ _ _ _ _ _ rfl rfl rfl (by first | exact ToD.d _ | exact ToD.row _ _ _ _ _ rfl)) rfl k1
   ·have c1 := pcheck_n r1 12
    rw [← decide_eq_false hk] at c1
    rw [if_neg hk] at hV
    repeat' (first | (apply at_call; refine k_ocall [(1000, 1000)] (hok) hE ?_; rintro _ _ ⟨rfl, rfl⟩ <;> (intro _ _ h1 h2; simp only [renEqs, Nat.reduceBEq, renL_app, renL_ds, renL_und] at h1 h2; subst h1 h2)) | (apply at_call; refine k_ocall [(1000, 1000)] (hnx) hE ?_; rintro _ _ ⟨rfl, rfl⟩ <;> (intro _ _ h1 h2; simp only [renEqs, Nat.reduceBEq, renL_app, renL_ds, renL_und] at h1 h2; subst h1 h2)) | refine nx ?_ | apply aq_pq | (apply qr_move; refine r_move ?_) | (apply at_cond; first | refine c_t ?_ | refine c_f ?_ | (refine aw_cond rfl (fun hb => ?_) (fun hb => ?_) <;> ((try have hq := dX hb); (try (exfalso; omega))))) | (apply qr_eql; refine r_eql ?_) | (apply qr_field; refine r_field ?_) | (apply qr_alloc; refine r_alloc ?_) | (apply qr_store; refine r_store ?_))
    refine al_pcall [(1000, 1000)] c1 rfl hE (lt_ok rfl) (by (repeat (first | refine ArgsV.cons (.same _ _ rfl) ?_ | refine ArgsV.cons (.toD _ _ (by first | exact ToD.d _ | exact ToD.row _ _ _ _ _ rfl | exact ToD.nil _)) ?_)); exact ArgsV.nil) ⟨obs_cons rfl obs_nil, rfl, rfl, rfl, rfl⟩ (fun v hv => ?_) (fun _ _ h => h.elim)
    subst hv
    repeat (first | refine aq_then_p ?_ | refine aq_block_p ?_)
    refine aq_less (sl' := [(4, .box 1004 0), (3, .box 1003 0), (2, .box 1002 0)]) (ob' := [(1003, intB p), (1004, errB 0), (1002, zeroB)]) (by (repeat (first | exact sub_nil | (apply sub_cons; focus (first | rfl | exact vint (by first | omega) | (simp [look]; done)))))) (by (repeat (first | exact obs_nil | (apply obs_cons; focus (first | rfl | (simp [find]; done)))))) ?_
    refine aq_leave (.inr ⟨_, rfl, rfl⟩) (settle_caught (nxt t).p 12) hN hE' rfl hcl hcs rfl (parseE1_yes (nxt t).p 12 p 0 _ rfl) rfl rfl (fun E'' ob'' k1 k2 hN'' ho => ?_) (fun _ _ => trivial)
    subst ho
    rw [hV]
    refine aq_nilcell 1002 4 5 rfl rfl rfl ?_
    exact retN3 hN'' rfl (by first | exact ResX.tmp _ _ (by first | exact ToD.d _ | exact ToD.row _ _ _ _ _ rfl) | exact ResX.cellA _ _ _ _ _ _ _ rfl rfl rfl (by first | (simp only [normV, normList, normMap]; rfl) | rfl) rfl | exact ResX.cell1 _ _ _ _ _ _ rfl rfl rfl (by first | exact ToD.d _ | exact ToD.row _ _ _ _ _ rfl)) (by first | exact ResX.tmp _ _ (by first | exact ToD.d _ | exact ToD.row _ _ _ _ _ rfl) | exact ResX.cellA _ _ _ _ _ _ _ rfl rfl rfl (by first | (simp only [normV, normList, normMap]; rfl) | rfl) rfl | exact ResX.cell1 _ _ _ _ _ _ rfl rfl rfl (by first | exact ToD.d _ | exact ToD.row _ _ _ _ _ rfl)) (by first | exact ResX.tmp _ _ (by first | exact ToD.d _ | exact ToD.row _ _ _ _ _ rfl) | exact ResX.cellA _ _ _ _ _ _ _ rfl rfl rfl (by first | (simp only [normV, normList, normMap]; rfl) | rfl) rfl | exact ResX.cell1 _ _ _ _ _ _ rfl rfl rfl (by first | exact ToD.d _ | exact ToD.row _ _ _ _ _ rfl)) rfl k1
  ·rw [hx] at hV
   have hbad := out_bad hrd hx
   repeat' (first | refine nx ?_ | apply aq_pq | (apply qr_move; refine r_move ?_) | (apply at_cond; first | refine c_t ?_ | refine c_f ?_ | (refine aw_cond rfl (fun hb => ?_) (fun hb => ?_) <;> ((try have hq := dX hb); (try (exfalso; omega))))) | (apply qr_alloc; refine r_alloc ?_) | (apply qr_store; refine r_store ?_))
   refine al_pcall [(1000, 1000)] hbad rfl hE (lt_ok rfl) (by (repeat (first | refine ArgsV.cons (.same _ _ rfl) ?_ | refine ArgsV.cons (.toD _ _ (by first | exact ToD.d _ | exact ToD.row _ _ _ _ _ rfl | exact ToD.nil _)) ?_)); exact ArgsV.nil) ⟨obs_cons rfl obs_nil, rfl, rfl, rfl, rfl⟩ (fun v hv => ?_) (fun _ _ h => h.elim)
   subst hv
   repeat (first | refine aq_then_p ?_ | refine aq_block_p ?_)
   refine aq_less (sl' := [(4, .box 1004 0), (3, .box 1003 0), (2, .box 1002 0)]) (ob' := [(1003, intB p), (1004, errB 0), (1002, zeroB)]) (by (repeat (first | exact sub_nil | (apply sub_cons; focus (first | rfl | exact vint (by first | omega) | (simp [look]; done)))))) (by (repeat (first | exact obs_nil | (apply obs_cons; focus (first | rfl | (simp [find]; done)))))) ?_
   refine aq_leave (.inr ⟨_, rfl, rfl⟩) (settle_caught q c) hN hE' rfl hcl hcs rfl (parseE1_yes q c p 0 _ rfl) rfl rfl (fun E'' ob'' k1 k2 hN'' ho => ?_) (fun _ _ => trivial)
   subst ho
   rw [hV]
   refine aq_nilcell 1002 4 5 rfl rfl rfl ?_
   exact retN3 hN'' rfl (by first | exact ResX.tmp _ _ (by first | exact ToD.d _ | exact ToD.row _ _ _ _ _ rfl) | exact ResX.cellA _ _ _ _ _ _ _ rfl rfl rfl (by first | (simp only [normV, normList, normMap]; rfl) | rfl) rfl | exact ResX.cell1 _ _ _ _ _ _ rfl rfl rfl (by first | exact ToD.d _ | exact ToD.row _ _ _ _ _ rfl)) (by first | exact ResX.tmp _ _ (by first | exact ToD.d _ | exact ToD.row _ _ _ _ _ rfl) | exact ResX.cellA _ _ _ _ _ _ _ rfl rfl rfl (by first | (simp only [normV, normList, normMap]; rfl) | rfl) rfl | exact ResX.cell1 _ _ _ _ _ _ rfl rfl rfl (by first | exact ToD.d _ | exact ToD.row _ _ _ _ _ rfl)) (by first | exact ResX.tmp _ _ (by first | exact ToD.d _ | exact ToD.row _ _ _ _ _ rfl) | exact ResX.cellA _ _ _ _ _ _ _ rfl rfl rfl (by first | (simp only [normV, normList, normMap]; rfl) | rfl) rfl | exact ResX.cell1 _ _ _ _ _ _ rfl rfl rfl (by first | exact ToD.d _ | exact ToD.row _ _ _ _ _ rfl)) rfl k1
 ·rw [if_neg he] at hV
  have q0 : (!decide (e = 0)) = true := by simp [he]
  refine pure_enterD Tryz.func11 rfl (by decide) _ Tryz.ntmps11 (le_ok rfl) (fun w Pr hE => ?_)
  dsimp only [slotsOf, Nat.zero_add, Nat.reduceAdd]
  repeat' (first | (apply at_call; refine k_ocall [(16, 30)] (hopen) hE ?_; rintro _ _ ⟨rfl, rfl⟩ <;> (intro _ _ h1 h2; simp only [renEqs, Nat.reduceBEq, renL_app, renL_ds, renL_und] at h1 h2; subst h1 h2)) | refine nx ?_ | apply aq_pq | (apply qr_move; refine r_move ?_) | (apply qr_assign; refine r_assign ?_) | (apply at_cond; first | refine c_t ?_ | refine c_f ?_ | (refine aw_cond rfl (fun hb => ?_) (fun hb => ?_) <;> ((try have hq := dX hb); (try (exfalso; omega))))) | (apply qr_neq; refine r_neq ?_) | (apply qr_extract; refine r_extract ?_) | (apply qr_load; refine r_load ?_) | (apply qr_alloc; refine r_alloc ?_) | (apply qr_store; refine r_store ?_))
  refine aw_mixo ([(3, intB p), (4, errB e)]) [(0, true), (1, true), (2, true), (3, false)] [4, 5] (by kernel_rfl) (by kernel_rfl) (by kernel_rfl) (by decide) (by (repeat (first | exact obs_nil | (apply obs_cons; focus (first | rfl | (simp [find]; done)))))) ?_
  simp only [planned, tailed, List.filterMap_cons, List.filterMap_nil, List.getElem?_cons_zero, List.getElem?_cons_succ, Option.map_some]
  repeat' (first | apply am_nil | refine m_skip ?_ | refine n_skip ?_ | (apply at_am (.store _ _ _); refine am_store (by first | exact want_none | exact want_yes rfl rfl (by assumption) | exact want_yes rfl rfl (by with_reducible rfl)) rfl rfl rfl (ev_d rfl) nofun (by first | (simp only [normV, normList, normMap]; rfl) | rfl) (by simp [V.one, Value.oneCell']) (.inr rfl) rfl (le_ok rfl) (by first | (simp only [normV, normList, normMap]; rfl) | rfl) ?_) | (apply qm_load; refine m_load ?_) | (apply qm_build; refine m_build ?_) | (refine am_split rfl rfl (fun hb => ?_) (fun hb => ?_) <;> ((try have hq := dX hb); (try (exfalso; omega)))))
  repeat' (first | refine nx ?_ | apply aq_pq | (apply at_cond; first | refine c_t ?_ | refine c_f ?_ | (refine aw_cond rfl (fun hb => ?_) (fun hb => ?_) <;> ((try have hq := dX hb); (try (exfalso; omega))))) | (apply qr_load; refine r_load ?_) | (apply qr_store; refine r_store ?_) | (apply qr_build; refine r_build ?_))
  refine aq_nilcell 2 4 5 rfl rfl rfl ?_
  refine aq_d0 (.inl rfl) ?_
  rw [hV]
  refine ret3x (by rfl) (by first | exact ResX.tmp _ _ (by first | exact ToD.d _ | exact ToD.row _ _ _ _ _ rfl) | exact ResX.cellA _ _ _ _ _ _ _ rfl rfl rfl (by first | (simp only [normV, normList, normMap]; rfl) | rfl) rfl | exact ResX.cell1 _ _ _ _ _ _ rfl rfl rfl (by first | exact ToD.d _ | exact ToD.row _ _ _ _ _ rfl)) (by first | exact ResX.tmp _ _ (by first | exact ToD.d _ | exact ToD.row _ _ _ _ _ rfl) | exact ResX.cellA _ _ _ _ _ _ _ rfl rfl rfl (by first | (simp only [normV, normList, normMap]; rfl) | rfl) rfl | exact ResX.cell1 _ _ _ _ _ _ rfl rfl rfl (by first | exact ToD.d _ | exact ToD.row _ _ _ _ _ rfl)) (by first | exact ResX.tmp _ _ (by first | exact ToD.d _ | exact ToD.row _ _ _ _ _ rfl) | exact ResX.cellA _ _ _ _ _ _ _ rfl rfl rfl (by first | (simp only [normV, normList, normMap]; rfl) | rfl) rfl | exact ResX.cell1 _ _ _ _ _ _ rfl rfl rfl (by first | exact ToD.d _ | exact ToD.row _ _ _ _ _ rfl)) ?_
  rfl
end Go.Proofs.YtedoeogopmenpaaGreatDoor
end
section
namespace Go.Proofs.YtedoeogopmenpaaGreatDoor
open Go.RowKit
inductive Wk : D → D → Prop where
 | same (x : D) : Wk x x
 | nil (s : Nat) : Wk (.val (.slice none 0 0)) (.list s [])
 | agg (l m : List D) (hl : l.length = m.length) (h : ∀ (i : Nat) (x y : D), l[i]? = some x → m[i]? = some y → Wk x y) : Wk (.agg l) (.agg m)
 | list (s : Nat) (l m : List (List D)) (hl : l.length = m.length) (h : ∀ (i : Nat) (x y : List D), l[i]? = some x → m[i]? = some y → x.length = y.length) (hd : ∀ (i j : Nat) (e f : List D) (x y : D), l[i]? = some e → m[i]? = some f → e[j]? = some x → f[j]? = some y → Wk x y) : Wk (.list s l) (.list s m)
theorem get_some {α : Type} {l : List α} {i : Nat} (h : i < l.length) : ∃ x, l[i]? = some x := ⟨_, List.getElem?_eq_getElem h⟩
theorem get_lt {α : Type} {l : List α} {i : Nat} {x : α} (h : l[i]? = some x) : i < l.length := (List.getElem?_eq_some_iff.1 h).1
theorem Wk.rep {w : World} {Pr : Prot} {x y : D} (h : Wk x y) : ∀ v, RepD w Pr v x → RepD w Pr v y := by
 induction h with
 | same x => exact fun v h => h
 | nil s =>
  intro v h
  cases h
  exact .nil none 0 s (Nat.zero_le _)
 | agg l m hl hh ih =>
  intro v h
  cases h with
  | agg cs _ hc hd =>
   refine .agg cs m (hc.trans hl) (fun i v d h1 h2 => ?_)
   obtain ⟨z, hz⟩ := get_some (l := l) (i := i) (by rw [hl]; exact get_lt h2)
   exact ih i z d hz h2 v (hd i v z h1 hz)
 | list s l m hl hh hd ih =>
  intro v h
  cases h with
  | nil A c _ hm =>
   obtain rfl : m = [] := List.eq_nil_of_length_eq_zero hl.symm
   exact .nil A c s hm
  | list b o n c _ _ u hn hs hc hm hr hq =>
   refine .list b o n c s m u (hl.symm.trans hn) (fun e he => ?_) hc hm (fun i j e d h1 h2 => ?_) (fun i j e d h1 h2 => ?_)
   ·obtain ⟨i, hi, rfl⟩ := List.mem_iff_getElem.1 he
    have hi2 : i < l.length := by omega
    rw [← hh i l[i] m[i] (List.getElem?_eq_getElem hi2) (List.getElem?_eq_getElem hi)]
    exact hs _ (List.getElem_mem hi2)
   ·obtain ⟨e', he'⟩ := get_some (l := l) (i := i) (by rw [hl]; exact get_lt h1)
    obtain ⟨d', hd'⟩ := get_some (l := e') (i := j) (by rw [hh i e' e he' h1]; exact get_lt h2)
    exact hr i j e' d' he' hd'
   ·obtain ⟨e', he'⟩ := get_some (l := l) (i := i) (by rw [hl]; exact get_lt h1)
    obtain ⟨d', hd'⟩ := get_some (l := e') (i := j) (by rw [hh i e' e he' h1]; exact get_lt h2)
    exact ih i j e' e d' d he' h1 hd' h2 _ (hq i j e' d' he' hd')
theorem PureC.wk {f : FuncId} {x y : D} {Post : D → Prop} (h : PureC f [y] Post) (hw : Wk x y) : PureC f [x] Post :=
 ⟨h.1, fun w Pr vs h1 h2 h3 h4 => h.2 w Pr vs h1 h2 h3 fun i v d hv hd => by
  match i with
  | 0 => cases hd; exact hw.rep v (h4 0 v x hv rfl)
  | i + 1 => simp at hd⟩
theorem wk_cons {x y : D} {l m : List D} (h : Wk x y) (hl : l.length = m.length ∧ ∀ (i : Nat) (x y : D), l[i]? = some x → m[i]? = some y → Wk x y) : (x :: l).length = (y :: m).length ∧ ∀ (i : Nat) (a b : D), (x :: l)[i]? = some a → (y :: m)[i]? = some b → Wk a b :=
 ⟨by simp [hl.1], fun i a b h1 h2 => by
  cases i with
  | zero => cases h1; cases h2; exact h
  | succ i => exact hl.2 i a b h1 h2⟩
theorem wk_nil : ([] : List D).length = ([] : List D).length ∧ ∀ (i : Nat) (a b : D), ([] : List D)[i]? = some a → ([] : List D)[i]? = some b → Wk a b := ⟨rfl, fun i a b h1 _ => by simp at h1⟩
def WkL (l m : List D) : Prop := l.length = m.length ∧ ∀ (i : Nat) (x y : D), l[i]? = some x → m[i]? = some y → Wk x y
theorem wk_agg {l m : List D} (h : WkL l m) : Wk (.agg l) (.agg m) := .agg l m h.1 h.2
theorem wk_two {s : Nat} {a b c d : List D} (h1 : WkL a c) (h2 : WkL b d) : Wk (.list s [a, b]) (.list s [c, d]) := by
 refine .list s _ _ rfl (fun i x y hx hy => ?_) (fun i j e f x y he hf hx hy => ?_)
 ·match i with
  | 0 => cases hx; cases hy; exact h1.1
  | 1 => cases hx; cases hy; exact h2.1
  | i + 2 => simp at hx
 ·match i with
  | 0 => cases he; cases hf; exact h1.2 j x y hx hy
  | 1 => cases he; cases hf; exact h2.2 j x y hx hy
  | i + 2 => simp at he
theorem wkl_args {a b c e : D} {x y : D} (h : Wk x y) : WkL [a, b, c, e, x] [a, b, c, e, y] :=
 wk_cons (.same _) (wk_cons (.same _) (wk_cons (.same _) (wk_cons (.same _) (wk_cons h wk_nil))))
end Go.Proofs.YtedoeogopmenpaaGreatDoor
end
section
set_option linter.unusedSimpArgs false
set_option linter.unusedVariables false
namespace Go.Proofs.YtedoeogopmenpaaGreatDoor
open Go.RowKit
abbrev nilD : D := .val (.slice none 0 0)
abbrev w_ride : ByteArray := ⟨#[114, 105, 100, 101]⟩
abbrev sumA : List D := [.int 4, .int 0, .int 0, .str ⟨#[]⟩, .list 5 [[.int 2, .int 0, .int 0, .str w_ride, nilD], [.int 0, .int 5, .int 2, .str ⟨#[]⟩, nilD]]]
abbrev mulA : List D := [.int 6, .int 0, .int 0, .str ⟨#[]⟩, .list 5 [[.int 0, .int 3, .int 0, .str ⟨#[]⟩, nilD], sumA]]
theorem sum_wk : WkL sumA (exC e_sum) := wkl_args (wk_two (wkl_args (.nil 5)) (wkl_args (.nil 5)))
theorem mul_wk : WkL mulA (exC e_mul) := wkl_args (wk_two (wkl_args (.nil 5)) sum_wk)
theorem PureC.wk2 {f : FuncId} {x y u v : D} {Post : D → Prop} (h : PureC f [y, v] Post) (hw : Wk x y) (hv : Wk u v) : PureC f [x, u] Post :=
 ⟨h.1, fun w Pr vs h1 h2 h3 h4 => h.2 w Pr vs h1 h2 h3 fun i z d hz hd => by
  match i with
  | 0 => cases hd; exact hw.rep z (h4 0 z x hz rfl)
  | 1 => cases hd; exact hv.rep z (h4 1 z u hz rfl)
  | i + 2 => simp at hd⟩
theorem tame_one : e_one.tame := by
 simp only [e_one, Ex.tame, Ex.tameL]
 repeat' apply And.intro
 all_goals first | trivial | decide
theorem tame_sum : e_sum.tame := by
 simp only [e_sum, Ex.tame, Ex.tameL]
 repeat' apply And.intro
 all_goals first | trivial | decide
theorem tame_mul : e_mul.tame := by
 simp only [e_mul, e_sum, Ex.tame, Ex.tameL]
 repeat' apply And.intro
 all_goals first | trivial | decide
theorem tame_zero : Ex.zero.tame := by
 simp only [Ex.zero, Ex.tame, Ex.tameL]
 repeat' apply And.intro
 all_goals first | trivial | decide
theorem tame_x : x_one.tame := by
 refine ⟨by decide, by decide, fun q hq => ?_, ?_, ?_, ?_, ?_⟩
 ·simp only [x_one, List.mem_singleton] at hq
  subst hq
  refine ⟨by decide, ?_⟩
  simp only [Ex.tame, Ex.tameL]
  repeat' apply And.intro
  all_goals first | trivial | decide
 all_goals
  simp only [x_one, Ex.tame, Ex.tameL]
  repeat' apply And.intro
  all_goals first | trivial | decide
theorem tame_z : By.zero.tame := ⟨by decide, by decide, fun q hq => by simp [By.zero] at hq, tame_zero, tame_zero, tame_zero, tame_zero⟩
abbrev zA : List D := [.str ⟨#[]⟩, nilD, .int 0, .int 0, .int 0, .str ⟨#[]⟩, nilD, .int 0, .int 0, .int 0, .str ⟨#[]⟩, nilD, .int 0, .int 0, .int 0, .str ⟨#[]⟩, nilD, .int 0, .int 0, .int 0, .str ⟨#[]⟩, nilD, .int 0, .int 0, .int 0]
theorem z_wk : WkL zA (byC By.zero) :=
 wk_cons (.same _) (wk_cons (.nil 6) (wk_cons (.same _) (wk_cons (.same _) (wk_cons (.same _) (wk_cons (.same _) (wk_cons (.nil 5) (wk_cons (.same _) (wk_cons (.same _) (wk_cons (.same _) (wk_cons (.same _) (wk_cons (.nil 5) (wk_cons (.same _) (wk_cons (.same _) (wk_cons (.same _) (wk_cons (.same _) (wk_cons (.nil 5) (wk_cons (.same _) (wk_cons (.same _) (wk_cons (.same _) (wk_cons (.same _) (wk_cons (.nil 5) (wk_cons (.same _) (wk_cons (.same _) (wk_cons (.same _) wk_nil))))))))))))))))))))))))
theorem text30_any : PureC 34 [] (· = .str t_text) := by
 refine pure_enter Tryz.func34 rfl (by decide) _ Tryz.ntmps34 (le_ok rfl) (fun w Pr hE => ?_)
 dsimp only [slotsOf, Nat.zero_add, Nat.reduceAdd]
 repeat' (first | refine nx ?_ | (apply qr_assign; refine r_assign ?_))
 refine rt1 ?_
 rfl
theorem print_e {e : Ex} {s : ByteArray} (hr : e.right 12 = true) (hs : e.text 0 = s) (hz : s.size ≤ 4000) : printED e = .tup [.str s, .int 0] := by
 unfold printED fitsD
 rw [if_pos hr, hs, if_neg (by omega)]
theorem small_any : PureC 8 [] (· = .bool true) := by
 have p1 := parseE_any t_one (by decide)
 have p2 := parse_any t_text (by decide)
 have p3 := parse_any t_bad (by decide)
 have p4 := parseE_any t_two (by decide)
 rw [parse_one] at p1
 rw [parse_text] at p2
 rw [parse_bad] at p3
 rw [parse_two] at p4
 have w1 := printE_any e_one tame_one
 rw [print_e right_one print_one (by decide)] at w1
 have w2 := (printE_any e_mul tame_mul).wk (wk_agg mul_wk)
 rw [print_e right_mul print_mul (by decide)] at w2
 have w3 := print_any x_one tame_x
 have hpx : printD x_one = .tup [.str x_one.text, .int 0] := by
  unfold printD fitsD
  rw [if_pos right_x, if_neg (by rw [print_text]; decide)]
 rw [hpx] at w3
 have r1 := byRight_any x_one tame_x
 rw [right_x] at r1
 have r2 := (byRight_any By.zero tame_z).wk (wk_agg z_wk)
 rw [right_z] at r2
 have r3 := (rightExp_any e_sum tame_sum).wk (wk_agg sum_wk)
 rw [right_sum] at r3
 have r4 : PureC 24 [.agg [.int 1, .int 0, .int 0, .str ⟨#[]⟩, nilD]] (· = .bool ((Ex.mk 1 0 0 ⟨#[]⟩ []).right 12)) := (rightExp_any (.mk 1 0 0 ⟨#[]⟩ []) (by simp only [Ex.tame, Ex.tameL]; repeat' apply And.intro; all_goals first | trivial | decide)).wk (wk_agg (wkl_args (.nil 5)))
 rw [right_n] at r4
 have n1 := name_any ⟨#[112, 101, 114, 105, 111, 100]⟩ (by decide)
 rw [name_y] at n1
 have n2 := name_any ⟨#[99, 101, 110, 116, 115]⟩ (by decide)
 rw [name_n] at n2
 have m1 := same_any x_one x_one tame_x tame_x
 rw [(bySame_iff x_one x_one).2 rfl] at m1
 have m2 := (sameE_any e_sum e_sum tame_sum tame_sum).wk2 (wk_agg sum_wk) (wk_agg sum_wk)
 rw [(same_iff e_sum e_sum).2 rfl] at m2
 have hsz : ((x_one.text.size : Nat) : Int) = (t_text.size : Int) + 1 := by rw [print_text]; rfl
 have hq : decide (((x_one.text.size : Nat) : Int) = (t_text.size : Int) + 1) = true := decide_eq_true hsz
 have htt := text30_any
 have htz : t_text.size ≤ 1000 := by decide
 unfold parseED at p1 p4
 unfold parseD at p2 p3
 dsimp only at p1 p2 p3 p4
 generalize x_one = X at *
 generalize e_one = E1 at *
 unfold t_one at p1
 unfold t_bad at p3
 unfold t_two at p4
 generalize t_text = TT at *
 generalize X.text = XT at *
 refine pure_enter Tryz.func8 rfl (by decide) _ Tryz.ntmps8 (le_ok rfl) (fun w Pr hE => ?_)
 dsimp only [slotsOf, Nat.zero_add, Nat.reduceAdd]
 repeat' (first | (apply at_call; refine k_call (p1) hE ?_; rintro _ rfl; clear p1) | (apply at_call; refine k_call (w1) hE ?_; rintro _ rfl; clear w1) | (apply at_call; refine k_call (w2) hE ?_; rintro _ rfl) | (apply at_call; refine k_call (htt) hE ?_; rintro _ rfl) | (apply at_call; refine k_call (p2) hE ?_; rintro _ rfl; clear p2) | (apply at_call; refine k_call (w3) hE ?_; rintro _ rfl) | (apply at_call; refine k_call (p3) hE ?_; rintro _ rfl) | (apply at_call; refine k_call (p4) hE ?_; rintro _ rfl) | (apply at_call; refine k_call (r1) hE ?_; rintro _ rfl; clear r1) | (apply at_call; refine k_call (r2) hE ?_; rintro _ rfl) | (apply at_call; refine k_call (r3) hE ?_; rintro _ rfl; clear r3) | (apply at_call; refine k_call (r4) hE ?_; rintro _ rfl) | (apply at_call; refine k_call (n1) hE ?_; rintro _ rfl; clear n1) | (apply at_call; refine k_call (n2) hE ?_; rintro _ rfl) | (apply at_call; refine k_call (m1) hE ?_; rintro _ rfl) | (apply at_call; refine k_call (m2) hE ?_; rintro _ rfl) | refine nx ?_ | (apply qr_move; refine r_move ?_) | (apply qr_assign; refine r_assign ?_) | (apply at_guard; first | refine g_go ?_ | refine g_nt ?_ | refine g_nf ?_ | refine g_nu ?_ | ((first | refine al_split_t rfl rfl (lt_ok rfl) (fun hb => ?_) (fun hb => ?_) | refine al_split_f rfl rfl (lt_ok rfl) (fun hb => ?_) (fun hb => ?_)) <;> ((try have hq := dX hb); (try (exfalso; omega))))) | (apply qr_pick; refine r_pick ?_) | (apply qr_eql; refine r_eql ?_) | (apply qr_add; refine r_add ?_) | (apply qr_not; refine r_not ?_) | (apply qr_len; refine r_len ?_) | (apply qr_extract; refine r_extract ?_) | (apply qr_load; refine r_load ?_) | (apply qr_alloc; refine r_alloc ?_) | (apply qr_store; refine r_store ?_) | (apply qr_build; refine r_build ?_) | (apply qr_lits; refine r_lits ?_))
 refine rt1 ?_
 rfl
end Go.Proofs.YtedoeogopmenpaaGreatDoor
end
section
namespace Go.Proofs.YtedoeogopmenpaaGreatDoor
theorem nxt_cons (t : Tok) (l : List Tok) : nxt (t :: l) = t := rfl
theorem isT_cons (t : Tok) (l : List Tok) (s : ByteArray) : isT (t :: l) s = (decide (t.k ≠ 3) && decide (t.s = s)) := rfl
theorem isT_is (t : Tok) (l : List Tok) (hk : t.k ≠ 3) : isT (t :: l) t.s = true := by simp [isT_cons, hk]
theorem sym_next {op : Int} {t : Tok} {g : Nat} (h : opInfo op = some (t, g)) (l : List Tok) : symP (t :: l) = some (op, g) := by
 rcases opInfo_cases h with ⟨rfl, rfl, rfl⟩ | ⟨rfl, rfl, rfl⟩ | ⟨rfl, rfl, rfl⟩ | ⟨rfl, rfl, rfl⟩ | ⟨rfl, rfl, rfl⟩ | ⟨rfl, rfl, rfl⟩ | ⟨rfl, rfl, rfl⟩ | ⟨rfl, rfl, rfl⟩ <;> rfl
theorem op_form {op : Int} {t : Tok} {g : Nat} (h : opInfo op = some (t, g)) : formV op = g ∧ 1 ≤ g ∧ g ≤ 6 ∧ g ≠ 3 := by
 rcases opInfo_cases h with ⟨rfl, rfl, rfl⟩ | ⟨rfl, rfl, rfl⟩ | ⟨rfl, rfl, rfl⟩ | ⟨rfl, rfl, rfl⟩ | ⟨rfl, rfl, rfl⟩ | ⟨rfl, rfl, rfl⟩ | ⟨rfl, rfl, rfl⟩ | ⟨rfl, rfl, rfl⟩ <;> decide
theorem op_plain {op : Int} {t : Tok} {g : Nat} (h : opInfo op = some (t, g)) (l : List Tok) : isT (t :: l) w_cents = false ∧ isT (t :: l) w_minutes = false := by
 rcases opInfo_cases h with ⟨rfl, rfl, rfl⟩ | ⟨rfl, rfl, rfl⟩ | ⟨rfl, rfl, rfl⟩ | ⟨rfl, rfl, rfl⟩ | ⟨rfl, rfl, rfl⟩ | ⟨rfl, rfl, rfl⟩ | ⟨rfl, rfl, rfl⟩ | ⟨rfl, rfl, rfl⟩ <;> exact ⟨rfl, rfl⟩
theorem form_le (op : Int) : formV op ≤ 7 := by
 unfold formV
 split
 ·omega
 ·split
  ·omega
  ·split
   ·rename_i h
    have := op_form h
    omega
   ·omega
theorem ploop_stop {rec : Nat → List Tok → Rd Ex} {sym : List Tok → Option (Int × Nat)} {form k own : Nat} {e : Ex} {l : List Tok} (h : ∀ op g, sym l = some (op, g) → g < form ∨ own < g ∨ (own = 4 ∧ g = 4)) : ploop sym rec form k own e l = .ok e l := by
 cases k with
 | zero => rfl
 | succ k =>
  simp only [ploop]
  cases hs : sym l with
  | none => rfl
  | some q =>
   obtain ⟨op, g⟩ := q
   simp only
   rw [if_pos (h op g hs)]
theorem co_fuel {rec : Nat → List Tok → Rd Ex} {sym : List Tok → Option (Int × Nat)} (h : Parts rec sym) {form k k' own : Nat} {e : Ex} {l : List Tok} (hk : l.length < k) (hk' : l.length < k') (ho : own ≤ 7) : ploop sym rec form k own e l = ploop sym rec form k' own e l := by
 rw [ploop_down h form k l.length k own e l (Nat.le_refl _) hk hk ho, ploop_down h form k l.length k' own e l (Nat.le_refl _) hk' hk ho]
theorem co_parts (n : Nat) : Parts (rdE n) symP := pexp_parts (syn_base nameV) n
theorem rd_step (n f : Nat) (l : List Tok) : rdE (n + 1) f l = (prfx (primP nameV) ifP notP (rdE n) f l).then fun x t => ploop symP (rdE n) f (t.length + 1) x.2 x.1 t := rfl
theorem rd_prim {n f : Nat} {l t : List Tok} {e : Ex} (h1 : isT l w_if = false) (h2 : isT l w_not = false) (hp : primP nameV (rdE n) l = .ok e t) : rdE (n + 1) f l = ploop symP (rdE n) f (t.length + 1) 7 e t := by
 rw [rd_step]
 have : prfx (primP nameV) ifP notP (rdE n) f l = .ok (e, 7) t := by
  unfold prfx ifP notP
  simp only [h1, h2, Bool.false_eq_true, if_false, ite_self, hp, then_ok]
 rw [this, then_ok]
def ownV (e : Ex) (f : Nat) : Nat := if formV e.op < f then 7 else formV e.op
structure Behind (own : Nat) (r : List Tok) : Prop where
 sym : ∀ op g, symP r = some (op, g) → g ≤ own
 cents : isT r w_cents = false
 minutes : isT r w_minutes = false
structure Halt (f : Nat) (r : List Tok) : Prop where
 sym : ∀ op g, symP r = some (op, g) → g < f
 cents : isT r w_cents = false
 minutes : isT r w_minutes = false
def Body (e : Ex) : Prop := ∀ n f r, f ≤ formV e.op → Behind (formV e.op) r → (e.toks itoaB 0).length ≤ n → rdE (n + 1) f (e.toks itoaB 0 ++ r) = ploop symP (rdE n) f (r.length + 1) (formV e.op) e r
theorem own_le (e : Ex) {f : Nat} (h : f ≤ 7) : f ≤ ownV e f ∧ ownV e f ≤ 7 := by
 unfold ownV
 have := form_le e.op
 split <;> omega
theorem stop_closer {f : Nat} {r : List Tok} (h : symP r = none) (h1 : isT r w_cents = false) (h2 : isT r w_minutes = false) : Halt f r := ⟨fun op g hs => (by rw [h] at hs; cases hs), h1, h2⟩
theorem rp_stop (f : Nat) (r : List Tok) : Halt f (signT w_rp :: r) := stop_closer rfl rfl rfl
theorem want_is {t : Tok} {r : List Tok} (hk : t.k ≠ 3) : want (t :: r) t.s = .ok () r := by
 unfold want
 rw [isT_is t r hk]
 rfl
theorem Body.read0 {e : Ex} (h : Body e) {n : Nat} {r : List Tok} (hs : Halt 0 r) (hn : (e.toks itoaB 0).length < n) : rdE n 0 (e.toks itoaB 0 ++ r) = .ok e r := by
 obtain ⟨n, rfl⟩ : ∃ m, n = m + 1 := ⟨n - 1, by omega⟩
 rw [h n 0 r (Nat.zero_le _) ⟨fun op g hg => by have := hs.sym op g hg; omega, hs.cents, hs.minutes⟩ (by omega)]
 exact ploop_stop fun op g hg => .inl (hs.sym op g hg)
theorem Body.whole {e : Ex} (h : Body e) {n f f' : Nat} {r : List Tok} (h1 : f ≤ f') (h2 : f' ≤ 7) (ha : Behind (ownV e f') r) (hn : (e.toks itoaB f').length ≤ n) : rdE (n + 1) f (e.toks itoaB f' ++ r) = ploop symP (rdE n) f (r.length + 1) (ownV e f') e r := by
 by_cases hf : formV e.op < f'
 ·have ho : ownV e f' = 7 := by unfold ownV; rw [if_pos hf]
  rw [toks_par itoaB hf] at hn ⊢
  simp only [List.length_cons, List.length_append, List.length_nil] at hn
  rw [ho]
  refine rd_prim rfl rfl ?_
  have hr := h.read0 (n := n) (rp_stop 0 r) (by omega)
  have e1 : signT w_lp :: (e.toks itoaB 0 ++ [signT w_rp]) ++ r = signT w_lp :: (e.toks itoaB 0 ++ signT w_rp :: r) := by simp
  rw [e1]
  have e2 : primP nameV (rdE n) (signT w_lp :: (e.toks itoaB 0 ++ signT w_rp :: r)) = (rdE n 0 (e.toks itoaB 0 ++ signT w_rp :: r)).then fun e l => (want l w_rp).then fun _ l => .ok e l := rfl
  rw [e2, hr, then_ok, want_is (t := signT w_rp) (by decide), then_ok]
 ·have ho : ownV e f' = formV e.op := by unfold ownV; rw [if_neg hf]
  rw [ho] at ha ⊢
  rw [toks_in itoaB (by omega)] at hn ⊢
  exact h n f r (by omega) ha hn
theorem Body.read {e : Ex} (h : Body e) {n f : Nat} {r : List Tok} (h2 : f ≤ 7) (hs : Halt f r) (hn : (e.toks itoaB f).length < n) : rdE n f (e.toks itoaB f ++ r) = .ok e r := by
 obtain ⟨n, rfl⟩ : ∃ m, n = m + 1 := ⟨n - 1, by omega⟩
 have ho := own_le e h2
 rw [h.whole (Nat.le_refl _) h2 ⟨fun op g hg => by have := hs.sym op g hg; omega, hs.cents, hs.minutes⟩ (by omega)]
 exact ploop_stop fun op g hg => .inl (hs.sym op g hg)
theorem body_leaf {op : Int} {s : ByteArray} (ho : op = 1 ∨ op = 2 ∨ op = 3) (hs : nameV s = true) : Body (.mk op 0 0 s []) := by
 have hne : ∀ w, nameV w = false → decide (s = w) = false := fun w hw => decide_eq_false fun e => by rw [e, hw] at hs; cases hs
 have hnm : ∀ l, nameP nameV (wordT s :: l) = .ok s l := fun l => by
  unfold nameP
  rw [nxt_cons, if_pos ⟨rfl, hs⟩]
  rfl
 have hf : formV (Ex.mk op 0 0 s []).op = 7 := by
  show formV op = 7
  rcases ho with rfl | rfl | rfl <;> rfl
 intro n f r h1 h2 h3
 rw [hf]
 rw [leaf_toks _ _ _ _ ho _ (by omega)]
 rcases ho with rfl | rfl | rfl
 ·rw [if_pos rfl]
  have hT : ∀ w, nameV w = false → isT (wordT s :: r) w = false := fun w hw => by rw [isT_cons]; simp only [hne w hw, Bool.and_false]
  refine rd_prim (hT _ (by decide)) (hT _ (by decide)) ?_
  show primP nameV (rdE n) (wordT s :: r) = _
  unfold primP
  rw [if_neg (by rw [nxt_cons]; exact (by decide : ¬ (0 : Int) = 1)), hT w_true (by decide), hT w_false (by decide), hT w_trip (by decide), hT w_member (by decide), hT w_min (by decide), hT w_max (by decide), hT w_lp (by decide)]
  simp only [Bool.false_eq_true, if_false]
  rw [hnm]
  rfl
 ·rw [if_neg (by decide), if_pos rfl]
  refine rd_prim rfl rfl ?_
  have e2 : primP nameV (rdE n) ([wordT w_trip, wordT s] ++ r) = (nameP nameV (wordT s :: r)).then fun s l => .ok (leafE 2 s) l := rfl
  rw [e2, hnm]
  rfl
 ·rw [if_neg (by decide), if_neg (by decide)]
  refine rd_prim rfl rfl ?_
  have e2 : primP nameV (rdE n) ([wordT w_member, wordT s] ++ r) = (nameP nameV (wordT s :: r)).then fun s l => .ok (leafE 3 s) l := rfl
  rw [e2, hnm]
  rfl
theorem dec_first {u : Nat} : ∃ c r, Lib.decDigits u = c :: r ∧ 48 ≤ c.toNat ∧ c.toNat ≤ 57 := by
 induction u using Nat.strongRecOn with
 | _ u ih =>
  by_cases h : u < 10
  ·refine ⟨_, [], dec_one h, ?_⟩
   rw [dig_byte h]
   omega
  ·obtain ⟨c, r, h1, h2⟩ := ih (u / 10) (by omega)
   exact ⟨c, r ++ [UInt8.ofNat (48 + u % 10)], by rw [dec_more h, h1]; rfl, h2⟩
theorem itoa_ne {n : Int} (h : 0 ≤ n) {c : UInt8} {r : List UInt8} (hc : ¬ (48 ≤ c.toNat ∧ c.toNat ≤ 57)) : itoaB n ≠ ⟨⟨c :: r⟩⟩ := by
 intro e
 obtain ⟨d, q, h1, h2, h3⟩ := dec_first (u := n.toNat)
 rw [itoaB_pos h, B, h1] at e
 have : d = c := by
  have := congrArg (fun b => b.data.toList.head?) e
  simpa using this
 subst this
 exact hc ⟨h2, h3⟩
theorem body_num {n u : Int} (h : numRight n u ⟨#[]⟩ = true) : Body (.mk 0 n u ⟨#[]⟩ []) := by
 unfold numRight at h
 simp only [Bool.and_eq_true, decide_eq_true_eq] at h
 obtain ⟨⟨_, hu0, hu3⟩, hn0, hn1⟩ := h
 intro m f r h1 h2 h3
 have hf : formV (Ex.mk 0 n u ⟨#[]⟩ []).op = 7 := rfl
 rw [hf]
 rw [num_toks _ _ _ _ _ (by omega)]
 have hk : ∀ (l : List Tok), (isT (⟨1, itoaB n, n, 0⟩ :: l) w_if = false ∧ isT (⟨1, itoaB n, n, 0⟩ :: l) w_not = false) ∧ primP nameV (rdE m) (⟨1, itoaB n, n, 0⟩ :: l) = .ok (numE n (unitP l).1) (unitP l).2 := fun l => by
  refine ⟨⟨?_, ?_⟩, rfl⟩
  ·rw [isT_cons, decide_eq_false (itoa_ne hn0 (c := 105) (by decide)), Bool.and_false]
  ·rw [isT_cons, decide_eq_false (itoa_ne hn0 (c := 110) (by decide)), Bool.and_false]
 unfold numToks
 by_cases hu : u = 3
 ·subst hu
  rw [if_pos rfl] at hn1 ⊢
  by_cases hn : n = 1
  ·subst hn
   exact rd_prim rfl rfl rfl
  ·obtain rfl : n = 0 := by omega
   exact rd_prim rfl rfl rfl
 ·rw [if_neg hu]
  by_cases h4 : u = 1
  ·subst h4
   obtain ⟨⟨k1, k2⟩, k3⟩ := hk (wordT w_cents :: r)
   exact rd_prim k1 k2 k3
  ·rw [if_neg h4]
   by_cases h5 : u = 2
   ·subst h5
    obtain ⟨⟨k1, k2⟩, k3⟩ := hk (wordT w_minutes :: r)
    exact rd_prim k1 k2 k3
   ·rw [if_neg h5]
    obtain rfl : u = 0 := by omega
    obtain ⟨⟨k1, k2⟩, k3⟩ := hk r
    refine rd_prim k1 k2 ?_
    show primP nameV (rdE m) (⟨1, itoaB n, n, 0⟩ :: r) = _
    rw [k3]
    have : unitP r = (0, r) := by
     unfold unitP
     simp only [h2.cents, h2.minutes, Bool.false_eq_true, if_false]
    rw [this]
    rfl
theorem body_not {x : Ex} (h : Body x) : Body (.mk 12 0 0 ⟨#[]⟩ [x]) := by
 intro n f r h1 h2 h3
 have hf : formV (Ex.mk 12 0 0 ⟨#[]⟩ [x]).op = 3 := rfl
 rw [hf] at h1 h2 ⊢
 rw [not_toks] at h3 ⊢
 rw [List.length_cons] at h3
 have hr := h.read (n := n) (f := 3) (r := r) (by omega) ⟨fun op g hg => by have := h2.sym op g hg; have := sym_le hg; omega, h2.cents, h2.minutes⟩ (by omega)
 have hp : prfx (primP nameV) ifP notP (rdE n) f (wordT w_not :: x.toks itoaB 3 ++ r) = .ok (.mk 12 0 0 ⟨#[]⟩ [x], 3) r := by
  have e1 : ifP (rdE n) (wordT w_not :: x.toks itoaB 3 ++ r) = none := rfl
  have e2 : notP (rdE n) (wordT w_not :: x.toks itoaB 3 ++ r) = some ((rdE n 3 (x.toks itoaB 3 ++ r)).then fun a l => .ok (.mk 12 0 0 ⟨#[]⟩ [a]) l) := rfl
  unfold prfx
  rw [e1, e2, hr]
  simp only [ite_self]
  rw [if_pos h1]
  rfl
 rw [rd_step, hp, then_ok]
theorem body_if {x y z : Ex} (hx : Body x) (hy : Body y) (hz : Body z) : Body (.mk 15 0 0 ⟨#[]⟩ [x, y, z]) := by
 intro n f r h1 h2 h3
 have hf : formV (Ex.mk 15 0 0 ⟨#[]⟩ [x, y, z]).op = 0 := rfl
 rw [hf] at h1 h2 ⊢
 obtain rfl : f = 0 := by omega
 rw [if_toks] at h3 ⊢
 simp only [List.length_cons, List.length_append] at h3
 have h0 : Halt 0 r := ⟨fun op g hg => by have := h2.sym op g hg; have := sym_le hg; omega, h2.cents, h2.minutes⟩
 have hrz := hz.read0 (n := n) h0 (by omega)
 have hry := hy.read0 (n := n) (r := wordT w_else :: (z.toks itoaB 0 ++ r)) (stop_closer rfl rfl rfl) (by omega)
 have hrx := hx.read0 (n := n) (r := wordT w_then :: (y.toks itoaB 0 ++ wordT w_else :: (z.toks itoaB 0 ++ r))) (stop_closer rfl rfl rfl) (by omega)
 have e0 : wordT w_if :: (x.toks itoaB 0 ++ wordT w_then :: (y.toks itoaB 0 ++ wordT w_else :: z.toks itoaB 0)) ++ r = wordT w_if :: (x.toks itoaB 0 ++ wordT w_then :: (y.toks itoaB 0 ++ wordT w_else :: (z.toks itoaB 0 ++ r))) := by simp
 rw [e0]
 generalize x.toks itoaB 0 ++ wordT w_then :: (y.toks itoaB 0 ++ wordT w_else :: (z.toks itoaB 0 ++ r)) = X at hrx
 have hp : prfx (primP nameV) ifP notP (rdE n) 0 (wordT w_if :: X) = .ok (.mk 15 0 0 ⟨#[]⟩ [x, y, z], 0) r := by
  have e1 : ifP (rdE n) (wordT w_if :: X) = some ((rdE n 0 X).then fun a l => (want l w_then).then fun _ l => (rdE n 0 l).then fun b l => (want l w_else).then fun _ l => (rdE n 0 l).then fun c l => .ok (.mk 15 0 0 ⟨#[]⟩ [a, b, c]) l) := rfl
  unfold prfx
  rw [e1, hrx, then_ok, want_is (t := wordT w_then) (by decide), then_ok, hry, then_ok, want_is (t := wordT w_else) (by decide), then_ok, hrz]
  rfl
 rw [rd_step, hp, then_ok]
theorem body_call {op : Int} (ho : op = 8 ∨ op = 9) {x y : Ex} (hx : Body x) (hy : Body y) : Body (two op x y) := by
 intro n f r h1 h2 h3
 have hf : formV (two op x y).op = 7 := by
  show formV op = 7
  rcases ho with rfl | rfl <;> rfl
 rw [hf] at h1 h2 ⊢
 rw [call_toks ho] at h3 ⊢
 simp only [List.length_cons, List.length_append, List.length_nil] at h3
 have hry := hy.read0 (n := n) (r := signT w_rp :: r) (rp_stop 0 r) (by omega)
 have hrx := hx.read0 (n := n) (r := signT w_comma :: (y.toks itoaB 0 ++ signT w_rp :: r)) (stop_closer rfl rfl rfl) (by omega)
 have hb : ∀ op, both (rdE n) op (signT w_lp :: (x.toks itoaB 0 ++ signT w_comma :: (y.toks itoaB 0 ++ signT w_rp :: r))) = .ok (two op x y) r := fun op => by
  unfold both
  rw [want_is (t := signT w_lp) (by decide), then_ok, hrx, then_ok, want_is (t := signT w_comma) (by decide), then_ok, hry, then_ok, want_is (t := signT w_rp) (by decide), then_ok]
 rcases ho with rfl | rfl
 ·rw [if_pos rfl]
  refine rd_prim rfl rfl ?_
  have e0 : wordT w_min :: signT w_lp :: (x.toks itoaB 0 ++ signT w_comma :: (y.toks itoaB 0 ++ [signT w_rp])) ++ r = wordT w_min :: signT w_lp :: (x.toks itoaB 0 ++ signT w_comma :: (y.toks itoaB 0 ++ signT w_rp :: r)) := by simp
  rw [e0]
  exact hb 8
 ·rw [if_neg (by decide)]
  refine rd_prim rfl rfl ?_
  have e0 : wordT w_max :: signT w_lp :: (x.toks itoaB 0 ++ signT w_comma :: (y.toks itoaB 0 ++ [signT w_rp])) ++ r = wordT w_max :: signT w_lp :: (x.toks itoaB 0 ++ signT w_comma :: (y.toks itoaB 0 ++ signT w_rp :: r)) := by simp
  rw [e0]
  exact hb 9
theorem body_op {op : Int} {t : Tok} {g : Nat} (ho : opInfo op = some (t, g)) {x y : Ex} (hx : Body x) (hy : Body y) : Body (two op x y) := by
 intro n f r h1 h2 h3
 obtain ⟨hg, g1, g6, g3⟩ := op_form ho
 have hf : formV (two op x y).op = g := hg
 rw [hf] at h1 h2 ⊢
 rw [op_toks ho] at h3 ⊢
 simp only [List.length_cons, List.length_append] at h3
 have e0 : x.toks itoaB (leftV g) ++ t :: y.toks itoaB (g + 1) ++ r = x.toks itoaB (leftV g) ++ t :: (y.toks itoaB (g + 1) ++ r) := by simp
 rw [e0]
 have hl : g ≤ leftV g ∧ leftV g ≤ 7 ∧ (g = 4 → leftV g = 5) := by unfold leftV; split <;> omega
 have hox := own_le x hl.2.1
 have hs := sym_next ho (y.toks itoaB (g + 1) ++ r)
 have hp := op_plain ho (y.toks itoaB (g + 1) ++ r)
 rw [hx.whole (f := f) (f' := leftV g) (by omega) hl.2.1 ⟨fun op' g' hg' => by rw [hs] at hg'; cases hg'; omega, hp.1, hp.2⟩ (by omega)]
 have hry := hy.read (n := n) (f := g + 1) (r := r) (by omega) ⟨fun op' g' hg' => by have := h2.sym op' g' hg'; omega, h2.cents, h2.minutes⟩ (by omega)
 rw [ploop, hs]
 simp only
 rw [if_neg (by omega)]
 have e1 : (t :: (y.toks itoaB (g + 1) ++ r)).drop 1 = y.toks itoaB (g + 1) ++ r := rfl
 rw [e1, hry, then_ok]
 exact co_fuel (co_parts n) (by simp only [List.length_cons, List.length_append]; omega) (by omega) (by omega)
theorem body_all : ∀ (d : Nat) (e : Ex), e.right d = true → Body e
 | 0, e, h => by rw [right_zero] at h; cases h
 | d + 1, e, h => by
  have ih := body_all d
  rcases right_shape h with ⟨n, u, rfl, h'⟩ | ⟨op, s, ho, rfl, h'⟩ | ⟨x, rfl, hx⟩ | ⟨x, y, z, rfl, hx, hy, hz⟩ | ⟨op, x, y, ho, rfl, hx, hy⟩ | ⟨op, x, y, t, g, ho, rfl, hx, hy⟩
  ·exact body_num h'
  ·exact body_leaf ho h'
  ·exact body_not (ih x hx)
  ·exact body_if (ih x hx) (ih y hy) (ih z hz)
  ·exact body_call ho (ih x hx) (ih y hy)
  ·exact body_op ho (ih x hx) (ih y hy)
end Go.Proofs.YtedoeogopmenpaaGreatDoor
end
section
namespace Go.Proofs.YtedoeogopmenpaaGreatDoor
theorem ext_all (s : ByteArray) : s.extract 0 s.size = s := by
 apply ba_ext
 simp [ByteArray.data_extract]
theorem tk_word {s : ByteArray} (h : wordB s = true) : Tk (wordT s) := by
 simp only [wordB, Bool.and_eq_true, Bool.not_eq_true', decide_eq_false_iff_not, decide_eq_true_eq] at h
 obtain ⟨⟨⟨h1, h2⟩, h3⟩, h4⟩ := h
 have hs := nonempty h1
 have := token_word (s := s) (p := 0) (k := s.size) h2 hs (Nat.le_refl _) (by rw [ext_all, h4]; rfl)
 rw [if_pos (by omega), ext_all] at this
 exact ⟨this, hs, (by decide : ¬ (0 : Int) = 3)⟩
theorem tk_sign {s : ByteArray} (hl : letterB (bAt s 0) = false) (hd : digitB (bAt s 0) = false) (h0 : 0 < s.size) (h : signTo s 0 = s.size) : Tk (signT s) := by
 have := token_sign (s := s) (p := 0) hl hd h0
 rw [h, if_neg (by omega), Int.toNat_natCast, Nat.zero_add, ext_all] at this
 exact ⟨this, h0, (by decide : ¬ (2 : Int) = 3)⟩
theorem tk_name {s : ByteArray} (h : nameV s = true) : Tk (wordT s) := by
 unfold nameV at h
 rw [Bool.and_eq_true] at h
 exact tk_word h.1
theorem dec_digits {u : Nat} : ∀ c ∈ Lib.decDigits u, digitB c = true := by
 have hd : ∀ v : Nat, v < 10 → digitB (UInt8.ofNat (48 + v)) = true := fun v hv => by
  simp only [digitB, Bool.and_eq_true, decide_eq_true_eq, dig_byte hv]
  omega
 induction u using Nat.strongRecOn with
 | _ u ih =>
  by_cases h : u < 10
  ·rw [dec_one h]
   intro c hc
   obtain rfl := List.mem_singleton.1 hc
   exact hd u h
  ·rw [dec_more h]
   intro c hc
   rcases List.mem_append.1 hc with hc | hc
   ·exact ih (u / 10) (by omega) c hc
   ·obtain rfl := List.mem_singleton.1 hc
    exact hd _ (by omega)
theorem dec_head {u : Nat} (hu : 0 < u) : ∃ c r, Lib.decDigits u = c :: r ∧ c.toNat ≠ 48 := by
 induction u using Nat.strongRecOn with
 | _ u ih =>
  by_cases h : u < 10
  ·refine ⟨_, [], dec_one h, ?_⟩
   rw [dig_byte h]
   omega
  ·obtain ⟨c, r, h1, h2⟩ := ih (u / 10) (by omega) (by omega)
   exact ⟨c, r ++ [UInt8.ofNat (48 + u % 10)], by rw [dec_more h, h1]; rfl, h2⟩
theorem bAt_B {l : List UInt8} {j : Nat} (h : j < l.length) : bAt (B l) j = l[j] := by rw [bAt_eq _ _ (by simpa using h)]
theorem numTo_same {s t : ByteArray} : ∀ k, (∀ j, j < k → bAt s j = bAt t j) → numTo s k = numTo t k
 | 0, _ => rfl
 | k + 1, h => by
  simp only [numTo]
  rw [numTo_same k fun j hj => h j (by omega), h k (by omega)]
theorem numTo_dec (u : Nat) : numTo (B (Lib.decDigits u)) (Lib.decDigits u).length = u := by
 induction u using Nat.strongRecOn with
 | _ u ih =>
  by_cases h : u < 10
  ·rw [dec_one h]
   simp only [List.length_singleton, numTo]
   rw [bAt_B (by simp)]
   simp only [List.getElem_cons_zero, dig_byte h]
   omega
  ·have hi := ih (u / 10) (by omega)
   rw [dec_more h, List.length_append, List.length_singleton]
   simp only [numTo]
   rw [numTo_same (t := B (Lib.decDigits (u / 10))) _ (fun j hj => by rw [bAt_B (by simp; omega), bAt_B hj, List.getElem_append_left hj]), hi, bAt_B (by simp)]
   simp only [List.getElem_append_right (Nat.le_refl _), Nat.sub_self, List.getElem_cons_zero, dig_byte (show u % 10 < 10 by omega)]
   omega
theorem tk_num {n : Int} (h0 : 0 ≤ n) (h1 : n ≤ 1000000000000000) : Tk ⟨1, itoaB n, n, 0⟩ := by
 obtain ⟨u, rfl⟩ : ∃ u : Nat, n = u := ⟨n.toNat, by omega⟩
 rw [itoaB_pos h0, Int.toNat_natCast]
 have hz : (B (Lib.decDigits u)).size = (Lib.decDigits u).length := List.size_toArray
 have hall : ∀ j, j < (B (Lib.decDigits u)).size → digitB (bAt (B (Lib.decDigits u)) j) = true := fun j hj => by
  rw [bAt_B (by omega)]
  exact dec_digits _ (List.getElem_mem _)
 have hn := numTo_dec u
 rw [← hz] at hn
 obtain ⟨c, r, hc, _⟩ := dec_first (u := u)
 have hpos : 0 < (B (Lib.decDigits u)).size := by rw [hz, hc]; simp
 have hd := hall 0 hpos
 have hl : letterB (bAt (B (Lib.decDigits u)) 0) = false := by
  have := digit_bd hd
  simp only [letterB, Bool.and_eq_false_iff, decide_eq_false_iff_not]
  omega
 have hok : numOk (B (Lib.decDigits u)) = true := by
  refine numOk_yes hpos (pre_all hall) ?_ (by rw [hn]; exact h1)
  by_cases h : u < 10
  ·left
   rw [hz, dec_one h]
   rfl
  ·right
   obtain ⟨d, q, hq, hne⟩ := dec_head (u := u) (by omega)
   have : bAt (B (Lib.decDigits u)) 0 = d := by
    rw [bAt_B (by rw [hq]; simp)]
    simp only [hq, List.getElem_cons_zero]
   rw [this]
   exact hne
 have := token_num (s := B (Lib.decDigits u)) (p := 0) (k := (B (Lib.decDigits u)).size) hl hd hpos (Nat.le_refl _) (by rw [ext_all, pre_all hall]; rfl)
 rw [ext_all, hok, if_pos rfl, hn] at this
 exact ⟨this, hpos, (by decide : ¬ (1 : Int) = 3)⟩
inductive LaidL : List UInt8 → List Tok → Prop where
 | nil : LaidL [] []
 | one {t : Tok} (h : Tk t) : LaidL t.s.data.toList [t]
 | cons {t : Tok} {b : UInt8} {bs : List UInt8} {r : List Tok} (h : Tk t) (hb : isBlank b = true) (hr : LaidL bs r) : LaidL (t.s.data.toList ++ b :: bs) (t :: r)
inductive LaidC : List UInt8 → List Tok → Prop where
 | nil : LaidC [] []
 | cons {t : Tok} {b : UInt8} {bs : List UInt8} {r : List Tok} (h : Tk t) (hb : isBlank b = true) (hr : LaidC bs r) : LaidC (t.s.data.toList ++ b :: bs) (t :: r)
theorem LaidC.app {a b : List UInt8} {l m : List Tok} (h : LaidC a l) (h' : LaidC b m) : LaidC (a ++ b) (l ++ m) := by
 induction h with
 | nil => exact h'
 | cons h hb hr ih =>
  rw [List.append_assoc, List.cons_append, List.cons_append]
  exact .cons h hb ih
theorem LaidC.laid {a : List UInt8} {l : List Tok} (h : LaidC a l) : LaidL a l := by
 induction h with
 | nil => exact .nil
 | cons h hb hr ih => exact .cons h hb ih
theorem txt_close : ∀ {l : List Tok} {b : UInt8}, l ≠ [] → (∀ t ∈ l, Tk t) → isBlank b = true → LaidC ((txt l).data.toList ++ [b]) l
 | [], _, h, _, _ => absurd rfl h
 | [t], b, _, h, hb => by rw [txt_one]; exact .cons (h t (by simp)) hb .nil
 | t :: u :: r, b, _, h, hb => by
  rw [txt_cons t (by simp)]
  have e : (t.s ++ (blank1 ++ txt (u :: r))).data.toList ++ [b] = t.s.data.toList ++ 32 :: ((txt (u :: r)).data.toList ++ [b]) := by
   simp [ByteArray.data_append, blank1]
  rw [e]
  exact .cons (h t (by simp)) rfl (txt_close (by simp) (fun x hx => h x (List.mem_cons_of_mem _ hx)) hb)
def spB (c : UInt8) : UInt8 := if c = 32 then 10 else c
theorem tok_in {t : Tok} (ht : Tk t) (a : ByteArray) (c : List UInt8) (hc : ∀ b r, c = b :: r → isBlank b = true) : skip (a ++ B (t.s.data.toList ++ c)) a.size = a.size ∧ tokenV (a ++ B (t.s.data.toList ++ c)) a.size = ({ t with p := (a.size : Int) }, 0) := by
 have hs := ht.2.1
 have hz : (B (t.s.data.toList ++ c)).size = t.s.size + c.length := by
  show (t.s.data.toList ++ c).toArray.size = _
  simp
 have hX : (a ++ B (t.s.data.toList ++ c)).size = a.size + t.s.size + c.length := by rw [ByteArray.size_append, hz]; omega
 have hby : ∀ j, j < t.s.size → bAt (a ++ B (t.s.data.toList ++ c)) (a.size + j) = bAt t.s j := fun j hj => by
  rw [app_right (by omega), bAt_B (by simp; omega), bAt_eq _ _ (by simpa using hj), List.getElem_append_left (by simpa using hj)]
 have h1 : skip (a ++ B (t.s.data.toList ++ c)) a.size = a.size := skip_stop (by omega) (by rw [← Nat.add_zero a.size, hby 0 hs]; exact tk_not_blank ht)
 refine ⟨h1, tok_shift (x := { t with p := 0 }) hs ht.1 ⟨by simp, by simp only; omega, fun j hj => by rw [Nat.zero_add]; exact hby j hj⟩ (fun h => ?_)⟩
 simp only at h ⊢
 cases c with
 | nil => rw [List.length_nil] at hX; omega
 | cons b r =>
  left
  have : bAt (a ++ B (t.s.data.toList ++ b :: r)) (a.size + t.s.size) = b := by
   rw [app_right (by rw [hz]; simp), bAt_B (by simp), List.getElem_append_right (by simp)]
   simp
  rw [this]
  exact hc b r rfl
theorem laid_ok {bs : List UInt8} {l : List Tok} (h : LaidL bs l) (a : ByteArray) : LexOk (a ++ B bs) a.size (lay a.size l ++ [endTok (a ++ B bs).size]) := by
 induction h generalizing a with
 | nil =>
  have e : a ++ B [] = a := by
   apply ba_ext
   simp [ByteArray.data_append]
  rw [e]
  exact .stop _ (Nat.le_refl _) (skip_end a)
 | @one t h =>
  obtain ⟨h1, h2⟩ := tok_in h a [] (by simp)
  rw [List.append_nil] at h1 h2
  have hz : (a ++ B t.s.data.toList).size = a.size + t.s.size := by
   rw [ByteArray.size_append]
  have := h.2.1
  refine .tok _ _ _ (by omega) (by omega) (by rw [h1]; exact h2) ?_
  rw [h1]
  simp only [lay]
  rw [← hz]
  exact .stop _ (Nat.le_refl _) (skip_end _)
 | @cons t b bs r h hb hr ih =>
  obtain ⟨h1, h2⟩ := tok_in h a (b :: bs) (fun _ _ e => by cases e; exact hb)
  have h3 := ih (a ++ t.s ++ ⟨#[b]⟩)
  have e : a ++ t.s ++ ⟨#[b]⟩ ++ B bs = a ++ B (t.s.data.toList ++ b :: bs) := by
   apply ba_ext
   simp [ByteArray.data_append]
  rw [e] at h3
  have e3 : (a ++ t.s ++ ⟨#[b]⟩).size = a.size + t.s.size + 1 := by
   simp only [ByteArray.size_append]
   rfl
  rw [e3] at h3
  have hz : (a ++ B (t.s.data.toList ++ b :: bs)).size = a.size + t.s.size + 1 + bs.length := by
   rw [ByteArray.size_append]
   show a.size + (t.s.data.toList ++ b :: bs).toArray.size = _
   simp
   omega
  have hbl : bAt (a ++ B (t.s.data.toList ++ b :: bs)) (a.size + t.s.size) = b := by
   rw [app_right (by show t.s.size < (t.s.data.toList ++ b :: bs).toArray.size; simp), bAt_B (by simp), List.getElem_append_right (by simp)]
   simp
  have := h.2.1
  refine .tok _ _ _ (by omega) (by omega) (by rw [h1]; exact h2) ?_
  rw [h1]
  refine h3.from (by simp only; omega) ?_
  exact skip_more (by simp only; omega) (by simp only; rw [hbl]; exact hb)
theorem laid_lex {bs : List UInt8} {l : List Tok} (h : LaidL bs l) (hs : bs.length ≤ 4000) : lexV (B bs) = (lay 0 l ++ [endTok bs.length], 0, 0) := by
 have h1 := laid_ok h ⟨#[]⟩
 have e : (⟨#[]⟩ : ByteArray) ++ B bs = B bs := by
  apply ba_ext
  simp [ByteArray.data_append]
 have hz : (B bs).size = bs.length := List.size_toArray
 rw [e, hz] at h1
 exact lexV_ok (by omega) h1
end Go.Proofs.YtedoeogopmenpaaGreatDoor
end
