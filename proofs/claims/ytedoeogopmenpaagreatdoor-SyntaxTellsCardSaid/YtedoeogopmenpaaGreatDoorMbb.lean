/-
  Conditions: none.
-/
import Derived.Test.YtedoeogopmenpaaGreatDoorMba
set_option maxHeartbeats 16000000
set_option maxRecDepth 20000
section
set_option linter.unusedSimpArgs false
set_option linter.unusedVariables false
namespace Go.Proofs.YtedoeogopmenpaaGreatDoor
open Go.RowKit
def parseED (r : Ex × Int × Int) : D := .tup [.agg (exC r.1), .int r.2.1, .int r.2.2]
theorem parseE_any (s : ByteArray) (hs : s.size ≤ 1000000) : PureC 11 [.str s] (· = parseED (parseEV s)) := by
 have hopen := open_any s hs
 rcases hL : lexV s with ⟨L, p, e⟩
 have hV : parseEV s = if e = 0 then (match allP L with
  | .ok x _ => (x, 0, 0)
  | .bad q c => (Ex.zero, q, c)) else (Ex.zero, p, e) := by
  unfold parseEV
  rw [hL]
  rfl
 rw [hL] at hopen
 dsimp only at hopen
 by_cases he : e = 0
 ·subst he
  rw [if_pos rfl] at hV
  obtain ⟨h1, h2, h3, h4, h5, h6, h7⟩ := lex_ready hL
  have r0 := h4.rdy h5
  have at0 : ((atN L L : Nat) : Int) = 0 := by simp [atN]
  have hrd := rec_read r0 h6
  unfold psr at hrd
  rw [at0] at hrd
  have q0 : (!decide ((0 : Int) = 0)) = false := rfl
  unfold allP at hV
  refine pure_enterD Tryz.func11 rfl (by decide) _ Tryz.ntmps11 (le_ok rfl) (fun w Pr hE => ?_)
  dsimp only [slotsOf, Nat.zero_add, Nat.reduceAdd]
  repeat' (first | (apply at_call; refine k_ocall [(16, 30)] (hopen) hE ?_; rintro _ _ ⟨rfl, rfl⟩ <;> (intro _ _ h1 h2; simp only [renEqs, Nat.reduceBEq, renL_app, renL_ds, renL_und] at h1 h2; subst h1 h2)) | (apply at_op (.makeFunc _ _ _); refine al_y (y_clo rfl) (lt_ok rfl) ?_) | refine nx ?_ | apply aq_pq | (apply qr_move; refine r_move ?_) | (apply qr_assign; refine r_assign ?_) | (apply at_cond; first | refine c_t ?_ | refine c_f ?_ | (refine aw_cond rfl (fun hb => ?_) (fun hb => ?_) <;> ((try have hq := dX hb); (try (exfalso; omega))))) | (apply qr_neq; refine r_neq ?_) | (apply qr_extract; refine r_extract ?_) | (apply qr_func; refine r_func ?_) | (apply qr_load; refine r_load ?_) | (apply qr_alloc; refine r_alloc ?_) | (apply qr_store; refine r_store ?_))
  refine al_less (sl' := [(18, .clo (.func 41) [.box 3 0, .box 4 0, .box 2 0]), (5, .box 30 0), (4, .box 4 0), (3, .box 3 0), (2, .box 2 0)]) (ob' := [(30, psB L 0), (2, zeroB), (3, intB p), (4, errB 0)]) (by (repeat (first | exact sub_nil | (apply sub_cons; focus (first | rfl | exact vint (by first | omega) | (simp [look]; done)))))) (by (repeat (first | exact obs_nil | (apply obs_cons; focus (first | rfl | (simp [find]; done)))))) ?_
  refine al_ren 2 1002 rfl rfl ?_
  refine al_less (sl' := [(18, .clo (.func 41) [.box 3 0, .box 4 0, .box 1002 0]), (5, .box 30 0), (4, .box 4 0), (3, .box 3 0), (2, .box 1002 0)]) (ob' := [(30, psB L 0), (1002, zeroB), (3, intB p), (4, errB 0)]) (by (repeat (first | exact sub_nil | (apply sub_cons; focus (first | rfl | exact vint (by first | omega) | (simp [look]; done)))))) (by (repeat (first | exact obs_nil | (apply obs_cons; focus (first | rfl | (simp [find]; done)))))) ?_
  refine al_ren 3 1003 rfl rfl ?_
  refine al_less (sl' := [(18, .clo (.func 41) [.box 1003 0, .box 4 0, .box 1002 0]), (5, .box 30 0), (4, .box 4 0), (3, .box 1003 0), (2, .box 1002 0)]) (ob' := [(30, psB L 0), (1002, zeroB), (1003, intB p), (4, errB 0)]) (by (repeat (first | exact sub_nil | (apply sub_cons; focus (first | rfl | exact vint (by first | omega) | (simp [look]; done)))))) (by (repeat (first | exact obs_nil | (apply obs_cons; focus (first | rfl | (simp [find]; done)))))) ?_
  refine al_ren 4 1004 rfl rfl ?_
  refine al_less (sl' := [(18, .clo (.func 41) [.box 1003 0, .box 1004 0, .box 1002 0]), (5, .box 30 0), (4, .box 1004 0), (3, .box 1003 0), (2, .box 1002 0)]) (ob' := [(30, psB L 0), (1002, zeroB), (1003, intB p), (1004, errB 0)]) (by (repeat (first | exact sub_nil | (apply sub_cons; focus (first | rfl | exact vint (by first | omega) | (simp [look]; done)))))) (by (repeat (first | exact obs_nil | (apply obs_cons; focus (first | rfl | (simp [find]; done)))))) ?_
  refine al_ren 30 1000 rfl rfl ?_
  refine al_less (sl' := [(18, .clo (.func 41) [.box 1003 0, .box 1004 0, .box 1002 0]), (5, .box 1000 0), (4, .box 1004 0), (3, .box 1003 0), (2, .box 1002 0)]) (ob' := [(1000, psB L 0), (1002, zeroB), (1003, intB p), (1004, errB 0)]) (by (repeat (first | exact sub_nil | (apply sub_cons; focus (first | rfl | exact vint (by first | omega) | (simp [look]; done)))))) (by (repeat (first | exact obs_nil | (apply obs_cons; focus (first | rfl | (simp [find]; done)))))) ?_
  refine al_defer rfl hE rfl rfl rfl (fun E' cs en eo hN hE' hdf hcl hcs => ?_)
  obtain ⟨w', Pr', n', ob0', β', κ', df'⟩ := E'
  dsimp only at en eo hdf hcs
  subst en eo hdf
  have hE := hE'
  rcases hx : readE L with ⟨x, t⟩ | ⟨q, c⟩
  ·rw [hx, then_ok] at hV
   have hok := out_ok hrd hx
   have r1 := r0.to (readE_suf hx)
   obtain ⟨o, hd⟩ := readE_der hx
   have hlv := hd.levels
   have hwd := hd.wid
   have hlev := levels_any x.levels x (Nat.le_refl _) (by omega) (by omega)
   have hnx := pnext r1
   by_cases hk : (nxt t).k = 3
   ·have c1 := pcheck_y (L := L) (l := t) 12
    rw [← decide_eq_true hk] at c1
    rw [if_pos hk] at hV
    by_cases hv : x.levels ≤ 12
    ·have c2 := pcheck_y (L := L) (l := t) 6
     rw [← decide_eq_true (show (x.levels : Int) ≤ 12 by omega)] at c2
     rw [if_pos hv] at hV
     repeat' (first | (apply at_call; refine k_ocall [(1000, 1000)] (hok) hE ?_; rintro _ _ ⟨rfl, rfl⟩ <;> (intro _ _ h1 h2; simp only [renEqs, Nat.reduceBEq, renL_app, renL_ds, renL_und] at h1 h2; subst h1 h2)) | (apply at_call; refine k_ocall [(1000, 1000)] (hnx) hE ?_; rintro _ _ ⟨rfl, rfl⟩ <;> (intro _ _ h1 h2; simp only [renEqs, Nat.reduceBEq, renL_app, renL_ds, renL_und] at h1 h2; subst h1 h2)) | (apply at_call; refine k_ocall [(1000, 1000)] (c1) hE ?_; rintro _ _ ⟨rfl, rfl⟩ <;> (intro _ _ h1 h2; simp only [renEqs, Nat.reduceBEq, renL_app, renL_ds, renL_und] at h1 h2; subst h1 h2)) | (apply at_call; refine k_call (hlev) hE ?_; rintro _ rfl) | (apply at_call; refine k_ocall [(1000, 1000)] (c2) hE ?_; rintro _ _ ⟨rfl, rfl⟩ <;> (intro _ _ h1 h2; simp only [renEqs, Nat.reduceBEq, renL_app, renL_ds, renL_und] at h1 h2; subst h1 h2)) | refine nx ?_ | apply aq_pq | (apply qr_move; refine r_move ?_) | (apply at_cond; first | refine c_t ?_ | refine c_f ?_ | (refine aw_cond rfl (fun hb => ?_) (fun hb => ?_) <;> ((try have hq := dX hb); (try (exfalso; omega))))) | (apply qr_leq; refine r_leq ?_) | (apply qr_eql; refine r_eql ?_) | (apply qr_load; refine r_load ?_) | (apply qr_field; refine r_field ?_) | (apply qr_alloc; refine r_alloc ?_) | (apply qr_store; refine r_store ?_))
     refine aq_less (sl' := [(4, .box 1004 0), (3, .box 1003 0), (2, .box 1002 0)]) (ob' := [(1003, intB 0), (1004, errB 0), (1002, exB x)]) (by (repeat (first | exact sub_nil | (apply sub_cons; focus (first | rfl | exact vint (by first | omega) | (simp [look]; done)))))) (by (repeat (first | exact obs_nil | (apply obs_cons; focus (first | rfl | (simp [find]; done)))))) ?_
     refine aq_leave (.inl ⟨rfl, rfl⟩) rfl hN hE' rfl hcl hcs rfl (parseE1_no 0 0 _ rfl) rfl rfl (fun E'' ob'' k1 k2 hN'' ho => ?_) (fun _ _ => trivial)
     subst ho
     rw [hV]
     exact retN3 hN'' rfl (by first | exact ResX.tmp _ _ (by first | exact ToD.d _ | exact ToD.row _ _ _ _ _ rfl) | exact ResX.cellA _ _ _ _ _ _ _ rfl rfl rfl (by first | (simp only [normV, normList, normMap]; rfl) | rfl) rfl | exact ResX.cell1 _ _ _ _ _ _ rfl rfl rfl (by first | exact ToD.d _ | exact ToD.row _ _ _ _ _ rfl)) (by first | exact ResX.tmp _ _ (by first | exact ToD.d _ | exact ToD.row _ _ _ _ _ rfl) | exact ResX.cellA _ _ _ _ _ _ _ rfl rfl rfl (by first | (simp only [normV, normList, normMap]; rfl) | rfl) rfl | exact ResX.cell1 _ _ _ _ _ _ rfl rfl rfl (by first | exact ToD.d _ | exact ToD.row _ _ _ _ _ rfl)) (by first | exact ResX.tmp _ _ (by first | exact ToD.d _ | exact ToD.row _ _ _ _ _ rfl) | exact ResX.cellA _ _ _ _ _ _ _ rfl rfl rfl (by first | (simp only [normV, normList, normMap]; rfl) | rfl) rfl | exact ResX.cell1 _ _ _ _ _ _ rfl rfl rfl (by first | exact ToD.d _ | exact ToD.row _ _ _ _ _ rfl)) rfl k1
    ·have c2 := pcheck_n r1 6
     rw [← decide_eq_false (show ¬ (x.levels : Int) ≤ 12 by omega)] at c2
     rw [if_neg hv] at hV
     repeat' (first | (apply at_call; refine k_ocall [(1000, 1000)] (hok) hE ?_; rintro _ _ ⟨rfl, rfl⟩ <;> (intro _ _ h1 h2; simp only [renEqs, Nat.reduceBEq, renL_app, renL_ds, renL_und] at h1 h2; subst h1 h2)) | (apply at_call; refine k_ocall [(1000, 1000)] (hnx) hE ?_; rintro _ _ ⟨rfl, rfl⟩ <;> (intro _ _ h1 h2; simp only [renEqs, Nat.reduceBEq, renL_app, renL_ds, renL_und] at h1 h2; subst h1 h2)) | (apply at_call; refine k_ocall [(1000, 1000)] (c1) hE ?_; rintro _ _ ⟨rfl, rfl⟩ <;> (intro _ _ h1 h2; simp only [renEqs, Nat.reduceBEq, renL_app, renL_ds, renL_und] at h1 h2; subst h1 h2)) | (apply at_call; refine k_call (hlev) hE ?_; rintro _ rfl) | refine nx ?_ | apply aq_pq | (apply qr_move; refine r_move ?_) | (apply at_cond; first | refine c_t ?_ | refine c_f ?_ | (refine aw_cond rfl (fun hb => ?_) (fun hb => ?_) <;> ((try have hq := dX hb); (try (exfalso; omega))))) | (apply qr_leq; refine r_leq ?_) | (apply qr_eql; refine r_eql ?_) | (apply qr_load; refine r_load ?_) | (apply qr_field; refine r_field ?_) | (apply qr_alloc; refine r_alloc ?_) | (apply qr_store; refine r_store ?_))
     refine al_pcall [(1000, 1000)] c2 rfl hE (lt_ok rfl) (by (repeat (first | refine ArgsV.cons (.same _ _ rfl) ?_ | refine ArgsV.cons (.toD _ _ (by first | exact ToD.d _ | exact ToD.row _ _ _ _ _ rfl | exact ToD.nil _)) ?_)); exact ArgsV.nil) ⟨obs_cons rfl obs_nil, rfl, rfl, rfl, rfl⟩ (fun v hv => ?_) (fun _ _ h => h.elim)
     subst hv
     repeat (first | refine aq_then_p ?_ | refine aq_block_p ?_)
     refine aq_less (sl' := [(4, .box 1004 0), (3, .box 1003 0), (2, .box 1002 0)]) (ob' := [(1003, intB p), (1004, errB 0), (1002, zeroB)]) (by (repeat (first | exact sub_nil | (apply sub_cons; focus (first | rfl | exact vint (by first | omega) | (simp [look]; done)))))) (by (repeat (first | exact obs_nil | (apply obs_cons; focus (first | rfl | (simp [find]; done)))))) ?_
     refine aq_leave (.inr ⟨_, rfl, rfl⟩) (settle_caught (nxt t).p 6) hN hE' rfl hcl hcs rfl (parseE1_yes (nxt t).p 6 p 0 _ rfl) rfl rfl (fun E'' ob'' k1 k2 hN'' ho => ?_) (fun _ _ => trivial)
     subst ho
     rw [hV]
     refine aq_nilcell 1002 4 5 rfl rfl rfl ?_
     exact retN3 hN'' rfl (by first | exact ResX.tmp _ _ (by first | exact ToD.d _ | exact ToD.row _ _ _ _ _ rfl) | exact ResX.cellA _ _ _ _ _ _ _ rfl rfl rfl (by first | (simp only [normV, normList, normMap]; rfl) | rfl) rfl | exact ResX.cell1 _ _ _ _ _ _ rfl rfl rfl (by first | exact ToD.d _ | exact ToD.row _ _ _ _ _ rfl)) (by first | exact ResX.tmp _ _ (by first | exact ToD.d _ | exact ToD.row _ _ _ _ _ rfl) | exact ResX.cellA _ _ _ _ _ _ _ rfl rfl rfl (by first | (simp only [normV, normList, normMap]; rfl) | rfl) rfl | exact ResX.cell1 _ _ _ _ _ _ rfl rfl rfl (by first | exact ToD.d _ | exact ToD.row _ _ _ _ _ rfl)) (by first | exact ResX.tmp _ _ (by first | exact ToD.d _ | exact ToD.row _ _ _ _ _ rfl) | exact ResX.cellA _ _ _ _ _ _ _ rfl rfl rfl (by first | (simp only [normV, normList, normMap]; rfl) | rfl) rfl | exact ResX.cell1 _ _ _ _ _ _ rfl rfl rfl (by first | exact ToD.d _ | exact ToD.row _ _ _ _ _ rfl)) rfl k1
   ·have c1 := pcheck_n r1 12
    rw [← decide_eq_false hk] at c1
    rw [if_neg hk] at hV
    repeat' (first | (apply at_call; refine k_ocall [(1000, 1000)] (hok) hE ?_; rintro _ _ ⟨rfl, rfl⟩ <;> (intro _ _ h1 h2; simp only [renEqs, Nat.reduceBEq, renL_app, renL_ds, renL_und] at h1 h2; subst h1 h2)) | (apply at_call; refine k_ocall [(1000, 1000)] (hnx) hE ?_; rintro _ _ ⟨rfl, rfl⟩ <;> (intro _ _ h1 h2; simp only [renEqs, Nat.reduceBEq, renL_app, renL_ds, renL_und] at h1 h2; subst h1 h2)) | refine nx ?_ | apply aq_pq | (apply qr_move; refine r_move ?_) | (apply at_cond; first | refine c_t ?_ | refine c_f ?_ | (refine aw_cond rfl (fun hb => ?_) (fun hb => ?_) <;> ((try have hq := dX hb); (try (exfalso; omega))))) | (apply qr_eql; refine r_eql ?_) | (apply qr_field; refine r_field ?_) | (apply qr_alloc; refine r_alloc ?_) | (apply qr_store; refine r_store ?_))
    refine al_pcall [(1000, 1000)] c1 rfl hE (lt_ok rfl) (by (repeat (first | refine ArgsV.cons (.same _ _ rfl) ?_ | refine ArgsV.cons (.toD _ _ (by first | exact ToD.d _ | exact ToD.row _ _ _ _ _ rfl | exact ToD.nil _)) ?_)); exact ArgsV.nil) ⟨obs_cons rfl obs_nil, rfl, rfl, rfl, rfl⟩ (fun v hv => ?_) (fun _ _ h => h.elim)
    subst hv
    repeat (first | refine aq_then_p ?_ | refine aq_block_p ?_)
    refine aq_less (sl' := [(4, .box 1004 0), (3, .box 1003 0), (2, .box 1002 0)]) (ob' := [(1003, intB p), (1004, errB 0), (1002, zeroB)]) (by (repeat (first | exact sub_nil | (apply sub_cons; focus (first | rfl | exact vint (by first | omega) | (simp [look]; done)))))) (by (repeat (first | exact obs_nil | (apply obs_cons; focus (first | rfl | (simp [find]; done)))))) ?_
    refine aq_leave (.inr ⟨_, rfl, rfl⟩) (settle_caught (nxt t).p 12) hN hE' rfl hcl hcs rfl (parseE1_yes (nxt t).p 12 p 0 _ rfl) rfl rfl (fun E'' ob'' k1 k2 hN'' ho => ?_) (fun _ _ => trivial)
    subst ho
    rw [hV]
    refine aq_nilcell 1002 4 5 rfl rfl rfl ?_
    exact retN3 hN'' rfl (by first | exact ResX.tmp _ _ (by first | exact ToD.d _ | exact ToD.row _ _ _ _ _ rfl) | exact ResX.cellA _ _ _ _ _ _ _ rfl rfl rfl (by first | (simp only [normV, normList, normMap]; rfl) | rfl) rfl | exact ResX.cell1 _ _ _ _ _ _ rfl rfl rfl (by first | exact ToD.d _ | exact ToD.row _ _ _ _ _ rfl)) (by first | exact ResX.tmp _ _ (by first | exact ToD.d _ | exact ToD.row _ _ _ _ _ rfl) | exact ResX.cellA _ _ _ _ _ _ _ rfl rfl rfl (by first | (simp only [normV, normList, normMap]; rfl) | rfl) rfl | exact ResX.cell1 _ _ _ _ _ _ rfl rfl rfl (by first | exact ToD.d _ | exact ToD.row _ _ _ _ _ rfl)) (by first | exact ResX.tmp _ _ (by first | exact ToD.d _ | exact ToD.row _ _ _ _ _ rfl) | exact ResX.cellA _ _ _ _ _ _ _ rfl rfl rfl (by first | (simp only [normV, normList, normMap]; rfl) | rfl) rfl | exact ResX.cell1 _ _ _ _ _ _ rfl rfl rfl (by first | exact ToD.d _ | exact ToD.row _ _ _ _ _ rfl)) rfl k1
  ·rw [hx] at hV
   have hbad := out_bad hrd hx
   repeat' (first | refine nx ?_ | apply aq_pq | (apply qr_move; refine r_move ?_) | (apply at_cond; first | refine c_t ?_ | refine c_f ?_ | (refine aw_cond rfl (fun hb => ?_) (fun hb => ?_) <;> ((try have hq := dX hb); (try (exfalso; omega))))) | (apply qr_alloc; refine r_alloc ?_) | (apply qr_store; refine r_store ?_))
   refine al_pcall [(1000, 1000)] hbad rfl hE (lt_ok rfl) (by (repeat (first | refine ArgsV.cons (.same _ _ rfl) ?_ | refine ArgsV.cons (.toD _ _ (by first | exact ToD.d _ | exact ToD.row _ _ _ _ _ rfl | exact ToD.nil _)) ?_)); exact ArgsV.nil) ⟨obs_cons rfl obs_nil, rfl, rfl, rfl, rfl⟩ (fun v hv => ?_) (fun _ _ h => h.elim)
   subst hv
   repeat (first | refine aq_then_p ?_ | refine aq_block_p ?_)
   refine aq_less (sl' := [(4, .box 1004 0), (3, .box 1003 0), (2, .box 1002 0)]) (ob' := [(1003, intB p), (1004, errB 0), (1002, zeroB)]) (by (repeat (first | exact sub_nil | (apply sub_cons; focus (first | rfl | exact vint (by first | omega) | (simp [look]; done)))))) (by (repeat (first | exact obs_nil | (apply obs_cons; focus (first | rfl | (simp [find]; done)))))) ?_
   refine aq_leave (.inr ⟨_, rfl, rfl⟩) (settle_caught q c) hN hE' rfl hcl hcs rfl (parseE1_yes q c p 0 _ rfl) rfl rfl (fun E'' ob'' k1 k2 hN'' ho => ?_) (fun _ _ => trivial)
   subst ho
   rw [hV]
   refine aq_nilcell 1002 4 5 rfl rfl rfl ?_
   exact retN3 hN'' rfl (by first | exact ResX.tmp _ _ (by first | exact ToD.d _ | exact ToD.row _ _ _ _ _ rfl) | exact ResX.cellA _ _ _ _ _ _ _ rfl rfl rfl (by first | (simp only [normV, normList, normMap]; rfl) | rfl) rfl | exact ResX.cell1 _ _ _ _ _ _ rfl rfl rfl (by first | exact ToD.d _ | exact ToD.row _ _ _ _ _ rfl)) (by first | exact ResX.tmp _ _ (by first | exact ToD.d _ | exact ToD.row _ _ _ _ _ rfl) | exact ResX.cellA _ _ _ _ _ _ _ rfl rfl rfl (by first | (simp only [normV, normList, normMap]; rfl) | rfl) rfl | exact ResX.cell1 _ _ _ _ _ _ rfl rfl rfl (by first | exact ToD.d _ | exact ToD.row _ _ _ _ _ rfl)) (by first | exact ResX.tmp _ _ (by first | exact ToD.d _ | exact ToD.row _ _ _ _ _ rfl) | exact ResX.cellA _ _ _ _ _ _ _ rfl rfl rfl (by first | (simp only [normV, normList, normMap]; rfl) | rfl) rfl | exact ResX.cell1 _ _ _ _ _ _ rfl rfl rfl (by first | exact ToD.d _ | exact ToD.row _ _ _ _ _ rfl)) rfl k1
 ·rw [if_neg he] at hV
  have q0 : (!decide (e = 0)) = true := by simp [he]
  refine pure_enterD Tryz.func11 rfl (by decide) _ Tryz.ntmps11 (le_ok rfl) (fun w Pr hE => ?_)
  dsimp only [slotsOf, Nat.zero_add, Nat.reduceAdd]
  repeat' (first | (apply at_call; refine k_ocall [(16, 30)] (hopen) hE ?_; rintro _ _ ⟨rfl, rfl⟩ <;> (intro _ _ h1 h2; simp only [renEqs, Nat.reduceBEq, renL_app, renL_ds, renL_und] at h1 h2; subst h1 h2)) | refine nx ?_ | apply aq_pq | (apply qr_move; refine r_move ?_) | (apply qr_assign; refine r_assign ?_) | (apply at_cond; first | refine c_t ?_ | refine c_f ?_ | (refine aw_cond rfl (fun hb => ?_) (fun hb => ?_) <;> ((try have hq := dX hb); (try (exfalso; omega))))) | (apply qr_neq; refine r_neq ?_) | (apply qr_extract; refine r_extract ?_) | (apply qr_load; refine r_load ?_) | (apply qr_alloc; refine r_alloc ?_) | (apply qr_store; refine r_store ?_))
  refine aw_mixo ([(3, intB p), (4, errB e)]) [(0, true), (1, true), (2, true), (3, false)] [4, 5] (by kernel_rfl) (by kernel_rfl) (by kernel_rfl) (by decide) (by (repeat (first | exact obs_nil | (apply obs_cons; focus (first | rfl | (simp [find]; done)))))) ?_
  simp only [planned, tailed, List.filterMap_cons, List.filterMap_nil, List.getElem?_cons_zero, List.getElem?_cons_succ, Option.map_some]
  repeat' (first | apply am_nil | refine m_skip ?_ | refine n_skip ?_ | (apply at_am (.store _ _ _); refine am_store (by first | exact want_none | exact want_yes rfl rfl (by assumption) | exact want_yes rfl rfl (by with_reducible rfl)) rfl rfl rfl (ev_d rfl) nofun (by first | (simp only [normV, normList, normMap]; rfl) | rfl) (by simp [V.one, Value.oneCell']) (.inr rfl) rfl (le_ok rfl) (by first | (simp only [normV, normList, normMap]; rfl) | rfl) ?_) | (apply qm_load; refine m_load ?_) | (apply qm_build; refine m_build ?_) | (refine am_split rfl rfl (fun hb => ?_) (fun hb => ?_) <;> ((try have hq := dX hb); (try (exfalso; omega)))))
  repeat' (first | refine nx ?_ | apply aq_pq | (apply at_cond; first | refine c_t ?_ | refine c_f ?_ | (refine aw_cond rfl (fun hb => ?_) (fun hb => ?_) <;> ((try have hq := dX hb); (try (exfalso; omega))))) | (apply qr_load; refine r_load ?_) | (apply qr_store; refine r_store ?_) | (apply qr_build; refine r_build ?_))
  refine aq_nilcell 2 4 5 rfl rfl rfl ?_
  refine aq_d0 (.inl rfl) ?_
  rw [hV]
  refine ret3x (by rfl) (by first | exact ResX.tmp _ _ (by first | exact ToD.d _ | exact ToD.row _ _ _ _ _ rfl) | exact ResX.cellA _ _ _ _ _ _ _ rfl rfl rfl (by first | (simp only [normV, normList, normMap]; rfl) | rfl) rfl | exact ResX.cell1 _ _ _ _ _ _ rfl rfl rfl (by first | exact ToD.d _ | exact ToD.row _ _ _ _ _ rfl)) (by first | exact ResX.tmp _ _ (by first | exact ToD.d _ | exact ToD.row _ _ _ _ _ rfl) | exact ResX.cellA _ _ _ _ _ _ _ rfl rfl rfl (by first | (simp only [normV, normList, normMap]; rfl) | rfl) rfl | exact ResX.cell1 _ _ _ _ _ _ rfl rfl rfl (by first | exact ToD.d _ | exact ToD.row _ _ _ _ _ rfl)) (by first | exact ResX.tmp _ _ (by first | exact ToD.d _ | exact ToD.row _ _ _ _ _ rfl) | exact ResX.cellA _ _ _ _ _ _ _ rfl rfl rfl (by first | (simp only [normV, normList, normMap]; rfl) | rfl) rfl | exact ResX.cell1 _ _ _ _ _ _ rfl rfl rfl (by first | exact ToD.d _ | exact ToD.row _ _ _ _ _ rfl)) ?_
  rfl
end Go.Proofs.YtedoeogopmenpaaGreatDoor
end
section
namespace Go.Proofs.YtedoeogopmenpaaGreatDoor
open Go.RowKit
inductive Wk : D → D → Prop where
 | same (x : D) : Wk x x
 | nil (s : Nat) : Wk (.val (.slice none 0 0)) (.list s [])
 | agg (l m : List D) (hl : l.length = m.length) (h : ∀ (i : Nat) (x y : D), l[i]? = some x → m[i]? = some y → Wk x y) : Wk (.agg l) (.agg m)
 | list (s : Nat) (l m : List (List D)) (hl : l.length = m.length) (h : ∀ (i : Nat) (x y : List D), l[i]? = some x → m[i]? = some y → x.length = y.length) (hd : ∀ (i j : Nat) (e f : List D) (x y : D), l[i]? = some e → m[i]? = some f → e[j]? = some x → f[j]? = some y → Wk x y) : Wk (.list s l) (.list s m)
theorem get_some {α : Type} {l : List α} {i : Nat} (h : i < l.length) : ∃ x, l[i]? = some x := ⟨_, List.getElem?_eq_getElem h⟩
theorem get_lt {α : Type} {l : List α} {i : Nat} {x : α} (h : l[i]? = some x) : i < l.length := (List.getElem?_eq_some_iff.1 h).1
theorem Wk.rep {w : World} {Pr : Prot} {x y : D} (h : Wk x y) : ∀ v, RepD w Pr v x → RepD w Pr v y := by
 induction h with
 | same x => exact fun v h => h
 | nil s =>
  intro v h
  cases h
  exact .nil none 0 s (Nat.zero_le _)
 | agg l m hl hh ih =>
  intro v h
  cases h with
  | agg cs _ hc hd =>
   refine .agg cs m (hc.trans hl) (fun i v d h1 h2 => ?_)
   obtain ⟨z, hz⟩ := get_some (l := l) (i := i) (by rw [hl]; exact get_lt h2)
   exact ih i z d hz h2 v (hd i v z h1 hz)
 | list s l m hl hh hd ih =>
  intro v h
  cases h with
  | nil A c _ hm =>
   obtain rfl : m = [] := List.eq_nil_of_length_eq_zero hl.symm
   exact .nil A c s hm
  | list b o n c _ _ u hn hs hc hm hr hq =>
   refine .list b o n c s m u (hl.symm.trans hn) (fun e he => ?_) hc hm (fun i j e d h1 h2 => ?_) (fun i j e d h1 h2 => ?_)
   ·obtain ⟨i, hi, rfl⟩ := List.mem_iff_getElem.1 he
    have hi2 : i < l.length := by omega
    rw [← hh i l[i] m[i] (List.getElem?_eq_getElem hi2) (List.getElem?_eq_getElem hi)]
    exact hs _ (List.getElem_mem hi2)
   ·obtain ⟨e', he'⟩ := get_some (l := l) (i := i) (by rw [hl]; exact get_lt h1)
    obtain ⟨d', hd'⟩ := get_some (l := e') (i := j) (by rw [hh i e' e he' h1]; exact get_lt h2)
    exact hr i j e' d' he' hd'
   ·obtain ⟨e', he'⟩ := get_some (l := l) (i := i) (by rw [hl]; exact get_lt h1)
    obtain ⟨d', hd'⟩ := get_some (l := e') (i := j) (by rw [hh i e' e he' h1]; exact get_lt h2)
    exact ih i j e' e d' d he' h1 hd' h2 _ (hq i j e' d' he' hd')
theorem PureC.wk {f : FuncId} {x y : D} {Post : D → Prop} (h : PureC f [y] Post) (hw : Wk x y) : PureC f [x] Post :=
 ⟨h.1, fun w Pr vs h1 h2 h3 h4 => h.2 w Pr vs h1 h2 h3 fun i v d hv hd => by
  match i with
  | 0 => cases hd; exact hw.rep v (h4 0 v x hv rfl)
  | i + 1 => simp at hd⟩
theorem wk_cons {x y : D} {l m : List D} (h : Wk x y) (hl : l.length = m.length ∧ ∀ (i : Nat) (x y : D), l[i]? = some x → m[i]? = some y → Wk x y) : (x :: l).length = (y :: m).length ∧ ∀ (i : Nat) (a b : D), (x :: l)[i]? = some a → (y :: m)[i]? = some b → Wk a b :=
 ⟨by simp [hl.1], fun i a b h1 h2 => by
  cases i with
  | zero => cases h1; cases h2; exact h
  | succ i => exact hl.2 i a b h1 h2⟩
theorem wk_nil : ([] : List D).length = ([] : List D).length ∧ ∀ (i : Nat) (a b : D), ([] : List D)[i]? = some a → ([] : List D)[i]? = some b → Wk a b := ⟨rfl, fun i a b h1 _ => by simp at h1⟩
def WkL (l m : List D) : Prop := l.length = m.length ∧ ∀ (i : Nat) (x y : D), l[i]? = some x → m[i]? = some y → Wk x y
theorem wk_agg {l m : List D} (h : WkL l m) : Wk (.agg l) (.agg m) := .agg l m h.1 h.2
theorem wk_two {s : Nat} {a b c d : List D} (h1 : WkL a c) (h2 : WkL b d) : Wk (.list s [a, b]) (.list s [c, d]) := by
 refine .list s _ _ rfl (fun i x y hx hy => ?_) (fun i j e f x y he hf hx hy => ?_)
 ·match i with
  | 0 => cases hx; cases hy; exact h1.1
  | 1 => cases hx; cases hy; exact h2.1
  | i + 2 => simp at hx
 ·match i with
  | 0 => cases he; cases hf; exact h1.2 j x y hx hy
  | 1 => cases he; cases hf; exact h2.2 j x y hx hy
  | i + 2 => simp at he
theorem wkl_args {a b c e : D} {x y : D} (h : Wk x y) : WkL [a, b, c, e, x] [a, b, c, e, y] :=
 wk_cons (.same _) (wk_cons (.same _) (wk_cons (.same _) (wk_cons (.same _) (wk_cons h wk_nil))))
end Go.Proofs.YtedoeogopmenpaaGreatDoor
end
section
set_option linter.unusedSimpArgs false
set_option linter.unusedVariables false
namespace Go.Proofs.YtedoeogopmenpaaGreatDoor
open Go.RowKit
abbrev nilD : D := .val (.slice none 0 0)
abbrev w_ride : ByteArray := ⟨#[114, 105, 100, 101]⟩
abbrev sumA : List D := [.int 4, .int 0, .int 0, .str ⟨#[]⟩, .list 5 [[.int 2, .int 0, .int 0, .str w_ride, nilD], [.int 0, .int 5, .int 2, .str ⟨#[]⟩, nilD]]]
abbrev mulA : List D := [.int 6, .int 0, .int 0, .str ⟨#[]⟩, .list 5 [[.int 0, .int 3, .int 0, .str ⟨#[]⟩, nilD], sumA]]
theorem sum_wk : WkL sumA (exC e_sum) := wkl_args (wk_two (wkl_args (.nil 5)) (wkl_args (.nil 5)))
theorem mul_wk : WkL mulA (exC e_mul) := wkl_args (wk_two (wkl_args (.nil 5)) sum_wk)
theorem PureC.wk2 {f : FuncId} {x y u v : D} {Post : D → Prop} (h : PureC f [y, v] Post) (hw : Wk x y) (hv : Wk u v) : PureC f [x, u] Post :=
 ⟨h.1, fun w Pr vs h1 h2 h3 h4 => h.2 w Pr vs h1 h2 h3 fun i z d hz hd => by
  match i with
  | 0 => cases hd; exact hw.rep z (h4 0 z x hz rfl)
  | 1 => cases hd; exact hv.rep z (h4 1 z u hz rfl)
  | i + 2 => simp at hd⟩
theorem tame_one : e_one.tame := by
 simp only [e_one, Ex.tame, Ex.tameL]
 repeat' apply And.intro
 all_goals first | trivial | decide
theorem tame_sum : e_sum.tame := by
 simp only [e_sum, Ex.tame, Ex.tameL]
 repeat' apply And.intro
 all_goals first | trivial | decide
theorem tame_mul : e_mul.tame := by
 simp only [e_mul, e_sum, Ex.tame, Ex.tameL]
 repeat' apply And.intro
 all_goals first | trivial | decide
theorem tame_zero : Ex.zero.tame := by
 simp only [Ex.zero, Ex.tame, Ex.tameL]
 repeat' apply And.intro
 all_goals first | trivial | decide
theorem tame_x : x_one.tame := by
 refine ⟨by decide, by decide, fun q hq => ?_, ?_, ?_, ?_, ?_⟩
 ·simp only [x_one, List.mem_singleton] at hq
  subst hq
  refine ⟨by decide, ?_⟩
  simp only [Ex.tame, Ex.tameL]
  repeat' apply And.intro
  all_goals first | trivial | decide
 all_goals
  simp only [x_one, Ex.tame, Ex.tameL]
  repeat' apply And.intro
  all_goals first | trivial | decide
theorem tame_z : By.zero.tame := ⟨by decide, by decide, fun q hq => by simp [By.zero] at hq, tame_zero, tame_zero, tame_zero, tame_zero⟩
abbrev zA : List D := [.str ⟨#[]⟩, nilD, .int 0, .int 0, .int 0, .str ⟨#[]⟩, nilD, .int 0, .int 0, .int 0, .str ⟨#[]⟩, nilD, .int 0, .int 0, .int 0, .str ⟨#[]⟩, nilD, .int 0, .int 0, .int 0, .str ⟨#[]⟩, nilD, .int 0, .int 0, .int 0]
theorem z_wk : WkL zA (byC By.zero) :=
 wk_cons (.same _) (wk_cons (.nil 6) (wk_cons (.same _) (wk_cons (.same _) (wk_cons (.same _) (wk_cons (.same _) (wk_cons (.nil 5) (wk_cons (.same _) (wk_cons (.same _) (wk_cons (.same _) (wk_cons (.same _) (wk_cons (.nil 5) (wk_cons (.same _) (wk_cons (.same _) (wk_cons (.same _) (wk_cons (.same _) (wk_cons (.nil 5) (wk_cons (.same _) (wk_cons (.same _) (wk_cons (.same _) (wk_cons (.same _) (wk_cons (.nil 5) (wk_cons (.same _) (wk_cons (.same _) (wk_cons (.same _) wk_nil))))))))))))))))))))))))
theorem text30_any : PureC 34 [] (· = .str t_text) := by
 refine pure_enter Tryz.func34 rfl (by decide) _ Tryz.ntmps34 (le_ok rfl) (fun w Pr hE => ?_)
 dsimp only [slotsOf, Nat.zero_add, Nat.reduceAdd]
 repeat' (first | refine nx ?_ | (apply qr_assign; refine r_assign ?_))
 refine rt1 ?_
 rfl
theorem print_e {e : Ex} {s : ByteArray} (hr : e.right 12 = true) (hs : e.text 0 = s) (hz : s.size ≤ 4000) : printED e = .tup [.str s, .int 0] := by
 unfold printED fitsD
 rw [if_pos hr, hs, if_neg (by omega)]
theorem small_any : PureC 8 [] (· = .bool true) := by
 have p1 := parseE_any t_one (by decide)
 have p2 := parse_any t_text (by decide)
 have p3 := parse_any t_bad (by decide)
 have p4 := parseE_any t_two (by decide)
 rw [parse_one] at p1
 rw [parse_text] at p2
 rw [parse_bad] at p3
 rw [parse_two] at p4
 have w1 := printE_any e_one tame_one
 rw [print_e right_one print_one (by decide)] at w1
 have w2 := (printE_any e_mul tame_mul).wk (wk_agg mul_wk)
 rw [print_e right_mul print_mul (by decide)] at w2
 have w3 := print_any x_one tame_x
 have hpx : printD x_one = .tup [.str x_one.text, .int 0] := by
  unfold printD fitsD
  rw [if_pos right_x, if_neg (by rw [print_text]; decide)]
 rw [hpx] at w3
 have r1 := byRight_any x_one tame_x
 rw [right_x] at r1
 have r2 := (byRight_any By.zero tame_z).wk (wk_agg z_wk)
 rw [right_z] at r2
 have r3 := (rightExp_any e_sum tame_sum).wk (wk_agg sum_wk)
 rw [right_sum] at r3
 have r4 : PureC 24 [.agg [.int 1, .int 0, .int 0, .str ⟨#[]⟩, nilD]] (· = .bool ((Ex.mk 1 0 0 ⟨#[]⟩ []).right 12)) := (rightExp_any (.mk 1 0 0 ⟨#[]⟩ []) (by simp only [Ex.tame, Ex.tameL]; repeat' apply And.intro; all_goals first | trivial | decide)).wk (wk_agg (wkl_args (.nil 5)))
 rw [right_n] at r4
 have n1 := name_any ⟨#[112, 101, 114, 105, 111, 100]⟩ (by decide)
 rw [name_y] at n1
 have n2 := name_any ⟨#[99, 101, 110, 116, 115]⟩ (by decide)
 rw [name_n] at n2
 have m1 := same_any x_one x_one tame_x tame_x
 rw [(bySame_iff x_one x_one).2 rfl] at m1
 have m2 := (sameE_any e_sum e_sum tame_sum tame_sum).wk2 (wk_agg sum_wk) (wk_agg sum_wk)
 rw [(same_iff e_sum e_sum).2 rfl] at m2
 have hsz : ((x_one.text.size : Nat) : Int) = (t_text.size : Int) + 1 := by rw [print_text]; rfl
 have hq : decide (((x_one.text.size : Nat) : Int) = (t_text.size : Int) + 1) = true := decide_eq_true hsz
 have htt := text30_any
 have htz : t_text.size ≤ 1000 := by decide
 unfold parseED at p1 p4
 unfold parseD at p2 p3
 dsimp only at p1 p2 p3 p4
 generalize x_one = X at *
 generalize e_one = E1 at *
 unfold t_one at p1
 unfold t_bad at p3
 unfold t_two at p4
 generalize t_text = TT at *
 generalize X.text = XT at *
 refine pure_enter Tryz.func8 rfl (by decide) _ Tryz.ntmps8 (le_ok rfl) (fun w Pr hE => ?_)
 dsimp only [slotsOf, Nat.zero_add, Nat.reduceAdd]
 repeat' (first | (apply at_call; refine k_call (p1) hE ?_; rintro _ rfl; clear p1) | (apply at_call; refine k_call (w1) hE ?_; rintro _ rfl; clear w1) | (apply at_call; refine k_call (w2) hE ?_; rintro _ rfl) | (apply at_call; refine k_call (htt) hE ?_; rintro _ rfl) | (apply at_call; refine k_call (p2) hE ?_; rintro _ rfl; clear p2) | (apply at_call; refine k_call (w3) hE ?_; rintro _ rfl) | (apply at_call; refine k_call (p3) hE ?_; rintro _ rfl) | (apply at_call; refine k_call (p4) hE ?_; rintro _ rfl) | (apply at_call; refine k_call (r1) hE ?_; rintro _ rfl; clear r1) | (apply at_call; refine k_call (r2) hE ?_; rintro _ rfl) | (apply at_call; refine k_call (r3) hE ?_; rintro _ rfl; clear r3) | (apply at_call; refine k_call (r4) hE ?_; rintro _ rfl) | (apply at_call; refine k_call (n1) hE ?_; rintro _ rfl; clear n1) | (apply at_call; refine k_call (n2) hE ?_; rintro _ rfl) | (apply at_call; refine k_call (m1) hE ?_; rintro _ rfl) | (apply at_call; refine k_call (m2) hE ?_; rintro _ rfl) | refine nx ?_ | (apply qr_move; refine r_move ?_) | (apply qr_assign; refine r_assign ?_) | (apply at_guard; first | refine g_go ?_ | refine g_nt ?_ | refine g_nf ?_ | refine g_nu ?_ | ((first | refine al_split_t rfl rfl (lt_ok rfl) (fun hb => ?_) (fun hb => ?_) | refine al_split_f rfl rfl (lt_ok rfl) (fun hb => ?_) (fun hb => ?_)) <;> ((try have hq := dX hb); (try (exfalso; omega))))) | (apply qr_pick; refine r_pick ?_) | (apply qr_eql; refine r_eql ?_) | (apply qr_add; refine r_add ?_) | (apply qr_not; refine r_not ?_) | (apply qr_len; refine r_len ?_) | (apply qr_extract; refine r_extract ?_) | (apply qr_load; refine r_load ?_) | (apply qr_alloc; refine r_alloc ?_) | (apply qr_store; refine r_store ?_) | (apply qr_build; refine r_build ?_) | (apply qr_lits; refine r_lits ?_))
 refine rt1 ?_
 rfl
end Go.Proofs.YtedoeogopmenpaaGreatDoor
end
section
namespace Go.Proofs.YtedoeogopmenpaaGreatDoor
open Go.RowKit
theorem zero_size : ByteArray.size ⟨#[]⟩ ≤ 100000 := by decide
theorem two_tame {op : Int} {a b : Ex} (ha : a.tame) (hb : b.tame) : (two op a b).tame := ⟨zero_size, (by show 2 ≤ 100000; omega), ha, hb, trivial⟩
theorem leaf_tame {op : Int} {s : ByteArray} (h : s.size ≤ 100000) : (leafE op s).tame := ⟨h, (by show 0 ≤ 100000; omega), trivial⟩
theorem num_tame (n u : Int) : (numE n u).tame := ⟨zero_size, (by show 0 ≤ 100000; omega), trivial⟩
theorem name_tame {l t : List Tok} {s : ByteArray} (h : nameP nameV l = .ok s t) (hx : Texts l) : s.size ≤ 100000 := by
 obtain ⟨_, _, rfl, _⟩ := nameP_ok h
 exact hx.nxt
theorem Der.tame {f o : Nat} {l t : List Tok} {e : Ex} (h : Der f l e o t) : Texts l → e.tame := by
 induction h with
 | num hk => exact fun _ => num_tame _ _
 | yes h => exact fun _ => num_tame _ _
 | no h => exact fun _ => num_tame _ _
 | word hw ho hn => exact fun hx => leaf_tame (name_tame hn (hx.suf (suf_is hw)))
 | name hn => exact fun hx => leaf_tame (name_tame hn hx)
 | call hw ho h1 ha h2 hb h3 iha ihb =>
  intro hx
  have x1 := (hx.suf (suf_is hw)).suf (suf_is h1)
  have x2 := (x1.suf ha.suf).suf (suf_is h2)
  exact two_tame (iha x1) (ihb x2)
 | paren h1 he h2 ih => exact fun hx => ih (hx.suf (suf_is h1))
 | iff h1 ha h2 hb h3 hc iha ihb ihc =>
  intro hx
  have x1 := hx.suf (suf_is h1)
  have x2 := (x1.suf ha.suf).suf (suf_is h2)
  have x3 := (x2.suf hb.suf).suf (suf_is h3)
  exact ⟨zero_size, (by show 3 ≤ 100000; omega), iha x1, ihb x2, ihc x3, trivial⟩
 | nott hf h ha ih => exact fun hx => ⟨zero_size, (by show 1 ≤ 100000; omega), ih (hx.suf (suf_is h)), trivial⟩
 | op ha hs hf hg h4 hb iha ihb =>
  intro hx
  obtain ⟨w, hw⟩ := sym_is hs
  exact two_tame (iha hx) (ihb ((hx.suf ha.suf).suf (suf_is hw)))
theorem wholeP_tame {after : ByteArray} {l t : List Tok} {e : Ex} (h : wholeP after l = .ok e t) (hx : Texts l) : e.tame := by
 obtain ⟨u, h1, _⟩ := wholeP_ok h
 obtain ⟨o, hd⟩ := readE_der h1
 exact hd.tame hx
theorem zero_tame : Ex.zero.tame := ⟨zero_size, (by show 0 ≤ 100000; omega), trivial⟩
theorem letsP_tame : ∀ (k : Nat) (ls : List (ByteArray × Ex)) (l : List Tok) {r : List (ByteArray × Ex)} {t : List Tok}, letsP k ls l = .ok r t → Texts l → ls.length ≤ 20 → (∀ q ∈ ls, letTame q) → r.length ≤ 20 ∧ ∀ q ∈ r, letTame q
 | 0, ls, l, r, t, h, _, hl, ht => by cases h; exact ⟨hl, ht⟩
 | k + 1, ls, l, r, t, h, hx, hl, ht => by
  simp only [letsP] at h
  split at h
  ·rename_i hT
   split at h
   ·rename_i h20
    obtain ⟨s, u1, h1, g1⟩ := then_less h
    obtain ⟨_, u2, h2, g2⟩ := then_less g1
    obtain ⟨e, u3, h3, g3⟩ := then_less g2
    have x1 := hx.suf (suf_is hT)
    have x2 := x1.suf (freshP_suf h1)
    have x3 := x2.suf (suf_want h2)
    have x4 := x3.suf (wholeP_suf h3)
    refine letsP_tame k _ _ g3 x4 (by simp; omega) (fun q hq => ?_)
    rcases List.mem_append.1 hq with hq | hq
    ·exact ht q hq
    ·simp only [List.mem_singleton] at hq
     subst hq
     obtain ⟨_, _, hs, _⟩ := freshP_ok h1
     exact ⟨by rw [hs]; exact x1.nxt, wholeP_tame h3 x3⟩
   ·cases h
  ·cases h
   exact ⟨hl, ht⟩
theorem partsP_tame : ∀ (ws : List ByteArray) (es : List Ex) (l : List Tok) {r : List Ex} {t : List Tok}, partsP ws es l = .ok r t → Texts l → (∀ e ∈ es, Ex.tame e) → (∀ e ∈ r, Ex.tame e) ∧ Suf l t
 | [], es, l, r, t, h, _, ht => by cases h; exact ⟨ht, .refl _⟩
 | w :: ws, es, l, r, t, h, hx, ht => by
  simp only [partsP] at h
  obtain ⟨_, u1, h1, g1⟩ := then_less h
  obtain ⟨e, u2, h2, g2⟩ := then_less g1
  have x1 := hx.suf (suf_want h1)
  have x2 := x1.suf (wholeP_suf h2)
  obtain ⟨k1, k2⟩ := partsP_tame ws _ _ g2 x2 (fun q hq => by
   rcases List.mem_append.1 hq with hq | hq
   ·exact ht q hq
   ·simp only [List.mem_singleton] at hq
    subst hq
    exact wholeP_tame h2 x1)
  exact ⟨k1, (suf_want h1).trans ((wholeP_suf h2).trans k2)⟩
theorem getD_tame {es : List Ex} (h : ∀ e ∈ es, Ex.tame e) (i : Nat) : (es.getD i Ex.zero).tame := by
 rw [List.getD_eq_getElem?_getD]
 cases hx : es[i]? with
 | none => exact zero_tame
 | some e => exact h e (List.mem_of_getElem? hx)
theorem bylawsP_tame {l t : List Tok} {x : By} (h : bylawsP l = .ok x t) (hx : Texts l) : x.tame := by
 unfold bylawsP at h
 obtain ⟨_, u1, h1, g1⟩ := then_less h
 obtain ⟨nm, u2, h2, g2⟩ := then_less g1
 obtain ⟨_, u3, h3, g3⟩ := then_less g2
 obtain ⟨ls, u4, h4, g4⟩ := then_less g3
 obtain ⟨es, u5, h5, g5⟩ := then_less g4
 have x1 := hx.suf (suf_want h1)
 have x2 := x1.suf (suf_name h2)
 have x3 := x2.suf (suf_want h3)
 have x4 := x3.suf (letsP_suf _ _ _ h4)
 obtain ⟨k1, k2⟩ := letsP_tame _ _ _ h4 x3 (by simp) (by simp)
 obtain ⟨m1, _⟩ := partsP_tame _ _ _ h5 x4 (by simp)
 unfold numsP at g5
 obtain ⟨q, u6, _, g6⟩ := then_less g5
 obtain ⟨s, u7, _, g7⟩ := then_less g6
 obtain ⟨c, u8, _, g8⟩ := then_less g7
 unfold lastP at g8
 split at g8
 ·cases g8
  exact ⟨name_tame h2 x1, by show ls.length ≤ 100000; omega, k2, getD_tame m1 0, getD_tame m1 1, getD_tame m1 2, getD_tame m1 3⟩
 ·cases g8
theorem byz_tame : By.zero.tame := ⟨zero_size, (by show 0 ≤ 100000; omega), fun q hq => by simp [By.zero] at hq, zero_tame, zero_tame, zero_tame, zero_tame⟩
theorem parseV_tame (s : ByteArray) : (parseV s).1.tame := by
 unfold parseV
 rcases hL : lexV s with ⟨L, p, e⟩
 dsimp only
 split
 ·rename_i he
  subst he
  obtain ⟨_, _, _, _, _, hx, _⟩ := lex_ready hL
  cases hb : bylawsP L with
  | ok x t => exact bylawsP_tame hb hx
  | bad p c => exact byz_tame
 ·exact byz_tame
theorem parseEV_tame (s : ByteArray) : (parseEV s).1.tame := by
 unfold parseEV
 rcases hL : lexV s with ⟨L, p, e⟩
 dsimp only
 split
 ·rename_i he
  subst he
  obtain ⟨_, _, _, _, _, hx, _⟩ := lex_ready hL
  cases hb : allP L with
  | ok x t =>
   unfold allP at hb
   obtain ⟨e, u, h1, h2⟩ := then_less hb
   obtain ⟨o, hd⟩ := readE_der h1
   split at h2
   ·split at h2
    ·cases h2
     exact hd.tame hx
    ·cases h2
   ·cases h2
  | bad p c => exact zero_tame
 ·exact zero_tame
end Go.Proofs.YtedoeogopmenpaaGreatDoor
end
section
set_option linter.unusedSimpArgs false
set_option linter.unusedVariables false
namespace Go.Proofs.YtedoeogopmenpaaGreatDoor
open Go.RowKit
def symD (l : List Tok) : D := match symP l with
 | some (op, g) => .tup [.int op, .int g]
 | none => .tup [.int (-1), .int 0]
def EndE (l : List Tok) : Prop := ∀ t ∈ l, t.k = 3 → t.s = ⟨#[]⟩
theorem EndE.suf {l t : List Tok} (h : EndE l) (hs : Suf l t) : EndE t := by
 obtain ⟨m, rfl, _⟩ := hs
 exact fun x hx => h x (by simp [hx])
theorem EndE.txt {l : List Tok} (h : EndE l) (hk : (nxt l).k = 3) : (nxt l).s = ⟨#[]⟩ := by
 cases l with
 | nil => rfl
 | cons x r => exact h x (by simp) hk
theorem EndE.is {l : List Tok} (h : EndE l) (w : ByteArray) (hw : ⟨#[]⟩ ≠ w) : decide ((nxt l).s = w) = isT l w := by
 unfold isT
 by_cases hk : (nxt l).k = 3
 ·rw [h.txt hk]
  simp [hk, hw]
 ·simp [hk]
section
variable {L l : List Tok} {k e p : Int}
theorem rsymbol (l : List Tok) : PureC 135 [.agg (tokC (nxt l))] (· = symD l) := by
 by_cases hk : (nxt l).k = 3
 ·have q : decide ((nxt l).k = 3) = true := decide_eq_true hk
  have hS : symD l = .tup [.int (-1), .int 0] := by simp [symD, symP, isT, hk]
  rw [hS]
  refine pure_enter Tryz.func135 rfl (by decide) _ Tryz.ntmps135 (le_ok rfl) (fun w Pr hE => ?_)
  dsimp only [slotsOf, Nat.zero_add, Nat.reduceAdd]
  repeat' (first | refine nx ?_ | (apply aq_block_y; decide) | (apply qr_assign; refine r_assign ?_) | (apply at_cond; first | refine c_t ?_ | refine c_f ?_ | (refine aw_cond rfl (fun hb => ?_) (fun hb => ?_) <;> ((try have hq := dX hb); (try (exfalso; omega))))) | (apply qr_eql; refine r_eql ?_) | (apply qr_load; refine r_load ?_) | (apply qr_faddr; refine r_faddr ?_) | (apply qr_boxed; refine r_boxed ?_))
  refine ret_two (by rfl) (by first | exact ToD.d _ | exact ToD.row _ _ _ _ _ rfl) (by first | exact ToD.d _ | exact ToD.row _ _ _ _ _ rfl) ?_
  rfl
 have q : decide ((nxt l).k = 3) = false := decide_eq_false hk
 have hT : ∀ w, isT l w = decide ((nxt l).s = w) := fun w => by simp [isT, hk]
 refine pure_enter Tryz.func135 rfl (by decide) _ Tryz.ntmps135 (le_ok rfl) (fun w Pr hE => ?_)
 dsimp only [slotsOf, Nat.zero_add, Nat.reduceAdd]
 repeat' (first | refine nx ?_ | (apply aq_block_y; decide) | (apply qr_assign; refine r_assign ?_) | (apply at_cond; first | refine c_t ?_ | refine c_f ?_ | (refine aw_cond rfl (fun hb => ?_) (fun hb => ?_) <;> ((try have hq := dX hb); (try (exfalso; omega))))) | (apply qr_eql; refine r_eql ?_) | (apply qr_load; refine r_load ?_) | (apply qr_faddr; refine r_faddr ?_) | (apply qr_boxed; refine r_boxed ?_))
 all_goals
  refine ret_two (by rfl) (by exact ToD.d _) (by exact ToD.d _) ?_
  simp [symD, symP, hT, *]
abbrev bothR (R : Rd Ex) (L : List Tok) : V → Objs → Prop := RefO R expV' L
structure RefOk (rec : Nat → List Tok → Rd Ex) (m : Nat) : Prop where
 suf : ∀ f l e t, rec f l = .ok e t → Suf l t
 run : ∀ (L l : List Tok) (form : Nat), Rdy L l → Texts l → EndE l → l.length ≤ m → form ≤ 7 → ObC 96 [.box 1000 0, .d (.int form)] (rps L l) [] (RefO (rec form l) expV' L)
theorem rexp_e (he : e ≠ 0) (form : Int) : ObC 96 [.box 1000 0, .d (.int form)] (rpe L k e p) [] (ErrO expV' L k e p) := by
 have q0 : (!decide (e = 0)) = true := by simp [he]
 refine ob_enter Tryz.func96 rfl (by decide) _ Tryz.ntmps96 (le_ok rfl) rfl (fun w Pr β κ hE => ?_)
 dsimp only [slotsV, Nat.zero_add, Nat.reduceAdd]
 repeat' (first | refine nx ?_ | (apply aq_block_y; decide) | (apply qr_move; refine r_move ?_) | (apply at_cond; first | refine c_t ?_ | refine c_f ?_ | (refine aw_cond rfl (fun hb => ?_) (fun hb => ?_) <;> ((try have hq := dX hb); (try (exfalso; omega))))) | (apply qr_neq; refine r_neq ?_) | (apply qr_load; refine r_load ?_) | (apply qr_faddr; refine r_faddr ?_) | (apply qr_nilck; refine r_nilck ?_) | (apply qr_alloc; refine r_alloc ?_) | (apply qr_store; refine r_store ?_) | (apply qr_build; refine r_build ?_))
 refine aq_nilcell 4 4 5 rfl rfl rfl ?_
 refine oret1 (rpe L k e p) (by rfl) rv (⟨⟨Ex.zero, rfl⟩, rfl⟩) sb okx
end
end Go.Proofs.YtedoeogopmenpaaGreatDoor
end
