/-
  Conditions: none.
-/
import Derived.Test.YtedoeogopmenpaaGreatDoorRows
import Derived.LaidLaws
import Derived.Handed
import Derived.Lib.LaidTab
import Derived.Stop.LaidErr
import Derived.Test.YtedoeogopmenpaaGreatDoorMbb
set_option maxHeartbeats 16000000
set_option maxRecDepth 20000
section
set_option linter.unusedSimpArgs false
set_option linter.unusedVariables false
namespace Go.Proofs.YtedoeogopmenpaaGreatDoor
open Go.RowKit
def parseED (r : Ex × Int × Int) : D := .tup [.agg (exC r.1), .int r.2.1, .int r.2.2]
theorem parseE_any (s : ByteArray) (hs : s.size ≤ 1000000) : PureC 11 [.str s] (· = parseED (parseEV s)) := by
 have hopen := open_any s hs
 rcases hL : lexV s with ⟨L, p, e⟩
 have hV : parseEV s = if e = 0 then (match allP L with
  | .ok x _ => (x, 0, 0)
  | .bad q c => (Ex.zero, q, c)) else (Ex.zero, p, e) := by
  unfold parseEV
  rw [hL]
  try rfl
 rw [hL] at hopen
 dsimp only at hopen
 by_cases he : e = 0
 ·subst he
  rw [if_pos rfl] at hV
  obtain ⟨h1, h2, h3, h4, h5, h6, h7⟩ := lex_ready hL
  have r0 := h4.rdy h5
  have at0 : ((atN L L : Nat) : Int) = 0 := by simp [atN]
  have hrd := rec_read r0 h6
  unfold psr at hrd
  rw [at0] at hrd
  have q0 : (!decide ((0 : Int) = 0)) = false := rfl
  unfold allP at hV
  refine pure_enterD Tryz.func11 rfl (by decide) _ Tryz.ntmps11 (le_ok rfl) (fun w Pr hE => ?_)
  dsimp only [slotsOf, Nat.zero_add, Nat.reduceAdd]
  repeat' (first | (apply at_call; refine k_ocall [(16, 30)] (hopen) hE ?_; rintro _ _ ⟨rfl, rfl⟩ <;> (intro _ _ h1 h2; simp only [renEqs, Nat.reduceBEq, renL_app, renL_ds, renL_und] at h1 h2; subst h1 h2)) | (apply at_op (.makeFunc _ _ _); refine al_y (y_clo rfl) (lt_ok rfl) ?_) | refine nx ?_ | apply aq_pq | (apply qr_move; refine r_move ?_) | (apply qr_assign; refine r_assign ?_) | (apply at_cond; first | refine c_t ?_ | refine c_f ?_ | (refine aw_cond rfl (fun hb => ?_) (fun hb => ?_) <;> ((try have hq := dX hb); (try (exfalso; omega))))) | (apply qr_neq; refine r_neq ?_) | (apply qr_extract; refine r_extract ?_) | (apply qr_func; refine r_func ?_) | (apply qr_load; refine r_load ?_) | (apply qr_alloc; refine r_alloc ?_) | (apply qr_store; refine r_store ?_))
  refine al_less (sl' := [(18, .clo (.func 41) [.box 3 0, .box 4 0, .box 2 0]), (5, .box 30 0), (4, .box 4 0), (3, .box 3 0), (2, .box 2 0)]) (ob' := [(30, psB L 0), (2, zeroB), (3, intB p), (4, errB 0)]) (by (repeat (first | exact sub_nil | (apply sub_cons; focus (first | rfl | exact vint (by first | omega) | (simp [look]; done)))))) (by (repeat (first | exact obs_nil | (apply obs_cons; focus (first | rfl | (simp [find]; done)))))) ?_
  refine al_ren 2 1002 rfl rfl ?_
  refine al_less (sl' := [(18, .clo (.func 41) [.box 3 0, .box 4 0, .box 1002 0]), (5, .box 30 0), (4, .box 4 0), (3, .box 3 0), (2, .box 1002 0)]) (ob' := [(30, psB L 0), (1002, zeroB), (3, intB p), (4, errB 0)]) (by (repeat (first | exact sub_nil | (apply sub_cons; focus (first | rfl | exact vint (by first | omega) | (simp [look]; done)))))) (by (repeat (first | exact obs_nil | (apply obs_cons; focus (first | rfl | (simp [find]; done)))))) ?_
  refine al_ren 3 1003 rfl rfl ?_
  refine al_less (sl' := [(18, .clo (.func 41) [.box 1003 0, .box 4 0, .box 1002 0]), (5, .box 30 0), (4, .box 4 0), (3, .box 1003 0), (2, .box 1002 0)]) (ob' := [(30, psB L 0), (1002, zeroB), (1003, intB p), (4, errB 0)]) (by (repeat (first | exact sub_nil | (apply sub_cons; focus (first | rfl | exact vint (by first | omega) | (simp [look]; done)))))) (by (repeat (first | exact obs_nil | (apply obs_cons; focus (first | rfl | (simp [find]; done)))))) ?_
  refine al_ren 4 1004 rfl rfl ?_
  refine al_less (sl' := [(18, .clo (.func 41) [.box 1003 0, .box 1004 0, .box 1002 0]), (5, .box 30 0), (4, .box 1004 0), (3, .box 1003 0), (2, .box 1002 0)]) (ob' := [(30, psB L 0), (1002, zeroB), (1003, intB p), (1004, errB 0)]) (by (repeat (first | exact sub_nil | (apply sub_cons; focus (first | rfl | exact vint (by first | omega) | (simp [look]; done)))))) (by (repeat (first | exact obs_nil | (apply obs_cons; focus (first | rfl | (simp [find]; done)))))) ?_
  refine al_ren 30 1000 rfl rfl ?_
  refine al_less (sl' := [(18, .clo (.func 41) [.box 1003 0, .box 1004 0, .box 1002 0]), (5, .box 1000 0), (4, .box 1004 0), (3, .box 1003 0), (2, .box 1002 0)]) (ob' := [(1000, psB L 0), (1002, zeroB), (1003, intB p), (1004, errB 0)]) (by (repeat (first | exact sub_nil | (apply sub_cons; focus (first | rfl | exact vint (by first | omega) | (simp [look]; done)))))) (by (repeat (first | exact obs_nil | (apply obs_cons; focus (first | rfl | (simp [find]; done)))))) ?_
  refine al_defer rfl hE rfl rfl rfl (fun E' cs en eo hN hE' hdf hcl hcs => ?_)
  obtain ⟨w', Pr', n', ob0', β', κ', df'⟩ := E'
  dsimp only at en eo hdf hcs
  subst en eo hdf
  have hE := hE'
  rcases hx : readE L with ⟨x, t⟩ | ⟨q, c⟩
  ·rw [hx, then_ok] at hV
   have hok := out_ok hrd hx
   have r1 := r0.to (readE_suf hx)
   obtain ⟨o, hd⟩ := readE_der hx
   have hlv := hd.levels
   have hwd := hd.wid
   have hlev := levels_any x.levels x (Nat.le_refl _) (by omega) (by omega)
   have hnx := pnext r1
   by_cases hk : (nxt t).k = 3
   ·have c1 := pcheck_y (L := L) (l := t) 12
    rw [← decide_eq_true hk] at c1
    rw [if_pos hk] at hV
    by_cases hv : x.levels ≤ 12
    ·have c2 := pcheck_y (L := L) (l := t) 6
     rw [← decide_eq_true (show (x.levels : Int) ≤ 12 by omega)] at c2
     rw [if_pos hv] at hV
     repeat' (first | (apply at_call; refine k_ocall [(1000, 1000)] (hok) hE ?_; rintro _ _ ⟨rfl, rfl⟩ <;> (intro _ _ h1 h2; simp only [renEqs, Nat.reduceBEq, renL_app, renL_ds, renL_und] at h1 h2; subst h1 h2)) | (apply at_call; refine k_ocall [(1000, 1000)] (hnx) hE ?_; rintro _ _ ⟨rfl, rfl⟩ <;> (intro _ _ h1 h2; simp only [renEqs, Nat.reduceBEq, renL_app, renL_ds, renL_und] at h1 h2; subst h1 h2)) | (apply at_call; refine k_ocall [(1000, 1000)] (c1) hE ?_; rintro _ _ ⟨rfl, rfl⟩ <;> (intro _ _ h1 h2; simp only [renEqs, Nat.reduceBEq, renL_app, renL_ds, renL_und] at h1 h2; subst h1 h2)) | (apply at_call; refine k_call (hlev) hE ?_; rintro _ rfl) | (apply at_call; refine k_ocall [(1000, 1000)] (c2) hE ?_; rintro _ _ ⟨rfl, rfl⟩ <;> (intro _ _ h1 h2; simp only [renEqs, Nat.reduceBEq, renL_app, renL_ds, renL_und] at h1 h2; subst h1 h2)) | refine nx ?_ | apply aq_pq | (apply qr_move; refine r_move ?_) | (apply at_cond; first | refine c_t ?_ | refine c_f ?_ | (refine aw_cond rfl (fun hb => ?_) (fun hb => ?_) <;> ((try have hq := dX hb); (try (exfalso; omega))))) | (apply qr_leq; refine r_leq ?_) | (apply qr_eql; refine r_eql ?_) | (apply qr_load; refine r_load ?_) | (apply qr_field; refine r_field ?_) | (apply qr_alloc; refine r_alloc ?_) | (apply qr_store; refine r_store ?_))
     refine aq_less (sl' := [(4, .box 1004 0), (3, .box 1003 0), (2, .box 1002 0)]) (ob' := [(1003, intB 0), (1004, errB 0), (1002, exB x)]) (by (repeat (first | exact sub_nil | (apply sub_cons; focus (first | rfl | exact vint (by first | omega) | (simp [look]; done)))))) (by (repeat (first | exact obs_nil | (apply obs_cons; focus (first | rfl | (simp [find]; done)))))) ?_
     refine aq_leave (.inl ⟨rfl, rfl⟩) rfl hN hE' rfl hcl hcs rfl (parseE1_no 0 0 _ rfl) rfl rfl (fun E'' ob'' k1 k2 hN'' ho => ?_) (fun _ _ => trivial)
     subst ho
     rw [hV]
     exact retN3 hN'' rfl (by first | exact ResX.tmp _ _ (by first | exact ToD.d _ | exact ToD.row _ _ _ _ _ rfl) | exact ResX.cellA _ _ _ _ _ _ _ rfl rfl rfl (by first | (simp only [normV, normList, normMap]; rfl) | rfl) rfl | exact ResX.cell1 _ _ _ _ _ _ rfl rfl rfl (by first | exact ToD.d _ | exact ToD.row _ _ _ _ _ rfl)) (by first | exact ResX.tmp _ _ (by first | exact ToD.d _ | exact ToD.row _ _ _ _ _ rfl) | exact ResX.cellA _ _ _ _ _ _ _ rfl rfl rfl (by first | (simp only [normV, normList, normMap]; rfl) | rfl) rfl | exact ResX.cell1 _ _ _ _ _ _ rfl rfl rfl (by first | exact ToD.d _ | exact ToD.row _ _ _ _ _ rfl)) (by first | exact ResX.tmp _ _ (by first | exact ToD.d _ | exact ToD.row _ _ _ _ _ rfl) | exact ResX.cellA _ _ _ _ _ _ _ rfl rfl rfl (by first | (simp only [normV, normList, normMap]; rfl) | rfl) rfl | exact ResX.cell1 _ _ _ _ _ _ rfl rfl rfl (by first | exact ToD.d _ | exact ToD.row _ _ _ _ _ rfl)) rfl k1
    ·have c2 := pcheck_n r1 6
     rw [← decide_eq_false (show ¬ (x.levels : Int) ≤ 12 by omega)] at c2
     rw [if_neg hv] at hV
     repeat' (first | (apply at_call; refine k_ocall [(1000, 1000)] (hok) hE ?_; rintro _ _ ⟨rfl, rfl⟩ <;> (intro _ _ h1 h2; simp only [renEqs, Nat.reduceBEq, renL_app, renL_ds, renL_und] at h1 h2; subst h1 h2)) | (apply at_call; refine k_ocall [(1000, 1000)] (hnx) hE ?_; rintro _ _ ⟨rfl, rfl⟩ <;> (intro _ _ h1 h2; simp only [renEqs, Nat.reduceBEq, renL_app, renL_ds, renL_und] at h1 h2; subst h1 h2)) | (apply at_call; refine k_ocall [(1000, 1000)] (c1) hE ?_; rintro _ _ ⟨rfl, rfl⟩ <;> (intro _ _ h1 h2; simp only [renEqs, Nat.reduceBEq, renL_app, renL_ds, renL_und] at h1 h2; subst h1 h2)) | (apply at_call; refine k_call (hlev) hE ?_; rintro _ rfl) | refine nx ?_ | apply aq_pq | (apply qr_move; refine r_move ?_) | (apply at_cond; first | refine c_t ?_ | refine c_f ?_ | (refine aw_cond rfl (fun hb => ?_) (fun hb => ?_) <;> ((try have hq := dX hb); (try (exfalso; omega))))) | (apply qr_leq; refine r_leq ?_) | (apply qr_eql; refine r_eql ?_) | (apply qr_load; refine r_load ?_) | (apply qr_field; refine r_field ?_) | (apply qr_alloc; refine r_alloc ?_) | (apply qr_store; refine r_store ?_))
     refine al_pcall [(1000, 1000)] c2 rfl hE (lt_ok rfl) (by (repeat (first | refine ArgsV.cons (.same _ _ rfl) ?_ | refine ArgsV.cons (.toD _ _ (by first | exact ToD.d _ | exact ToD.row _ _ _ _ _ rfl | exact ToD.nil _)) ?_)); exact ArgsV.nil) ⟨obs_cons rfl obs_nil, rfl, rfl, rfl, rfl⟩ (fun v hv => ?_) (fun _ _ h => h.elim)
     subst hv
     repeat (first | refine aq_then_p ?_ | refine aq_block_p ?_)
     refine aq_less (sl' := [(4, .box 1004 0), (3, .box 1003 0), (2, .box 1002 0)]) (ob' := [(1003, intB p), (1004, errB 0), (1002, zeroB)]) (by (repeat (first | exact sub_nil | (apply sub_cons; focus (first | rfl | exact vint (by first | omega) | (simp [look]; done)))))) (by (repeat (first | exact obs_nil | (apply obs_cons; focus (first | rfl | (simp [find]; done)))))) ?_
     refine aq_leave (.inr ⟨_, rfl, rfl⟩) (settle_caught (nxt t).p 6) hN hE' rfl hcl hcs rfl (parseE1_yes (nxt t).p 6 p 0 _ rfl) rfl rfl (fun E'' ob'' k1 k2 hN'' ho => ?_) (fun _ _ => trivial)
     subst ho
     rw [hV]
     refine aq_nilcell 1002 4 5 rfl rfl rfl ?_
     exact retN3 hN'' rfl (by first | exact ResX.tmp _ _ (by first | exact ToD.d _ | exact ToD.row _ _ _ _ _ rfl) | exact ResX.cellA _ _ _ _ _ _ _ rfl rfl rfl (by first | (simp only [normV, normList, normMap]; rfl) | rfl) rfl | exact ResX.cell1 _ _ _ _ _ _ rfl rfl rfl (by first | exact ToD.d _ | exact ToD.row _ _ _ _ _ rfl)) (by first | exact ResX.tmp _ _ (by first | exact ToD.d _ | exact ToD.row _ _ _ _ _ rfl) | exact ResX.cellA _ _ _ _ _ _ _ rfl rfl rfl (by first | (simp only [normV, normList, normMap]; rfl) | rfl) rfl | exact ResX.cell1 _ _ _ _ _ _ rfl rfl rfl (by first | exact ToD.d _ | exact ToD.row _ _ _ _ _ rfl)) (by first | exact ResX.tmp _ _ (by first | exact ToD.d _ | exact ToD.row _ _ _ _ _ rfl) | exact ResX.cellA _ _ _ _ _ _ _ rfl rfl rfl (by first | (simp only [normV, normList, normMap]; rfl) | rfl) rfl | exact ResX.cell1 _ _ _ _ _ _ rfl rfl rfl (by first | exact ToD.d _ | exact ToD.row _ _ _ _ _ rfl)) rfl k1
   ·have c1 := pcheck_n r1 12
    rw [← decide_eq_false hk] at c1
    rw [if_neg hk] at hV
    repeat' (first | (apply at_call; refine k_ocall [(1000, 1000)] (hok) hE ?_; rintro _ _ ⟨rfl, rfl⟩ <;> (intro _ _ h1 h2; simp only [renEqs, Nat.reduceBEq, renL_app, renL_ds, renL_und] at h1 h2; subst h1 h2)) | (apply at_call; refine k_ocall [(1000, 1000)] (hnx) hE ?_; rintro _ _ ⟨rfl, rfl⟩ <;> (intro _ _ h1 h2; simp only [renEqs, Nat.reduceBEq, renL_app, renL_ds, renL_und] at h1 h2; subst h1 h2)) | refine nx ?_ | apply aq_pq | (apply qr_move; refine r_move ?_) | (apply at_cond; first | refine c_t ?_ | refine c_f ?_ | (refine aw_cond rfl (fun hb => ?_) (fun hb => ?_) <;> ((try have hq := dX hb); (try (exfalso; omega))))) | (apply qr_eql; refine r_eql ?_) | (apply qr_field; refine r_field ?_) | (apply qr_alloc; refine r_alloc ?_) | (apply qr_store; refine r_store ?_))
    refine al_pcall [(1000, 1000)] c1 rfl hE (lt_ok rfl) (by (repeat (first | refine ArgsV.cons (.same _ _ rfl) ?_ | refine ArgsV.cons (.toD _ _ (by first | exact ToD.d _ | exact ToD.row _ _ _ _ _ rfl | exact ToD.nil _)) ?_)); exact ArgsV.nil) ⟨obs_cons rfl obs_nil, rfl, rfl, rfl, rfl⟩ (fun v hv => ?_) (fun _ _ h => h.elim)
    subst hv
    repeat (first | refine aq_then_p ?_ | refine aq_block_p ?_)
    refine aq_less (sl' := [(4, .box 1004 0), (3, .box 1003 0), (2, .box 1002 0)]) (ob' := [(1003, intB p), (1004, errB 0), (1002, zeroB)]) (by (repeat (first | exact sub_nil | (apply sub_cons; focus (first | rfl | exact vint (by first | omega) | (simp [look]; done)))))) (by (repeat (first | exact obs_nil | (apply obs_cons; focus (first | rfl | (simp [find]; done)))))) ?_
    refine aq_leave (.inr ⟨_, rfl, rfl⟩) (settle_caught (nxt t).p 12) hN hE' rfl hcl hcs rfl (parseE1_yes (nxt t).p 12 p 0 _ rfl) rfl rfl (fun E'' ob'' k1 k2 hN'' ho => ?_) (fun _ _ => trivial)
    subst ho
    rw [hV]
    refine aq_nilcell 1002 4 5 rfl rfl rfl ?_
    exact retN3 hN'' rfl (by first | exact ResX.tmp _ _ (by first | exact ToD.d _ | exact ToD.row _ _ _ _ _ rfl) | exact ResX.cellA _ _ _ _ _ _ _ rfl rfl rfl (by first | (simp only [normV, normList, normMap]; rfl) | rfl) rfl | exact ResX.cell1 _ _ _ _ _ _ rfl rfl rfl (by first | exact ToD.d _ | exact ToD.row _ _ _ _ _ rfl)) (by first | exact ResX.tmp _ _ (by first | exact ToD.d _ | exact ToD.row _ _ _ _ _ rfl) | exact ResX.cellA _ _ _ _ _ _ _ rfl rfl rfl (by first | (simp only [normV, normList, normMap]; rfl) | rfl) rfl | exact ResX.cell1 _ _ _ _ _ _ rfl rfl rfl (by first | exact ToD.d _ | exact ToD.row _ _ _ _ _ rfl)) (by first | exact ResX.tmp _ _ (by first | exact ToD.d _ | exact ToD.row _ _ _ _ _ rfl) | exact ResX.cellA _ _ _ _ _ _ _ rfl rfl rfl (by first | (simp only [normV, normList, normMap]; rfl) | rfl) rfl | exact ResX.cell1 _ _ _ _ _ _ rfl rfl rfl (by first | exact ToD.d _ | exact ToD.row _ _ _ _ _ rfl)) rfl k1
  ·rw [hx] at hV
   have hbad := out_bad hrd hx
   repeat' (first | refine nx ?_ | apply aq_pq | (apply qr_move; refine r_move ?_) | (apply at_cond; first | refine c_t ?_ | refine c_f ?_ | (refine aw_cond rfl (fun hb => ?_) (fun hb => ?_) <;> ((try have hq := dX hb); (try (exfalso; omega))))) | (apply qr_alloc; refine r_alloc ?_) | (apply qr_store; refine r_store ?_))
   refine al_pcall [(1000, 1000)] hbad rfl hE (lt_ok rfl) (by (repeat (first | refine ArgsV.cons (.same _ _ rfl) ?_ | refine ArgsV.cons (.toD _ _ (by first | exact ToD.d _ | exact ToD.row _ _ _ _ _ rfl | exact ToD.nil _)) ?_)); exact ArgsV.nil) ⟨obs_cons rfl obs_nil, rfl, rfl, rfl, rfl⟩ (fun v hv => ?_) (fun _ _ h => h.elim)
   subst hv
   repeat (first | refine aq_then_p ?_ | refine aq_block_p ?_)
   refine aq_less (sl' := [(4, .box 1004 0), (3, .box 1003 0), (2, .box 1002 0)]) (ob' := [(1003, intB p), (1004, errB 0), (1002, zeroB)]) (by (repeat (first | exact sub_nil | (apply sub_cons; focus (first | rfl | exact vint (by first | omega) | (simp [look]; done)))))) (by (repeat (first | exact obs_nil | (apply obs_cons; focus (first | rfl | (simp [find]; done)))))) ?_
   refine aq_leave (.inr ⟨_, rfl, rfl⟩) (settle_caught q c) hN hE' rfl hcl hcs rfl (parseE1_yes q c p 0 _ rfl) rfl rfl (fun E'' ob'' k1 k2 hN'' ho => ?_) (fun _ _ => trivial)
   subst ho
   rw [hV]
   refine aq_nilcell 1002 4 5 rfl rfl rfl ?_
   exact retN3 hN'' rfl (by first | exact ResX.tmp _ _ (by first | exact ToD.d _ | exact ToD.row _ _ _ _ _ rfl) | exact ResX.cellA _ _ _ _ _ _ _ rfl rfl rfl (by first | (simp only [normV, normList, normMap]; rfl) | rfl) rfl | exact ResX.cell1 _ _ _ _ _ _ rfl rfl rfl (by first | exact ToD.d _ | exact ToD.row _ _ _ _ _ rfl)) (by first | exact ResX.tmp _ _ (by first | exact ToD.d _ | exact ToD.row _ _ _ _ _ rfl) | exact ResX.cellA _ _ _ _ _ _ _ rfl rfl rfl (by first | (simp only [normV, normList, normMap]; rfl) | rfl) rfl | exact ResX.cell1 _ _ _ _ _ _ rfl rfl rfl (by first | exact ToD.d _ | exact ToD.row _ _ _ _ _ rfl)) (by first | exact ResX.tmp _ _ (by first | exact ToD.d _ | exact ToD.row _ _ _ _ _ rfl) | exact ResX.cellA _ _ _ _ _ _ _ rfl rfl rfl (by first | (simp only [normV, normList, normMap]; rfl) | rfl) rfl | exact ResX.cell1 _ _ _ _ _ _ rfl rfl rfl (by first | exact ToD.d _ | exact ToD.row _ _ _ _ _ rfl)) rfl k1
 ·rw [if_neg he] at hV
  have q0 : (!decide (e = 0)) = true := by simp [he]
  refine pure_enterD Tryz.func11 rfl (by decide) _ Tryz.ntmps11 (le_ok rfl) (fun w Pr hE => ?_)
  dsimp only [slotsOf, Nat.zero_add, Nat.reduceAdd]
  repeat' (first | (apply at_call; refine k_ocall [(16, 30)] (hopen) hE ?_; rintro _ _ ⟨rfl, rfl⟩ <;> (intro _ _ h1 h2; simp only [renEqs, Nat.reduceBEq, renL_app, renL_ds, renL_und] at h1 h2; subst h1 h2)) | refine nx ?_ | apply aq_pq | (apply qr_move; refine r_move ?_) | (apply qr_assign; refine r_assign ?_) | (apply at_cond; first | refine c_t ?_ | refine c_f ?_ | (refine aw_cond rfl (fun hb => ?_) (fun hb => ?_) <;> ((try have hq := dX hb); (try (exfalso; omega))))) | (apply qr_neq; refine r_neq ?_) | (apply qr_extract; refine r_extract ?_) | (apply qr_load; refine r_load ?_) | (apply qr_alloc; refine r_alloc ?_) | (apply qr_store; refine r_store ?_))
  refine aw_mixo ([(3, intB p), (4, errB e)]) [(0, true), (1, true), (2, true), (3, false)] [4, 5] (by kernel_rfl) (by kernel_rfl) (by kernel_rfl) (by decide) (by (repeat (first | exact obs_nil | (apply obs_cons; focus (first | rfl | (simp [find]; done)))))) ?_
  simp only [planned, tailed, List.filterMap_cons, List.filterMap_nil, List.getElem?_cons_zero, List.getElem?_cons_succ, Option.map_some]
  repeat' (first | apply am_nil | refine m_skip ?_ | refine n_skip ?_ | (apply at_am (.store _ _ _); refine am_store (by first | exact want_none | exact want_yes rfl rfl (by assumption) | exact want_yes rfl rfl (by with_reducible rfl)) rfl rfl rfl (ev_d rfl) nofun (by first | (simp only [normV, normList, normMap]; rfl) | rfl) (by simp [V.one, Value.oneCell']) (.inr rfl) rfl (le_ok rfl) (by first | (simp only [normV, normList, normMap]; rfl) | rfl) ?_) | (apply qm_load; refine m_load ?_) | (apply qm_build; refine m_build ?_) | (refine am_split rfl rfl (fun hb => ?_) (fun hb => ?_) <;> ((try have hq := dX hb); (try (exfalso; omega)))))
  repeat' (first | refine nx ?_ | apply aq_pq | (apply at_cond; first | refine c_t ?_ | refine c_f ?_ | (refine aw_cond rfl (fun hb => ?_) (fun hb => ?_) <;> ((try have hq := dX hb); (try (exfalso; omega))))) | (apply qr_load; refine r_load ?_) | (apply qr_store; refine r_store ?_) | (apply qr_build; refine r_build ?_))
  refine aq_nilcell 2 4 5 rfl rfl rfl ?_
  refine aq_d0 (.inl rfl) ?_
  rw [hV]
  refine ret3x (by rfl) (by first | exact ResX.tmp _ _ (by first | exact ToD.d _ | exact ToD.row _ _ _ _ _ rfl) | exact ResX.cellA _ _ _ _ _ _ _ rfl rfl rfl (by first | (simp only [normV, normList, normMap]; rfl) | rfl) rfl | exact ResX.cell1 _ _ _ _ _ _ rfl rfl rfl (by first | exact ToD.d _ | exact ToD.row _ _ _ _ _ rfl)) (by first | exact ResX.tmp _ _ (by first | exact ToD.d _ | exact ToD.row _ _ _ _ _ rfl) | exact ResX.cellA _ _ _ _ _ _ _ rfl rfl rfl (by first | (simp only [normV, normList, normMap]; rfl) | rfl) rfl | exact ResX.cell1 _ _ _ _ _ _ rfl rfl rfl (by first | exact ToD.d _ | exact ToD.row _ _ _ _ _ rfl)) (by first | exact ResX.tmp _ _ (by first | exact ToD.d _ | exact ToD.row _ _ _ _ _ rfl) | exact ResX.cellA _ _ _ _ _ _ _ rfl rfl rfl (by first | (simp only [normV, normList, normMap]; rfl) | rfl) rfl | exact ResX.cell1 _ _ _ _ _ _ rfl rfl rfl (by first | exact ToD.d _ | exact ToD.row _ _ _ _ _ rfl)) ?_
  rfl
end Go.Proofs.YtedoeogopmenpaaGreatDoor
end
section
namespace Go.Proofs.YtedoeogopmenpaaGreatDoor
open Go.RowKit
inductive Wk : D → D → Prop where
 | same (x : D) : Wk x x
 | nil (s : Nat) : Wk (.val (.slice none 0 0)) (.list s [])
 | agg (l m : List D) (hl : l.length = m.length) (h : ∀ (i : Nat) (x y : D), l[i]? = some x → m[i]? = some y → Wk x y) : Wk (.agg l) (.agg m)
 | list (s : Nat) (l m : List (List D)) (hl : l.length = m.length) (h : ∀ (i : Nat) (x y : List D), l[i]? = some x → m[i]? = some y → x.length = y.length) (hd : ∀ (i j : Nat) (e f : List D) (x y : D), l[i]? = some e → m[i]? = some f → e[j]? = some x → f[j]? = some y → Wk x y) : Wk (.list s l) (.list s m)
theorem get_some {α : Type} {l : List α} {i : Nat} (h : i < l.length) : ∃ x, l[i]? = some x := ⟨_, List.getElem?_eq_getElem h⟩
theorem get_lt {α : Type} {l : List α} {i : Nat} {x : α} (h : l[i]? = some x) : i < l.length := (List.getElem?_eq_some_iff.1 h).1
theorem Wk.rep {w : World} {Pr : Prot} {x y : D} (h : Wk x y) : ∀ v, RepD w Pr v x → RepD w Pr v y := by
 induction h with
 | same x => exact fun v h => h
 | nil s =>
  intro v h
  cases h
  exact .nil none 0 s (Nat.zero_le _)
 | agg l m hl hh ih =>
  intro v h
  cases h with
  | agg cs _ hc hd =>
   refine .agg cs m (hc.trans hl) (fun i v d h1 h2 => ?_)
   obtain ⟨z, hz⟩ := get_some (l := l) (i := i) (by rw [hl]; exact get_lt h2)
   exact ih i z d hz h2 v (hd i v z h1 hz)
 | list s l m hl hh hd ih =>
  intro v h
  cases h with
  | nil A c _ hm =>
   obtain rfl : m = [] := List.eq_nil_of_length_eq_zero hl.symm
   exact .nil A c s hm
  | list b o n c _ _ u hn hs hc hm hr hq =>
   refine .list b o n c s m u (hl.symm.trans hn) (fun e he => ?_) hc hm (fun i j e d h1 h2 => ?_) (fun i j e d h1 h2 => ?_)
   ·obtain ⟨i, hi, rfl⟩ := List.mem_iff_getElem.1 he
    have hi2 : i < l.length := by omega
    rw [← hh i l[i] m[i] (List.getElem?_eq_getElem hi2) (List.getElem?_eq_getElem hi)]
    exact hs _ (List.getElem_mem hi2)
   ·obtain ⟨e', he'⟩ := get_some (l := l) (i := i) (by rw [hl]; exact get_lt h1)
    obtain ⟨d', hd'⟩ := get_some (l := e') (i := j) (by rw [hh i e' e he' h1]; exact get_lt h2)
    exact hr i j e' d' he' hd'
   ·obtain ⟨e', he'⟩ := get_some (l := l) (i := i) (by rw [hl]; exact get_lt h1)
    obtain ⟨d', hd'⟩ := get_some (l := e') (i := j) (by rw [hh i e' e he' h1]; exact get_lt h2)
    exact ih i j e' e d' d he' h1 hd' h2 _ (hq i j e' d' he' hd')
theorem PureC.wk {f : FuncId} {x y : D} {Post : D → Prop} (h : PureC f [y] Post) (hw : Wk x y) : PureC f [x] Post :=
 ⟨h.1, fun w Pr vs h1 h2 h3 h4 => h.2 w Pr vs h1 h2 h3 fun i v d hv hd => by
  match i with
  | 0 => cases hd; exact hw.rep v (h4 0 v x hv rfl)
  | i + 1 => simp at hd⟩
theorem wk_cons {x y : D} {l m : List D} (h : Wk x y) (hl : l.length = m.length ∧ ∀ (i : Nat) (x y : D), l[i]? = some x → m[i]? = some y → Wk x y) : (x :: l).length = (y :: m).length ∧ ∀ (i : Nat) (a b : D), (x :: l)[i]? = some a → (y :: m)[i]? = some b → Wk a b :=
 ⟨by simp [hl.1], fun i a b h1 h2 => by
  cases i with
  | zero => cases h1; cases h2; exact h
  | succ i => exact hl.2 i a b h1 h2⟩
theorem wk_nil : ([] : List D).length = ([] : List D).length ∧ ∀ (i : Nat) (a b : D), ([] : List D)[i]? = some a → ([] : List D)[i]? = some b → Wk a b := ⟨rfl, fun i a b h1 _ => by simp at h1⟩
def WkL (l m : List D) : Prop := l.length = m.length ∧ ∀ (i : Nat) (x y : D), l[i]? = some x → m[i]? = some y → Wk x y
theorem wk_agg {l m : List D} (h : WkL l m) : Wk (.agg l) (.agg m) := .agg l m h.1 h.2
theorem wk_two {s : Nat} {a b c d : List D} (h1 : WkL a c) (h2 : WkL b d) : Wk (.list s [a, b]) (.list s [c, d]) := by
 refine .list s _ _ rfl (fun i x y hx hy => ?_) (fun i j e f x y he hf hx hy => ?_)
 ·match i with
  | 0 => cases hx; cases hy; exact h1.1
  | 1 => cases hx; cases hy; exact h2.1
  | i + 2 => simp at hx
 ·match i with
  | 0 => cases he; cases hf; exact h1.2 j x y hx hy
  | 1 => cases he; cases hf; exact h2.2 j x y hx hy
  | i + 2 => simp at he
theorem wkl_args {a b c e : D} {x y : D} (h : Wk x y) : WkL [a, b, c, e, x] [a, b, c, e, y] :=
 wk_cons (.same _) (wk_cons (.same _) (wk_cons (.same _) (wk_cons (.same _) (wk_cons h wk_nil))))
end Go.Proofs.YtedoeogopmenpaaGreatDoor
end
section
set_option linter.unusedSimpArgs false
set_option linter.unusedVariables false
namespace Go.Proofs.YtedoeogopmenpaaGreatDoor
open Go.RowKit
abbrev nilD : D := .val (.slice none 0 0)
abbrev w_ride : ByteArray := ⟨#[114, 105, 100, 101]⟩
abbrev sumA : List D := [.int 4, .int 0, .int 0, .str ⟨#[]⟩, .list 5 [[.int 2, .int 0, .int 0, .str w_ride, nilD], [.int 0, .int 5, .int 2, .str ⟨#[]⟩, nilD]]]
abbrev mulA : List D := [.int 6, .int 0, .int 0, .str ⟨#[]⟩, .list 5 [[.int 0, .int 3, .int 0, .str ⟨#[]⟩, nilD], sumA]]
theorem sum_wk : WkL sumA (exC e_sum) := wkl_args (wk_two (wkl_args (.nil 5)) (wkl_args (.nil 5)))
theorem mul_wk : WkL mulA (exC e_mul) := wkl_args (wk_two (wkl_args (.nil 5)) sum_wk)
theorem PureC.wk2 {f : FuncId} {x y u v : D} {Post : D → Prop} (h : PureC f [y, v] Post) (hw : Wk x y) (hv : Wk u v) : PureC f [x, u] Post :=
 ⟨h.1, fun w Pr vs h1 h2 h3 h4 => h.2 w Pr vs h1 h2 h3 fun i z d hz hd => by
  match i with
  | 0 => cases hd; exact hw.rep z (h4 0 z x hz rfl)
  | 1 => cases hd; exact hv.rep z (h4 1 z u hz rfl)
  | i + 2 => simp at hd⟩
theorem tame_one : e_one.tame := by
 simp only [e_one, Ex.tame, Ex.tameL]
 repeat' apply And.intro
 all_goals first | trivial | decide
theorem tame_sum : e_sum.tame := by
 simp only [e_sum, Ex.tame, Ex.tameL]
 repeat' apply And.intro
 all_goals first | trivial | decide
theorem tame_mul : e_mul.tame := by
 simp only [e_mul, e_sum, Ex.tame, Ex.tameL]
 repeat' apply And.intro
 all_goals first | trivial | decide
theorem tame_zero : Ex.zero.tame := by
 simp only [Ex.zero, Ex.tame, Ex.tameL]
 repeat' apply And.intro
 all_goals first | trivial | decide
theorem tame_x : x_one.tame := by
 refine ⟨by decide, by decide, fun q hq => ?_, ?_, ?_, ?_, ?_⟩
 ·simp only [x_one, List.mem_singleton] at hq
  subst hq
  refine ⟨by decide, ?_⟩
  simp only [Ex.tame, Ex.tameL]
  repeat' apply And.intro
  all_goals first | trivial | decide
 all_goals
  simp only [x_one, Ex.tame, Ex.tameL]
  repeat' apply And.intro
  all_goals first | trivial | decide
theorem tame_z : By.zero.tame := ⟨by decide, by decide, fun q hq => by simp [By.zero] at hq, tame_zero, tame_zero, tame_zero, tame_zero⟩
abbrev zA : List D := [.str ⟨#[]⟩, nilD, .int 0, .int 0, .int 0, .str ⟨#[]⟩, nilD, .int 0, .int 0, .int 0, .str ⟨#[]⟩, nilD, .int 0, .int 0, .int 0, .str ⟨#[]⟩, nilD, .int 0, .int 0, .int 0, .str ⟨#[]⟩, nilD, .int 0, .int 0, .int 0]
theorem z_wk : WkL zA (byC By.zero) :=
 wk_cons (.same _) (wk_cons (.nil 6) (wk_cons (.same _) (wk_cons (.same _) (wk_cons (.same _) (wk_cons (.same _) (wk_cons (.nil 5) (wk_cons (.same _) (wk_cons (.same _) (wk_cons (.same _) (wk_cons (.same _) (wk_cons (.nil 5) (wk_cons (.same _) (wk_cons (.same _) (wk_cons (.same _) (wk_cons (.same _) (wk_cons (.nil 5) (wk_cons (.same _) (wk_cons (.same _) (wk_cons (.same _) (wk_cons (.same _) (wk_cons (.nil 5) (wk_cons (.same _) (wk_cons (.same _) (wk_cons (.same _) wk_nil))))))))))))))))))))))))
theorem text30_any : PureC 34 [] (· = .str t_text) := by
 refine pure_enter Tryz.func34 rfl (by decide) _ Tryz.ntmps34 (le_ok rfl) (fun w Pr hE => ?_)
 dsimp only [slotsOf, Nat.zero_add, Nat.reduceAdd]
 repeat' (first | refine nx ?_ | (apply qr_assign; refine r_assign ?_))
 refine rt1 ?_
 rfl
theorem print_e {e : Ex} {s : ByteArray} (hr : e.right 12 = true) (hs : e.text 0 = s) (hz : s.size ≤ 4000) : printED e = .tup [.str s, .int 0] := by
 unfold printED fitsD
 rw [if_pos hr, hs, if_neg (by omega)]
theorem small_any : PureC 8 [] (· = .bool true) := by
 have p1 := parseE_any t_one (by decide)
 have p2 := parse_any t_text (by decide)
 have p3 := parse_any t_bad (by decide)
 have p4 := parseE_any t_two (by decide)
 rw [parse_one] at p1
 rw [parse_text] at p2
 rw [parse_bad] at p3
 rw [parse_two] at p4
 have w1 := printE_any e_one tame_one
 rw [print_e right_one print_one (by decide)] at w1
 have w2 := (printE_any e_mul tame_mul).wk (wk_agg mul_wk)
 rw [print_e right_mul print_mul (by decide)] at w2
 have w3 := print_any x_one tame_x
 have hpx : printD x_one = .tup [.str x_one.text, .int 0] := by
  unfold printD fitsD
  rw [if_pos right_x, if_neg (by rw [print_text]; decide)]
 rw [hpx] at w3
 have r1 := byRight_any x_one tame_x
 rw [right_x] at r1
 have r2 := (byRight_any By.zero tame_z).wk (wk_agg z_wk)
 rw [right_z] at r2
 have r3 := (rightExp_any e_sum tame_sum).wk (wk_agg sum_wk)
 rw [right_sum] at r3
 have r4 : PureC 24 [.agg [.int 1, .int 0, .int 0, .str ⟨#[]⟩, nilD]] (· = .bool ((Ex.mk 1 0 0 ⟨#[]⟩ []).right 12)) := (rightExp_any (.mk 1 0 0 ⟨#[]⟩ []) (by simp only [Ex.tame, Ex.tameL]; repeat' apply And.intro; all_goals first | trivial | decide)).wk (wk_agg (wkl_args (.nil 5)))
 rw [right_n] at r4
 have n1 := name_any ⟨#[112, 101, 114, 105, 111, 100]⟩ (by decide)
 rw [name_y] at n1
 have n2 := name_any ⟨#[99, 101, 110, 116, 115]⟩ (by decide)
 rw [name_n] at n2
 have m1 := same_any x_one x_one tame_x tame_x
 rw [(bySame_iff x_one x_one).2 rfl] at m1
 have m2 := (sameE_any e_sum e_sum tame_sum tame_sum).wk2 (wk_agg sum_wk) (wk_agg sum_wk)
 rw [(same_iff e_sum e_sum).2 rfl] at m2
 have hsz : ((x_one.text.size : Nat) : Int) = (t_text.size : Int) + 1 := by rw [print_text]; rfl
 have hq : decide (((x_one.text.size : Nat) : Int) = (t_text.size : Int) + 1) = true := decide_eq_true hsz
 have htt := text30_any
 have htz : t_text.size ≤ 1000 := by decide
 unfold parseED at p1 p4
 unfold parseD at p2 p3
 dsimp only at p1 p2 p3 p4
 generalize x_one = X at *
 generalize e_one = E1 at *
 unfold t_one at p1
 unfold t_bad at p3
 unfold t_two at p4
 generalize t_text = TT at *
 generalize X.text = XT at *
 refine pure_enter Tryz.func8 rfl (by decide) _ Tryz.ntmps8 (le_ok rfl) (fun w Pr hE => ?_)
 dsimp only [slotsOf, Nat.zero_add, Nat.reduceAdd]
 repeat' (first | (apply at_call; refine k_call (p1) hE ?_; rintro _ rfl; clear p1) | (apply at_call; refine k_call (w1) hE ?_; rintro _ rfl; clear w1) | (apply at_call; refine k_call (w2) hE ?_; rintro _ rfl) | (apply at_call; refine k_call (htt) hE ?_; rintro _ rfl) | (apply at_call; refine k_call (p2) hE ?_; rintro _ rfl; clear p2) | (apply at_call; refine k_call (w3) hE ?_; rintro _ rfl) | (apply at_call; refine k_call (p3) hE ?_; rintro _ rfl) | (apply at_call; refine k_call (p4) hE ?_; rintro _ rfl) | (apply at_call; refine k_call (r1) hE ?_; rintro _ rfl; clear r1) | (apply at_call; refine k_call (r2) hE ?_; rintro _ rfl) | (apply at_call; refine k_call (r3) hE ?_; rintro _ rfl; clear r3) | (apply at_call; refine k_call (r4) hE ?_; rintro _ rfl) | (apply at_call; refine k_call (n1) hE ?_; rintro _ rfl; clear n1) | (apply at_call; refine k_call (n2) hE ?_; rintro _ rfl) | (apply at_call; refine k_call (m1) hE ?_; rintro _ rfl) | (apply at_call; refine k_call (m2) hE ?_; rintro _ rfl) | refine nx ?_ | (apply qr_move; refine r_move ?_) | (apply qr_assign; refine r_assign ?_) | (apply at_guard; first | refine g_go ?_ | refine g_nt ?_ | refine g_nf ?_ | refine g_nu ?_ | ((first | refine al_split_t rfl rfl (lt_ok rfl) (fun hb => ?_) (fun hb => ?_) | refine al_split_f rfl rfl (lt_ok rfl) (fun hb => ?_) (fun hb => ?_)) <;> ((try have hq := dX hb); (try (exfalso; omega))))) | (apply qr_pick; refine r_pick ?_) | (apply qr_eql; refine r_eql ?_) | (apply qr_add; refine r_add ?_) | (apply qr_not; refine r_not ?_) | (apply qr_len; refine r_len ?_) | (apply qr_extract; refine r_extract ?_) | (apply qr_load; refine r_load ?_) | (apply qr_alloc; refine r_alloc ?_) | (apply qr_store; refine r_store ?_) | (apply qr_build; refine r_build ?_) | (apply qr_lits; refine r_lits ?_))
 refine rt1 ?_
 rfl
end Go.Proofs.YtedoeogopmenpaaGreatDoor
end
section
set_option linter.unusedSimpArgs false
set_option linter.unusedVariables false
namespace Go.Proofs.YtedoeogopmenpaaGreatDoor
open Go.RowKit
theorem printD_form (x : By) : ∃ s n, printD x = .tup [.str s, .int n] := by
 unfold printD
 split
 ·exact fitsD_form _
 ·exact ⟨_, _, rfl⟩
theorem printED_form (e : Ex) : ∃ s n, printED e = .tup [.str s, .int n] := by
 unfold printED
 split
 ·exact fitsD_form _
 ·exact ⟨_, _, rfl⟩
theorem prints_any (a b : By) (ca : a.came) (cb : b.came) : PureC 4 [.agg (byC a), .agg (byC b)] (· = .bool true) := by
 have f1 := few_any a ca
 have f2 := few_any b cb
 refine pure_enter Tryz.func4 rfl (by decide) _ Tryz.ntmps4 (le_ok rfl) (fun w Pr hE => ?_)
 dsimp only [slotsOf, Nat.zero_add, Nat.reduceAdd]
 repeat' (first | (apply at_call; refine k_call (small_any) hE ?_; rintro _ rfl) | (apply at_call; refine k_call (f1) hE ?_; (rintro _ ⟨b1, rfl, t1⟩; clear f1; cases b1)) | (apply at_call; refine k_call (f2) hE ?_; (rintro _ ⟨b2, rfl, t2⟩; clear f2; cases b2)) | refine nx ?_ | (apply qr_move; refine r_move ?_) | (apply qr_assign; refine r_assign ?_) | (apply at_cond; first | refine c_t ?_ | refine c_f ?_ | (refine aw_cond rfl (fun hb => ?_) (fun hb => ?_) <;> ((try have hq := dX hb); (try (exfalso; omega))))) | (apply at_guard; first | refine g_go ?_ | refine g_nt ?_ | refine g_nf ?_ | refine g_nu ?_ | ((first | refine al_split_t rfl rfl (lt_ok rfl) (fun hb => ?_) (fun hb => ?_) | refine al_split_f rfl rfl (lt_ok rfl) (fun hb => ?_) (fun hb => ?_)) <;> ((try have hq := dX hb); (try (exfalso; omega))))) | (apply qr_pick; refine r_pick ?_) | (apply qr_not; refine r_not ?_) | (apply qr_load; refine r_load ?_) | (apply qr_boxed; refine r_boxed ?_))
 ·skip
  refine rt1 ?_
  rfl
 ·skip
  refine rt1 ?_
  rfl
 have ta := (t1 rfl).1
 have tb := (t2 rfl).1
 have p1 := print_any a ta
 have p2 := rprint_any a ta
 have p3 := printE_any a.fare ta.fare
 have p4 := rprintE_any a.fare ta.fare
 have r1 := byRight_any a ta
 have r2 := rbyRight_any a ta
 have r3 := rightExp_any a.fare ta.fare
 have r4 := rrightExp_any a.fare ta.fare
 have m1 := same_any a b ta tb
 have m2 := rsame_any a b ta tb
 have m3 := same_any a a ta ta
 rw [(bySame_iff a a).2 rfl] at m3
 have m4 := sameE_any a.fare b.fare ta.fare tb.fare
 have m5 := rsameE_any a.fare b.fare ta.fare tb.fare
 obtain ⟨s1, n1, e1⟩ := printD_form a
 obtain ⟨s2, n2, e2⟩ := printED_form a.fare
 rw [e1] at p1 p2
 rw [e2] at p3 p4
 clear e1 e2
 generalize a.right = br at r1 r2
 generalize a.fare.right 12 = bf at r3 r4
 generalize a.same b = bs at m1 m2
 generalize a.fare.same b.fare = be at m4 m5
 have q1 : decide (s1 = s1) = true := decide_eq_true rfl
 have q2 : decide (n1 = n1) = true := decide_eq_true rfl
 have q3 : decide (s2 = s2) = true := decide_eq_true rfl
 have q4 : decide (n2 = n2) = true := decide_eq_true rfl
 have q5 : (br == br) = true := by simp
 have q6 : (bf == bf) = true := by simp
 have q7 : (bs == bs) = true := by simp
 have q8 : (be == be) = true := by simp
 repeat' (first | (apply at_call; refine k_call (p1) hE ?_; rintro _ rfl) | (apply at_call; refine k_call (p2) hE ?_; rintro _ rfl) | (apply at_call; refine k_call (p3) hE ?_; rintro _ rfl) | (apply at_call; refine k_call (p4) hE ?_; rintro _ rfl) | refine nx ?_ | (apply qr_move; refine r_move ?_) | (apply qr_assign; refine r_assign ?_) | (apply at_cond; first | refine c_t ?_ | refine c_f ?_ | (refine aw_cond rfl (fun hb => ?_) (fun hb => ?_) <;> ((try have hq := dX hb); (try (exfalso; omega))))) | (apply qr_extract; refine r_extract ?_) | (apply qr_load; refine r_load ?_) | (apply qr_faddr; refine r_faddr ?_))
 refine aw_mixo ([(2, byO' a)]) [(0, true), (1, true), (2, true), (3, true), (4, true), (5, true), (6, true), (7, true), (8, true), (9, true), (10, true), (11, true), (12, true), (13, true), (14, true), (15, true), (16, true), (17, true), (18, true), (19, true), (21, true), (20, false), (22, false), (23, true), (24, true), (25, true), (26, true), (27, true), (29, true), (30, true), (28, false), (31, false), (32, true), (33, true)] [34] (by kernel_rfl) (by kernel_rfl) (by kernel_rfl) (by decide) (by (repeat (first | exact obs_nil | (apply obs_cons; focus (first | rfl | (simp [find]; done)))))) ?_
 simp only [planned, tailed, List.filterMap_cons, List.filterMap_nil, List.getElem?_cons_zero, List.getElem?_cons_succ, Option.map_some]
 repeat' (first | apply am_nil | refine m_skip ?_ | refine n_skip ?_ | (apply at_mcall; refine m_call (r1) hE ?_; rintro _ rfl; (try dsimp only [flat, D.plain, D.plainL])) | (apply at_mcall; refine m_call (r2) hE ?_; rintro _ rfl; (try dsimp only [flat, D.plain, D.plainL])) | (apply at_mcall; refine m_call (r3) hE ?_; rintro _ rfl; (try dsimp only [flat, D.plain, D.plainL])) | (apply at_mcall; refine m_call (r4) hE ?_; rintro _ rfl; (try dsimp only [flat, D.plain, D.plainL])) | (apply qm_move; refine m_move ?_) | (apply qm_pick; refine m_pick ?_) | (apply qm_eql; refine m_eql ?_) | (apply qm_load; refine m_load ?_) | (apply qm_faddr; refine m_faddr ?_) | (refine am_split rfl rfl (fun hb => ?_) (fun hb => ?_) <;> ((try have hq := dX hb); (try (exfalso; omega)))))
 repeat' (first | refine nx ?_ | (apply qr_move; refine r_move ?_) | (apply qr_assign; refine r_assign ?_) | (apply at_cond; first | refine c_t ?_ | refine c_f ?_ | (refine aw_cond rfl (fun hb => ?_) (fun hb => ?_) <;> ((try have hq := dX hb); (try (exfalso; omega))))) | (apply at_guard; first | refine g_go ?_ | refine g_nt ?_ | refine g_nf ?_ | refine g_nu ?_ | ((first | refine al_split_t rfl rfl (lt_ok rfl) (fun hb => ?_) (fun hb => ?_) | refine al_split_f rfl rfl (lt_ok rfl) (fun hb => ?_) (fun hb => ?_)) <;> ((try have hq := dX hb); (try (exfalso; omega))))) | (apply qr_pick; refine r_pick ?_) | (apply qr_eql; refine r_eql ?_) | (apply qr_load; refine r_load ?_) | (apply qr_faddr; refine r_faddr ?_))
 refine aw_mixo ([(2, byO' a), (3, byO' b)]) [(0, true), (1, true), (2, true), (3, true), (4, true), (5, true), (6, true), (8, true), (9, true), (7, false), (10, false), (11, true), (12, true), (13, true), (14, true), (15, true), (16, false), (17, true), (18, true), (19, true), (20, true), (21, true), (22, true), (24, true), (25, true), (26, true), (27, true), (23, false), (28, false), (29, true), (30, true)] [31] (by kernel_rfl) (by kernel_rfl) (by kernel_rfl) (by decide) (by (repeat (first | exact obs_nil | (apply obs_cons; focus (first | rfl | (simp [find]; done)))))) ?_
 simp only [planned, tailed, List.filterMap_cons, List.filterMap_nil, List.getElem?_cons_zero, List.getElem?_cons_succ, Option.map_some]
 repeat' (first | apply am_nil | refine m_skip ?_ | refine n_skip ?_ | (apply at_mcall; refine m_call (m1) hE ?_; rintro _ rfl; clear m1; (try dsimp only [flat, D.plain, D.plainL])) | (apply at_mcall; refine m_call (m2) hE ?_; rintro _ rfl; (try dsimp only [flat, D.plain, D.plainL])) | (apply at_mcall; refine m_call (m3) hE ?_; rintro _ rfl; (try dsimp only [flat, D.plain, D.plainL])) | (apply at_mcall; refine m_call (m4) hE ?_; rintro _ rfl; (try dsimp only [flat, D.plain, D.plainL])) | (apply at_mcall; refine m_call (m5) hE ?_; rintro _ rfl; (try dsimp only [flat, D.plain, D.plainL])) | (apply qm_move; refine m_move ?_) | (apply qm_pick; refine m_pick ?_) | (apply qm_eql; refine m_eql ?_) | (apply qm_load; refine m_load ?_) | (apply qm_faddr; refine m_faddr ?_) | (refine am_split rfl rfl (fun hb => ?_) (fun hb => ?_) <;> ((try have hq := dX hb); (try (exfalso; omega)))))
 repeat' (first | refine nx ?_ | (apply qr_move; refine r_move ?_) | (apply qr_assign; refine r_assign ?_) | (apply at_cond; first | refine c_t ?_ | refine c_f ?_ | (refine aw_cond rfl (fun hb => ?_) (fun hb => ?_) <;> ((try have hq := dX hb); (try (exfalso; omega))))) | (apply at_guard; first | refine g_go ?_ | refine g_nt ?_ | refine g_nf ?_ | refine g_nu ?_ | ((first | refine al_split_t rfl rfl (lt_ok rfl) (fun hb => ?_) (fun hb => ?_) | refine al_split_f rfl rfl (lt_ok rfl) (fun hb => ?_) (fun hb => ?_)) <;> ((try have hq := dX hb); (try (exfalso; omega))))) | (apply qr_pick; refine r_pick ?_) | (apply qr_eql; refine r_eql ?_) | (apply qr_load; refine r_load ?_) | (apply qr_faddr; refine r_faddr ?_))
 refine rt1 ?_
 cases be <;> rfl
end Go.Proofs.YtedoeogopmenpaaGreatDoor
end
section
namespace Go.Proofs.YtedoeogopmenpaaGreatDoor
open Go.ChangeShapes Go.WideShapes Go.ChangeAt Go.RowKit Go.Deep Go.Joins
abbrev laidL : List (String × DataW Unit) := [("math/bits.deBruijn32tab", Rows.laid_math_bits_deBruijn32tab), ("math/bits.deBruijn64tab", Rows.laid_math_bits_deBruijn64tab), ("internal/strconv.uint64pow10", Rows.laid_internal_strconv_uint64pow10), ("tonneau/lex.signs", Rows.laid_tonneau_lex_signs)]
theorem gP : Tryz.prog.globalNamed "internal/strconv.uint64pow10" = some 2 := by kernel_rfl
theorem signsN : Tryz.prog.globalNamed "tonneau/lex.signs" = some 0 := by kernel_rfl
theorem signsT : (Tryz.prog.globals[0]?).map (·.type) = some 138 := by kernel_rfl
theorem signsA : Tryz.prog.underlying 138 = some (.array 11 9) := by kernel_rfl
theorem signsC : Tryz.prog.cellsOf 9 = 1 := by kernel_rfl
theorem signsZ : Tryz.prog.cellsOf 138 = 11 := by kernel_rfl
theorem pow_data : (Rows.laid_internal_strconv_uint64pow10 : DataW Unit) = Lib.tabData .u64 Lib.pow10Tab := by
 unfold Rows.laid_internal_strconv_uint64pow10 Lib.tabData
 kernel_rfl
theorem env_cells {W : World} {Pr : Prot} {name : String} {g : Nat} {vs : List Value} {ds : List D} (hg : Tryz.prog.globalNamed name = some g) (hv : W.var? Tryz.prog name = some vs.toArray) (hP : ∀ o, Pr g o) (hl : vs.length = ds.length) (hr : ∀ (i : Nat) (v : Value) (d : D), vs[i]? = some v → ds[i]? = some d → RepD W Pr v d) :
  (∀ (j : Nat) (d : D), ds[j]? = some d → ∃ u, W.cell? ⟨g, j, none⟩ = some u ∧ Pr g j ∧ RepD W Pr u d) ∧ ∀ j, ds[j]? = none → W.cell? ⟨g, j, none⟩ = none ∧ Pr g j := by
 refine ⟨fun j d hd => ?_, fun j hd => ?_⟩
 ·have hj : j < vs.length := by rw [hl]; exact (List.getElem?_eq_some_iff.1 hd).1
  refine ⟨vs[j], (World.var?_cell hg hv j).trans (by simp [hj]), hP j, hr j _ d (List.getElem?_eq_getElem hj) hd⟩
 ·have hj : ds.length ≤ j := List.getElem?_eq_none_iff.1 hd
  exact ⟨(World.var?_cell hg hv j).trans (by simp; omega), hP j⟩
theorem var_lt {W : World} {name : String} {g : Nat} {cs : Array Value} (hg : Tryz.prog.globalNamed name = some g) (hv : W.var? Tryz.prog name = some cs) : g < W.heap.size := by
 simp only [World.var?, hg, Option.bind_some] at hv
 cases hh : W.heap[g]? with
 | none => rw [hh] at hv; cases hv
 | some o => exact (Array.getElem?_eq_some_iff.1 hh).1
theorem signs_cells {W : World} {rest : List (String × DataW Unit)} (h : laidMet Tryz.prog (("tonneau/lex.signs", Rows.laid_tonneau_lex_signs) :: rest) W) : W.var? Tryz.prog "tonneau/lex.signs" = some (signsL.map Value.string).toArray := by
 obtain ⟨ps, ⟨g, t, cs, fuel, p, q, hg, ht, hvar, hd, _, _⟩, _⟩ := h
 obtain rfl := Option.some.inj (signsN.symm.trans hg)
 obtain rfl := Option.some.inj (signsT.symm.trans ht)
 obtain ⟨xs, m, _, hx, hl, hn, hat⟩ := DataW.trod_array signsA hd
 rw [signsZ] at hl
 have hmap : xs.map (·.1) = signsL.map fun s => DataW.lit (.string s.data.toList) := by
  have := congrArg Prod.fst hx
  injection this with this
  exact this.symm
 rw [hvar]
 congr 1
 apply Array.ext'
 apply List.ext_getElem?
 intro j
 by_cases hj11 : j < 11
 ·obtain ⟨s, hs⟩ : ∃ s, signsL[j]? = some s := ⟨_, List.getElem?_eq_getElem (show j < signsL.length from hj11)⟩
  have h1 := hat j hj11
  rw [signsC, Nat.mul_one] at h1
  obtain ⟨x, hx2⟩ : ∃ x, xs[j]? = some x := ⟨_, List.getElem?_eq_getElem (by omega)⟩
  rw [hx2] at h1
  obtain ⟨z, hz, hx3, _⟩ := DataW.trod_string Tryz.underlying9 h1
  have h2 : (xs.map (·.1))[j]? = some x.1 := by rw [List.getElem?_map, hx2]; rfl
  rw [hmap, List.getElem?_map, hs, hx3] at h2
  have h3 : s = z := by
   simp only [Option.map_some, Option.some.injEq, DataW.lit.injEq, Lit.string.injEq] at h2
   apply ByteArray.ext
   exact Array.toList_inj.1 h2
  have h4 : cs.toList[j]? = some (.string z) := by
   have h5 := congrArg (fun l => l[0]?) hz
   simpa [List.getElem?_take, List.getElem?_drop] using h5
  rw [h4, List.getElem?_map, hs, h3]
  rfl
 ·rw [List.getElem?_eq_none (by omega), List.getElem?_eq_none (by rw [List.length_map]; show 11 ≤ j; omega)]
theorem env_of_laid {W : World} (h : laidMet Tryz.prog laidL W) : EnvOk W (fun b _ => b < W.heap.size) := by
 have h2 := h.tail.tail
 have hp := Lib.tabIs_of_head (t := 159) (e := 153) (n := 20) gP (by kernel_rfl) (by kernel_rfl) (by kernel_rfl) (by kernel_rfl) (by kernel_rfl) (pow_data ▸ h2)
 have hs := signs_cells h2.tail
 intro g l hm
 unfold laidG at hm
 rcases List.mem_cons.1 hm with e | hm
 ·cases e
  refine env_cells (Pr := fun b _ => b < W.heap.size) signsN hs (fun _ => var_lt signsN hs) (by simp) (fun i v d h1 h2 => ?_)
  rw [List.getElem?_map, Option.map_eq_some_iff] at h1 h2
  obtain ⟨s, h3, rfl⟩ := h1
  obtain ⟨s', h4, rfl⟩ := h2
  rw [h3] at h4
  cases h4
  exact .val _
 rcases List.mem_cons.1 hm with e | hm
 ·cases e
  refine env_cells (Pr := fun b _ => b < W.heap.size) gP hp (fun _ => var_lt gP hp) (by simp) (fun i v d h1 h2 => ?_)
  rw [List.getElem?_map, h1] at h2
  cases h2
  exact .val _
 ·cases hm
def dataVals : DataW Unit → List Value
 | .agg l => l.map fun
  | .lit (.int k z) => .int k z
  | _ => .nilFunc
 | _ => []
def setVar (h : Array Obj) (g : Nat) (vs : List Value) : Array Obj := h.modify g fun
 | .cells _ t frozen => .cells vs.toArray t frozen
 | o => o
noncomputable def laidWorld (os : Os) : World :=
 let w0 := World.holding Tryz.prog os ⟨#[], #[], []⟩
 { w0 with heap := setVar (setVar (setVar (setVar w0.heap 3 (dataVals Rows.laid_math_bits_deBruijn32tab)) 4 (dataVals Rows.laid_math_bits_deBruijn64tab)) 2 (dataVals Rows.laid_internal_strconv_uint64pow10)) 0 (signsL.map Value.string) }
theorem laid_met (os : Os) (args : Array Value) : laidMet Tryz.prog laidL ((laidWorld os).forCall (fun _ _ => 0) ⟨#[], args, []⟩).memory :=
 laidMet_of_run (ps := (List.range 32).map (MemPlace.cell 3) ++ (List.range 64).map (MemPlace.cell 4) ++ (List.range 20).map (MemPlace.cell 2) ++ (List.range 11).map (MemPlace.cell 0)) 8 (by kernel_rfl) (by kernel_rfl) (by kernel_rfl)
theorem law_call {f : FuncId} {ds : List D} {w : World} {vs : List Value} (h : PureC f ds (· = .bool true)) (hL : laidMet Tryz.prog laidL w) (hl : vs.length = ds.length)
  (hr : ∀ (i : Nat) (v : Value) (d : D), vs[i]? = some v → ds[i]? = some d → RepD w (fun b _ => b < w.heap.size) v d) :
  Calls Tryz.prog f vs.toArray w fun e w' => e = .returned (.bool true) ∧ Below w.heap.size w w' := by
 refine (h.2 w (fun b _ => b < w.heap.size) vs (fun _ _ h => h) (env_of_laid hL) hl hr).mono fun e w' ⟨v, r, he, hp, hrep, hb⟩ => ?_
 subst hp
 cases hrep
 exact ⟨he, hb⟩
end Go.Proofs.YtedoeogopmenpaaGreatDoor
end
section
namespace Go.Proofs.YtedoeogopmenpaaGreatDoor
open Go.ChangeShapes Go.WideShapes Go.ChangeAt Go.RowKit Go.Deep Go.Joins
section
variable {H : Type} {enc : TypeId × Value → H} {w : World} {base : Nat}
theorem cameL_of {a : List Ex} (h : ∀ x ∈ a, Ex.came x) : Ex.cameL a := by
 induction a with
 | nil => trivial
 | cons x r ih => exact ⟨h x (by simp), ih fun y hy => h y (by simp [hy])⟩
theorem maxLen_le {n : Nat} (h : n ≤ maxLen) : n ≤ 9223372036854775807 := by
 unfold maxLen at h
 omega
theorem showB_exp : ∀ N : Nat, ShowB N enc Tryz.prog w base 26 5 (fun e : Ex => exC e) Ex.came
 | 0 => fun fuel cs x hN _ => by
  have := data_pos x.1
  omega
 | N + 1 => by
  have ih := showB_exp N
  have hl := showB_list (t := 24) Tryz.underlying24 (by kernel_rfl) (by decide) ih
  exact (showB_struct Tryz.underlying26 (by kernel_rfl) (showsB_cons ((show_int Tryz.underlying3).b N) rfl (by kernel_rfl) (showsB_cons ((show_int Tryz.underlying3).b N) rfl (by kernel_rfl)
   (showsB_cons ((show_int Tryz.underlying3).b N) rfl (by kernel_rfl) (showsB_cons ((show_string Tryz.underlying9).b N) rfl (by kernel_rfl) (showsB_cons hl rfl (by kernel_rfl) showsB_nil)))))).as (fun e : Ex => exC e) _
   (fun x => .mk x.1 x.2.1 x.2.2.1 x.2.2.2.1 x.2.2.2.2.1) (fun a => congrArg (fun r => [D.int a.1, D.int a.2.1, D.int a.2.2.1, D.str a.2.2.2.1, D.list 5 r]) (rows_map a.2.2.2.2.1)) (fun x ⟨_, _, _, h4, h5, _⟩ => ⟨maxLen_le h4, maxLen_le h5.1, cameL_of h5.2⟩)
theorem show_exp : Show enc Tryz.prog w base 26 5 (fun e : Ex => exC e) Ex.came := ShowB.all showB_exp
theorem show_let : Show enc Tryz.prog w base 43 6 (fun q : ByteArray × Ex => letC q) (fun q => q.1.size ≤ 9223372036854775807 ∧ q.2.came) :=
 (show_struct Tryz.underlying43 (by kernel_rfl) (shows_cons (show_string Tryz.underlying9) rfl (by kernel_rfl) (shows_cons show_exp rfl (by kernel_rfl) shows_nil))).as (fun q : ByteArray × Ex => letC q) _
  (fun x => (x.1, x.2.1)) (fun _ => rfl) (fun x ⟨h1, h2, _⟩ => ⟨maxLen_le h1, h2⟩)
theorem show_lets : Show enc Tryz.prog w base 23 1 (fun l : List (ByteArray × Ex) => [.list 6 (l.map letC)]) (fun l => l.length ≤ maxLen ∧ ∀ q ∈ l, q.1.size ≤ 9223372036854775807 ∧ q.2.came) :=
 show_list Tryz.underlying23 (by kernel_rfl) (by decide) show_let
theorem show_by : Show enc Tryz.prog w base 28 25 (fun x : By => byC x) By.came :=
 (show_struct Tryz.underlying28 (by kernel_rfl) (shows_cons (show_string Tryz.underlying9) rfl (by kernel_rfl) (shows_cons show_lets rfl (by kernel_rfl) (shows_cons show_exp rfl (by kernel_rfl) (shows_cons show_exp rfl (by kernel_rfl) (shows_cons show_exp rfl (by kernel_rfl) (shows_cons show_exp rfl (by kernel_rfl)
  (shows_cons (show_int Tryz.underlying3) rfl (by kernel_rfl) (shows_cons (show_int Tryz.underlying3) rfl (by kernel_rfl) (shows_cons (show_int Tryz.underlying3) rfl (by kernel_rfl) shows_nil)))))))))).as (fun x : By => byC x) _
  (fun x => ⟨x.1, x.2.1, x.2.2.1, x.2.2.2.1, x.2.2.2.2.1, x.2.2.2.2.2.1, x.2.2.2.2.2.2.1, x.2.2.2.2.2.2.2.1, x.2.2.2.2.2.2.2.2.1⟩) (fun _ => rfl) (fun x ⟨h1, h2, h3, h4, h5, h6, _⟩ => ⟨maxLen_le h1, maxLen_le h2.1, h2.2, h3, h4, h5, h6⟩)
end
end Go.Proofs.YtedoeogopmenpaaGreatDoor
end
