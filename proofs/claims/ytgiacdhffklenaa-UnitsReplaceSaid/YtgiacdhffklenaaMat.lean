/-
  Conditions: none.
-/
import Derived.Test.YtgiacdhffklenaaMas
set_option maxHeartbeats 16000000
set_option maxRecDepth 20000
section
set_option linter.unusedSimpArgs false
set_option linter.unusedVariables false
namespace Go.Proofs.Ytgiacdhffklenaa
open Go.RowKit
theorem replace_any (ls : List (ByteArray × Ex)) (e : Ex) (p : List Int) (wi : Ex) (hl : ls.length ≤ 9223372036854775807) (hc : ∀ q ∈ ls, Ex.came q.2) (ce : e.came) (hp : p.length ≤ 9223372036854775807) (cw : wi.came) : PureC 5 [letsD ls, .agg (exC e), intsD p, .agg (exC wi)] (· = .bool true) := by
 have hml : (ls.map letC).length = ls.length := List.length_map ..
 have hlp : (p.map fun n => [D.int n]).length = p.length := List.length_map ..
 have k1 := usmall_any
 have k2 := ufew_any ls e hl hc ce
 have k3 := fewE_any wi cw
 by_cases hp12 : p.length ≤ 12
 rotate_left 1
 ·have q1 : decide ((12 : Int) < p.length) = true := decide_eq_true (by omega)
  refine pure_enter Try.func5 rfl (by decide) _ Try.ntmps5 (le_ok rfl) (fun w Pr hE => ?_)
  dsimp only [slotsOf, Nat.zero_add, Nat.reduceAdd]
  repeat' (first | (apply at_call; refine k_call (k1) hE ?_; rintro _ rfl) | (apply at_call; refine k_call (k2) hE ?_; (rintro _ ⟨b1, rfl, t1⟩; clear k2; cases b1)) | (apply at_call; refine k_call (k3) hE ?_; (rintro _ ⟨b2, rfl, t2⟩; clear k3; cases b2)) | refine nx ?_ | (apply aq_block_y; decide) | (apply qr_move; refine r_move ?_) | (apply qr_assign; refine r_assign ?_) | (apply at_cond; first | refine c_t ?_ | refine c_f ?_ | (refine aw_cond rfl (fun hb => ?_) (fun hb => ?_) <;> ((try have hq := dX hb); (try (exfalso; omega))))) | (apply at_guard; first | refine g_go ?_ | refine g_nt ?_ | refine g_nf ?_ | refine g_nu ?_ | ((first | refine al_split_t rfl rfl (lt_ok rfl) (fun hb => ?_) (fun hb => ?_) | refine al_split_f rfl rfl (lt_ok rfl) (fun hb => ?_) (fun hb => ?_)) <;> ((try have hq := dX hb); (try (exfalso; omega))))) | (apply qr_pick; refine r_pick ?_) | (apply qr_gtr; refine r_gtr ?_) | (apply qr_not; refine r_not ?_) | (apply qr_len; refine r_len ?_) | (apply qr_load; refine r_load ?_) | (apply qr_boxed; refine r_boxed ?_))
  ·skip
   refine rt1 ?_
   rfl
  ·skip
   refine rt1 ?_
   rfl
  ·skip
   refine rt1 ?_
   rfl
 have q1 : decide ((12 : Int) < p.length) = false := decide_eq_false (by omega)
 refine pure_enter Try.func5 rfl (by decide) _ Try.ntmps5 (le_ok rfl) (fun w Pr hE => ?_)
 dsimp only [slotsOf, Nat.zero_add, Nat.reduceAdd]
 repeat' (first | (apply at_call; refine k_call (k1) hE ?_; rintro _ rfl) | (apply at_call; refine k_call (k2) hE ?_; (rintro _ ⟨b1, rfl, t1⟩; clear k2; cases b1)) | (apply at_call; refine k_call (k3) hE ?_; (rintro _ ⟨b2, rfl, t2⟩; clear k3; cases b2)) | refine nx ?_ | (apply aq_block_y; decide) | (apply qr_move; refine r_move ?_) | (apply qr_assign; refine r_assign ?_) | (apply at_cond; first | refine c_t ?_ | refine c_f ?_ | (refine aw_cond rfl (fun hb => ?_) (fun hb => ?_) <;> ((try have hq := dX hb); (try (exfalso; omega))))) | (apply at_guard; first | refine g_go ?_ | refine g_nt ?_ | refine g_nf ?_ | refine g_nu ?_ | ((first | refine al_split_t rfl rfl (lt_ok rfl) (fun hb => ?_) (fun hb => ?_) | refine al_split_f rfl rfl (lt_ok rfl) (fun hb => ?_) (fun hb => ?_)) <;> ((try have hq := dX hb); (try (exfalso; omega))))) | (apply qr_pick; refine r_pick ?_) | (apply qr_gtr; refine r_gtr ?_) | (apply qr_not; refine r_not ?_) | (apply qr_len; refine r_len ?_) | (apply qr_load; refine r_load ?_) | (apply qr_boxed; refine r_boxed ?_))
 ·skip
  repeat' (first | refine nx ?_ | (apply aq_block_y; decide) | (apply qr_move; refine r_move ?_) | (apply qr_assign; refine r_assign ?_) | (apply at_cond; first | refine c_t ?_ | refine c_f ?_ | (refine aw_cond rfl (fun hb => ?_) (fun hb => ?_) <;> ((try have hq := dX hb); (try (exfalso; omega))))) | (apply at_guard; first | refine g_go ?_ | refine g_nt ?_ | refine g_nf ?_ | refine g_nu ?_ | ((first | refine al_split_t rfl rfl (lt_ok rfl) (fun hb => ?_) (fun hb => ?_) | refine al_split_f rfl rfl (lt_ok rfl) (fun hb => ?_) (fun hb => ?_)) <;> ((try have hq := dX hb); (try (exfalso; omega))))) | (apply qr_pick; refine r_pick ?_) | (apply qr_gtr; refine r_gtr ?_) | (apply qr_not; refine r_not ?_) | (apply qr_len; refine r_len ?_) | (apply qr_load; refine r_load ?_))
  refine rt1 ?_
  rfl
 ·skip
  repeat' (first | refine nx ?_ | (apply aq_block_y; decide) | (apply qr_move; refine r_move ?_) | (apply qr_assign; refine r_assign ?_) | (apply at_cond; first | refine c_t ?_ | refine c_f ?_ | (refine aw_cond rfl (fun hb => ?_) (fun hb => ?_) <;> ((try have hq := dX hb); (try (exfalso; omega))))) | (apply at_guard; first | refine g_go ?_ | refine g_nt ?_ | refine g_nf ?_ | refine g_nu ?_ | ((first | refine al_split_t rfl rfl (lt_ok rfl) (fun hb => ?_) (fun hb => ?_) | refine al_split_f rfl rfl (lt_ok rfl) (fun hb => ?_) (fun hb => ?_)) <;> ((try have hq := dX hb); (try (exfalso; omega))))) | (apply qr_pick; refine r_pick ?_) | (apply qr_gtr; refine r_gtr ?_) | (apply qr_not; refine r_not ?_) | (apply qr_len; refine r_len ?_) | (apply qr_load; refine r_load ?_))
  refine rt1 ?_
  rfl
 obtain ⟨hl20, hls, te⟩ := t1 rfl
 have tw := t2 rfl
 clear t1 t2 k1
 have hl100 : ls.length ≤ 100 := by omega
 have rr := rightExp_any e te
 cases hre12 : e.right 12
 ·rw [hre12] at rr
  repeat' (first | (apply at_call; refine k_call (rr) hE ?_; rintro _ rfl) | refine nx ?_ | (apply aq_block_y; decide) | (apply qr_move; refine r_move ?_) | (apply qr_assign; refine r_assign ?_) | (apply at_cond; first | refine c_t ?_ | refine c_f ?_ | (refine aw_cond rfl (fun hb => ?_) (fun hb => ?_) <;> ((try have hq := dX hb); (try (exfalso; omega))))) | (apply at_guard; first | refine g_go ?_ | refine g_nt ?_ | refine g_nf ?_ | refine g_nu ?_ | ((first | refine al_split_t rfl rfl (lt_ok rfl) (fun hb => ?_) (fun hb => ?_) | refine al_split_f rfl rfl (lt_ok rfl) (fun hb => ?_) (fun hb => ?_)) <;> ((try have hq := dX hb); (try (exfalso; omega))))) | (apply qr_pick; refine r_pick ?_) | (apply qr_gtr; refine r_gtr ?_) | (apply qr_not; refine r_not ?_) | (apply qr_len; refine r_len ?_) | (apply qr_load; refine r_load ?_))
  refine rt1 ?_
  rfl
 rw [hre12] at rr
 have a1 := at_any e p te (by omega)
 cases hat : atP e p
 ·rw [hat] at a1
  unfold atD zeroA at a1
  dsimp only at a1
  repeat' (first | (apply at_call; refine k_call (rr) hE ?_; rintro _ rfl) | (apply at_call; refine k_call (a1) hE ?_; rintro _ rfl) | refine nx ?_ | (apply aq_block_y; decide) | (apply qr_move; refine r_move ?_) | (apply qr_assign; refine r_assign ?_) | (apply at_cond; first | refine c_t ?_ | refine c_f ?_ | (refine aw_cond rfl (fun hb => ?_) (fun hb => ?_) <;> ((try have hq := dX hb); (try (exfalso; omega))))) | (apply at_guard; first | refine g_go ?_ | refine g_nt ?_ | refine g_nf ?_ | refine g_nu ?_ | ((first | refine al_split_t rfl rfl (lt_ok rfl) (fun hb => ?_) (fun hb => ?_) | refine al_split_f rfl rfl (lt_ok rfl) (fun hb => ?_) (fun hb => ?_)) <;> ((try have hq := dX hb); (try (exfalso; omega))))) | (apply qr_pick; refine r_pick ?_) | (apply qr_gtr; refine r_gtr ?_) | (apply qr_not; refine r_not ?_) | (apply qr_len; refine r_len ?_) | (apply qr_extract; refine r_extract ?_) | (apply qr_load; refine r_load ?_) | (apply qr_alloc; refine r_alloc ?_) | (apply qr_store; refine r_store ?_))
  refine rt1 ?_
  rfl
 rename_i part
 rw [hat] at a1
 unfold atD at a1
 dsimp only at a1
 have g0 := uof_any ls part hl100 hls (at_tame p e part te hat)
 have gw := uof_any ls wi hl100 hls tw
 have ww := with_any p e wi te (by omega)
 have z0 : ∀ u q, ofU ls part = (u, q, 0) → part.unitU (scopedU ls) = .ok u := fun u q h => (of_zero h).2.2.2.1
 have zw : ∀ u q, ofU ls wi = (u, q, 0) → wi.unitU (scopedU ls) = .ok u := fun u q h => (of_zero h).2.2.2.1
 unfold ofD at g0 gw
 generalize ofU ls part = r0 at *
 generalize ofU ls wi = rw0 at *
 obtain ⟨u0, p0, c0⟩ := r0
 obtain ⟨u, pw, c⟩ := rw0
 have h0 : c0 = 0 → part.unitU (scopedU ls) = .ok u0 := fun h => z0 u0 p0 (by rw [h])
 have hyu : c = 0 → wi.unitU (scopedU ls) = .ok u := fun h => zw u pw (by rw [h])
 dsimp only at g0 gw
 clear z0 zw q1
 repeat' (first | (apply at_call; refine k_call (rr) hE ?_; rintro _ rfl) | (apply at_call; refine k_call (a1) hE ?_; rintro _ rfl) | (apply at_call; refine k_call (g0) hE ?_; rintro _ rfl; clear g0) | (apply at_call; refine k_call (gw) hE ?_; rintro _ rfl) | (apply at_call; refine k_call (ww) hE ?_; rintro _ rfl) | refine nx ?_ | (apply aq_block_y; decide) | (apply qr_move; refine r_move ?_) | (apply qr_assign; refine r_assign ?_) | (apply at_cond; first | refine c_t ?_ | refine c_f ?_ | (refine aw_cond rfl (fun hb => ?_) (fun hb => ?_) <;> ((try have hq := dX hb); (try (exfalso; omega))))) | (apply at_guard; first | refine g_go ?_ | refine g_nt ?_ | refine g_nf ?_ | refine g_nu ?_ | ((first | refine al_split_t rfl rfl (lt_ok rfl) (fun hb => ?_) (fun hb => ?_) | refine al_split_f rfl rfl (lt_ok rfl) (fun hb => ?_) (fun hb => ?_)) <;> ((try have hq := dX hb); (try (exfalso; omega))))) | (apply qr_pick; refine r_pick ?_) | (apply qr_gtr; refine r_gtr ?_) | (apply qr_not; refine r_not ?_) | (apply qr_len; refine r_len ?_) | (apply qr_extract; refine r_extract ?_) | (apply qr_load; refine r_load ?_) | (apply qr_alloc; refine r_alloc ?_) | (apply qr_store; refine r_store ?_))
 clear gw ww a1 rr
 by_cases ko1 : part.op = 1
 rotate_left 1
 ·have q1 : decide (part.op = 1) = false := decide_eq_false ko1
  repeat' (first | refine nx ?_ | (apply aq_block_y; decide) | (apply qr_move; refine r_move ?_) | (apply at_cond; first | refine c_t ?_ | refine c_f ?_ | (refine aw_cond rfl (fun hb => ?_) (fun hb => ?_) <;> ((try have hq := dX hb); (try (exfalso; omega))))) | (apply at_guard; first | refine g_go ?_ | refine g_nt ?_ | refine g_nf ?_ | refine g_nu ?_ | ((first | refine al_split_t rfl rfl (lt_ok rfl) (fun hb => ?_) (fun hb => ?_) | refine al_split_f rfl rfl (lt_ok rfl) (fun hb => ?_) (fun hb => ?_)) <;> ((try have hq := dX hb); (try (exfalso; omega))))) | (apply qr_pick; refine r_pick ?_) | (apply qr_eql; refine r_eql ?_) | (apply qr_load; refine r_load ?_) | (apply qr_faddr; refine r_faddr ?_))
  clear q1
  have ty := with_tame p e wi te tw
  have r5 := rightExp_any (withP e p wi) ty
  have f5 := fewE_any (withP e p wi) (tame_came _ ty)
  have hre : c0 = 0 → c = 0 → u0 = u → (withP e p wi).right 12 = true → ofU ls (withP e p wi) = ofU ls e := fun h1 h2 h3 h4 => replace_unit hre12 h4 hat (h0 h1) (h3 ▸ hyu h2)
  have g1 := uof_any ls e hl100 hls te
  have g2 := uof_any ls (withP e p wi) hl100 hls ty
  have glen := of_len ls e
  clear hyu
  generalize withP e p wi = x at *
  by_cases k1 : c0 = 0
  rotate_left 1
  ·have q1 : (!decide (c0 = 0)) = true := by rw [decide_eq_false k1]; rfl
   clear hre
   repeat' (first | (apply at_call; refine k_call (r5) hE ?_; rintro _ rfl) | (apply at_call; refine k_call (f5) hE ?_; rintro _ rfl) | refine nx ?_ | (apply aq_block_y; decide) | (apply qr_move; refine r_move ?_) | (apply qr_assign; refine r_assign ?_) | (apply at_cond; first | refine c_t ?_ | refine c_f ?_ | (refine aw_cond rfl (fun hb => ?_) (fun hb => ?_) <;> ((try have hq := dX hb); (try (exfalso; omega))))) | (apply at_guard; first | refine g_go ?_ | refine g_nt ?_ | refine g_nf ?_ | refine g_nu ?_ | ((first | refine al_split_t rfl rfl (lt_ok rfl) (fun hb => ?_) (fun hb => ?_) | refine al_split_f rfl rfl (lt_ok rfl) (fun hb => ?_) (fun hb => ?_)) <;> ((try have hq := dX hb); (try (exfalso; omega))))) | (apply qr_pick; refine r_pick ?_) | (apply qr_neq; refine r_neq ?_) | (apply qr_not; refine r_not ?_) | (apply qr_load; refine r_load ?_))
   refine rt1 ?_
   rfl
  have q1 : (!decide (c0 = 0)) = false := by rw [decide_eq_true k1]; rfl
  by_cases k2 : c = 0
  rotate_left 1
  ·have q2 : (!decide (c = 0)) = true := by rw [decide_eq_false k2]; rfl
   clear hre
   repeat' (first | (apply at_call; refine k_call (r5) hE ?_; rintro _ rfl) | (apply at_call; refine k_call (f5) hE ?_; rintro _ rfl) | refine nx ?_ | (apply aq_block_y; decide) | (apply qr_move; refine r_move ?_) | (apply qr_assign; refine r_assign ?_) | (apply at_cond; first | refine c_t ?_ | refine c_f ?_ | (refine aw_cond rfl (fun hb => ?_) (fun hb => ?_) <;> ((try have hq := dX hb); (try (exfalso; omega))))) | (apply at_guard; first | refine g_go ?_ | refine g_nt ?_ | refine g_nf ?_ | refine g_nu ?_ | ((first | refine al_split_t rfl rfl (lt_ok rfl) (fun hb => ?_) (fun hb => ?_) | refine al_split_f rfl rfl (lt_ok rfl) (fun hb => ?_) (fun hb => ?_)) <;> ((try have hq := dX hb); (try (exfalso; omega))))) | (apply qr_pick; refine r_pick ?_) | (apply qr_neq; refine r_neq ?_) | (apply qr_not; refine r_not ?_) | (apply qr_load; refine r_load ?_))
   refine rt1 ?_
   rfl
  have q2 : (!decide (c = 0)) = false := by rw [decide_eq_true k2]; rfl
  by_cases k3 : u0 = u
  rotate_left 1
  ·have q3 : (!decide (u0 = u)) = true := by rw [decide_eq_false k3]; rfl
   clear hre
   repeat' (first | (apply at_call; refine k_call (r5) hE ?_; rintro _ rfl) | (apply at_call; refine k_call (f5) hE ?_; rintro _ rfl) | refine nx ?_ | (apply aq_block_y; decide) | (apply qr_move; refine r_move ?_) | (apply qr_assign; refine r_assign ?_) | (apply at_cond; first | refine c_t ?_ | refine c_f ?_ | (refine aw_cond rfl (fun hb => ?_) (fun hb => ?_) <;> ((try have hq := dX hb); (try (exfalso; omega))))) | (apply at_guard; first | refine g_go ?_ | refine g_nt ?_ | refine g_nf ?_ | refine g_nu ?_ | ((first | refine al_split_t rfl rfl (lt_ok rfl) (fun hb => ?_) (fun hb => ?_) | refine al_split_f rfl rfl (lt_ok rfl) (fun hb => ?_) (fun hb => ?_)) <;> ((try have hq := dX hb); (try (exfalso; omega))))) | (apply qr_pick; refine r_pick ?_) | (apply qr_neq; refine r_neq ?_) | (apply qr_not; refine r_not ?_) | (apply qr_load; refine r_load ?_))
   refine rt1 ?_
   rfl
  have q3 : (!decide (u0 = u)) = false := by rw [decide_eq_true k3]; rfl
  cases k4 : x.right 12
  ·rw [k4] at r5
   clear hre
   repeat' (first | (apply at_call; refine k_call (r5) hE ?_; rintro _ rfl) | (apply at_call; refine k_call (f5) hE ?_; rintro _ rfl) | refine nx ?_ | (apply aq_block_y; decide) | (apply qr_move; refine r_move ?_) | (apply qr_assign; refine r_assign ?_) | (apply at_cond; first | refine c_t ?_ | refine c_f ?_ | (refine aw_cond rfl (fun hb => ?_) (fun hb => ?_) <;> ((try have hq := dX hb); (try (exfalso; omega))))) | (apply at_guard; first | refine g_go ?_ | refine g_nt ?_ | refine g_nf ?_ | refine g_nu ?_ | ((first | refine al_split_t rfl rfl (lt_ok rfl) (fun hb => ?_) (fun hb => ?_) | refine al_split_f rfl rfl (lt_ok rfl) (fun hb => ?_) (fun hb => ?_)) <;> ((try have hq := dX hb); (try (exfalso; omega))))) | (apply qr_pick; refine r_pick ?_) | (apply qr_neq; refine r_neq ?_) | (apply qr_not; refine r_not ?_) | (apply qr_load; refine r_load ?_))
   refine rt1 ?_
   rfl
  rw [k4] at r5
  rw [hre k1 k2 k3 k4] at g2
  clear hre k1 k2 k3 k4
  repeat' (first | (apply at_call; refine k_call (r5) hE ?_; rintro _ rfl) | (apply at_call; refine k_call (f5) hE ?_; (rintro _ ⟨b5, rfl, t5⟩; cases b5)) | refine nx ?_ | (apply aq_block_y; decide) | (apply qr_move; refine r_move ?_) | (apply at_cond; first | refine c_t ?_ | refine c_f ?_ | (refine aw_cond rfl (fun hb => ?_) (fun hb => ?_) <;> ((try have hq := dX hb); (try (exfalso; omega))))) | (apply at_guard; first | refine g_go ?_ | refine g_nt ?_ | refine g_nf ?_ | refine g_nu ?_ | ((first | refine al_split_t rfl rfl (lt_ok rfl) (fun hb => ?_) (fun hb => ?_) | refine al_split_f rfl rfl (lt_ok rfl) (fun hb => ?_) (fun hb => ?_)) <;> ((try have hq := dX hb); (try (exfalso; omega))))) | (apply qr_pick; refine r_pick ?_) | (apply qr_neq; refine r_neq ?_) | (apply qr_not; refine r_not ?_) | (apply qr_load; refine r_load ?_))
  ·skip
   repeat' (first | refine nx ?_ | (apply aq_block_y; decide) | (apply qr_move; refine r_move ?_) | (apply qr_assign; refine r_assign ?_) | (apply at_cond; first | refine c_t ?_ | refine c_f ?_ | (refine aw_cond rfl (fun hb => ?_) (fun hb => ?_) <;> ((try have hq := dX hb); (try (exfalso; omega))))) | (apply at_guard; first | refine g_go ?_ | refine g_nt ?_ | refine g_nf ?_ | refine g_nu ?_ | ((first | refine al_split_t rfl rfl (lt_ok rfl) (fun hb => ?_) (fun hb => ?_) | refine al_split_f rfl rfl (lt_ok rfl) (fun hb => ?_) (fun hb => ?_)) <;> ((try have hq := dX hb); (try (exfalso; omega))))) | (apply qr_pick; refine r_pick ?_) | (apply qr_neq; refine r_neq ?_) | (apply qr_not; refine r_not ?_) | (apply qr_load; refine r_load ?_))
   refine rt1 ?_
   rfl
  clear t5 r5 f5 q1 q2 q3
  unfold ofD at g1 g2
  generalize ofU ls e = r at *
  obtain ⟨ra, rp, rc⟩ := r
  dsimp only at g1 g2 glen
  have g3 := ints_any rp rp (by omega)
  rw [decide_eq_true rfl] at g3
  have q4 : decide (ra = ra) = true := decide_eq_true rfl
  have q5 : decide (rc = rc) = true := decide_eq_true rfl
  repeat' (first | (apply at_call; refine k_call (g1) hE ?_; rintro _ rfl; clear g1) | (apply at_call; refine k_call (g2) hE ?_; rintro _ rfl) | (apply at_call; refine k_call (g3) hE ?_; rintro _ rfl) | refine nx ?_ | (apply aq_block_y; decide) | (apply qr_move; refine r_move ?_) | (apply qr_assign; refine r_assign ?_) | (apply at_cond; first | refine c_t ?_ | refine c_f ?_ | (refine aw_cond rfl (fun hb => ?_) (fun hb => ?_) <;> ((try have hq := dX hb); (try (exfalso; omega))))) | (apply at_guard; first | refine g_go ?_ | refine g_nt ?_ | refine g_nf ?_ | refine g_nu ?_ | ((first | refine al_split_t rfl rfl (lt_ok rfl) (fun hb => ?_) (fun hb => ?_) | refine al_split_f rfl rfl (lt_ok rfl) (fun hb => ?_) (fun hb => ?_)) <;> ((try have hq := dX hb); (try (exfalso; omega))))) | (apply qr_pick; refine r_pick ?_) | (apply qr_eql; refine r_eql ?_) | (apply qr_neq; refine r_neq ?_) | (apply qr_not; refine r_not ?_) | (apply qr_extract; refine r_extract ?_) | (apply qr_load; refine r_load ?_))
  refine rt1 ?_
  simp
 have q1 : decide (part.op = 1) = true := decide_eq_true ko1
 by_cases ko2 : c0 = 0
 ·have q2 : decide (c0 = 0) = true := decide_eq_true ko2
  repeat' (first | refine nx ?_ | (apply aq_block_y; decide) | (apply qr_move; refine r_move ?_) | (apply qr_assign; refine r_assign ?_) | (apply at_cond; first | refine c_t ?_ | refine c_f ?_ | (refine aw_cond rfl (fun hb => ?_) (fun hb => ?_) <;> ((try have hq := dX hb); (try (exfalso; omega))))) | (apply at_guard; first | refine g_go ?_ | refine g_nt ?_ | refine g_nf ?_ | refine g_nu ?_ | ((first | refine al_split_t rfl rfl (lt_ok rfl) (fun hb => ?_) (fun hb => ?_) | refine al_split_f rfl rfl (lt_ok rfl) (fun hb => ?_) (fun hb => ?_)) <;> ((try have hq := dX hb); (try (exfalso; omega))))) | (apply qr_pick; refine r_pick ?_) | (apply qr_eql; refine r_eql ?_) | (apply qr_sub; refine r_sub ?_) | (apply qr_len; refine r_len ?_) | (apply qr_load; refine r_load ?_) | (apply qr_faddr; refine r_faddr ?_))
  clear q1 q2 ko1
  refine aw_lp (fun N sl ob => ∃ (m : Nat) (v u c : Int) (y : Ex), N = 1 * m ∧ m ≤ ls.length ∧ v = (m : Int) - 1 ∧ y.tame ∧ (c = 0 → y.unitU (scopedU ls) = .ok u) ∧ sl = [(19, .d (.int v)), (18, .box 18 0), (17, .d (.int c)), (15, .d (.int u)), (14, .d (.int c0)), (12, .d (.int u0)), (10, .box 10 0), (9, .d (.bool true)), (5, .box 5 0), (2, .d (intsD p)), (0, .d (letsD ls))] ∧ ob = [(18, exO' (withP e p y)), (10, exO' part), (5, exO' e)]) (⟨ls.length, _, u, c, wi, rfl, Nat.le_refl _, rfl, tw, hyu, rfl, rfl⟩) ?_
  clear hyu tw
  rintro N sl ob ⟨m, v, u, c, y, rfl, hm, hv, hty, hyu, rfl, rfl⟩
  by_cases hm0 : m = 0
  ·have qv : decide (0 ≤ v) = false := decide_eq_false (by omega)
   repeat' (first | refine nx ?_ | (apply aq_block_y; decide) | (apply qr_move; refine r_move ?_) | (apply at_cond; first | refine c_t ?_ | refine c_f ?_ | (refine aw_cond rfl (fun hb => ?_) (fun hb => ?_) <;> ((try have hq := dX hb); (try (exfalso; omega))))) | (apply qr_geq; refine r_geq ?_))
   clear hlp qv hm hv
   have ty := with_tame p e y te hty
   have r5 := rightExp_any (withP e p y) ty
   have f5 := fewE_any (withP e p y) (tame_came _ ty)
   have hre : c0 = 0 → c = 0 → u0 = u → (withP e p y).right 12 = true → ofU ls (withP e p y) = ofU ls e := fun h1 h2 h3 h4 => replace_unit hre12 h4 hat (h0 h1) (h3 ▸ hyu h2)
   have g1 := uof_any ls e hl100 hls te
   have g2 := uof_any ls (withP e p y) hl100 hls ty
   have glen := of_len ls e
   clear hyu
   generalize withP e p y = x at *
   by_cases k1 : c0 = 0
   rotate_left 1
   ·have q1 : (!decide (c0 = 0)) = true := by rw [decide_eq_false k1]; rfl
    clear hre
    repeat' (first | (apply at_call; refine k_call (r5) hE ?_; rintro _ rfl) | (apply at_call; refine k_call (f5) hE ?_; rintro _ rfl) | refine nx ?_ | (apply aq_block_y; decide) | (apply qr_move; refine r_move ?_) | (apply qr_assign; refine r_assign ?_) | (apply at_cond; first | refine c_t ?_ | refine c_f ?_ | (refine aw_cond rfl (fun hb => ?_) (fun hb => ?_) <;> ((try have hq := dX hb); (try (exfalso; omega))))) | (apply at_guard; first | refine g_go ?_ | refine g_nt ?_ | refine g_nf ?_ | refine g_nu ?_ | ((first | refine al_split_t rfl rfl (lt_ok rfl) (fun hb => ?_) (fun hb => ?_) | refine al_split_f rfl rfl (lt_ok rfl) (fun hb => ?_) (fun hb => ?_)) <;> ((try have hq := dX hb); (try (exfalso; omega))))) | (apply qr_pick; refine r_pick ?_) | (apply qr_neq; refine r_neq ?_) | (apply qr_not; refine r_not ?_) | (apply qr_load; refine r_load ?_))
    refine rt1 ?_
    rfl
   have q1 : (!decide (c0 = 0)) = false := by rw [decide_eq_true k1]; rfl
   by_cases k2 : c = 0
   rotate_left 1
   ·have q2 : (!decide (c = 0)) = true := by rw [decide_eq_false k2]; rfl
    clear hre
    repeat' (first | (apply at_call; refine k_call (r5) hE ?_; rintro _ rfl) | (apply at_call; refine k_call (f5) hE ?_; rintro _ rfl) | refine nx ?_ | (apply aq_block_y; decide) | (apply qr_move; refine r_move ?_) | (apply qr_assign; refine r_assign ?_) | (apply at_cond; first | refine c_t ?_ | refine c_f ?_ | (refine aw_cond rfl (fun hb => ?_) (fun hb => ?_) <;> ((try have hq := dX hb); (try (exfalso; omega))))) | (apply at_guard; first | refine g_go ?_ | refine g_nt ?_ | refine g_nf ?_ | refine g_nu ?_ | ((first | refine al_split_t rfl rfl (lt_ok rfl) (fun hb => ?_) (fun hb => ?_) | refine al_split_f rfl rfl (lt_ok rfl) (fun hb => ?_) (fun hb => ?_)) <;> ((try have hq := dX hb); (try (exfalso; omega))))) | (apply qr_pick; refine r_pick ?_) | (apply qr_neq; refine r_neq ?_) | (apply qr_not; refine r_not ?_) | (apply qr_load; refine r_load ?_))
    refine rt1 ?_
    rfl
   have q2 : (!decide (c = 0)) = false := by rw [decide_eq_true k2]; rfl
   by_cases k3 : u0 = u
   rotate_left 1
   ·have q3 : (!decide (u0 = u)) = true := by rw [decide_eq_false k3]; rfl
    clear hre
    repeat' (first | (apply at_call; refine k_call (r5) hE ?_; rintro _ rfl) | (apply at_call; refine k_call (f5) hE ?_; rintro _ rfl) | refine nx ?_ | (apply aq_block_y; decide) | (apply qr_move; refine r_move ?_) | (apply qr_assign; refine r_assign ?_) | (apply at_cond; first | refine c_t ?_ | refine c_f ?_ | (refine aw_cond rfl (fun hb => ?_) (fun hb => ?_) <;> ((try have hq := dX hb); (try (exfalso; omega))))) | (apply at_guard; first | refine g_go ?_ | refine g_nt ?_ | refine g_nf ?_ | refine g_nu ?_ | ((first | refine al_split_t rfl rfl (lt_ok rfl) (fun hb => ?_) (fun hb => ?_) | refine al_split_f rfl rfl (lt_ok rfl) (fun hb => ?_) (fun hb => ?_)) <;> ((try have hq := dX hb); (try (exfalso; omega))))) | (apply qr_pick; refine r_pick ?_) | (apply qr_neq; refine r_neq ?_) | (apply qr_not; refine r_not ?_) | (apply qr_load; refine r_load ?_))
    refine rt1 ?_
    rfl
   have q3 : (!decide (u0 = u)) = false := by rw [decide_eq_true k3]; rfl
   cases k4 : x.right 12
   ·rw [k4] at r5
    clear hre
    repeat' (first | (apply at_call; refine k_call (r5) hE ?_; rintro _ rfl) | (apply at_call; refine k_call (f5) hE ?_; rintro _ rfl) | refine nx ?_ | (apply aq_block_y; decide) | (apply qr_move; refine r_move ?_) | (apply qr_assign; refine r_assign ?_) | (apply at_cond; first | refine c_t ?_ | refine c_f ?_ | (refine aw_cond rfl (fun hb => ?_) (fun hb => ?_) <;> ((try have hq := dX hb); (try (exfalso; omega))))) | (apply at_guard; first | refine g_go ?_ | refine g_nt ?_ | refine g_nf ?_ | refine g_nu ?_ | ((first | refine al_split_t rfl rfl (lt_ok rfl) (fun hb => ?_) (fun hb => ?_) | refine al_split_f rfl rfl (lt_ok rfl) (fun hb => ?_) (fun hb => ?_)) <;> ((try have hq := dX hb); (try (exfalso; omega))))) | (apply qr_pick; refine r_pick ?_) | (apply qr_neq; refine r_neq ?_) | (apply qr_not; refine r_not ?_) | (apply qr_load; refine r_load ?_))
    refine rt1 ?_
    rfl
   rw [k4] at r5
   rw [hre k1 k2 k3 k4] at g2
   clear hre k1 k2 k3 k4
   repeat' (first | (apply at_call; refine k_call (r5) hE ?_; rintro _ rfl) | (apply at_call; refine k_call (f5) hE ?_; (rintro _ ⟨b5, rfl, t5⟩; cases b5)) | refine nx ?_ | (apply aq_block_y; decide) | (apply qr_move; refine r_move ?_) | (apply at_cond; first | refine c_t ?_ | refine c_f ?_ | (refine aw_cond rfl (fun hb => ?_) (fun hb => ?_) <;> ((try have hq := dX hb); (try (exfalso; omega))))) | (apply at_guard; first | refine g_go ?_ | refine g_nt ?_ | refine g_nf ?_ | refine g_nu ?_ | ((first | refine al_split_t rfl rfl (lt_ok rfl) (fun hb => ?_) (fun hb => ?_) | refine al_split_f rfl rfl (lt_ok rfl) (fun hb => ?_) (fun hb => ?_)) <;> ((try have hq := dX hb); (try (exfalso; omega))))) | (apply qr_pick; refine r_pick ?_) | (apply qr_neq; refine r_neq ?_) | (apply qr_not; refine r_not ?_) | (apply qr_load; refine r_load ?_))
   ·skip
    repeat' (first | refine nx ?_ | (apply aq_block_y; decide) | (apply qr_move; refine r_move ?_) | (apply qr_assign; refine r_assign ?_) | (apply at_cond; first | refine c_t ?_ | refine c_f ?_ | (refine aw_cond rfl (fun hb => ?_) (fun hb => ?_) <;> ((try have hq := dX hb); (try (exfalso; omega))))) | (apply at_guard; first | refine g_go ?_ | refine g_nt ?_ | refine g_nf ?_ | refine g_nu ?_ | ((first | refine al_split_t rfl rfl (lt_ok rfl) (fun hb => ?_) (fun hb => ?_) | refine al_split_f rfl rfl (lt_ok rfl) (fun hb => ?_) (fun hb => ?_)) <;> ((try have hq := dX hb); (try (exfalso; omega))))) | (apply qr_pick; refine r_pick ?_) | (apply qr_neq; refine r_neq ?_) | (apply qr_not; refine r_not ?_) | (apply qr_load; refine r_load ?_))
    refine rt1 ?_
    rfl
   clear t5 r5 f5 q1 q2 q3
   unfold ofD at g1 g2
   generalize ofU ls e = r at *
   obtain ⟨ra, rp, rc⟩ := r
   dsimp only at g1 g2 glen
   have g3 := ints_any rp rp (by omega)
   rw [decide_eq_true rfl] at g3
   have q4 : decide (ra = ra) = true := decide_eq_true rfl
   have q5 : decide (rc = rc) = true := decide_eq_true rfl
   repeat' (first | (apply at_call; refine k_call (g1) hE ?_; rintro _ rfl; clear g1) | (apply at_call; refine k_call (g2) hE ?_; rintro _ rfl) | (apply at_call; refine k_call (g3) hE ?_; rintro _ rfl) | refine nx ?_ | (apply aq_block_y; decide) | (apply qr_move; refine r_move ?_) | (apply qr_assign; refine r_assign ?_) | (apply at_cond; first | refine c_t ?_ | refine c_f ?_ | (refine aw_cond rfl (fun hb => ?_) (fun hb => ?_) <;> ((try have hq := dX hb); (try (exfalso; omega))))) | (apply at_guard; first | refine g_go ?_ | refine g_nt ?_ | refine g_nf ?_ | refine g_nu ?_ | ((first | refine al_split_t rfl rfl (lt_ok rfl) (fun hb => ?_) (fun hb => ?_) | refine al_split_f rfl rfl (lt_ok rfl) (fun hb => ?_) (fun hb => ?_)) <;> ((try have hq := dX hb); (try (exfalso; omega))))) | (apply qr_pick; refine r_pick ?_) | (apply qr_eql; refine r_eql ?_) | (apply qr_neq; refine r_neq ?_) | (apply qr_not; refine r_not ?_) | (apply qr_extract; refine r_extract ?_) | (apply qr_load; refine r_load ?_))
   refine rt1 ?_
   simp
  ·obtain ⟨k, rfl⟩ : ∃ k, m = k + 1 := ⟨m - 1, by omega⟩
   obtain rfl : v = (k : Int) := by omega
   have hlt : k < ls.length := by omega
   have hg : (ls.map letC)[k]? = some (letC ls[k]) := by rw [get_map hlt]
   have qv : decide (0 ≤ (k : Int)) = true := decide_eq_true (by omega)
   have c2 := uof_any (ls.take k) ls[k].2 (by rw [List.length_take]; omega) (fun q hq => hls q (List.mem_of_mem_take hq)) (hls _ (List.getElem_mem hlt))
   have hdt : (ls.take k).map letC = List.drop 0 (List.take k (ls.map letC)) := by rw [List.map_take]; rfl
   have z2 : ∀ u q, ofU (ls.take k) ls[k].2 = (u, q, 0) → ls[k].2.unitU (scopedU ls) = .ok u := fun u q h => of_pre h
   have hqt := hls _ (List.getElem_mem hlt)
   have hil : (k : Int) ≤ ls.length := by omega
   unfold ofD letsD at c2
   rw [hdt] at c2
   generalize ofU (ls.take k) ls[k].2 = r at c2 z2
   obtain ⟨u2, p2, c2'⟩ := r
   dsimp only at c2
   generalize ls[k] = q at *
   have hyu2 : c2' = 0 → q.2.unitU (scopedU ls) = .ok u2 := fun h => z2 u2 p2 (by rw [h])
   have wq := with_any p e q.2 te (by omega)
   clear hdt z2 hm
   by_cases hs : q.1 = part.str
   ·have qs : decide (q.1 = part.str) = true := decide_eq_true hs
    repeat' (first | refine nx ?_ | (apply aq_block_y; decide) | (apply qr_move; refine r_move ?_) | (apply at_cond; first | refine c_t ?_ | refine c_f ?_ | (refine aw_cond rfl (fun hb => ?_) (fun hb => ?_) <;> ((try have hq := dX hb); (try (exfalso; omega))))) | (apply qr_geq; refine r_geq ?_))
    refine aw_mixo ([(10, exO' part)]) [(0, true), (1, true), (2, true), (3, true), (4, true), (5, true), (6, true), (7, true)] [] (by kernel_rfl) (by kernel_rfl) (by kernel_rfl) (by decide) (by (repeat (first | exact obs_nil | (apply obs_cons; focus (first | rfl | (simp [find]; done)))))) ?_
    simp only [planned, tailed, List.filterMap_cons, List.filterMap_nil, List.getElem?_cons_zero, List.getElem?_cons_succ, Option.map_some]
    repeat' (first | apply am_nil | refine m_skip ?_ | refine n_skip ?_ | (apply at_am (.indexAddr _ _ _); refine am_y (by first | exact want_none | exact want_yes rfl rfl (by assumption) | exact want_yes rfl rfl (by with_reducible rfl)) (y_ix (by first | exact ToD.d _ | exact ToD.row _ _ _ _ _ rfl) rfl rfl (by first | with_reducible rfl | exact lit0 | exact lit1 | exact lit2 | exact lit3 | exact lit4 | exact int_s _ | exact int_p _ _ | exact int_nat _ (by omega)) hg) (lt_ok rfl) ?_) | (apply qm_move; refine m_move ?_) | (apply qm_eql; refine m_eql ?_) | (apply qm_ix; refine m_ix ?_) | (apply qm_load; refine m_load ?_) | (apply qm_faddr; refine m_faddr ?_) | (refine am_split rfl rfl (fun hb => ?_) (fun hb => ?_) <;> ((try have hq := dX hb); (try (exfalso; omega)))))
    repeat' (first | refine nx ?_ | (apply aq_block_y; decide) | (apply qr_move; refine r_move ?_) | (apply at_cond; first | refine c_t ?_ | refine c_f ?_ | (refine aw_cond rfl (fun hb => ?_) (fun hb => ?_) <;> ((try have hq := dX hb); (try (exfalso; omega))))) | (apply qr_eql; refine r_eql ?_) | (apply qr_ix; refine r_ix ?_) | (apply qr_load; refine r_load ?_) | (apply qr_faddr; refine r_faddr ?_))
    refine aw_tree ((.free 0 (.free 1 (.free 2 (.free 3 (.free 4 (.free 5 (.free 6 (.free 7 (.only 8 (.only 9 (.fork (.alt 10 (.free 13 (.fork (.alt 11 (.only 12 .tail) (.alt 12 (.only 11 .tail) .stop)))) (.alt 11 (.fork (.alt 10 (.free 13 (.only 12 .tail)) (.alt 12 (.only 10 (.free 13 .tail)) .stop))) (.alt 12 (.fork (.alt 10 (.free 13 (.only 11 .tail)) (.alt 11 (.only 10 (.free 13 .tail)) .stop))) .stop))))))))))))))) [14] ([]) ([(108, .d (.int c2')), (15, .d (.int u2)), (19, .d (.int k)), (18, .box 18 0), (14, .d (.int c0)), (12, .d (.int u0)), (10, .box 10 0), (9, .d (.bool true)), (5, .box 5 0), (2, .d (intsD p)), (0, .d (letsD ls))]) ([(18, exO' (withP e p y)), (10, exO' part), (5, exO' e)]) (by kernel_rfl) (by kernel_rfl) (by kernel_rfl) rfl (by decide) (by (repeat (first | exact obs_nil | (apply obs_cons; focus (first | rfl | (simp [find]; done)))))) (fun hrest => ?_) ?_
    ·simp only [tailed, List.filterMap_cons, List.filterMap_nil, List.getElem?_cons_zero, List.getElem?_cons_succ] at hrest
     repeat' (first | apply am_fork | apply am_alt | exact am_stop | refine am_free rfl ?_ | refine am_only rfl ?_ | refine am_leaf hrest (by (repeat (first | exact sub_nil | (apply sub_cons; focus (first | rfl | exact vint (by first | omega) | (simp [look]; done)))))) (by (repeat (first | exact obs_nil | (apply obs_cons; focus (first | rfl | (simp [find]; done)))))) | refine m_skip ?_ | refine n_skip ?_ | (apply at_mcall; refine m_call (c2) hE ?_; rintro _ rfl; (try dsimp only [flat, D.plain, D.plainL])) | (apply at_am (.indexAddr _ _ _); refine am_y (by first | exact want_none | exact want_yes rfl rfl (by assumption) | exact want_yes rfl rfl (by with_reducible rfl)) (y_ix (by first | exact ToD.d _ | exact ToD.row _ _ _ _ _ rfl) rfl rfl (by first | with_reducible rfl | exact lit0 | exact lit1 | exact lit2 | exact lit3 | exact lit4 | exact int_s _ | exact int_p _ _ | exact int_nat _ (by omega)) hg) (lt_ok rfl) ?_) | (apply at_am (.move (.tmp 105)); refine am_nowd (by first | exact want_none | exact want_yes rfl rfl (by assumption) | exact want_yes rfl rfl (by with_reducible rfl)) (y_move rfl) (lt_ok rfl) ?_; dsimp only [flatV, flat, D.plain, D.plainL]) | (apply at_am (.extract _ _); refine am_nowd (by first | exact want_none | exact want_yes rfl rfl (by assumption) | exact want_yes rfl rfl (by with_reducible rfl)) (y_extract rfl rfl) (lt_ok rfl) ?_; dsimp only [flatV, flat, D.plain, D.plainL]) | (apply qm_move; refine m_move ?_) | (apply qn_move; refine n_move ?_) | (apply qm_assign; refine m_assign ?_) | (apply qn_extract; refine n_extract ?_) | (apply qm_slice; refine m_slice ?_) | (apply qm_ix; refine m_ix ?_) | (apply qm_load; refine m_load ?_) | (apply qm_faddr; refine m_faddr ?_) | (apply at_am (.alloc _); refine am_alloc (by first | exact want_none | exact want_yes rfl rfl (by assumption) | exact want_yes rfl rfl (by with_reducible rfl)) rfl (by first | (simp only [normV, normList, normMap]; rfl) | rfl) rfl (lt_ok rfl) rfl rfl rfl ?_) | (apply at_am (.store _ _ _); first | refine am_store (by first | exact want_none | exact want_yes rfl rfl (by assumption) | exact want_yes rfl rfl (by with_reducible rfl)) rfl rfl rfl (ev_d rfl) nofun (by first | (simp only [normV, normList, normMap]; rfl) | rfl) (by simp [V.one, Value.oneCell']) (.inl ⟨rfl, rfl⟩) rfl (le_ok rfl) (by first | (simp only [normV, normList, normMap]; rfl) | rfl) ?_ | refine am_store (by first | exact want_none | exact want_yes rfl rfl (by assumption) | exact want_yes rfl rfl (by with_reducible rfl)) rfl rfl rfl (ev_d rfl) nofun (by first | (simp only [normV, normList, normMap]; rfl) | rfl) (by simp [V.one, Value.oneCell']) (.inr rfl) rfl (le_ok rfl) (by first | (simp only [normV, normList, normMap]; rfl) | rfl) ?_) | (refine am_split rfl rfl (fun hb => ?_) (fun hb => ?_) <;> ((try have hq := dX hb); (try (exfalso; omega)))))
    simp only [tailed, List.filterMap_cons, List.filterMap_nil, List.getElem?_cons_zero, List.getElem?_cons_succ]
    repeat' (first | refine nx ?_ | (apply aq_block_y; decide) | (apply qr_move; refine r_move ?_) | (apply qr_assign; refine r_assign ?_) | (apply at_cond; first | refine c_t ?_ | refine c_f ?_ | (refine aw_cond rfl (fun hb => ?_) (fun hb => ?_) <;> ((try have hq := dX hb); (try (exfalso; omega))))) | (apply qr_extract; refine r_extract ?_) | (apply qr_slice; refine r_slice ?_) | (apply qr_ix; refine r_ix ?_) | (apply qr_load; refine r_load ?_) | (apply qr_faddr; refine r_faddr ?_))
    refine aw_mixo ([(5, exO' e)]) [(0, true), (1, true), (2, true), (3, true), (4, true), (5, true), (6, true), (7, false)] [8] (by kernel_rfl) (by kernel_rfl) (by kernel_rfl) (by decide) (by (repeat (first | exact obs_nil | (apply obs_cons; focus (first | rfl | (simp [find]; done)))))) ?_
    simp only [planned, tailed, List.filterMap_cons, List.filterMap_nil, List.getElem?_cons_zero, List.getElem?_cons_succ, Option.map_some]
    repeat' (first | apply am_nil | refine m_skip ?_ | refine n_skip ?_ | (apply at_mcall; refine m_call (wq) hE ?_; rintro _ rfl; (try dsimp only [flat, D.plain, D.plainL])) | (apply at_am (.indexAddr _ _ _); refine am_y (by first | exact want_none | exact want_yes rfl rfl (by assumption) | exact want_yes rfl rfl (by with_reducible rfl)) (y_ix (by first | exact ToD.d _ | exact ToD.row _ _ _ _ _ rfl) rfl rfl (by first | with_reducible rfl | exact lit0 | exact lit1 | exact lit2 | exact lit3 | exact lit4 | exact int_s _ | exact int_p _ _ | exact int_nat _ (by omega)) hg) (lt_ok rfl) ?_) | (apply qm_move; refine m_move ?_) | (apply qm_ix; refine m_ix ?_) | (apply qm_load; refine m_load ?_) | (apply qm_faddr; refine m_faddr ?_) | (refine am_split rfl rfl (fun hb => ?_) (fun hb => ?_) <;> ((try have hq := dX hb); (try (exfalso; omega)))))
    repeat' (first | refine nx ?_ | (apply aq_block_y; decide) | (apply qr_move; refine r_move ?_) | (apply qr_assign; refine r_assign ?_) | (apply at_cond; first | refine c_t ?_ | refine c_f ?_ | (refine aw_cond rfl (fun hb => ?_) (fun hb => ?_) <;> ((try have hq := dX hb); (try (exfalso; omega))))) | (apply qr_sub; refine r_sub ?_) | (apply qr_ix; refine r_ix ?_) | (apply qr_load; refine r_load ?_) | (apply qr_faddr; refine r_faddr ?_) | (apply qr_store; refine r_store ?_))
    refine aq_rd (⟨k, _, u2, c2', q.2, rfl, by omega, rfl, hqt, hyu2, rfl, rfl⟩) (by omega)
   ·have qs : decide (q.1 = part.str) = false := decide_eq_false hs
    repeat' (first | refine nx ?_ | (apply aq_block_y; decide) | (apply qr_move; refine r_move ?_) | (apply at_cond; first | refine c_t ?_ | refine c_f ?_ | (refine aw_cond rfl (fun hb => ?_) (fun hb => ?_) <;> ((try have hq := dX hb); (try (exfalso; omega))))) | (apply qr_geq; refine r_geq ?_))
    refine aw_mixo ([(10, exO' part)]) [(0, true), (1, true), (2, true), (3, true), (4, true), (5, true), (6, true), (7, true)] [] (by kernel_rfl) (by kernel_rfl) (by kernel_rfl) (by decide) (by (repeat (first | exact obs_nil | (apply obs_cons; focus (first | rfl | (simp [find]; done)))))) ?_
    simp only [planned, tailed, List.filterMap_cons, List.filterMap_nil, List.getElem?_cons_zero, List.getElem?_cons_succ, Option.map_some]
    repeat' (first | apply am_nil | refine m_skip ?_ | refine n_skip ?_ | (apply at_am (.indexAddr _ _ _); refine am_y (by first | exact want_none | exact want_yes rfl rfl (by assumption) | exact want_yes rfl rfl (by with_reducible rfl)) (y_ix (by first | exact ToD.d _ | exact ToD.row _ _ _ _ _ rfl) rfl rfl (by first | with_reducible rfl | exact lit0 | exact lit1 | exact lit2 | exact lit3 | exact lit4 | exact int_s _ | exact int_p _ _ | exact int_nat _ (by omega)) hg) (lt_ok rfl) ?_) | (apply qm_move; refine m_move ?_) | (apply qm_eql; refine m_eql ?_) | (apply qm_ix; refine m_ix ?_) | (apply qm_load; refine m_load ?_) | (apply qm_faddr; refine m_faddr ?_) | (refine am_split rfl rfl (fun hb => ?_) (fun hb => ?_) <;> ((try have hq := dX hb); (try (exfalso; omega)))))
    repeat' (first | refine nx ?_ | (apply aq_block_y; decide) | (apply qr_move; refine r_move ?_) | (apply qr_assign; refine r_assign ?_) | (apply at_cond; first | refine c_t ?_ | refine c_f ?_ | (refine aw_cond rfl (fun hb => ?_) (fun hb => ?_) <;> ((try have hq := dX hb); (try (exfalso; omega))))) | (apply qr_eql; refine r_eql ?_) | (apply qr_sub; refine r_sub ?_) | (apply qr_ix; refine r_ix ?_) | (apply qr_load; refine r_load ?_) | (apply qr_faddr; refine r_faddr ?_))
    refine aq_rd (⟨k, _, u, c, y, rfl, by omega, rfl, hty, hyu, rfl, rfl⟩) (by omega)
 ·have q2 : decide (c0 = 0) = false := decide_eq_false ko2
  repeat' (first | refine nx ?_ | (apply aq_block_y; decide) | (apply qr_move; refine r_move ?_) | (apply at_cond; first | refine c_t ?_ | refine c_f ?_ | (refine aw_cond rfl (fun hb => ?_) (fun hb => ?_) <;> ((try have hq := dX hb); (try (exfalso; omega))))) | (apply at_guard; first | refine g_go ?_ | refine g_nt ?_ | refine g_nf ?_ | refine g_nu ?_ | ((first | refine al_split_t rfl rfl (lt_ok rfl) (fun hb => ?_) (fun hb => ?_) | refine al_split_f rfl rfl (lt_ok rfl) (fun hb => ?_) (fun hb => ?_)) <;> ((try have hq := dX hb); (try (exfalso; omega))))) | (apply qr_pick; refine r_pick ?_) | (apply qr_eql; refine r_eql ?_) | (apply qr_load; refine r_load ?_) | (apply qr_faddr; refine r_faddr ?_))
  clear q1 q2
  have ty := with_tame p e wi te tw
  have r5 := rightExp_any (withP e p wi) ty
  have f5 := fewE_any (withP e p wi) (tame_came _ ty)
  have hre : c0 = 0 → c = 0 → u0 = u → (withP e p wi).right 12 = true → ofU ls (withP e p wi) = ofU ls e := fun h1 h2 h3 h4 => replace_unit hre12 h4 hat (h0 h1) (h3 ▸ hyu h2)
  have g1 := uof_any ls e hl100 hls te
  have g2 := uof_any ls (withP e p wi) hl100 hls ty
  have glen := of_len ls e
  clear hyu
  generalize withP e p wi = x at *
  by_cases k1 : c0 = 0
  rotate_left 1
  ·have q1 : (!decide (c0 = 0)) = true := by rw [decide_eq_false k1]; rfl
   clear hre
   repeat' (first | (apply at_call; refine k_call (r5) hE ?_; rintro _ rfl) | (apply at_call; refine k_call (f5) hE ?_; rintro _ rfl) | refine nx ?_ | (apply aq_block_y; decide) | (apply qr_move; refine r_move ?_) | (apply qr_assign; refine r_assign ?_) | (apply at_cond; first | refine c_t ?_ | refine c_f ?_ | (refine aw_cond rfl (fun hb => ?_) (fun hb => ?_) <;> ((try have hq := dX hb); (try (exfalso; omega))))) | (apply at_guard; first | refine g_go ?_ | refine g_nt ?_ | refine g_nf ?_ | refine g_nu ?_ | ((first | refine al_split_t rfl rfl (lt_ok rfl) (fun hb => ?_) (fun hb => ?_) | refine al_split_f rfl rfl (lt_ok rfl) (fun hb => ?_) (fun hb => ?_)) <;> ((try have hq := dX hb); (try (exfalso; omega))))) | (apply qr_pick; refine r_pick ?_) | (apply qr_neq; refine r_neq ?_) | (apply qr_not; refine r_not ?_) | (apply qr_load; refine r_load ?_))
   refine rt1 ?_
   rfl
  have q1 : (!decide (c0 = 0)) = false := by rw [decide_eq_true k1]; rfl
  by_cases k2 : c = 0
  rotate_left 1
  ·have q2 : (!decide (c = 0)) = true := by rw [decide_eq_false k2]; rfl
   clear hre
   repeat' (first | (apply at_call; refine k_call (r5) hE ?_; rintro _ rfl) | (apply at_call; refine k_call (f5) hE ?_; rintro _ rfl) | refine nx ?_ | (apply aq_block_y; decide) | (apply qr_move; refine r_move ?_) | (apply qr_assign; refine r_assign ?_) | (apply at_cond; first | refine c_t ?_ | refine c_f ?_ | (refine aw_cond rfl (fun hb => ?_) (fun hb => ?_) <;> ((try have hq := dX hb); (try (exfalso; omega))))) | (apply at_guard; first | refine g_go ?_ | refine g_nt ?_ | refine g_nf ?_ | refine g_nu ?_ | ((first | refine al_split_t rfl rfl (lt_ok rfl) (fun hb => ?_) (fun hb => ?_) | refine al_split_f rfl rfl (lt_ok rfl) (fun hb => ?_) (fun hb => ?_)) <;> ((try have hq := dX hb); (try (exfalso; omega))))) | (apply qr_pick; refine r_pick ?_) | (apply qr_neq; refine r_neq ?_) | (apply qr_not; refine r_not ?_) | (apply qr_load; refine r_load ?_))
   refine rt1 ?_
   rfl
  have q2 : (!decide (c = 0)) = false := by rw [decide_eq_true k2]; rfl
  by_cases k3 : u0 = u
  rotate_left 1
  ·have q3 : (!decide (u0 = u)) = true := by rw [decide_eq_false k3]; rfl
   clear hre
   repeat' (first | (apply at_call; refine k_call (r5) hE ?_; rintro _ rfl) | (apply at_call; refine k_call (f5) hE ?_; rintro _ rfl) | refine nx ?_ | (apply aq_block_y; decide) | (apply qr_move; refine r_move ?_) | (apply qr_assign; refine r_assign ?_) | (apply at_cond; first | refine c_t ?_ | refine c_f ?_ | (refine aw_cond rfl (fun hb => ?_) (fun hb => ?_) <;> ((try have hq := dX hb); (try (exfalso; omega))))) | (apply at_guard; first | refine g_go ?_ | refine g_nt ?_ | refine g_nf ?_ | refine g_nu ?_ | ((first | refine al_split_t rfl rfl (lt_ok rfl) (fun hb => ?_) (fun hb => ?_) | refine al_split_f rfl rfl (lt_ok rfl) (fun hb => ?_) (fun hb => ?_)) <;> ((try have hq := dX hb); (try (exfalso; omega))))) | (apply qr_pick; refine r_pick ?_) | (apply qr_neq; refine r_neq ?_) | (apply qr_not; refine r_not ?_) | (apply qr_load; refine r_load ?_))
   refine rt1 ?_
   rfl
  have q3 : (!decide (u0 = u)) = false := by rw [decide_eq_true k3]; rfl
  cases k4 : x.right 12
  ·rw [k4] at r5
   clear hre
   repeat' (first | (apply at_call; refine k_call (r5) hE ?_; rintro _ rfl) | (apply at_call; refine k_call (f5) hE ?_; rintro _ rfl) | refine nx ?_ | (apply aq_block_y; decide) | (apply qr_move; refine r_move ?_) | (apply qr_assign; refine r_assign ?_) | (apply at_cond; first | refine c_t ?_ | refine c_f ?_ | (refine aw_cond rfl (fun hb => ?_) (fun hb => ?_) <;> ((try have hq := dX hb); (try (exfalso; omega))))) | (apply at_guard; first | refine g_go ?_ | refine g_nt ?_ | refine g_nf ?_ | refine g_nu ?_ | ((first | refine al_split_t rfl rfl (lt_ok rfl) (fun hb => ?_) (fun hb => ?_) | refine al_split_f rfl rfl (lt_ok rfl) (fun hb => ?_) (fun hb => ?_)) <;> ((try have hq := dX hb); (try (exfalso; omega))))) | (apply qr_pick; refine r_pick ?_) | (apply qr_neq; refine r_neq ?_) | (apply qr_not; refine r_not ?_) | (apply qr_load; refine r_load ?_))
   refine rt1 ?_
   rfl
  rw [k4] at r5
  rw [hre k1 k2 k3 k4] at g2
  clear hre k1 k2 k3 k4
  repeat' (first | (apply at_call; refine k_call (r5) hE ?_; rintro _ rfl) | (apply at_call; refine k_call (f5) hE ?_; (rintro _ ⟨b5, rfl, t5⟩; cases b5)) | refine nx ?_ | (apply aq_block_y; decide) | (apply qr_move; refine r_move ?_) | (apply at_cond; first | refine c_t ?_ | refine c_f ?_ | (refine aw_cond rfl (fun hb => ?_) (fun hb => ?_) <;> ((try have hq := dX hb); (try (exfalso; omega))))) | (apply at_guard; first | refine g_go ?_ | refine g_nt ?_ | refine g_nf ?_ | refine g_nu ?_ | ((first | refine al_split_t rfl rfl (lt_ok rfl) (fun hb => ?_) (fun hb => ?_) | refine al_split_f rfl rfl (lt_ok rfl) (fun hb => ?_) (fun hb => ?_)) <;> ((try have hq := dX hb); (try (exfalso; omega))))) | (apply qr_pick; refine r_pick ?_) | (apply qr_neq; refine r_neq ?_) | (apply qr_not; refine r_not ?_) | (apply qr_load; refine r_load ?_))
  ·skip
   repeat' (first | refine nx ?_ | (apply aq_block_y; decide) | (apply qr_move; refine r_move ?_) | (apply qr_assign; refine r_assign ?_) | (apply at_cond; first | refine c_t ?_ | refine c_f ?_ | (refine aw_cond rfl (fun hb => ?_) (fun hb => ?_) <;> ((try have hq := dX hb); (try (exfalso; omega))))) | (apply at_guard; first | refine g_go ?_ | refine g_nt ?_ | refine g_nf ?_ | refine g_nu ?_ | ((first | refine al_split_t rfl rfl (lt_ok rfl) (fun hb => ?_) (fun hb => ?_) | refine al_split_f rfl rfl (lt_ok rfl) (fun hb => ?_) (fun hb => ?_)) <;> ((try have hq := dX hb); (try (exfalso; omega))))) | (apply qr_pick; refine r_pick ?_) | (apply qr_neq; refine r_neq ?_) | (apply qr_not; refine r_not ?_) | (apply qr_load; refine r_load ?_))
   refine rt1 ?_
   rfl
  clear t5 r5 f5 q1 q2 q3
  unfold ofD at g1 g2
  generalize ofU ls e = r at *
  obtain ⟨ra, rp, rc⟩ := r
  dsimp only at g1 g2 glen
  have g3 := ints_any rp rp (by omega)
  rw [decide_eq_true rfl] at g3
  have q4 : decide (ra = ra) = true := decide_eq_true rfl
  have q5 : decide (rc = rc) = true := decide_eq_true rfl
  repeat' (first | (apply at_call; refine k_call (g1) hE ?_; rintro _ rfl; clear g1) | (apply at_call; refine k_call (g2) hE ?_; rintro _ rfl) | (apply at_call; refine k_call (g3) hE ?_; rintro _ rfl) | refine nx ?_ | (apply aq_block_y; decide) | (apply qr_move; refine r_move ?_) | (apply qr_assign; refine r_assign ?_) | (apply at_cond; first | refine c_t ?_ | refine c_f ?_ | (refine aw_cond rfl (fun hb => ?_) (fun hb => ?_) <;> ((try have hq := dX hb); (try (exfalso; omega))))) | (apply at_guard; first | refine g_go ?_ | refine g_nt ?_ | refine g_nf ?_ | refine g_nu ?_ | ((first | refine al_split_t rfl rfl (lt_ok rfl) (fun hb => ?_) (fun hb => ?_) | refine al_split_f rfl rfl (lt_ok rfl) (fun hb => ?_) (fun hb => ?_)) <;> ((try have hq := dX hb); (try (exfalso; omega))))) | (apply qr_pick; refine r_pick ?_) | (apply qr_eql; refine r_eql ?_) | (apply qr_neq; refine r_neq ?_) | (apply qr_not; refine r_not ?_) | (apply qr_extract; refine r_extract ?_) | (apply qr_load; refine r_load ?_))
  refine rt1 ?_
  simp
end Go.Proofs.Ytgiacdhffklenaa
end
section
namespace Go.Proofs.Ytgiacdhffklenaa
open Go.ChangeShapes Go.WideShapes Go.ChangeAt Go.RowKit Go.Deep Go.Joins
section
variable {H : Type} {enc : TypeId × Value → H} {w : World} {base : Nat}
theorem cameL_of {a : List Ex} (h : ∀ x ∈ a, Ex.came x) : Ex.cameL a := by
 induction a with
 | nil => trivial
 | cons x r ih => exact ⟨h x (by simp), ih fun y hy => h y (by simp [hy])⟩
theorem maxLen_le {n : Nat} (h : n ≤ maxLen) : n ≤ 9223372036854775807 := by
 unfold maxLen at h
 omega
theorem showB_exp : ∀ N : Nat, ShowB N enc Try.prog w base 25 5 (fun e : Ex => exC e) Ex.came
 | 0 => fun fuel cs x hN _ => by
  have := data_pos x.1
  omega
 | N + 1 => by
  have ih := showB_exp N
  have hl := showB_list (t := 23) Try.underlying23 (by kernel_rfl) (by decide) ih
  exact (showB_struct Try.underlying25 (by kernel_rfl) (showsB_cons ((show_int Try.underlying3).b N) rfl (by kernel_rfl) (showsB_cons ((show_int Try.underlying3).b N) rfl (by kernel_rfl)
   (showsB_cons ((show_int Try.underlying3).b N) rfl (by kernel_rfl) (showsB_cons ((show_string Try.underlying9).b N) rfl (by kernel_rfl) (showsB_cons hl rfl (by kernel_rfl) showsB_nil)))))).as (fun e : Ex => exC e) _
   (fun x => .mk x.1 x.2.1 x.2.2.1 x.2.2.2.1 x.2.2.2.2.1) (fun a => congrArg (fun r => [D.int a.1, D.int a.2.1, D.int a.2.2.1, D.str a.2.2.2.1, D.list 5 r]) (rows_map a.2.2.2.2.1)) (fun x ⟨_, _, _, h4, h5, _⟩ => ⟨maxLen_le h4, maxLen_le h5.1, cameL_of h5.2⟩)
theorem show_exp : Show enc Try.prog w base 25 5 (fun e : Ex => exC e) Ex.came := ShowB.all showB_exp
theorem show_let : Show enc Try.prog w base 46 6 (fun q : ByteArray × Ex => letC q) (fun q => q.1.size ≤ 9223372036854775807 ∧ q.2.came) :=
 (show_struct Try.underlying46 (by kernel_rfl) (shows_cons (show_string Try.underlying9) rfl (by kernel_rfl) (shows_cons show_exp rfl (by kernel_rfl) shows_nil))).as (fun q : ByteArray × Ex => letC q) _
  (fun x => (x.1, x.2.1)) (fun _ => rfl) (fun x ⟨h1, h2, _⟩ => ⟨maxLen_le h1, h2⟩)
theorem show_lets : Show enc Try.prog w base 22 1 (fun l : List (ByteArray × Ex) => [.list 6 (l.map letC)]) (fun l => l.length ≤ maxLen ∧ ∀ q ∈ l, q.1.size ≤ 9223372036854775807 ∧ q.2.came) :=
 show_list Try.underlying22 (by kernel_rfl) (by decide) show_let
end
end Go.Proofs.Ytgiacdhffklenaa
end
section
namespace Go.Proofs.Ytgiacdhffklenaa
open Go.ChangeShapes Go.WideShapes Go.ChangeAt Go.RowKit Go.Deep Go.Joins
section
variable {H : Type} {enc : TypeId × Value → H} {w : World} {base : Nat}
theorem show_ints : Show enc Try.prog w base 31 1 (fun l : List Int => [.list 1 (l.map fun n => [D.int n])]) (fun l => l.length ≤ maxLen ∧ ∀ n ∈ l, -9223372036854775808 ≤ n ∧ n ≤ 9223372036854775807) :=
 (show_list Try.underlying31 (by kernel_rfl) (by decide) (show_int Try.underlying3)).as _ _ (fun x => x) (fun _ => rfl) (fun x h => ⟨h.1, fun n hn => by simpa [IntKind.min, IntKind.max, IntKind.signed, IntKind.bits] using h.2 n hn⟩)
end
theorem came_small {n : Nat} (h : n ≤ maxLen) : n ≤ 9223372036854775807 := by
 unfold maxLen at h
 omega
theorem law_call0 {f : FuncId} {ds : List D} {w : World} {vs : List Value} (hG : laidG = []) (h : PureC f ds (· = .bool true)) (hl : vs.length = ds.length)
  (hr : ∀ (i : Nat) (v : Value) (d : D), vs[i]? = some v → ds[i]? = some d → RepD w (fun b _ => b < w.heap.size) v d) :
  Calls Try.prog f vs.toArray w fun e w' => e = .returned (.bool true) ∧ Below w.heap.size w w' := by
 refine (h.2 w (fun b _ => b < w.heap.size) vs (fun _ _ h => h) (fun g l hm => by rw [hG] at hm; cases hm) hl hr).mono fun e w' ⟨v, r, he, hp, hrep, hb⟩ => ?_
 subst hp
 cases hrep
 exact ⟨he, hb⟩
end Go.Proofs.Ytgiacdhffklenaa
end
