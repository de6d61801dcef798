/-
  Conditions: none.
-/
import Derived.Test.YtedoeogopmenpaaGreatDoorMar
set_option maxHeartbeats 16000000
set_option maxRecDepth 20000
section
set_option linter.unusedSimpArgs false
set_option linter.unusedVariables false
namespace Go.Proofs.YtedoeogopmenpaaGreatDoor
open Go.RowKit
theorem ploop_fuel {rec : Nat → List Tok → Rd Ex} (h : Parts rec symP) {f k k' own : Nat} {e : Ex} {l : List Tok} (ho : own ≤ 7) (hk : l.length < k) (hk' : l.length < k') : ploop symP rec f k own e l = ploop symP rec f k' own e l := by
 rw [ploop_down h f (l.length + 1) l.length k own e l (Nat.le_refl _) hk (by omega) ho, ploop_down h f (l.length + 1) l.length k' own e l (Nat.le_refl _) hk' (by omega) ho]
theorem prfx_own {rec : Nat → List Tok → Rd Ex} {f : Nat} {l t : List Tok} {x : Ex × Nat} (h : prfx (primP nameV) ifP notP rec f l = .ok x t) : x.2 ≤ 7 := by
 unfold prfx at h
 split at h
 ·obtain ⟨e, u, h1, h⟩ := then_less h
  cases h
  simp
 ·split at h
  ·obtain ⟨e, u, h1, h⟩ := then_less h
   cases h
   simp
  ·obtain ⟨e, u, h1, h⟩ := then_less h
   cases h
   simp
theorem prfx_suf {rec : Nat → List Tok → Rd Ex} (hr : ∀ f l e t, rec f l = .ok e t → ∃ o, Der f l e o t) {f : Nat} {l t : List Tok} {x : Ex × Nat} (h : prfx (primP nameV) ifP notP rec f l = .ok x t) : Suf l t := (prfx_sound hr h).suf
theorem two_box (op : Int) (a b : Ex) : exB (two op a b) = .box 26 [.d (.int op), .d (.int 0), .d (.int 0), .d (.str ⟨#[]⟩), .d (.list 5 [exC a, exC b])] := by
 show O.box _ [.d (.int op), .d (.int 0), .d (.int 0), .d (.str ⟨#[]⟩), .d (.list 5 (Ex.rows [a, b]))] = _
 rw [rows_map]
 rfl
abbrev zeroB : O := .box 26 [.d (.int 0), .d (.int 0), .d (.int 0), .d (.str ⟨#[]⟩), .d (.val (.slice none 0 0))]
abbrev pB : O := .box 56 [.box 1000 0]
section
variable {rec : Nat → List Tok → Rd Ex} {m : Nat} {L l : List Tok}
def expV (rec : Nat → List Tok → Rd Ex) (form : Nat) (l : List Tok) : Rd Ex := (prfx (primP nameV) ifP notP rec form l).then fun x t => ploop symP rec form (t.length + 1) x.2 x.1 t
theorem pexp_any (hrec : RecOk rec m) (hpar : Parts rec symP) (hder : ∀ f l e t, rec f l = .ok e t → ∃ o, Der f l e o t) (r0 : Rdy L l) (x0 : Texts l) (hm : l.length ≤ m + 1) (form : Nat) : ObP 42 [.box 1000 0, .d (.int form)] (psr L l) [] (exO (expV rec form l) L) (Bads (expV rec form l)) := by
 obtain ⟨R, hR⟩ : ∃ R, R = expV rec form l := ⟨_, rfl⟩
 rw [← hR]
 unfold expV at hR
 have hp := pprefix hrec r0 x0 hm form
 refine obp_enter Tryz.func42 rfl (by decide) _ Tryz.ntmps42 (le_ok rfl) rfl (fun w Pr β κ hE => ?_)
 dsimp only [slotsV, Nat.zero_add, Nat.reduceAdd]
 repeat' (first | (apply at_op (.box _ _); refine al_step (st_box (ev_box rfl) nofun (by first | (simp only [normV, normList, normMap]; rfl) | rfl) (lt_ok rfl) rfl rfl) rfl ?_) | (apply at_call; refine k_pcall [(1000, 1000)] (hp) hE (fun v hv => by (repeat (first | with_reducible refine ap_block ?_ | with_reducible refine ap_then ?_)); exact ap_body (bads_then hR hv)) ?_; rintro _ _ ⟨⟨e0, own0⟩, t0, hx0, rfl, rfl⟩; rw [hx0, then_ok] at hR; have r1 := r0.to (prfx_suf hder hx0); have x1 := x0.suf (prfx_suf hder hx0); have z1 := suf_less (prfx_suf hder hx0); have o1 := prfx_own hx0 <;> (intro _ _ h1 h2; simp only [renEqs, Nat.reduceBEq, renL_app, renL_ds, renL_und] at h1 h2; subst h1 h2)) | refine nx ?_ | apply aq_pq | (apply aq_block_y; decide) | (apply qr_move; refine r_move ?_) | (apply qr_assign; refine r_assign ?_) | (apply at_cond; first | refine c_t ?_ | refine c_f ?_ | (refine aw_cond rfl (fun hb => ?_) (fun hb => ?_) <;> ((try have hq := dX hb); (try (exfalso; omega))))) | (apply qr_extract; refine r_extract ?_) | (apply qr_load; refine r_load ?_) | (apply qr_alloc; refine r_alloc ?_) | (apply qr_boxed; refine r_boxed ?_) | (apply qr_store; refine r_store ?_))
 dsimp only at hR o1
 refine aw_lp (fun N sl ob => ∃ (own : Nat) (e : Ex) (t : List Tok), N = t.length ∧ Rdy L t ∧ Texts t ∧ t.length ≤ m + 1 ∧ own ≤ 7 ∧ R = ploop symP rec form (t.length + 1) own e t ∧ sl = [(6, .d (.int own)), (5, .box 5 0), (4, .box 4 0), (2, .box 2 0), (1, .d (.int form))] ∧ ob = [(5, exB e), (4, zeroB), (2, pB), (1000, psB L (atN L t))]) (⟨own0, e0, t0, rfl, r1, x1, by omega, o1, hR, rfl, rfl⟩) ?_
 clear hx0 hR r1 x1 z1 o1
 rintro N sl ob ⟨own, e, t, rfl, r1, x1, hl, ho, hR, rfl, rfl⟩
 have hle := r1.le
 simp only [ploop] at hR
 repeat' (first | (apply at_op (.makeFunc _ _ _); refine al_y (y_clo rfl) (lt_ok rfl) ?_) | (apply at_call; refine k_call (operators_any) hE ?_; rintro _ rfl) | (apply at_call; refine k_ocall [(1001, 2), (1000, 1000)] (pindex r1) hE ?_; rintro _ _ ⟨⟨r, rfl, hI⟩, rfl⟩ <;> (intro _ _ h1 h2; simp only [renEqs, Nat.reduceBEq, renL_app, renL_ds, renL_und] at h1 h2; subst h1 h2)) | refine nx ?_ | apply aq_pq | (apply aq_block_y; decide) | (apply qr_assign; refine r_assign ?_) | (apply at_cond; first | refine c_t ?_ | refine c_f ?_ | (refine aw_cond rfl (fun hb => ?_) (fun hb => ?_) <;> ((try have hq := dX hb); (try (exfalso; omega))))) | (apply qr_func; refine r_func ?_))
 rcases hI with ⟨rfl, hs⟩ | ⟨i, ⟨w, op, gi⟩, hi8, rfl, hg0, hs, hlo, hhi⟩
 ·rw [hs] at hR
  simp only at hR
  repeat' (first | refine nx ?_ | apply aq_pq | (apply aq_block_y; decide) | (apply qr_move; refine r_move ?_) | (apply at_cond; first | refine c_t ?_ | refine c_f ?_ | (refine aw_cond rfl (fun hb => ?_) (fun hb => ?_) <;> ((try have hq := dX hb); (try (exfalso; omega))))) | (apply qr_lss; refine r_lss ?_) | (apply qr_load; refine r_load ?_) | (apply qr_store; refine r_store ?_))
  refine aq_p ?_
  refine oret1 (psr L t) (by rfl) rv (⟨_, _, hR, rfl, rfl⟩) sb okx
 rw [hs] at hR
 simp only at hR hs hlo hhi
 obtain ⟨g, rfl⟩ : ∃ g : Nat, gi = g := ⟨gi.toNat, by omega⟩
 simp only [Int.toNat_natCast] at hR hs
 have hget : (opsL.map opC)[i]? = some [.str w, .int op, .int g] := by rw [List.getElem?_map, hg0]; rfl
 obtain ⟨wt, hT⟩ := sym_is hs
 have r2 := r1.to (suf_is hT)
 have x2 := x1.suf (suf_is hT)
 have z2 := Ends.less (isT_k hT).1
 have n1 : decide ((i : Int) < 0) = false := decide_eq_false (by omega)
 by_cases c1 : g < form
 ·rw [if_pos (.inl c1)] at hR
  have q1 : decide ((g : Int) < form) = true := decide_eq_true (by omega)
  repeat' (first | (apply at_call; refine k_call (operators_any) hE ?_; rintro _ rfl) | (apply at_op (.indexAddr _ _ _); refine al_ixq hget ?_) | refine nx ?_ | apply aq_pq | (apply aq_block_y; decide) | (apply qr_move; refine r_move ?_) | (apply at_cond; first | refine c_t ?_ | refine c_f ?_ | (refine aw_cond rfl (fun hb => ?_) (fun hb => ?_) <;> ((try have hq := dX hb); (try (exfalso; omega))))) | (apply at_guard; first | refine g_go ?_ | refine g_nt ?_ | refine g_nf ?_ | refine g_nu ?_ | ((first | refine al_split_t rfl rfl (lt_ok rfl) (fun hb => ?_) (fun hb => ?_) | refine al_split_f rfl rfl (lt_ok rfl) (fun hb => ?_) (fun hb => ?_)) <;> ((try have hq := dX hb); (try (exfalso; omega))))) | (apply qr_pick; refine r_pick ?_) | (apply qr_lss; refine r_lss ?_) | (apply qr_eql; refine r_eql ?_) | (apply qr_ix; refine r_ix ?_) | (apply qr_load; refine r_load ?_) | (apply qr_faddr; refine r_faddr ?_) | (apply qr_alloc; refine r_alloc ?_) | (apply qr_store; refine r_store ?_))
  refine aq_p ?_
  refine oret1 (psr L t) (by rfl) rv (⟨_, _, hR, rfl, rfl⟩) sb okx
 have q1 : decide ((g : Int) < form) = false := decide_eq_false (by omega)
 by_cases c2 : own < g
 ·rw [if_pos (.inr (.inl c2))] at hR
  have q2 : decide ((own : Int) < g) = true := decide_eq_true (by omega)
  repeat' (first | (apply at_call; refine k_call (operators_any) hE ?_; rintro _ rfl) | (apply at_op (.indexAddr _ _ _); refine al_ixq hget ?_) | refine nx ?_ | apply aq_pq | (apply aq_block_y; decide) | (apply qr_move; refine r_move ?_) | (apply at_cond; first | refine c_t ?_ | refine c_f ?_ | (refine aw_cond rfl (fun hb => ?_) (fun hb => ?_) <;> ((try have hq := dX hb); (try (exfalso; omega))))) | (apply at_guard; first | refine g_go ?_ | refine g_nt ?_ | refine g_nf ?_ | refine g_nu ?_ | ((first | refine al_split_t rfl rfl (lt_ok rfl) (fun hb => ?_) (fun hb => ?_) | refine al_split_f rfl rfl (lt_ok rfl) (fun hb => ?_) (fun hb => ?_)) <;> ((try have hq := dX hb); (try (exfalso; omega))))) | (apply qr_pick; refine r_pick ?_) | (apply qr_lss; refine r_lss ?_) | (apply qr_eql; refine r_eql ?_) | (apply qr_ix; refine r_ix ?_) | (apply qr_load; refine r_load ?_) | (apply qr_faddr; refine r_faddr ?_) | (apply qr_alloc; refine r_alloc ?_) | (apply qr_store; refine r_store ?_))
  refine aq_p ?_
  refine oret1 (psr L t) (by rfl) rv (⟨_, _, hR, rfl, rfl⟩) sb okx
 have q2 : decide ((own : Int) < g) = false := decide_eq_false (by omega)
 by_cases c3 : own = 4 ∧ g = 4
 ·rw [if_pos (.inr (.inr c3))] at hR
  have q3 : decide ((own : Int) = 4) = true := decide_eq_true (by omega)
  have q4 : decide ((g : Int) = 4) = true := decide_eq_true (by omega)
  repeat' (first | (apply at_call; refine k_call (operators_any) hE ?_; rintro _ rfl) | (apply at_op (.indexAddr _ _ _); refine al_ixq hget ?_) | refine nx ?_ | apply aq_pq | (apply aq_block_y; decide) | (apply qr_move; refine r_move ?_) | (apply at_cond; first | refine c_t ?_ | refine c_f ?_ | (refine aw_cond rfl (fun hb => ?_) (fun hb => ?_) <;> ((try have hq := dX hb); (try (exfalso; omega))))) | (apply at_guard; first | refine g_go ?_ | refine g_nt ?_ | refine g_nf ?_ | refine g_nu ?_ | ((first | refine al_split_t rfl rfl (lt_ok rfl) (fun hb => ?_) (fun hb => ?_) | refine al_split_f rfl rfl (lt_ok rfl) (fun hb => ?_) (fun hb => ?_)) <;> ((try have hq := dX hb); (try (exfalso; omega))))) | (apply qr_pick; refine r_pick ?_) | (apply qr_lss; refine r_lss ?_) | (apply qr_eql; refine r_eql ?_) | (apply qr_ix; refine r_ix ?_) | (apply qr_load; refine r_load ?_) | (apply qr_faddr; refine r_faddr ?_) | (apply qr_alloc; refine r_alloc ?_) | (apply qr_store; refine r_store ?_))
  refine aq_p ?_
  refine oret1 (psr L t) (by rfl) rv (⟨_, _, hR, rfl, rfl⟩) sb okx
 rw [if_neg (by omega)] at hR
 have hr := hrec.run L (t.drop 1) (g + 1) r2 x2 (by omega)
 rw [show ((g + 1 : Nat) : Int) = (g : Int) + 1 from rfl] at hr
 have hnext : ∀ (b : Ex) (u : List Tok), rec (g + 1) (t.drop 1) = .ok b u → R = ploop symP rec form (u.length + 1) g (two op e b) u ∧ Rdy L u ∧ Texts u ∧ u.length < t.length := fun b u hx => by
  have hsu := hrec.suf _ _ _ _ hx
  have hlu := suf_less hsu
  rw [hx, then_ok] at hR
  refine ⟨?_, r2.to hsu, x2.suf hsu, by omega⟩
  rw [hR]
  exact ploop_fuel hpar (by omega) (by omega) (by omega)
 by_cases c4 : own = 4
 ·have q5 : decide ((own : Int) = 4) = true := decide_eq_true (by omega)
  have q6 : decide ((g : Int) = 4) = false := decide_eq_false (by omega)
  repeat' (first | (apply at_call; refine k_call (operators_any) hE ?_; rintro _ rfl) | (apply at_op (.indexAddr _ _ _); refine al_ixq hget ?_) | refine nx ?_ | apply aq_pq | (apply aq_block_y; decide) | (apply qr_move; refine r_move ?_) | (apply at_cond; first | refine c_t ?_ | refine c_f ?_ | (refine aw_cond rfl (fun hb => ?_) (fun hb => ?_) <;> ((try have hq := dX hb); (try (exfalso; omega))))) | (apply at_guard; first | refine g_go ?_ | refine g_nt ?_ | refine g_nf ?_ | refine g_nu ?_ | ((first | refine al_split_t rfl rfl (lt_ok rfl) (fun hb => ?_) (fun hb => ?_) | refine al_split_f rfl rfl (lt_ok rfl) (fun hb => ?_) (fun hb => ?_)) <;> ((try have hq := dX hb); (try (exfalso; omega))))) | (apply qr_pick; refine r_pick ?_) | (apply qr_lss; refine r_lss ?_) | (apply qr_eql; refine r_eql ?_) | (apply qr_add; refine r_add ?_) | (apply qr_ix; refine r_ix ?_) | (apply qr_load; refine r_load ?_) | (apply qr_faddr; refine r_faddr ?_) | (apply qr_nilck; refine r_nilck ?_) | (apply qr_alloc; refine r_alloc ?_) | (apply qr_store; refine r_store ?_))
  rw [r1.step]
  refine aw_mixp (Bads _) ([(8, .box 120 [.d (.str w), .d (.int op), .d (.int g)]), (5, exB e), (2, pB)]) [(0, true), (1, true), (2, true), (3, true), (4, true), (5, true), (6, true), (7, false), (8, false), (9, false)] [10] (by kernel_rfl) (by kernel_rfl) (by kernel_rfl) (by decide) (by (repeat (first | exact obs_nil | (apply obs_cons; focus (first | rfl | (simp [find]; done)))))) (fun v hv => by (repeat (first | with_reducible refine ap_block ?_ | with_reducible refine ap_then ?_)); exact ap_body hv) ?_
  simp only [planned, tailed, List.filterMap_cons, List.filterMap_nil, List.getElem?_cons_zero, List.getElem?_cons_succ, Option.map_some]
  repeat' (first | apply am_nil | refine m_skip ?_ | refine n_skip ?_ | (apply at_am (.build _ _); refine am_nowd (by first | exact want_none | exact want_yes rfl rfl (by assumption) | exact want_yes rfl rfl (by with_reducible rfl)) (y_build rfl (by repeat (first | exact PartsD.nil | (apply PartsD.cons; first | exact ToD.d _ | exact ToD.row _ _ _ _ _ rfl))) (by first | (simp only [dfill, normV, normList, normMap]; rfl) | (simp [dfill, putD, cellsD, zerosD, Value.cells]; rfl))) (lt_ok rfl) ?_) | (apply at_mcall; refine m_pcall [(1000, 1000)] (hr) hE (fun v hv => ap_panq (bads_then hR hv)) ?_; rintro _ _ ⟨b, u, hx, rfl, rfl⟩; obtain ⟨hR2, r3, x3, z3⟩ := hnext b u hx <;> (intro _ _ h1 h2; simp only [renEqs, Nat.reduceBEq, renL_app, renL_ds, renL_und] at h1 h2; subst h1 h2; (try dsimp only [flatV, flat, D.plain, D.plainL]))) | (apply qm_add; refine m_add ?_) | (apply qm_load; refine m_load ?_) | (apply qm_faddr; refine m_faddr ?_) | (apply qn_build; refine n_build ?_) | (apply at_am (.buildSlice _ _ _); first | refine am_lit1 (by first | exact want_none | exact want_yes rfl rfl (by assumption) | exact want_yes rfl rfl (by with_reducible rfl)) rfl (by first | exact ToD.d _ | exact ToD.row _ _ _ _ _ rfl) (by first | (simp only [normV, normList, normMap]; rfl) | rfl) rfl (le_ok rfl) (lt_ok rfl) ?_ | refine am_lit (by first | exact want_none | exact want_yes rfl rfl (by assumption) | exact want_yes rfl rfl (by with_reducible rfl)) rfl (by repeat (first | exact PartsD.nil | (apply PartsD.cons; first | exact ToD.d _ | exact ToD.row _ _ _ _ _ rfl))) (by simp [dfill, putD, cellsD, zerosD, Value.cells]; rfl) (by first | (simp only [normV, normList, normMap]; rfl) | rfl) (by decide) (by decide) (lt_ok rfl) ?_) | (refine am_split rfl rfl (fun hb => ?_) (fun hb => ?_) <;> ((try have hq := dX hb); (try (exfalso; omega)))))
  repeat' (first | refine nx ?_ | apply aq_pq | (apply aq_block_y; decide) | (apply qr_move; refine r_move ?_) | (apply qr_assign; refine r_assign ?_) | (apply at_cond; first | refine c_t ?_ | refine c_f ?_ | (refine aw_cond rfl (fun hb => ?_) (fun hb => ?_) <;> ((try have hq := dX hb); (try (exfalso; omega))))) | (apply at_guard; first | refine g_go ?_ | refine g_nt ?_ | refine g_nf ?_ | refine g_nu ?_ | ((first | refine al_split_t rfl rfl (lt_ok rfl) (fun hb => ?_) (fun hb => ?_) | refine al_split_f rfl rfl (lt_ok rfl) (fun hb => ?_) (fun hb => ?_)) <;> ((try have hq := dX hb); (try (exfalso; omega))))) | (apply qr_pick; refine r_pick ?_) | (apply qr_lss; refine r_lss ?_) | (apply qr_eql; refine r_eql ?_) | (apply qr_add; refine r_add ?_) | (apply qr_extract; refine r_extract ?_) | (apply qr_func; refine r_func ?_) | (apply qr_ix; refine r_ix ?_) | (apply qr_load; refine r_load ?_) | (apply qr_faddr; refine r_faddr ?_) | (apply qr_nilck; refine r_nilck ?_) | (apply qr_alloc; refine r_alloc ?_) | (apply qr_boxed; refine r_boxed ?_) | (apply qr_store; refine r_store ?_) | (apply qr_build; refine r_build ?_) | (apply qr_lits; refine r_lits ?_))
  rw [← two_box]
  refine aq_rd (⟨g, two op e b, u, rfl, r3, x3, by omega, by omega, hR2, rfl, rfl⟩) (z3)
 ·have q5 : decide ((own : Int) = 4) = false := decide_eq_false (by omega)
  repeat' (first | (apply at_call; refine k_call (operators_any) hE ?_; rintro _ rfl) | (apply at_op (.indexAddr _ _ _); refine al_ixq hget ?_) | refine nx ?_ | apply aq_pq | (apply aq_block_y; decide) | (apply qr_move; refine r_move ?_) | (apply at_cond; first | refine c_t ?_ | refine c_f ?_ | (refine aw_cond rfl (fun hb => ?_) (fun hb => ?_) <;> ((try have hq := dX hb); (try (exfalso; omega))))) | (apply at_guard; first | refine g_go ?_ | refine g_nt ?_ | refine g_nf ?_ | refine g_nu ?_ | ((first | refine al_split_t rfl rfl (lt_ok rfl) (fun hb => ?_) (fun hb => ?_) | refine al_split_f rfl rfl (lt_ok rfl) (fun hb => ?_) (fun hb => ?_)) <;> ((try have hq := dX hb); (try (exfalso; omega))))) | (apply qr_pick; refine r_pick ?_) | (apply qr_lss; refine r_lss ?_) | (apply qr_eql; refine r_eql ?_) | (apply qr_add; refine r_add ?_) | (apply qr_ix; refine r_ix ?_) | (apply qr_load; refine r_load ?_) | (apply qr_faddr; refine r_faddr ?_) | (apply qr_nilck; refine r_nilck ?_) | (apply qr_alloc; refine r_alloc ?_) | (apply qr_store; refine r_store ?_))
  rw [r1.step]
  refine aw_mixp (Bads _) ([(8, .box 120 [.d (.str w), .d (.int op), .d (.int g)]), (5, exB e), (2, pB)]) [(0, true), (1, true), (2, true), (3, true), (4, true), (5, true), (6, true), (7, false), (8, false), (9, false)] [10] (by kernel_rfl) (by kernel_rfl) (by kernel_rfl) (by decide) (by (repeat (first | exact obs_nil | (apply obs_cons; focus (first | rfl | (simp [find]; done)))))) (fun v hv => by (repeat (first | with_reducible refine ap_block ?_ | with_reducible refine ap_then ?_)); exact ap_body hv) ?_
  simp only [planned, tailed, List.filterMap_cons, List.filterMap_nil, List.getElem?_cons_zero, List.getElem?_cons_succ, Option.map_some]
  repeat' (first | apply am_nil | refine m_skip ?_ | refine n_skip ?_ | (apply at_am (.build _ _); refine am_nowd (by first | exact want_none | exact want_yes rfl rfl (by assumption) | exact want_yes rfl rfl (by with_reducible rfl)) (y_build rfl (by repeat (first | exact PartsD.nil | (apply PartsD.cons; first | exact ToD.d _ | exact ToD.row _ _ _ _ _ rfl))) (by first | (simp only [dfill, normV, normList, normMap]; rfl) | (simp [dfill, putD, cellsD, zerosD, Value.cells]; rfl))) (lt_ok rfl) ?_) | (apply at_mcall; refine m_pcall [(1000, 1000)] (hr) hE (fun v hv => ap_panq (bads_then hR hv)) ?_; rintro _ _ ⟨b, u, hx, rfl, rfl⟩; obtain ⟨hR2, r3, x3, z3⟩ := hnext b u hx <;> (intro _ _ h1 h2; simp only [renEqs, Nat.reduceBEq, renL_app, renL_ds, renL_und] at h1 h2; subst h1 h2; (try dsimp only [flatV, flat, D.plain, D.plainL]))) | (apply qm_add; refine m_add ?_) | (apply qm_load; refine m_load ?_) | (apply qm_faddr; refine m_faddr ?_) | (apply qn_build; refine n_build ?_) | (apply at_am (.buildSlice _ _ _); first | refine am_lit1 (by first | exact want_none | exact want_yes rfl rfl (by assumption) | exact want_yes rfl rfl (by with_reducible rfl)) rfl (by first | exact ToD.d _ | exact ToD.row _ _ _ _ _ rfl) (by first | (simp only [normV, normList, normMap]; rfl) | rfl) rfl (le_ok rfl) (lt_ok rfl) ?_ | refine am_lit (by first | exact want_none | exact want_yes rfl rfl (by assumption) | exact want_yes rfl rfl (by with_reducible rfl)) rfl (by repeat (first | exact PartsD.nil | (apply PartsD.cons; first | exact ToD.d _ | exact ToD.row _ _ _ _ _ rfl))) (by simp [dfill, putD, cellsD, zerosD, Value.cells]; rfl) (by first | (simp only [normV, normList, normMap]; rfl) | rfl) (by decide) (by decide) (lt_ok rfl) ?_) | (refine am_split rfl rfl (fun hb => ?_) (fun hb => ?_) <;> ((try have hq := dX hb); (try (exfalso; omega)))))
  repeat' (first | refine nx ?_ | apply aq_pq | (apply aq_block_y; decide) | (apply qr_move; refine r_move ?_) | (apply qr_assign; refine r_assign ?_) | (apply at_cond; first | refine c_t ?_ | refine c_f ?_ | (refine aw_cond rfl (fun hb => ?_) (fun hb => ?_) <;> ((try have hq := dX hb); (try (exfalso; omega))))) | (apply at_guard; first | refine g_go ?_ | refine g_nt ?_ | refine g_nf ?_ | refine g_nu ?_ | ((first | refine al_split_t rfl rfl (lt_ok rfl) (fun hb => ?_) (fun hb => ?_) | refine al_split_f rfl rfl (lt_ok rfl) (fun hb => ?_) (fun hb => ?_)) <;> ((try have hq := dX hb); (try (exfalso; omega))))) | (apply qr_pick; refine r_pick ?_) | (apply qr_lss; refine r_lss ?_) | (apply qr_eql; refine r_eql ?_) | (apply qr_add; refine r_add ?_) | (apply qr_extract; refine r_extract ?_) | (apply qr_func; refine r_func ?_) | (apply qr_ix; refine r_ix ?_) | (apply qr_load; refine r_load ?_) | (apply qr_faddr; refine r_faddr ?_) | (apply qr_nilck; refine r_nilck ?_) | (apply qr_alloc; refine r_alloc ?_) | (apply qr_boxed; refine r_boxed ?_) | (apply qr_store; refine r_store ?_) | (apply qr_build; refine r_build ?_) | (apply qr_lits; refine r_lits ?_))
  rw [← two_box]
  refine aq_rd (⟨g, two op e b, u, rfl, r3, x3, by omega, by omega, hR2, rfl, rfl⟩) (z3)
end
theorem rd_parts (n : Nat) : Parts (rdE n) symP := pexp_parts (syn_base nameV) n
theorem rd_suf {n f : Nat} {l t : List Tok} {e : Ex} (h : rdE n f l = .ok e t) : Suf l t := by
 obtain ⟨_, h⟩ := rd_sound _ _ _ _ _ h
 exact h.suf
theorem rec_ok : ∀ n, RecOk (rdE (n + 1)) n
 | 0 => ⟨fun _ _ _ _ h => rd_suf h, fun _ _ _ h _ hl => absurd h.e.pos (by omega)⟩
 | n + 1 => ⟨fun _ _ _ _ h => rd_suf h, fun _ _ form h hx hl => pexp_any (rec_ok n) (rd_parts _) (fun f l e t h => rd_sound _ f l e t h) h hx hl form⟩
end Go.Proofs.YtedoeogopmenpaaGreatDoor
end
section
set_option linter.unusedSimpArgs false
set_option linter.unusedVariables false
namespace Go.Proofs.YtedoeogopmenpaaGreatDoor
open Go.RowKit
def readE (l : List Tok) : Rd Ex := rdE (l.length + 1) 0 l
def behindP (after : ByteArray) (e : Ex) (t : List Tok) : Rd Ex := if isT t after then (if e.levels ≤ 12 then .ok e (t.drop 1) else .bad (nxt t).p 6) else .bad (nxt t).p 12
def wholeP (after : ByteArray) (l : List Tok) : Rd Ex := (readE l).then (behindP after)
def partP (word : ByteArray) (least most : Int) (l : List Tok) : Rd Int :=
 (want l word).then fun _ l => (numP least most l).then fun n l => (want l w_semi).then fun _ l => .ok n l
def freshP (others : List ByteArray) (l : List Tok) : Rd ByteArray :=
 if (nxt l).k = 0 ∧ nameV (nxt l).s = true then (if others.any (fun w => decide (w = (nxt l).s)) then .bad (nxt l).p 5 else .ok (nxt l).s (l.drop 1)) else .bad (nxt l).p 12
theorem readE_der {l t : List Tok} {e : Ex} (h : readE l = .ok e t) : ∃ o, Der 0 l e o t := rd_sound _ _ _ _ _ h
theorem readE_suf {l t : List Tok} {e : Ex} (h : readE l = .ok e t) : Suf l t := rd_suf h
theorem wholeP_ok {after : ByteArray} {l t : List Tok} {e : Ex} (h : wholeP after l = .ok e t) : ∃ u, readE l = .ok e u ∧ isT u after = true ∧ e.levels ≤ 12 ∧ t = u.drop 1 := by
 obtain ⟨e', u, h1, h2⟩ := then_less h
 unfold behindP at h2
 split at h2
 ·rename_i h3
  split at h2
  ·rename_i h4
   cases h2
   exact ⟨u, h1, h3, h4, rfl⟩
  ·cases h2
 ·cases h2
theorem wholeP_suf {after : ByteArray} {l t : List Tok} {e : Ex} (h : wholeP after l = .ok e t) : Suf l t := by
 obtain ⟨u, h1, h2, _, rfl⟩ := wholeP_ok h
 exact (readE_suf h1).trans (suf_is h2)
theorem numP_ok {least most n : Int} {l t : List Tok} (h : numP least most l = .ok n t) : (nxt l).k = 1 ∧ n = (nxt l).n ∧ least ≤ n ∧ n ≤ most ∧ t = l.drop 1 := by
 unfold numP at h
 split at h
 ·rename_i h1
  split at h
  ·rename_i h2
   cases h
   exact ⟨h1, rfl, h2.1, h2.2, rfl⟩
  ·cases h
 ·cases h
theorem numP_suf {least most n : Int} {l t : List Tok} (h : numP least most l = .ok n t) : Suf l t := by
 obtain ⟨h1, _, _, _, rfl⟩ := numP_ok h
 exact suf_drop (by omega)
theorem freshP_ok {others : List ByteArray} {l t : List Tok} {s : ByteArray} (h : freshP others l = .ok s t) : (nxt l).k = 0 ∧ nameV s = true ∧ s = (nxt l).s ∧ others.any (fun w => decide (w = s)) = false ∧ t = l.drop 1 := by
 unfold freshP at h
 split at h
 ·rename_i h1
  split at h
  ·cases h
  ·rename_i h2
   cases h
   exact ⟨h1.1, h1.2, rfl, Bool.eq_false_iff.2 h2, rfl⟩
 ·cases h
theorem freshP_suf {others : List ByteArray} {l t : List Tok} {s : ByteArray} (h : freshP others l = .ok s t) : Suf l t := by
 obtain ⟨h1, _, _, _, rfl⟩ := freshP_ok h
 exact suf_drop (by omega)
theorem rec_read {L l : List Tok} (h : Rdy L l) (hx : Texts l) : ObP 42 [.box 1000 0, .d (.int 0)] (psr L l) [] (exO (readE l) L) (Bads (readE l)) := (rec_ok l.length).run L l 0 h hx (Nat.le_refl _)
section
variable {L l : List Tok}
theorem pwhole (r0 : Rdy L l) (x0 : Texts l) (after : ByteArray) : ObP 81 [.box 1000 0, .d (.str after)] (psr L l) [] (exO (wholeP after l) L) (Bads (wholeP after l)) := by
 obtain ⟨R, hR⟩ : ∃ R, R = wholeP after l := ⟨_, rfl⟩
 rw [← hR]
 unfold wholeP at hR
 rcases hrE : readE l with ⟨e, t⟩ | ⟨p, c⟩
 ·rw [hrE, then_ok] at hR
  have hrd := out_ok (rec_read r0 x0) hrE
  have r1 := r0.to (readE_suf hrE)
  obtain ⟨o, hd⟩ := readE_der hrE
  have hlv := hd.levels
  have hwd := hd.wid
  have hll := r0.len
  have hl2 := suf_less r0.suf
  have hlev := levels_any e.levels e (Nat.le_refl _) (by omega) (by omega)
  have hle := r1.le
  cases hT : isT t after
  ·have hR : R = .bad (nxt t).p 12 := by rw [hR]; simp [behindP, hT]
   have his := pis r1 after
   rw [hT] at his
   refine obp_enter Tryz.func81 rfl (by decide) _ Tryz.ntmps81 (le_ok rfl) rfl (fun w Pr β κ hE => ?_)
   dsimp only [slotsV, Nat.zero_add, Nat.reduceAdd]
   repeat' (first | (apply at_call; refine k_ocall [(1000, 1000)] (hrd) hE ?_; rintro _ _ ⟨rfl, rfl⟩ <;> (intro _ _ h1 h2; simp only [renEqs, Nat.reduceBEq, renL_app, renL_ds, renL_und] at h1 h2; subst h1 h2)) | (apply at_call; refine k_ocall [(1000, 1000)] (his) hE ?_; rintro _ _ ⟨rfl, rfl⟩ <;> (intro _ _ h1 h2; simp only [renEqs, Nat.reduceBEq, renL_app, renL_ds, renL_und] at h1 h2; subst h1 h2)) | (apply at_call; refine k_pcall [(1000, 1000)] (pcheck_n r1 12) hE (fun v hv => by subst hv; (repeat (first | with_reducible refine ap_block ?_ | with_reducible refine ap_then ?_)); first | exact ap_body ⟨_, _, hR, rfl⟩ | exact ap_body ⟨_, _, rfl, rfl⟩ | exact ap_body rfl) (fun _ _ h => h.elim)) | refine nx ?_ | apply aq_pq | (apply qr_move; refine r_move ?_) | (apply qr_alloc; refine r_alloc ?_) | (apply qr_store; refine r_store ?_))
  ·have his := pis r1 after
   rw [hT] at his
   by_cases hv : e.levels ≤ 12
   ·have hR : R = .ok e (t.drop 1) := by rw [hR]; simp [behindP, hT, hv]
    have c2 := pcheck_y (L := L) (l := t) 6
    rw [← decide_eq_true (show (e.levels : Int) ≤ 12 by omega)] at c2
    refine obp_enter Tryz.func81 rfl (by decide) _ Tryz.ntmps81 (le_ok rfl) rfl (fun w Pr β κ hE => ?_)
    dsimp only [slotsV, Nat.zero_add, Nat.reduceAdd]
    repeat' (first | (apply at_call; refine k_ocall [(1000, 1000)] (hrd) hE ?_; rintro _ _ ⟨rfl, rfl⟩ <;> (intro _ _ h1 h2; simp only [renEqs, Nat.reduceBEq, renL_app, renL_ds, renL_und] at h1 h2; subst h1 h2)) | (apply at_call; refine k_ocall [(1000, 1000)] (his) hE ?_; rintro _ _ ⟨rfl, rfl⟩ <;> (intro _ _ h1 h2; simp only [renEqs, Nat.reduceBEq, renL_app, renL_ds, renL_und] at h1 h2; subst h1 h2)) | (apply at_call; refine k_ocall [(1000, 1000)] (pcheck_y 12) hE ?_; rintro _ _ ⟨rfl, rfl⟩ <;> (intro _ _ h1 h2; simp only [renEqs, Nat.reduceBEq, renL_app, renL_ds, renL_und] at h1 h2; subst h1 h2)) | (apply at_call; refine k_call (hlev) hE ?_; rintro _ rfl) | (apply at_call; refine k_ocall [(1000, 1000)] (c2) hE ?_; rintro _ _ ⟨rfl, rfl⟩ <;> (intro _ _ h1 h2; simp only [renEqs, Nat.reduceBEq, renL_app, renL_ds, renL_und] at h1 h2; subst h1 h2)) | refine nx ?_ | apply aq_pq | (apply qr_move; refine r_move ?_) | (apply qr_leq; refine r_leq ?_) | (apply qr_add; refine r_add ?_) | (apply qr_load; refine r_load ?_) | (apply qr_faddr; refine r_faddr ?_) | (apply qr_nilck; refine r_nilck ?_) | (apply qr_alloc; refine r_alloc ?_) | (apply qr_store; refine r_store ?_))
    rw [r1.step]
    refine aq_p ?_
    refine oret1 (psr L (t.drop 1)) (by rfl) rv (⟨_, _, hR, rfl, rfl⟩) sb okx
   ·have hR : R = .bad (nxt t).p 6 := by rw [hR]; simp [behindP, hT, hv]
    have c2 := pcheck_n r1 6
    rw [← decide_eq_false (show ¬ (e.levels : Int) ≤ 12 by omega)] at c2
    refine obp_enter Tryz.func81 rfl (by decide) _ Tryz.ntmps81 (le_ok rfl) rfl (fun w Pr β κ hE => ?_)
    dsimp only [slotsV, Nat.zero_add, Nat.reduceAdd]
    repeat' (first | (apply at_call; refine k_ocall [(1000, 1000)] (hrd) hE ?_; rintro _ _ ⟨rfl, rfl⟩ <;> (intro _ _ h1 h2; simp only [renEqs, Nat.reduceBEq, renL_app, renL_ds, renL_und] at h1 h2; subst h1 h2)) | (apply at_call; refine k_ocall [(1000, 1000)] (his) hE ?_; rintro _ _ ⟨rfl, rfl⟩ <;> (intro _ _ h1 h2; simp only [renEqs, Nat.reduceBEq, renL_app, renL_ds, renL_und] at h1 h2; subst h1 h2)) | (apply at_call; refine k_ocall [(1000, 1000)] (pcheck_y 12) hE ?_; rintro _ _ ⟨rfl, rfl⟩ <;> (intro _ _ h1 h2; simp only [renEqs, Nat.reduceBEq, renL_app, renL_ds, renL_und] at h1 h2; subst h1 h2)) | (apply at_call; refine k_call (hlev) hE ?_; rintro _ rfl) | (apply at_call; refine k_pcall [(1000, 1000)] (c2) hE (fun v hv => by subst hv; (repeat (first | with_reducible refine ap_block ?_ | with_reducible refine ap_then ?_)); first | exact ap_body ⟨_, _, hR, rfl⟩ | exact ap_body ⟨_, _, rfl, rfl⟩ | exact ap_body rfl) (fun _ _ h => h.elim)) | refine nx ?_ | apply aq_pq | (apply qr_move; refine r_move ?_) | (apply qr_leq; refine r_leq ?_) | (apply qr_load; refine r_load ?_) | (apply qr_alloc; refine r_alloc ?_) | (apply qr_store; refine r_store ?_))
 ·have hR : R = .bad p c := by rw [hR, hrE]; rfl
  refine obp_enter Tryz.func81 rfl (by decide) _ Tryz.ntmps81 (le_ok rfl) rfl (fun w Pr β κ hE => ?_)
  dsimp only [slotsV, Nat.zero_add, Nat.reduceAdd]
  repeat' (first | (apply at_call; refine k_pcall [(1000, 1000)] (out_bad (rec_read r0 x0) hrE) hE (fun v hv => by subst hv; (repeat (first | with_reducible refine ap_block ?_ | with_reducible refine ap_then ?_)); first | exact ap_body ⟨_, _, hR, rfl⟩ | exact ap_body ⟨_, _, rfl, rfl⟩ | exact ap_body rfl) (fun _ _ h => h.elim)) | refine nx ?_ | apply aq_pq | (apply qr_move; refine r_move ?_) | (apply qr_alloc; refine r_alloc ?_) | (apply qr_store; refine r_store ?_))
theorem ppart (r0 : Rdy L l) (word : ByteArray) (least most : Int) : ObP 82 [.box 1000 0, .d (.str word), .d (.int least), .d (.int most)] (psr L l) [] (Out (partP word least most l) (fun n => .d (.int n)) (psr L)) (Bads (partP word least most l)) := by
 obtain ⟨R, hR⟩ : ∃ R, R = partP word least most l := ⟨_, rfl⟩
 rw [← hR]
 unfold partP at hR
 have hw1 := pwant r0 word
 refine obp_enter Tryz.func82 rfl (by decide) _ Tryz.ntmps82 (le_ok rfl) rfl (fun w Pr β κ hE => ?_)
 dsimp only [slotsV, Nat.zero_add, Nat.reduceAdd]
 repeat' (first | (apply at_call; refine k_pcall [(1000, 1000)] (hw1) hE (fun v hv => by (repeat (first | with_reducible refine ap_block ?_ | with_reducible refine ap_then ?_)); exact ap_body (bads_then hR hv)) ?_; rintro _ _ ⟨_, u1, hx1, rfl, rfl⟩; rw [hx1, then_ok] at hR; have r1 := r0.to (suf_want hx1); have hn1 := pnumber r1 least most <;> (intro _ _ h1 h2; simp only [renEqs, Nat.reduceBEq, renL_app, renL_ds, renL_und] at h1 h2; subst h1 h2)) | (apply at_call; refine k_pcall [(1000, 1000)] (hn1) hE (fun v hv => by (repeat (first | with_reducible refine ap_block ?_ | with_reducible refine ap_then ?_)); exact ap_body (bads_then hR hv)) ?_; rintro _ _ ⟨n, u2, hx2, rfl, rfl⟩; rw [hx2, then_ok] at hR; have r2 := r1.to (numP_suf hx2); have hw2 := pwant r2 w_semi <;> (intro _ _ h1 h2; simp only [renEqs, Nat.reduceBEq, renL_app, renL_ds, renL_und] at h1 h2; subst h1 h2)) | (apply at_call; refine k_pcall [(1000, 1000)] (hw2) hE (fun v hv => by (repeat (first | with_reducible refine ap_block ?_ | with_reducible refine ap_then ?_)); exact ap_body (bads_then hR hv)) ?_; rintro _ _ ⟨_, u3, hx3, rfl, rfl⟩; rw [hx3, then_ok] at hR <;> (intro _ _ h1 h2; simp only [renEqs, Nat.reduceBEq, renL_app, renL_ds, renL_und] at h1 h2; subst h1 h2)) | refine nx ?_ | apply aq_pq | (apply qr_move; refine r_move ?_) | (apply qr_assign; refine r_assign ?_) | (apply qr_lits; refine r_lits ?_))
 refine aq_p ?_
 refine oret1 (psr L u3) (by rfl) rv (⟨_, _, hR, rfl, rfl⟩) sb okx
theorem pfresh (r0 : Rdy L l) (x0 : Texts l) (others : List ByteArray) (ho : others.length ≤ 1000) : ObP 126 [.box 1000 0, .d (strsD others)] (psr L l) [] (Out (freshP others l) (fun s => .d (.str s)) (psr L)) (Bads (freshP others l)) := by
 obtain ⟨R, hR⟩ : ∃ R, R = freshP others l := ⟨_, rfl⟩
 rw [← hR]
 unfold freshP at hR
 have hnamed := pnamed r0 x0
 have hcon := contains_str others (nxt l).s (by omega)
 by_cases hn : (nxt l).k = 0 ∧ nameV (nxt l).s = true
 ·rw [if_pos hn] at hR
  have hq : (decide ((nxt l).k = 0) && nameV (nxt l).s) = true := by simp [hn.1, hn.2]
  rw [hq] at hnamed
  have hname := out_ok (a := (nxt l).s) (t := l.drop 1) (pname r0 x0) (by simp [nameP, hn.1, hn.2])
  cases ha : others.any (fun w => decide (w = (nxt l).s))
  ·rw [ha] at hcon
   rw [ha, if_neg (by simp)] at hR
   refine obp_enter Tryz.func126 rfl (by decide) _ Tryz.ntmps126 (le_ok rfl) rfl (fun w Pr β κ hE => ?_)
   dsimp only [slotsV, Nat.zero_add, Nat.reduceAdd]
   repeat' (first | (apply at_call; refine k_ocall [(1000, 1000)] (hnamed) hE ?_; rintro _ _ ⟨rfl, rfl⟩ <;> (intro _ _ h1 h2; simp only [renEqs, Nat.reduceBEq, renL_app, renL_ds, renL_und] at h1 h2; subst h1 h2)) | (apply at_call; refine k_ocall [(1000, 1000)] (pcheck_y 12) hE ?_; rintro _ _ ⟨rfl, rfl⟩ <;> (intro _ _ h1 h2; simp only [renEqs, Nat.reduceBEq, renL_app, renL_ds, renL_und] at h1 h2; subst h1 h2)) | (apply at_call; refine k_ocall [(1000, 1000)] (pnext r0) hE ?_; rintro _ _ ⟨rfl, rfl⟩ <;> (intro _ _ h1 h2; simp only [renEqs, Nat.reduceBEq, renL_app, renL_ds, renL_und] at h1 h2; subst h1 h2)) | (apply at_call; refine k_call (hcon) hE ?_; rintro _ rfl) | (apply at_call; refine k_ocall [(1000, 1000)] (pcheck_y 5) hE ?_; rintro _ _ ⟨rfl, rfl⟩ <;> (intro _ _ h1 h2; simp only [renEqs, Nat.reduceBEq, renL_app, renL_ds, renL_und] at h1 h2; subst h1 h2)) | (apply at_call; refine k_ocall [(1000, 1000)] (hname) hE ?_; rintro _ _ ⟨rfl, rfl⟩ <;> (intro _ _ h1 h2; simp only [renEqs, Nat.reduceBEq, renL_app, renL_ds, renL_und] at h1 h2; subst h1 h2)) | refine nx ?_ | apply aq_pq | (apply qr_move; refine r_move ?_) | (apply qr_assign; refine r_assign ?_) | (apply qr_not; refine r_not ?_) | (apply qr_field; refine r_field ?_))
   refine aq_p ?_
   refine oret1 (psr L (l.drop 1)) (by rfl) rv (⟨_, _, hR, rfl, rfl⟩) sb okx
  ·rw [ha] at hcon
   rw [ha, if_pos rfl] at hR
   refine obp_enter Tryz.func126 rfl (by decide) _ Tryz.ntmps126 (le_ok rfl) rfl (fun w Pr β κ hE => ?_)
   dsimp only [slotsV, Nat.zero_add, Nat.reduceAdd]
   repeat' (first | (apply at_call; refine k_ocall [(1000, 1000)] (hnamed) hE ?_; rintro _ _ ⟨rfl, rfl⟩ <;> (intro _ _ h1 h2; simp only [renEqs, Nat.reduceBEq, renL_app, renL_ds, renL_und] at h1 h2; subst h1 h2)) | (apply at_call; refine k_ocall [(1000, 1000)] (pcheck_y 12) hE ?_; rintro _ _ ⟨rfl, rfl⟩ <;> (intro _ _ h1 h2; simp only [renEqs, Nat.reduceBEq, renL_app, renL_ds, renL_und] at h1 h2; subst h1 h2)) | (apply at_call; refine k_ocall [(1000, 1000)] (pnext r0) hE ?_; rintro _ _ ⟨rfl, rfl⟩ <;> (intro _ _ h1 h2; simp only [renEqs, Nat.reduceBEq, renL_app, renL_ds, renL_und] at h1 h2; subst h1 h2)) | (apply at_call; refine k_call (hcon) hE ?_; rintro _ rfl) | (apply at_call; refine k_pcall [(1000, 1000)] (pcheck_n r0 5) hE (fun v hv => by subst hv; (repeat (first | with_reducible refine ap_block ?_ | with_reducible refine ap_then ?_)); first | exact ap_body ⟨_, _, hR, rfl⟩ | exact ap_body ⟨_, _, rfl, rfl⟩ | exact ap_body rfl) (fun _ _ h => h.elim)) | refine nx ?_ | apply aq_pq | (apply qr_move; refine r_move ?_) | (apply qr_assign; refine r_assign ?_) | (apply qr_not; refine r_not ?_) | (apply qr_field; refine r_field ?_))
 ·rw [if_neg hn] at hR
  have hq : (decide ((nxt l).k = 0) && nameV (nxt l).s) = false := by
   cases hv : nameV (nxt l).s
   ·simp
   ·simp [hv] at hn
    simp [hn]
  rw [hq] at hnamed
  refine obp_enter Tryz.func126 rfl (by decide) _ Tryz.ntmps126 (le_ok rfl) rfl (fun w Pr β κ hE => ?_)
  dsimp only [slotsV, Nat.zero_add, Nat.reduceAdd]
  repeat' (first | (apply at_call; refine k_ocall [(1000, 1000)] (hnamed) hE ?_; rintro _ _ ⟨rfl, rfl⟩ <;> (intro _ _ h1 h2; simp only [renEqs, Nat.reduceBEq, renL_app, renL_ds, renL_und] at h1 h2; subst h1 h2)) | (apply at_call; refine k_pcall [(1000, 1000)] (pcheck_n r0 12) hE (fun v hv => by subst hv; (repeat (first | with_reducible refine ap_block ?_ | with_reducible refine ap_then ?_)); first | exact ap_body ⟨_, _, hR, rfl⟩ | exact ap_body ⟨_, _, rfl, rfl⟩ | exact ap_body rfl) (fun _ _ h => h.elim)) | refine nx ?_ | apply aq_pq | (apply qr_move; refine r_move ?_) | (apply qr_assign; refine r_assign ?_) | (apply qr_not; refine r_not ?_) | (apply qr_field; refine r_field ?_))
end
end Go.Proofs.YtedoeogopmenpaaGreatDoor
end
section
set_option linter.unusedSimpArgs false
set_option linter.unusedVariables false
namespace Go.Proofs.YtedoeogopmenpaaGreatDoor
open Go.RowKit
def letsP : Nat → List (ByteArray × Ex) → List Tok → Rd (List (ByteArray × Ex))
 | 0, ls, l => .ok ls l
 | k + 1, ls, l => if isT l w_let then (if ls.length < 20 then (freshP (ls.map (·.1)) (l.drop 1)).then fun s l => (want l w_is).then fun _ l => (wholeP w_semi l).then fun e l => letsP k (ls ++ [(s, e)]) l else .bad (nxt l).p 6) else .ok ls l
theorem letsP_fuel : ∀ (k k' : Nat) (ls : List (ByteArray × Ex)) (l : List Tok), l.length < k → l.length < k' → letsP k ls l = letsP k' ls l
 | 0, _, _, _, h, _ => by omega
 | _, 0, _, _, _, h => by omega
 | k + 1, k' + 1, ls, l, h, h' => by
  simp only [letsP]
  cases hT : isT l w_let
  ·rfl
  ·simp only [if_true]
   split
   ·have hz := Ends.less (isT_k hT).1
    refine then_congr fun s u hu => then_congr fun _ v hv => then_congr fun e z hz' => ?_
    have := suf_less (freshP_suf hu)
    have := len_want hv
    have := suf_less (wholeP_suf hz')
    exact letsP_fuel k k' _ z (by omega) (by omega)
   ·rfl
abbrev letC (q : ByteArray × Ex) : List D := [.str q.1, .int q.2.op, .int q.2.num, .int q.2.unit, .str q.2.str, .list 5 (Ex.rows q.2.args)]
abbrev expZ : List V := [.d (.int 0), .d (.int 0), .d (.int 0), .d (.str ⟨#[]⟩), .d (.val (.slice none 0 0))]
abbrev xB (nm : ByteArray) (r k : Nat) : O := .box 28 [.d (.str nm), .row r k, .d (.int 0), .d (.int 0), .d (.int 0), .d (.str ⟨#[]⟩), .d (.val (.slice none 0 0)), .d (.int 0), .d (.int 0), .d (.int 0), .d (.str ⟨#[]⟩), .d (.val (.slice none 0 0)), .d (.int 0), .d (.int 0), .d (.int 0), .d (.str ⟨#[]⟩), .d (.val (.slice none 0 0)), .d (.int 0), .d (.int 0), .d (.int 0), .d (.str ⟨#[]⟩), .d (.val (.slice none 0 0)), .d (.int 0), .d (.int 0), .d (.int 0)]
abbrev letR (k : Nat) (ls : List (ByteArray × Ex)) : O := .row 43 6 k (ls.map letC)
abbrev letO (L t : List Tok) (nm : ByteArray) (k : Nat) (ls : List (ByteArray × Ex)) : Objs := [(1000, psB L (atN L t)), (1001, xB nm 1002 k), (1002, letR k ls)]
abbrev namR (k : Nat) (ss : List ByteArray) : O := .row 9 1 k (ss.map fun s => [D.str s])
section
variable {L l : List Tok}
theorem plets (r0 : Rdy L l) (x0 : Texts l) (nm : ByteArray) : ObP 80 [.box 1000 0, .box 1001 0] (letO L l nm 0 []) [] (fun x o => ∃ ls t k, letsP (l.length + 1) [] l = .ok ls t ∧ x = .tup [] ∧ o = letO L t nm k ls ∧ ls.length ≤ 20) (Bads (letsP (l.length + 1) [] l)) := by
 obtain ⟨R, hR⟩ : ∃ R, R = letsP (l.length + 1) [] l := ⟨_, rfl⟩
 rw [← hR]
 refine obp_enter Tryz.func80 rfl (by decide) _ Tryz.ntmps80 (le_ok rfl) rfl (fun w Pr β κ hE => ?_)
 dsimp only [slotsV, Nat.zero_add, Nat.reduceAdd]
 repeat' (first | refine nx ?_ | apply aq_pq | (apply aq_block_y; decide) | (apply qr_assign; refine r_assign ?_) | (apply at_cond; first | refine c_t ?_ | refine c_f ?_ | (refine aw_cond rfl (fun hb => ?_) (fun hb => ?_) <;> ((try have hq := dX hb); (try (exfalso; omega))))))
 refine aw_adopt 4 4 9 1 rfl rfl (lt_ok rfl) ?_
 refine aw_lp (fun N sl ob => ∃ (ls : List (ByteArray × Ex)) (t : List Tok) (k kn : Nat), N = t.length ∧ Rdy L t ∧ Texts t ∧ ls.length ≤ 20 ∧ R = letsP (t.length + 1) ls t ∧ sl = [(4, .row 4 kn), (1, .box 1001 0), (0, .box 1000 0)] ∧ ob = [(4, namR kn (ls.map (·.1))), (1001, xB nm 1002 k), (1002, letR k ls), (1000, psB L (atN L t))]) (⟨[], l, 0, 0, rfl, r0, x0, by simp, hR, rfl, rfl⟩) ?_
 clear hR
 rintro N sl ob ⟨ls, t, k, kn, rfl, r1, x1, hls, hR, rfl, rfl⟩
 simp only [letsP] at hR
 have his := pis r1 w_let
 have hle := r1.le
 cases hT : isT t w_let
 ·rw [hT] at his
  rw [hT, if_neg (by simp)] at hR
  repeat' (first | (apply at_call; refine k_ocall [(1000, 1000)] (his) hE ?_; rintro _ _ ⟨rfl, rfl⟩ <;> (intro _ _ h1 h2; simp only [renEqs, Nat.reduceBEq, renL_app, renL_ds, renL_und] at h1 h2; subst h1 h2)) | refine nx ?_ | apply aq_pq | (apply aq_block_y; decide) | (apply qr_move; refine r_move ?_) | (apply at_cond; first | refine c_t ?_ | refine c_f ?_ | (refine aw_cond rfl (fun hb => ?_) (fun hb => ?_) <;> ((try have hq := dX hb); (try (exfalso; omega))))))
  refine aq_p ?_
  try refine aq_end ?_
  refine oret0 (letO L t nm k ls) (by rfl) (⟨ls, t, k, hR, rfl, rfl, hls⟩) sb okx
 rw [hT] at his
 rw [hT, if_pos rfl] at hR
 have hmm : ((ls.map (·.1)).map fun s => [D.str s]).length = ls.length := by simp
 by_cases h20 : ls.length < 20
 ·rw [if_pos h20] at hR
  have c1 := pcheck_y (L := L) (l := t) 6
  rw [← decide_eq_true (show (ls.length : Int) < 20 by omega)] at c1
  have r2 := r1.to (suf_is hT)
  have x2 := x1.suf (suf_is hT)
  have z2 := Ends.less (isT_k hT).1
  have hfr := pfresh r2 x2 (ls.map (·.1)) (by simp; omega)
  repeat' (first | (apply at_call; refine k_ocall [(1000, 1000)] (his) hE ?_; rintro _ _ ⟨rfl, rfl⟩ <;> (intro _ _ h1 h2; simp only [renEqs, Nat.reduceBEq, renL_app, renL_ds, renL_und] at h1 h2; subst h1 h2)) | (apply at_call; refine k_ocall [(1000, 1000)] (c1) hE ?_; rintro _ _ ⟨rfl, rfl⟩ <;> (intro _ _ h1 h2; simp only [renEqs, Nat.reduceBEq, renL_app, renL_ds, renL_und] at h1 h2; subst h1 h2)) | refine nx ?_ | apply aq_pq | (apply aq_block_y; decide) | (apply qr_move; refine r_move ?_) | (apply at_cond; first | refine c_t ?_ | refine c_f ?_ | (refine aw_cond rfl (fun hb => ?_) (fun hb => ?_) <;> ((try have hq := dX hb); (try (exfalso; omega))))) | (apply qr_lss; refine r_lss ?_) | (apply qr_add; refine r_add ?_) | (apply qr_len; refine r_len ?_) | (apply qr_load; refine r_load ?_) | (apply qr_faddr; refine r_faddr ?_) | (apply qr_nilck; refine r_nilck ?_) | (apply qr_store; refine r_store ?_))
  rw [r1.step]
  repeat' (first | (apply at_call; refine k_pcall [(1000, 1000)] (hfr) hE (fun v hv => by (repeat (first | with_reducible refine ap_block ?_ | with_reducible refine ap_then ?_)); exact ap_body (bads_then hR hv)) ?_; rintro _ _ ⟨s, u1, hx1, rfl, rfl⟩; rw [hx1, then_ok] at hR; have r3 := r2.to (freshP_suf hx1); have x3 := x2.suf (freshP_suf hx1); have z3 := suf_less (freshP_suf hx1); have hw1 := pwant r3 w_is <;> (intro _ _ h1 h2; simp only [renEqs, Nat.reduceBEq, renL_app, renL_ds, renL_und] at h1 h2; subst h1 h2)) | (apply at_call; refine k_pcall [(1000, 1000)] (hw1) hE (fun v hv => by (repeat (first | with_reducible refine ap_block ?_ | with_reducible refine ap_then ?_)); exact ap_body (bads_then hR hv)) ?_; rintro _ _ ⟨_, u2, hx2, rfl, rfl⟩; rw [hx2, then_ok] at hR; have r4 := r3.to (suf_want hx2); have x4 := x3.suf (suf_want hx2); have z4 := len_want hx2; have hwh := pwhole r4 x4 w_semi <;> (intro _ _ h1 h2; simp only [renEqs, Nat.reduceBEq, renL_app, renL_ds, renL_und] at h1 h2; subst h1 h2)) | refine nx ?_ | apply aq_pq | (apply aq_block_y; decide) | (apply qr_move; refine r_move ?_) | (apply qr_assign; refine r_assign ?_) | (apply at_cond; first | refine c_t ?_ | refine c_f ?_ | (refine aw_cond rfl (fun hb => ?_) (fun hb => ?_) <;> ((try have hq := dX hb); (try (exfalso; omega))))) | (apply qr_lits; refine r_lits ?_) | (apply qr_appd; refine r_appd ?_))
  have hgn : ((((ls.map (·.1)).map fun s => [D.str s]) ++ [[D.str s]]))[ls.length]? = some [D.str s] := by simp
  refine aw_mixp (Bads _) ([(4, .row 9 1 (kn + 1) (((ls.map (·.1)).map fun s => [D.str s]) ++ [[D.str s]])), (1001, xB nm 1002 k)]) [(0, true), (1, true), (2, true), (3, true), (4, true), (5, true), (6, true), (7, true), (8, true), (9, true), (10, true), (11, true), (12, false), (13, false), (14, false), (15, false)] [16, 17, 18] (by kernel_rfl) (by kernel_rfl) (by kernel_rfl) (by decide) (by (repeat (first | exact obs_nil | (apply obs_cons; focus (first | rfl | (simp [find]; done)))))) (fun v hv => by (repeat (first | with_reducible refine ap_block ?_ | with_reducible refine ap_then ?_)); exact ap_body hv) ?_
  simp only [planned, tailed, List.filterMap_cons, List.filterMap_nil, List.getElem?_cons_zero, List.getElem?_cons_succ, Option.map_some]
  repeat' (first | apply am_nil | refine m_skip ?_ | refine n_skip ?_ | (apply at_am (.indexAddr _ _ _); refine am_y (by first | exact want_none | exact want_yes rfl rfl (by assumption) | exact want_yes rfl rfl (by with_reducible rfl)) (y_ix (by first | exact ToD.d _ | exact ToD.row _ _ _ _ _ rfl) rfl rfl (by simp) hgn) (lt_ok rfl) ?_) | (apply at_am (.build _ _); refine am_nowd (by first | exact want_none | exact want_yes rfl rfl (by assumption) | exact want_yes rfl rfl (by with_reducible rfl)) (y_build rfl (by repeat (first | exact PartsD.nil | (apply PartsD.cons; first | exact ToD.d _ | exact ToD.row _ _ _ _ _ rfl))) (by first | (simp only [dfill, normV, normList, normMap]; rfl) | (simp [dfill, putD, cellsD, zerosD, Value.cells]; rfl))) (lt_ok rfl) ?_) | (apply at_am (.call { callee := .builtin .append, args := _, argTypes := _ }); refine am_append (by first | exact want_none | exact want_yes rfl rfl (by assumption) | exact want_yes rfl rfl (by with_reducible rfl)) rfl rfl rfl (by first | exact ToD.d _ | exact ToD.row _ _ _ _ _ rfl) rfl rfl (by simp [D.one, Value.oneCell']) (by decide) (by first | (simp only [List.length_map, List.length_append, List.length_cons, List.length_nil]; omega) | omega) (by first | (simp only [List.length_map, List.length_append, List.length_cons, List.length_nil]; omega) | omega) (lt_ok rfl) ?_) | (apply at_mcall; refine m_pcall [(1000, 1000)] (hwh) hE (fun v hv => ap_panq (bads_then hR hv)) ?_; rintro _ _ ⟨e, u3, hx3, rfl, rfl⟩; rw [hx3, then_ok] at hR; have r5 := r4.to (wholeP_suf hx3); have x5 := x4.suf (wholeP_suf hx3); have z5 := suf_less (wholeP_suf hx3) <;> (intro _ _ h1 h2; simp only [renEqs, Nat.reduceBEq, renL_app, renL_ds, renL_und] at h1 h2; subst h1 h2; (try dsimp only [flatV, flat, D.plain, D.plainL]))) | (apply qm_move; refine m_move ?_) | (apply qm_sub; refine m_sub ?_) | (apply qm_len; refine m_len ?_) | (apply qm_ix; refine m_ix ?_) | (apply qm_load; refine m_load ?_) | (apply qm_faddr; refine m_faddr ?_) | (apply qm_nilck; refine m_nilck ?_) | (apply qn_build; refine n_build ?_) | (apply at_am (.buildSlice _ _ _); first | refine am_lit1 (by first | exact want_none | exact want_yes rfl rfl (by assumption) | exact want_yes rfl rfl (by with_reducible rfl)) rfl (by first | exact ToD.d _ | exact ToD.row _ _ _ _ _ rfl) (by first | (simp only [normV, normList, normMap]; rfl) | rfl) rfl (le_ok rfl) (lt_ok rfl) ?_ | refine am_lit (by first | exact want_none | exact want_yes rfl rfl (by assumption) | exact want_yes rfl rfl (by with_reducible rfl)) rfl (by repeat (first | exact PartsD.nil | (apply PartsD.cons; first | exact ToD.d _ | exact ToD.row _ _ _ _ _ rfl))) (by simp [dfill, putD, cellsD, zerosD, Value.cells]; rfl) (by first | (simp only [normV, normList, normMap]; rfl) | rfl) (by decide) (by decide) (lt_ok rfl) ?_) | (refine am_split rfl rfl (fun hb => ?_) (fun hb => ?_) <;> ((try have hq := dX hb); (try (exfalso; omega)))))
  have hlt3 : u3.length < t.length := by omega
  rw [letsP_fuel t.length (u3.length + 1) _ u3 hlt3 (by omega)] at hR
  have hm1 : ls.map letC ++ [D.val (.string s) :: exC e] = (ls ++ [(s, e)]).map letC := by rw [List.map_append]; rfl
  have hm2 : ((ls.map (·.1)).map fun s => [D.str s]) ++ [[D.str s]] = ((ls ++ [(s, e)]).map (·.1)).map fun s => [D.str s] := by simp
  rw [hm1]
  repeat' (first | refine nx ?_ | apply aq_pq | (apply aq_block_y; decide) | (apply qr_move; refine r_move ?_) | (apply qr_assign; refine r_assign ?_) | (apply at_cond; first | refine c_t ?_ | refine c_f ?_ | (refine aw_cond rfl (fun hb => ?_) (fun hb => ?_) <;> ((try have hq := dX hb); (try (exfalso; omega))))) | (apply qr_lss; refine r_lss ?_) | (apply qr_add; refine r_add ?_) | (apply qr_sub; refine r_sub ?_) | (apply qr_len; refine r_len ?_) | (apply qr_ix; refine r_ix ?_) | (apply qr_load; refine r_load ?_) | (apply qr_faddr; refine r_faddr ?_) | (apply qr_nilck; refine r_nilck ?_) | (apply qr_store; refine r_store ?_) | (apply qr_build; refine r_build ?_) | (apply qr_lits; refine r_lits ?_) | (apply qr_appd; refine r_appd ?_))
  rw [hm2]
  refine aq_rd (⟨ls ++ [(s, e)], u3, k + 1, kn + 1, rfl, r5, x5, by simp; omega, hR, rfl, rfl⟩) (hlt3)
 ·rw [if_neg h20] at hR
  have c1 := pcheck_n r1 6
  rw [← decide_eq_false (show ¬ (ls.length : Int) < 20 by omega)] at c1
  repeat' (first | (apply at_call; refine k_ocall [(1000, 1000)] (his) hE ?_; rintro _ _ ⟨rfl, rfl⟩ <;> (intro _ _ h1 h2; simp only [renEqs, Nat.reduceBEq, renL_app, renL_ds, renL_und] at h1 h2; subst h1 h2)) | (apply at_call; refine k_pcall [(1000, 1000)] (c1) hE (fun v hv => by subst hv; (repeat (first | with_reducible refine ap_block ?_ | with_reducible refine ap_then ?_)); first | exact ap_body ⟨_, _, hR, rfl⟩ | exact ap_body ⟨_, _, rfl, rfl⟩ | exact ap_body rfl) (fun _ _ h => h.elim)) | refine nx ?_ | apply aq_pq | (apply aq_block_y; decide) | (apply qr_move; refine r_move ?_) | (apply at_cond; first | refine c_t ?_ | refine c_f ?_ | (refine aw_cond rfl (fun hb => ?_) (fun hb => ?_) <;> ((try have hq := dX hb); (try (exfalso; omega))))) | (apply qr_lss; refine r_lss ?_) | (apply qr_len; refine r_len ?_))
end
end Go.Proofs.YtedoeogopmenpaaGreatDoor
end
