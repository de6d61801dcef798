/-
  Conditions: none.
-/
import Derived.Test.YtedoeogopmenpaaGreatDoorRows
import Derived.LaidLaws
import Derived.Handed
import Derived.Lib.LaidTab
import Derived.Stop.LaidErr
import Derived.Test.YtedoeogopmenpaaGreatDoorMbd
set_option maxHeartbeats 16000000
set_option maxRecDepth 20000
section
set_option linter.unusedSimpArgs false
set_option linter.unusedVariables false
namespace Go.Proofs.YtedoeogopmenpaaGreatDoor
open Go.RowKit
abbrev letsV : List (ByteArray × Ex) → V := fun ls => .d (.list 6 (ls.map letC))
section
variable {L l : List Tok} {k e p : Int}
theorem rd_ok_then {α β : Type} {a : α} {l : List Tok} {K : α → List Tok → Rd β} : (Rd.ok a l).then K = K a l := rfl
theorem rlets (r0 : Rdy L l) (x0 : Texts l) (e0 : EndE l) : ObC 87 [.box 1000 0] (rps L l) [] (RefO (letsP (l.length + 1) [] l) letsV L) := by
 obtain ⟨R, hR⟩ : ∃ R, R = letsP (l.length + 1) [] l := ⟨_, rfl⟩
 rw [← hR]
 refine ob_enter Tryz.func87 rfl (by decide) _ Tryz.ntmps87 (le_ok rfl) rfl (fun w Pr β κ hE => ?_)
 dsimp only [slotsV, Nat.zero_add, Nat.reduceAdd]
 repeat' (first | refine nx ?_ | (apply aq_block_y; decide) | (apply qr_assign; refine r_assign ?_) | (apply at_cond; first | refine c_t ?_ | refine c_f ?_ | (refine aw_cond rfl (fun hb => ?_) (fun hb => ?_) <;> ((try have hq := dX hb); (try (exfalso; omega))))))
 refine aw_adopt 4 4 9 1 rfl rfl (lt_ok rfl) ?_
 refine aw_adopt 3 3 43 6 rfl rfl (lt_ok rfl) ?_
 refine aw_lp (fun N sl ob => (∃ (ls : List (ByteArray × Ex)) (t : List Tok) (ko kn : Nat), N = t.length + 1 ∧ Rdy L t ∧ Texts t ∧ EndE t ∧ ls.length ≤ 20 ∧ R = letsP (t.length + 1) ls t ∧ sl = [(4, .row 4 kn), (3, .row 3 ko), (2, .d (.val (.slice none 0 0))), (0, .box 1000 0)] ∧ ob = [(3, letR ko ls), (4, namR kn (ls.map (·.1))), (1000, rpB L (atN L t) 0 0)]) ∨ ∃ (ls : List (ByteArray × Ex)) (ns : List ByteArray) (ko kn : Nat) (p e k : Int), N = 0 ∧ e ≠ 0 ∧ R = .bad p e ∧ sl = [(4, .row 4 kn), (3, .row 3 ko), (2, .d (.val (.slice none 0 0))), (0, .box 1000 0)] ∧ ob = [(3, letR ko ls), (4, namR kn ns), (1000, rpB L k e p)]) (.inl ⟨[], l, 0, 0, rfl, r0, x0, e0, by simp, hR, rfl, rfl⟩) ?_
 clear hR
 rintro N sl ob (⟨ls, t, ko, kn, rfl, r1, x1, e1, hls, hR, rfl, rfl⟩ | ⟨ls, ns, ko, kn, p, e, k, rfl, he, hR, rfl, rfl⟩)
 ·simp only [letsP] at hR
  have his := ris r1 w_let
  have hle := r1.le
  cases hT : isT t w_let
  ·rw [hT] at his
   rw [hT, if_neg (by simp)] at hR
   repeat' (first | (apply at_call; refine k_ocall [(1000, 1000)] (his) hE ?_; rintro _ _ ⟨rfl, rfl⟩ <;> (intro _ _ h1 h2; simp only [renEqs, Nat.reduceBEq, renL_app, renL_ds, renL_und] at h1 h2; subst h1 h2)) | refine nx ?_ | (apply aq_block_y; decide) | (apply qr_move; refine r_move ?_) | (apply qr_assign; refine r_assign ?_) | (apply at_cond; first | refine c_t ?_ | refine c_f ?_ | (refine aw_cond rfl (fun hb => ?_) (fun hb => ?_) <;> ((try have hq := dX hb); (try (exfalso; omega))))))
   refine oret1 (rps L t) (by rfl) rv (.inl ⟨_, _, hR, rfl, rfl⟩) sb okx
  rw [hT] at his
  rw [hT, if_pos rfl] at hR
  have hmm : ((ls.map (·.1)).map fun s => [D.str s]).length = ls.length := by simp
  have hml : (ls.map letC).length = ls.length := by simp
  by_cases h20 : ls.length < 20
  ·have q5 : decide ((ls.length : Int) = 20) = false := decide_eq_false (by omega)
   rw [if_pos h20] at hR
   have r2 := r1.to (suf_is hT)
   have x2 := x1.suf (suf_is hT)
   have e2 := e1.suf (suf_is hT)
   have z2 := Ends.less (isT_k hT).1
   have hS : Sta (.ok () (t.drop 1)) () L (atN L (t.drop 1)) 0 0 := .inl ⟨_, rfl, r2, x2, e2, rfl, rfl, rfl⟩
   rw [← rd_ok_then (a := ()) (K := fun _ l => (freshP (ls.map (·.1)) l).then fun s l => (want l w_is).then fun _ l => (wholeP w_semi l).then fun e l => letsP t.length (ls ++ [(s, e)]) l)] at hR
   replace hR := sta_next hS hR
   have u1 := ufresh hS (ls.map (·.1)) (by simp; omega)
   repeat' (first | (apply at_call; refine k_ocall [(1000, 1000)] (his) hE ?_; rintro _ _ ⟨rfl, rfl⟩ <;> (intro _ _ h1 h2; simp only [renEqs, Nat.reduceBEq, renL_app, renL_ds, renL_und] at h1 h2; subst h1 h2)) | refine nx ?_ | (apply aq_block_y; decide) | (apply qr_move; refine r_move ?_) | (apply at_cond; first | refine c_t ?_ | refine c_f ?_ | (refine aw_cond rfl (fun hb => ?_) (fun hb => ?_) <;> ((try have hq := dX hb); (try (exfalso; omega))))) | (apply qr_eql; refine r_eql ?_) | (apply qr_add; refine r_add ?_) | (apply qr_len; refine r_len ?_) | (apply qr_load; refine r_load ?_) | (apply qr_faddr; refine r_faddr ?_) | (apply qr_nilck; refine r_nilck ?_) | (apply qr_store; refine r_store ?_))
   rw [r1.step]
   repeat' (first | (apply at_call; refine k_ocall [(1000, 1000)] (u1) hE ?_; rintro _ _ ⟨s, k1, c1, p1, rfl, rfl, s1⟩; replace hR := sta_next s1 hR; have u2 := uwant s1 w_is (by decide) <;> (intro _ _ h1 h2; simp only [renEqs, Nat.reduceBEq, renL_app, renL_ds, renL_und] at h1 h2; subst h1 h2)) | (apply at_call; refine k_ocall [(1000, 1000)] (u2) hE ?_; rintro _ _ ⟨_, k2, c2, p2, rfl, rfl, s2⟩; replace hR := sta_next s2 hR; have u3 := uwhole s2 <;> (intro _ _ h1 h2; simp only [renEqs, Nat.reduceBEq, renL_app, renL_ds, renL_und] at h1 h2; subst h1 h2)) | refine nx ?_ | (apply aq_block_y; decide) | (apply qr_move; refine r_move ?_) | (apply qr_assign; refine r_assign ?_) | (apply at_cond; first | refine c_t ?_ | refine c_f ?_ | (refine aw_cond rfl (fun hb => ?_) (fun hb => ?_) <;> ((try have hq := dX hb); (try (exfalso; omega))))) | (apply qr_lits; refine r_lits ?_) | (apply qr_appd; refine r_appd ?_))
   have hgn : ((((ls.map (·.1)).map fun s => [D.str s]) ++ [[D.str s]]))[ls.length]? = some [D.str s] := by simp
   refine aw_mixo ([(4, .row 9 1 (kn + 1) (((ls.map (·.1)).map fun s => [D.str s]) ++ [[D.str s]]))]) [(0, true), (1, true), (2, true), (3, true), (4, true), (5, true), (6, true), (7, true), (8, false), (9, false), (10, false), (11, false)] [12] (by kernel_rfl) (by kernel_rfl) (by kernel_rfl) (by decide) (by (repeat (first | exact obs_nil | (apply obs_cons; focus (first | rfl | (simp [find]; done)))))) ?_
   simp only [planned, tailed, List.filterMap_cons, List.filterMap_nil, List.getElem?_cons_zero, List.getElem?_cons_succ, Option.map_some]
   repeat' (first | apply am_nil | refine m_skip ?_ | refine n_skip ?_ | (apply at_am (.indexAddr _ _ _); refine am_y (by first | exact want_none | exact want_yes rfl rfl (by assumption) | exact want_yes rfl rfl (by with_reducible rfl)) (y_ix (by first | exact ToD.d _ | exact ToD.row _ _ _ _ _ rfl) rfl rfl (by simp) hgn) (lt_ok rfl) ?_) | (apply at_am (.build _ _); refine am_nowd (by first | exact want_none | exact want_yes rfl rfl (by assumption) | exact want_yes rfl rfl (by with_reducible rfl)) (y_build rfl (by repeat (first | exact PartsD.nil | (apply PartsD.cons; first | exact ToD.d _ | exact ToD.row _ _ _ _ _ rfl))) (by first | (simp only [dfill, normV, normList, normMap]; rfl) | (simp [dfill, putD, cellsD, zerosD, Value.cells]; rfl))) (lt_ok rfl) ?_) | (apply at_am (.call { callee := .builtin .append, args := _, argTypes := _ }); refine am_append (by first | exact want_none | exact want_yes rfl rfl (by assumption) | exact want_yes rfl rfl (by with_reducible rfl)) rfl rfl rfl (by first | exact ToD.d _ | exact ToD.row _ _ _ _ _ rfl) rfl rfl (by simp [D.one, Value.oneCell']) (by decide) (by first | (simp only [List.length_map, List.length_append, List.length_cons, List.length_nil]; omega) | omega) (by first | (simp only [List.length_map, List.length_append, List.length_cons, List.length_nil]; omega) | omega) (lt_ok rfl) ?_) | (apply at_mcall; refine m_ocall [(1000, 1000)] (u3) hE ?_; rintro _ _ ⟨e, k3, c3, p3, rfl, rfl, s3⟩ <;> (intro _ _ h1 h2; simp only [renEqs, Nat.reduceBEq, renL_app, renL_ds, renL_und] at h1 h2; subst h1 h2; (try dsimp only [flatV, flat, D.plain, D.plainL]))) | (apply qm_move; refine m_move ?_) | (apply qm_sub; refine m_sub ?_) | (apply qm_len; refine m_len ?_) | (apply qm_ix; refine m_ix ?_) | (apply qm_load; refine m_load ?_) | (apply qn_build; refine n_build ?_) | (apply at_am (.buildSlice _ _ _); first | refine am_lit1 (by first | exact want_none | exact want_yes rfl rfl (by assumption) | exact want_yes rfl rfl (by with_reducible rfl)) rfl (by first | exact ToD.d _ | exact ToD.row _ _ _ _ _ rfl) (by first | (simp only [normV, normList, normMap]; rfl) | rfl) rfl (le_ok rfl) (lt_ok rfl) ?_ | refine am_lit (by first | exact want_none | exact want_yes rfl rfl (by assumption) | exact want_yes rfl rfl (by with_reducible rfl)) rfl (by repeat (first | exact PartsD.nil | (apply PartsD.cons; first | exact ToD.d _ | exact ToD.row _ _ _ _ _ rfl))) (by simp [dfill, putD, cellsD, zerosD, Value.cells]; rfl) (by first | (simp only [normV, normList, normMap]; rfl) | rfl) (by decide) (by decide) (lt_ok rfl) ?_) | (refine am_split rfl rfl (fun hb => ?_) (fun hb => ?_) <;> ((try have hq := dX hb); (try (exfalso; omega)))))
   repeat' (first | refine nx ?_ | (apply aq_block_y; decide) | (apply qr_move; refine r_move ?_) | (apply qr_assign; refine r_assign ?_) | (apply at_cond; first | refine c_t ?_ | refine c_f ?_ | (refine aw_cond rfl (fun hb => ?_) (fun hb => ?_) <;> ((try have hq := dX hb); (try (exfalso; omega))))) | (apply qr_sub; refine r_sub ?_) | (apply qr_len; refine r_len ?_) | (apply qr_ix; refine r_ix ?_) | (apply qr_load; refine r_load ?_) | (apply qr_build; refine r_build ?_) | (apply qr_lits; refine r_lits ?_) | (apply qr_appd; refine r_appd ?_))
   have hm1 : ls.map letC ++ [D.val (.string s) :: exC e] = (ls ++ [(s, e)]).map letC := by rw [List.map_append]; rfl
   have hm2 : ((ls.map (·.1)).map fun s => [D.str s]) ++ [[D.str s]] = ((ls ++ [(s, e)]).map (·.1)).map fun s => [D.str s] := by simp
   rw [hm1, hm2]
   rcases s3 with ⟨u, h1, r5, x5, e5, rfl, rfl, rfl⟩ | ⟨h1, he⟩
   ·rw [h1, then_ok] at hR
    obtain ⟨_, v2, g2, k2⟩ := then_less h1
    obtain ⟨_, v1, g1, k1⟩ := then_less g2
    have z1 := suf_less (freshP_suf g1)
    have z3 := len_want k1
    have z4 := suf_less (wholeP_suf k2)
    rw [letsP_fuel t.length (u.length + 1) _ u (by omega) (by omega)] at hR
    refine aq_rd (.inl ⟨ls ++ [(s, e)], u, ko + 1, kn + 1, rfl, r5, x5, e5, by simp; omega, hR, rfl, rfl⟩) (by omega)
   ·rw [h1, then_bad] at hR
    refine aq_rd (.inr ⟨ls ++ [(s, e)], _, ko + 1, kn + 1, p3, c3, k3, rfl, he, hR, rfl, rfl⟩) (by omega)
  ·have q5 : decide ((ls.length : Int) = 20) = true := decide_eq_true (by omega)
   rw [if_neg h20] at hR
   repeat' (first | (apply at_call; refine k_ocall [(1000, 1000)] (his) hE ?_; rintro _ _ ⟨rfl, rfl⟩ <;> (intro _ _ h1 h2; simp only [renEqs, Nat.reduceBEq, renL_app, renL_ds, renL_und] at h1 h2; subst h1 h2)) | (apply at_call; refine k_ocall [(1000, 1000)] (rfail r1 6) hE ?_; rintro _ _ ⟨rfl, rfl⟩ <;> (intro _ _ h1 h2; simp only [renEqs, Nat.reduceBEq, renL_app, renL_ds, renL_und] at h1 h2; subst h1 h2)) | refine nx ?_ | (apply aq_block_y; decide) | (apply qr_move; refine r_move ?_) | (apply qr_assign; refine r_assign ?_) | (apply at_cond; first | refine c_t ?_ | refine c_f ?_ | (refine aw_cond rfl (fun hb => ?_) (fun hb => ?_) <;> ((try have hq := dX hb); (try (exfalso; omega))))) | (apply qr_eql; refine r_eql ?_) | (apply qr_len; refine r_len ?_))
   refine oret1 (rpe L (atN L t) 6 (nxt t).p) (by rfl) (.x _ _ (.tmp _ _ (ToD.nil 6))) (.inr ⟨_, 6, _, [], hR, by decide, rfl, rfl⟩) (by (repeat (first | exact obs_nil | (apply obs_cons; focus (first | rfl | (simp [find]; done)))))) (by rfl)
 ·have his := ris_e (L := L) (k := k) (p := p) he w_let (by decide)
  repeat' (first | (apply at_call; refine k_ocall [(1000, 1000)] (his) hE ?_; rintro _ _ ⟨rfl, rfl⟩ <;> (intro _ _ h1 h2; simp only [renEqs, Nat.reduceBEq, renL_app, renL_ds, renL_und] at h1 h2; subst h1 h2)) | refine nx ?_ | (apply aq_block_y; decide) | (apply qr_move; refine r_move ?_) | (apply qr_assign; refine r_assign ?_) | (apply at_cond; first | refine c_t ?_ | refine c_f ?_ | (refine aw_cond rfl (fun hb => ?_) (fun hb => ?_) <;> ((try have hq := dX hb); (try (exfalso; omega))))))
  refine oret1 (rpe L k e p) (by rfl) rv (.inr ⟨_, _, _, _, hR, he, rfl, rfl⟩) sb okx
end
end Go.Proofs.YtedoeogopmenpaaGreatDoor
end
section
set_option linter.unusedSimpArgs false
set_option linter.unusedVariables false
namespace Go.Proofs.YtedoeogopmenpaaGreatDoor
open Go.RowKit
theorem bylawsP_eq (l : List Tok) : bylawsP l = (want l w_bylaws).then fun _ l => (nameP nameV l).then fun nm l => (want l w_semi).then fun _ l => (letsP (l.length + 1) [] l).then fun ls l =>
  (want l w_admit).then fun _ l => (wholeP w_semi l).then fun a l => (want l w_fare).then fun _ l => (wholeP w_semi l).then fun b l => (want l w_late).then fun _ l => (wholeP w_semi l).then fun c l => (want l w_noshow).then fun _ l => (wholeP w_semi l).then fun d l =>
  (partP w_quota 0 1000 l).then fun q l => (partP w_share 0 1000 l).then fun s l => (partP w_change 1 1000 l).then fun h l => lastP ⟨nm, ls, a, b, c, d, q, s, h⟩ l := by
 simp only [bylawsP, wsL, partsP, then_then, then_ok, numsP, mkBy]
 rfl
abbrev byV' : By → V := fun x => .d (.agg (byC x))
abbrev byB' (nm : ByteArray) (ls : D) (es : List Ex) (q s c : Int) : O := .box 28 (.d (.str nm) :: .d ls :: (fillV es ++ [.d (.int q), .d (.int s), .d (.int c)]))
section
variable {L l : List Tok} {k e p : Int}
theorem rlets_e (he : e ≠ 0) : ObC 87 [.box 1000 0] (rpe L k e p) [] (ErrO letsV L k e p) := by
 have his := ris_e (L := L) (k := k) (p := p) he w_let (by decide)
 refine ob_enter Tryz.func87 rfl (by decide) _ Tryz.ntmps87 (le_ok rfl) rfl (fun w Pr β κ hE => ?_)
 dsimp only [slotsV, Nat.zero_add, Nat.reduceAdd]
 repeat' (first | refine nx ?_ | (apply aq_block_y; decide) | (apply qr_assign; refine r_assign ?_) | (apply at_cond; first | refine c_t ?_ | refine c_f ?_ | (refine aw_cond rfl (fun hb => ?_) (fun hb => ?_) <;> ((try have hq := dX hb); (try (exfalso; omega))))))
 refine aw_lp (fun N sl ob => N = 0 ∧ sl = [(4, .d (.val (.slice none 0 0))), (3, .d (.val (.slice none 0 0))), (2, .d (.val (.slice none 0 0))), (0, .box 1000 0)] ∧ ob = [(1000, rpB L k e p)]) (⟨rfl, rfl, rfl⟩) ?_
 rintro N sl ob ⟨rfl, rfl, rfl⟩
 repeat' (first | (apply at_call; refine k_ocall [(1000, 1000)] (his) hE ?_; rintro _ _ ⟨rfl, rfl⟩ <;> (intro _ _ h1 h2; simp only [renEqs, Nat.reduceBEq, renL_app, renL_ds, renL_und] at h1 h2; subst h1 h2)) | refine nx ?_ | (apply aq_block_y; decide) | (apply qr_move; refine r_move ?_) | (apply qr_assign; refine r_assign ?_) | (apply at_cond; first | refine c_t ?_ | refine c_f ?_ | (refine aw_cond rfl (fun hb => ?_) (fun hb => ?_) <;> ((try have hq := dX hb); (try (exfalso; omega))))))
 refine oret1 (rpe L k e p) (by rfl) (.x _ _ (.tmp _ _ (ToD.nil 6))) (⟨⟨[], rfl⟩, rfl⟩) (by (repeat (first | exact obs_nil | (apply obs_cons; focus (first | rfl | (simp [find]; done)))))) (by rfl)
theorem ulets {α : Type} {S : Rd α} {a : α} (h : Sta S a L k e p) : ObC 87 [.box 1000 0] (rpe L k e p) [] (UnO (S.then fun _ l => letsP (l.length + 1) [] l) letsV L) :=
 un_of (P := fun l => letsP (l.length + 1) [] l) h (fun t r x ee => rlets r x ee) (fun t b u hb => letsP_suf _ _ _ hb) (fun he => rlets_e he)
theorem rbylaws (r0 : Rdy L l) (x0 : Texts l) (e0 : EndE l) : ObC 40 [.box 1000 0] (rps L l) [] (fun y o => ∃ a k e p, y = byV' a ∧ o = rpe L k e p ∧ ((∃ t, bylawsP l = .ok a t ∧ e = 0) ∨ (bylawsP l = .bad p e ∧ e ≠ 0))) := by
 obtain ⟨R, hR⟩ : ∃ R, R = bylawsP l := ⟨_, rfl⟩
 rw [← hR]
 rw [bylawsP_eq] at hR
 have s0 : Sta (.ok () l) () L (atN L l) 0 0 := .inl ⟨_, rfl, r0, x0, e0, rfl, rfl, rfl⟩
 have hR0 := hR.trans (rd_ok_then (a := ()) (l := l) (K := fun _ l => (want l w_bylaws).then fun _ l => (nameP nameV l).then fun nm l => (want l w_semi).then fun _ l => (letsP (l.length + 1) [] l).then fun ls l =>
  (want l w_admit).then fun _ l => (wholeP w_semi l).then fun a l => (want l w_fare).then fun _ l => (wholeP w_semi l).then fun b l => (want l w_late).then fun _ l => (wholeP w_semi l).then fun c l => (want l w_noshow).then fun _ l => (wholeP w_semi l).then fun d l =>
  (partP w_quota 0 1000 l).then fun q l => (partP w_share 0 1000 l).then fun s l => (partP w_change 1 1000 l).then fun h l => lastP ⟨nm, ls, a, b, c, d, q, s, h⟩ l)).symm
 clear hR
 have hR := sta_next s0 hR0
 clear hR0
 have u1 := uwant s0 w_bylaws (by decide)
 have q0 : decide ((0 : Int) = 0) = true := rfl
 refine ob_enter Tryz.func40 rfl (by decide) _ Tryz.ntmps40 (le_ok rfl) rfl (fun w Pr β κ hE => ?_)
 dsimp only [slotsV, Nat.zero_add, Nat.reduceAdd]
 repeat' (first | (apply at_call; refine k_ocall [(1000, 1000)] (u1) hE ?_; rintro _ _ ⟨_, k1, c1, p1, rfl, rfl, s1⟩; replace hR := sta_next s1 hR; have u2 := uname s1 <;> (intro _ _ h1 h2; simp only [renEqs, Nat.reduceBEq, renL_app, renL_ds, renL_und] at h1 h2; subst h1 h2)) | (apply at_call; refine k_ocall [(1000, 1000)] (u2) hE ?_; rintro _ _ ⟨nm, k2, c2, p2, rfl, rfl, s2⟩; replace hR := sta_next s2 hR; have u3 := uwant s2 w_semi (by decide) <;> (intro _ _ h1 h2; simp only [renEqs, Nat.reduceBEq, renL_app, renL_ds, renL_und] at h1 h2; subst h1 h2)) | (apply at_call; refine k_ocall [(1000, 1000)] (u3) hE ?_; rintro _ _ ⟨_, k3, c3, p3, rfl, rfl, s3⟩; replace hR := sta_next s3 hR; have u4 := ulets s3 <;> (intro _ _ h1 h2; simp only [renEqs, Nat.reduceBEq, renL_app, renL_ds, renL_und] at h1 h2; subst h1 h2)) | (apply at_call; refine k_ocall [(1000, 1000)] (u4) hE ?_; rintro _ _ ⟨ls, k4, c4, p4, rfl, rfl, s4⟩; replace hR := sta_next s4 hR; have u5 := uwant s4 w_admit (by decide) <;> (intro _ _ h1 h2; simp only [renEqs, Nat.reduceBEq, renL_app, renL_ds, renL_und] at h1 h2; subst h1 h2)) | (apply at_call; refine k_ocall [(1000, 1000)] (u5) hE ?_; rintro _ _ ⟨_, k5, c5, p5, rfl, rfl, s5⟩; replace hR := sta_next s5 hR; have u6 := uwhole s5 <;> (intro _ _ h1 h2; simp only [renEqs, Nat.reduceBEq, renL_app, renL_ds, renL_und] at h1 h2; subst h1 h2)) | (apply at_call; refine k_ocall [(1000, 1000)] (u6) hE ?_; rintro _ _ ⟨a, k6, c6, p6, rfl, rfl, s6⟩; replace hR := sta_next s6 hR; have u7 := uwant s6 w_fare (by decide) <;> (intro _ _ h1 h2; simp only [renEqs, Nat.reduceBEq, renL_app, renL_ds, renL_und] at h1 h2; subst h1 h2)) | (apply at_call; refine k_ocall [(1000, 1000)] (u7) hE ?_; rintro _ _ ⟨_, k7, c7, p7, rfl, rfl, s7⟩; replace hR := sta_next s7 hR; have u8 := uwhole s7 <;> (intro _ _ h1 h2; simp only [renEqs, Nat.reduceBEq, renL_app, renL_ds, renL_und] at h1 h2; subst h1 h2)) | (apply at_call; refine k_ocall [(1000, 1000)] (u8) hE ?_; rintro _ _ ⟨b, k8, c8, p8, rfl, rfl, s8⟩; replace hR := sta_next s8 hR; have u9 := uwant s8 w_late (by decide) <;> (intro _ _ h1 h2; simp only [renEqs, Nat.reduceBEq, renL_app, renL_ds, renL_und] at h1 h2; subst h1 h2)) | (apply at_call; refine k_ocall [(1000, 1000)] (u9) hE ?_; rintro _ _ ⟨_, k9, c9, p9, rfl, rfl, s9⟩; replace hR := sta_next s9 hR; have v1 := uwhole s9 <;> (intro _ _ h1 h2; simp only [renEqs, Nat.reduceBEq, renL_app, renL_ds, renL_und] at h1 h2; subst h1 h2)) | (apply at_call; refine k_ocall [(1000, 1000)] (v1) hE ?_; rintro _ _ ⟨c, l1, d1, r1, rfl, rfl, t1⟩; replace hR := sta_next t1 hR; have v2 := uwant t1 w_noshow (by decide) <;> (intro _ _ h1 h2; simp only [renEqs, Nat.reduceBEq, renL_app, renL_ds, renL_und] at h1 h2; subst h1 h2)) | (apply at_call; refine k_ocall [(1000, 1000)] (v2) hE ?_; rintro _ _ ⟨_, l2, d2, r2, rfl, rfl, t2⟩; replace hR := sta_next t2 hR; have v3 := uwhole t2 <;> (intro _ _ h1 h2; simp only [renEqs, Nat.reduceBEq, renL_app, renL_ds, renL_und] at h1 h2; subst h1 h2)) | (apply at_call; refine k_ocall [(1000, 1000)] (v3) hE ?_; rintro _ _ ⟨d, l3, d3, r3, rfl, rfl, t3⟩; replace hR := sta_next t3 hR; have v4 := upart t3 w_quota (by decide) 0 1000 <;> (intro _ _ h1 h2; simp only [renEqs, Nat.reduceBEq, renL_app, renL_ds, renL_und] at h1 h2; subst h1 h2)) | (apply at_call; refine k_ocall [(1000, 1000)] (v4) hE ?_; rintro _ _ ⟨q, l4, d4, r4, rfl, rfl, t4⟩; replace hR := sta_next t4 hR; have v5 := upart t4 w_share (by decide) 0 1000 <;> (intro _ _ h1 h2; simp only [renEqs, Nat.reduceBEq, renL_app, renL_ds, renL_und] at h1 h2; subst h1 h2)) | (apply at_call; refine k_ocall [(1000, 1000)] (v5) hE ?_; rintro _ _ ⟨s, l5, d5, r5, rfl, rfl, t5⟩; replace hR := sta_next t5 hR; have v6 := upart t5 w_change (by decide) 1 1000 <;> (intro _ _ h1 h2; simp only [renEqs, Nat.reduceBEq, renL_app, renL_ds, renL_und] at h1 h2; subst h1 h2)) | (apply at_call; refine k_ocall [(1000, 1000)] (v6) hE ?_; rintro _ _ ⟨h, l6, d6, r6, rfl, rfl, t6⟩ <;> (intro _ _ h1 h2; simp only [renEqs, Nat.reduceBEq, renL_app, renL_ds, renL_und] at h1 h2; subst h1 h2)) | (apply at_op (.store _ _ _); refine al_step (st_store rfl rfl (ev_agg rfl) nofun (by first | (simp only [normV, normList, normMap]; rfl) | rfl) (by simp [V.one, Value.oneCell']) (.inr rfl) rfl (le_ok rfl) (by first | (simp only [normV, normList, normMap]; rfl) | rfl)) rfl ?_) | refine nx ?_ | (apply qr_move; refine r_move ?_) | (apply at_cond; first | refine c_t ?_ | refine c_f ?_ | (refine aw_cond rfl (fun hb => ?_) (fun hb => ?_) <;> ((try have hq := dX hb); (try (exfalso; omega))))) | (apply qr_faddr; refine r_faddr ?_) | (apply qr_alloc; refine r_alloc ?_) | (apply qr_store; refine r_store ?_) | (apply qr_build; refine r_build ?_))
 clear u1 u2 u3 u4 u5 u6 u7 u8 u9 v1 v2 v3 v4 v5 v6 s1 s2 s3 s4 s5 s6 s7 s8 s9 t1 t2 t3 t4 t5
 rcases t6 with ⟨t, h1, w1, w2, w3, rfl, rfl, rfl⟩ | ⟨h1, he⟩
 ·rw [h1, then_ok] at hR
  unfold lastP at hR
  by_cases hk : (nxt t).k = 3
  ·rw [if_pos hk] at hR
   have q5 : (!decide ((nxt t).k = 3)) = false := by simp [hk]
   repeat' (first | (apply at_call; refine k_ocall [(1000, 1000)] (rnext w1) hE ?_; rintro _ _ ⟨rfl, rfl⟩ <;> (intro _ _ h1 h2; simp only [renEqs, Nat.reduceBEq, renL_app, renL_ds, renL_und] at h1 h2; subst h1 h2)) | refine nx ?_ | (apply qr_move; refine r_move ?_) | (apply at_cond; first | refine c_t ?_ | refine c_f ?_ | (refine aw_cond rfl (fun hb => ?_) (fun hb => ?_) <;> ((try have hq := dX hb); (try (exfalso; omega))))) | (apply at_guard; first | refine g_go ?_ | refine g_nt ?_ | refine g_nf ?_ | refine g_nu ?_ | ((first | refine al_split_t rfl rfl (lt_ok rfl) (fun hb => ?_) (fun hb => ?_) | refine al_split_f rfl rfl (lt_ok rfl) (fun hb => ?_) (fun hb => ?_)) <;> ((try have hq := dX hb); (try (exfalso; omega))))) | (apply qr_pick; refine r_pick ?_) | (apply qr_eql; refine r_eql ?_) | (apply qr_neq; refine r_neq ?_) | (apply qr_load; refine r_load ?_) | (apply qr_faddr; refine r_faddr ?_) | (apply qr_field; refine r_field ?_) | (apply qr_nilck; refine r_nilck ?_) | (apply qr_store; refine r_store ?_))
   refine oret1 (rps L t) (by rfl) rv (⟨⟨nm, ls, a, b, c, d, q, s, h⟩, _, _, _, rfl, rfl, .inl ⟨_, hR, rfl⟩⟩) sb okx
  ·rw [if_neg hk] at hR
   have q5 : (!decide ((nxt t).k = 3)) = true := by simp [hk]
   repeat' (first | (apply at_call; refine k_ocall [(1000, 1000)] (rnext w1) hE ?_; rintro _ _ ⟨rfl, rfl⟩ <;> (intro _ _ h1 h2; simp only [renEqs, Nat.reduceBEq, renL_app, renL_ds, renL_und] at h1 h2; subst h1 h2)) | (apply at_call; refine k_ocall [(1000, 1000)] (rfail w1 12) hE ?_; rintro _ _ ⟨rfl, rfl⟩ <;> (intro _ _ h1 h2; simp only [renEqs, Nat.reduceBEq, renL_app, renL_ds, renL_und] at h1 h2; subst h1 h2)) | refine nx ?_ | (apply qr_move; refine r_move ?_) | (apply at_cond; first | refine c_t ?_ | refine c_f ?_ | (refine aw_cond rfl (fun hb => ?_) (fun hb => ?_) <;> ((try have hq := dX hb); (try (exfalso; omega))))) | (apply at_guard; first | refine g_go ?_ | refine g_nt ?_ | refine g_nf ?_ | refine g_nu ?_ | ((first | refine al_split_t rfl rfl (lt_ok rfl) (fun hb => ?_) (fun hb => ?_) | refine al_split_f rfl rfl (lt_ok rfl) (fun hb => ?_) (fun hb => ?_)) <;> ((try have hq := dX hb); (try (exfalso; omega))))) | (apply qr_pick; refine r_pick ?_) | (apply qr_eql; refine r_eql ?_) | (apply qr_neq; refine r_neq ?_) | (apply qr_load; refine r_load ?_) | (apply qr_faddr; refine r_faddr ?_) | (apply qr_field; refine r_field ?_) | (apply qr_nilck; refine r_nilck ?_) | (apply qr_store; refine r_store ?_))
   refine oret1 (rpe L (atN L t) 12 (nxt t).p) (by rfl) rv (⟨⟨nm, ls, a, b, c, d, q, s, h⟩, _, _, _, rfl, rfl, .inr ⟨hR, by decide⟩⟩) sb okx
 ·rw [h1, then_bad] at hR
  have q5 : decide (d6 = 0) = false := decide_eq_false he
  repeat' (first | refine nx ?_ | (apply qr_move; refine r_move ?_) | (apply at_cond; first | refine c_t ?_ | refine c_f ?_ | (refine aw_cond rfl (fun hb => ?_) (fun hb => ?_) <;> ((try have hq := dX hb); (try (exfalso; omega))))) | (apply at_guard; first | refine g_go ?_ | refine g_nt ?_ | refine g_nf ?_ | refine g_nu ?_ | ((first | refine al_split_t rfl rfl (lt_ok rfl) (fun hb => ?_) (fun hb => ?_) | refine al_split_f rfl rfl (lt_ok rfl) (fun hb => ?_) (fun hb => ?_)) <;> ((try have hq := dX hb); (try (exfalso; omega))))) | (apply qr_pick; refine r_pick ?_) | (apply qr_eql; refine r_eql ?_) | (apply qr_neq; refine r_neq ?_) | (apply qr_load; refine r_load ?_) | (apply qr_faddr; refine r_faddr ?_) | (apply qr_field; refine r_field ?_) | (apply qr_nilck; refine r_nilck ?_) | (apply qr_store; refine r_store ?_))
  refine oret1 (rpe L l6 d6 r6) (by rfl) rv (⟨⟨nm, ls, a, b, c, d, q, s, h⟩, _, _, _, rfl, rfl, .inr ⟨hR, he⟩⟩) sb okx
end
end Go.Proofs.YtedoeogopmenpaaGreatDoor
end
section
set_option linter.unusedSimpArgs false
set_option linter.unusedVariables false
namespace Go.Proofs.YtedoeogopmenpaaGreatDoor
open Go.RowKit
theorem lex_ende {s : ByteArray} {L : List Tok} {p : Int} (h : lexV s = (L, p, 0)) : EndE L := by
 obtain ⟨h0, h1, _⟩ := lex_ready h
 obtain ⟨q, rfl, h4, _⟩ := h1.all
 intro t ht hk
 rcases List.mem_append.1 ht with ht | ht
 ·exact absurd hk (h4 t ht).2.2
 ·simp only [List.mem_singleton] at ht
  subst ht
  rfl
theorem rparseE_any (s : ByteArray) (hs : s.size ≤ 1000000) : PureC 12 [.str s] (· = parseED (parseEV s)) := by
 have hlex := rlex_any s hs
 rcases hL : lexV s with ⟨L, p, e⟩
 have hV : parseEV s = if e = 0 then (match allP L with
  | .ok x _ => (x, 0, 0)
  | .bad q c => (Ex.zero, q, c)) else (Ex.zero, p, e) := by
  unfold parseEV
  rw [hL]
  rfl
 rw [hL] at hlex
 unfold lexD at hlex
 dsimp only at hlex
 by_cases he : e = 0
 ·subst he
  rw [if_pos rfl] at hV
  obtain ⟨h1, h2, h3, h4, h5, h6, h7⟩ := lex_ready hL
  have r0 := h4.rdy h5
  have at0 : ((atN L L : Nat) : Int) = 0 := by simp [atN]
  have hall := rall r0 h6 (lex_ende hL)
  unfold rps at hall
  rw [at0] at hall
  have q0 : (!decide ((0 : Int) = 0)) = false := rfl
  refine pure_enter Tryz.func12 rfl (by decide) _ Tryz.ntmps12 (le_ok rfl) (fun w Pr hE => ?_)
  dsimp only [slotsOf, Nat.zero_add, Nat.reduceAdd]
  repeat' (first | (apply at_call; refine k_call (hlex) hE ?_; rintro _ rfl) | (apply at_call; refine k_ocall [(1000, 23)] (hall) hE ?_; rintro _ _ ⟨x, k, c, q, rfl, rfl, hx⟩ <;> (intro _ _ h1 h2; simp only [renEqs, Nat.reduceBEq, renL_app, renL_ds, renL_und] at h1 h2; subst h1 h2)) | refine nx ?_ | (apply qr_move; refine r_move ?_) | (apply qr_assign; refine r_assign ?_) | (apply at_cond; first | refine c_t ?_ | refine c_f ?_ | (refine aw_cond rfl (fun hb => ?_) (fun hb => ?_) <;> ((try have hq := dX hb); (try (exfalso; omega))))) | (apply qr_neq; refine r_neq ?_) | (apply qr_extract; refine r_extract ?_) | (apply qr_alloc; refine r_alloc ?_) | (apply qr_boxed; refine r_boxed ?_) | (apply qr_store; refine r_store ?_) | (apply qr_build; refine r_build ?_))
  rcases hx with ⟨t, hx, rfl⟩ | ⟨hx, hc⟩
  ·rw [hx] at hV
   repeat' (first | refine nx ?_ | (apply qr_move; refine r_move ?_) | (apply qr_assign; refine r_assign ?_) | (apply at_cond; first | refine c_t ?_ | refine c_f ?_ | (refine aw_cond rfl (fun hb => ?_) (fun hb => ?_) <;> ((try have hq := dX hb); (try (exfalso; omega))))) | (apply qr_neq; refine r_neq ?_) | (apply qr_load; refine r_load ?_) | (apply qr_faddr; refine r_faddr ?_) | (apply qr_nilck; refine r_nilck ?_) | (apply qr_store; refine r_store ?_))
   rw [hV]
   refine ret3x (by rfl) (by first | exact ResX.tmp _ _ (by first | exact ToD.d _ | exact ToD.row _ _ _ _ _ rfl) | exact ResX.cellA _ _ _ _ _ _ _ rfl rfl rfl (by first | (simp only [normV, normList, normMap]; rfl) | rfl) rfl | exact ResX.cell1 _ _ _ _ _ _ rfl rfl rfl (by first | exact ToD.d _ | exact ToD.row _ _ _ _ _ rfl)) (by first | exact ResX.tmp _ _ (by first | exact ToD.d _ | exact ToD.row _ _ _ _ _ rfl) | exact ResX.cellA _ _ _ _ _ _ _ rfl rfl rfl (by first | (simp only [normV, normList, normMap]; rfl) | rfl) rfl | exact ResX.cell1 _ _ _ _ _ _ rfl rfl rfl (by first | exact ToD.d _ | exact ToD.row _ _ _ _ _ rfl)) (by first | exact ResX.tmp _ _ (by first | exact ToD.d _ | exact ToD.row _ _ _ _ _ rfl) | exact ResX.cellA _ _ _ _ _ _ _ rfl rfl rfl (by first | (simp only [normV, normList, normMap]; rfl) | rfl) rfl | exact ResX.cell1 _ _ _ _ _ _ rfl rfl rfl (by first | exact ToD.d _ | exact ToD.row _ _ _ _ _ rfl)) ?_
   rfl
  ·rw [hx] at hV
   have q1 : (!decide (c = 0)) = true := by simp [hc]
   repeat' (first | refine nx ?_ | (apply qr_move; refine r_move ?_) | (apply at_cond; first | refine c_t ?_ | refine c_f ?_ | (refine aw_cond rfl (fun hb => ?_) (fun hb => ?_) <;> ((try have hq := dX hb); (try (exfalso; omega))))) | (apply qr_neq; refine r_neq ?_) | (apply qr_load; refine r_load ?_) | (apply qr_faddr; refine r_faddr ?_) | (apply qr_nilck; refine r_nilck ?_))
   refine aw_mixo ([(23, rpB L k c q)]) [(0, true), (1, true), (2, true), (3, true), (4, true), (5, true), (6, true), (7, true), (8, true), (9, false), (10, true)] [11] (by kernel_rfl) (by kernel_rfl) (by kernel_rfl) (by decide) (by (repeat (first | exact obs_nil | (apply obs_cons; focus (first | rfl | (simp [find]; done)))))) ?_
   simp only [planned, tailed, List.filterMap_cons, List.filterMap_nil, List.getElem?_cons_zero, List.getElem?_cons_succ, Option.map_some]
   repeat' (first | apply am_nil | refine m_skip ?_ | refine n_skip ?_ | (apply at_am (.store _ _ _); refine am_store (by first | exact want_none | exact want_yes rfl rfl (by assumption) | exact want_yes rfl rfl (by with_reducible rfl)) rfl rfl rfl (ev_d rfl) nofun (by first | (simp only [normV, normList, normMap]; rfl) | rfl) (by simp [V.one, Value.oneCell']) (.inr rfl) rfl (le_ok rfl) (by first | (simp only [normV, normList, normMap]; rfl) | rfl) ?_) | (apply qm_move; refine m_move ?_) | (apply qm_assign; refine m_assign ?_) | (apply qm_load; refine m_load ?_) | (apply qm_faddr; refine m_faddr ?_) | (apply qm_nilck; refine m_nilck ?_) | (apply qm_build; refine m_build ?_) | (refine am_split rfl rfl (fun hb => ?_) (fun hb => ?_) <;> ((try have hq := dX hb); (try (exfalso; omega)))))
   repeat' (first | refine nx ?_ | (apply qr_move; refine r_move ?_) | (apply qr_assign; refine r_assign ?_) | (apply at_cond; first | refine c_t ?_ | refine c_f ?_ | (refine aw_cond rfl (fun hb => ?_) (fun hb => ?_) <;> ((try have hq := dX hb); (try (exfalso; omega))))) | (apply qr_load; refine r_load ?_) | (apply qr_faddr; refine r_faddr ?_) | (apply qr_nilck; refine r_nilck ?_) | (apply qr_store; refine r_store ?_) | (apply qr_build; refine r_build ?_))
   refine aq_nilcell 2 4 5 rfl rfl rfl ?_
   rw [hV]
   refine ret3x (by rfl) (by first | exact ResX.tmp _ _ (by first | exact ToD.d _ | exact ToD.row _ _ _ _ _ rfl) | exact ResX.cellA _ _ _ _ _ _ _ rfl rfl rfl (by first | (simp only [normV, normList, normMap]; rfl) | rfl) rfl | exact ResX.cell1 _ _ _ _ _ _ rfl rfl rfl (by first | exact ToD.d _ | exact ToD.row _ _ _ _ _ rfl)) (by first | exact ResX.tmp _ _ (by first | exact ToD.d _ | exact ToD.row _ _ _ _ _ rfl) | exact ResX.cellA _ _ _ _ _ _ _ rfl rfl rfl (by first | (simp only [normV, normList, normMap]; rfl) | rfl) rfl | exact ResX.cell1 _ _ _ _ _ _ rfl rfl rfl (by first | exact ToD.d _ | exact ToD.row _ _ _ _ _ rfl)) (by first | exact ResX.tmp _ _ (by first | exact ToD.d _ | exact ToD.row _ _ _ _ _ rfl) | exact ResX.cellA _ _ _ _ _ _ _ rfl rfl rfl (by first | (simp only [normV, normList, normMap]; rfl) | rfl) rfl | exact ResX.cell1 _ _ _ _ _ _ rfl rfl rfl (by first | exact ToD.d _ | exact ToD.row _ _ _ _ _ rfl)) ?_
   rfl
 ·rw [if_neg he] at hV
  have q0 : (!decide (e = 0)) = true := by simp [he]
  refine pure_enter Tryz.func12 rfl (by decide) _ Tryz.ntmps12 (le_ok rfl) (fun w Pr hE => ?_)
  dsimp only [slotsOf, Nat.zero_add, Nat.reduceAdd]
  repeat' (first | (apply at_call; refine k_call (hlex) hE ?_; rintro _ rfl) | refine nx ?_ | (apply qr_move; refine r_move ?_) | (apply qr_assign; refine r_assign ?_) | (apply at_cond; first | refine c_t ?_ | refine c_f ?_ | (refine aw_cond rfl (fun hb => ?_) (fun hb => ?_) <;> ((try have hq := dX hb); (try (exfalso; omega))))) | (apply qr_neq; refine r_neq ?_) | (apply qr_extract; refine r_extract ?_) | (apply qr_alloc; refine r_alloc ?_) | (apply qr_store; refine r_store ?_) | (apply qr_build; refine r_build ?_))
  refine aq_nilcell 2 4 5 rfl rfl rfl ?_
  rw [hV]
  refine ret3x (by rfl) (by first | exact ResX.tmp _ _ (by first | exact ToD.d _ | exact ToD.row _ _ _ _ _ rfl) | exact ResX.cellA _ _ _ _ _ _ _ rfl rfl rfl (by first | (simp only [normV, normList, normMap]; rfl) | rfl) rfl | exact ResX.cell1 _ _ _ _ _ _ rfl rfl rfl (by first | exact ToD.d _ | exact ToD.row _ _ _ _ _ rfl)) (by first | exact ResX.tmp _ _ (by first | exact ToD.d _ | exact ToD.row _ _ _ _ _ rfl) | exact ResX.cellA _ _ _ _ _ _ _ rfl rfl rfl (by first | (simp only [normV, normList, normMap]; rfl) | rfl) rfl | exact ResX.cell1 _ _ _ _ _ _ rfl rfl rfl (by first | exact ToD.d _ | exact ToD.row _ _ _ _ _ rfl)) (by first | exact ResX.tmp _ _ (by first | exact ToD.d _ | exact ToD.row _ _ _ _ _ rfl) | exact ResX.cellA _ _ _ _ _ _ _ rfl rfl rfl (by first | (simp only [normV, normList, normMap]; rfl) | rfl) rfl | exact ResX.cell1 _ _ _ _ _ _ rfl rfl rfl (by first | exact ToD.d _ | exact ToD.row _ _ _ _ _ rfl)) ?_
  rfl
theorem rparse_any (s : ByteArray) (hs : s.size ≤ 1000000) : PureC 10 [.str s] (· = parseD (parseV s)) := by
 have hlex := rlex_any s hs
 rcases hL : lexV s with ⟨L, p, e⟩
 have hV : parseV s = if e = 0 then (match bylawsP L with
  | .ok x _ => (x, 0, 0)
  | .bad q c => (By.zero, q, c)) else (By.zero, p, e) := by
  unfold parseV
  rw [hL]
  rfl
 rw [hL] at hlex
 unfold lexD at hlex
 dsimp only at hlex
 by_cases he : e = 0
 ·subst he
  rw [if_pos rfl] at hV
  obtain ⟨h1, h2, h3, h4, h5, h6, h7⟩ := lex_ready hL
  have r0 := h4.rdy h5
  have at0 : ((atN L L : Nat) : Int) = 0 := by simp [atN]
  have hall := rbylaws r0 h6 (lex_ende hL)
  unfold rps at hall
  rw [at0] at hall
  have q0 : (!decide ((0 : Int) = 0)) = false := rfl
  refine pure_enter Tryz.func10 rfl (by decide) _ Tryz.ntmps10 (le_ok rfl) (fun w Pr hE => ?_)
  dsimp only [slotsOf, Nat.zero_add, Nat.reduceAdd]
  repeat' (first | (apply at_call; refine k_call (hlex) hE ?_; rintro _ rfl) | (apply at_call; refine k_ocall [(1000, 23)] (hall) hE ?_; rintro _ _ ⟨x, k, c, q, rfl, rfl, hx⟩ <;> (intro _ _ h1 h2; simp only [renEqs, Nat.reduceBEq, renL_app, renL_ds, renL_und] at h1 h2; subst h1 h2)) | refine nx ?_ | (apply qr_move; refine r_move ?_) | (apply qr_assign; refine r_assign ?_) | (apply at_cond; first | refine c_t ?_ | refine c_f ?_ | (refine aw_cond rfl (fun hb => ?_) (fun hb => ?_) <;> ((try have hq := dX hb); (try (exfalso; omega))))) | (apply qr_neq; refine r_neq ?_) | (apply qr_extract; refine r_extract ?_) | (apply qr_alloc; refine r_alloc ?_) | (apply qr_boxed; refine r_boxed ?_) | (apply qr_store; refine r_store ?_) | (apply qr_build; refine r_build ?_))
  rcases hx with ⟨t, hx, rfl⟩ | ⟨hx, hc⟩
  ·rw [hx] at hV
   repeat' (first | refine nx ?_ | (apply qr_move; refine r_move ?_) | (apply qr_assign; refine r_assign ?_) | (apply at_cond; first | refine c_t ?_ | refine c_f ?_ | (refine aw_cond rfl (fun hb => ?_) (fun hb => ?_) <;> ((try have hq := dX hb); (try (exfalso; omega))))) | (apply qr_neq; refine r_neq ?_) | (apply qr_load; refine r_load ?_) | (apply qr_faddr; refine r_faddr ?_) | (apply qr_nilck; refine r_nilck ?_) | (apply qr_store; refine r_store ?_))
   rw [hV]
   refine ret3x (by rfl) (by first | exact ResX.tmp _ _ (by first | exact ToD.d _ | exact ToD.row _ _ _ _ _ rfl) | exact ResX.cellA _ _ _ _ _ _ _ rfl rfl rfl (by first | (simp only [normV, normList, normMap]; rfl) | rfl) rfl | exact ResX.cell1 _ _ _ _ _ _ rfl rfl rfl (by first | exact ToD.d _ | exact ToD.row _ _ _ _ _ rfl)) (by first | exact ResX.tmp _ _ (by first | exact ToD.d _ | exact ToD.row _ _ _ _ _ rfl) | exact ResX.cellA _ _ _ _ _ _ _ rfl rfl rfl (by first | (simp only [normV, normList, normMap]; rfl) | rfl) rfl | exact ResX.cell1 _ _ _ _ _ _ rfl rfl rfl (by first | exact ToD.d _ | exact ToD.row _ _ _ _ _ rfl)) (by first | exact ResX.tmp _ _ (by first | exact ToD.d _ | exact ToD.row _ _ _ _ _ rfl) | exact ResX.cellA _ _ _ _ _ _ _ rfl rfl rfl (by first | (simp only [normV, normList, normMap]; rfl) | rfl) rfl | exact ResX.cell1 _ _ _ _ _ _ rfl rfl rfl (by first | exact ToD.d _ | exact ToD.row _ _ _ _ _ rfl)) ?_
   rfl
  ·rw [hx] at hV
   have q1 : (!decide (c = 0)) = true := by simp [hc]
   repeat' (first | refine nx ?_ | (apply qr_move; refine r_move ?_) | (apply at_cond; first | refine c_t ?_ | refine c_f ?_ | (refine aw_cond rfl (fun hb => ?_) (fun hb => ?_) <;> ((try have hq := dX hb); (try (exfalso; omega))))) | (apply qr_neq; refine r_neq ?_) | (apply qr_load; refine r_load ?_) | (apply qr_faddr; refine r_faddr ?_) | (apply qr_nilck; refine r_nilck ?_))
   refine aw_mixo ([(23, rpB L k c q)]) [(0, true), (1, true), (2, true), (3, true), (4, true), (5, true), (6, true), (7, true), (8, true), (9, false), (10, true)] [11] (by kernel_rfl) (by kernel_rfl) (by kernel_rfl) (by decide) (by (repeat (first | exact obs_nil | (apply obs_cons; focus (first | rfl | (simp [find]; done)))))) ?_
   simp only [planned, tailed, List.filterMap_cons, List.filterMap_nil, List.getElem?_cons_zero, List.getElem?_cons_succ, Option.map_some]
   repeat' (first | apply am_nil | refine m_skip ?_ | refine n_skip ?_ | (apply at_am (.store _ _ _); refine am_store (by first | exact want_none | exact want_yes rfl rfl (by assumption) | exact want_yes rfl rfl (by with_reducible rfl)) rfl rfl rfl (ev_d rfl) nofun (by first | (simp only [normV, normList, normMap]; rfl) | rfl) (by simp [V.one, Value.oneCell']) (.inr rfl) rfl (le_ok rfl) (by first | (simp only [normV, normList, normMap]; rfl) | rfl) ?_) | (apply qm_move; refine m_move ?_) | (apply qm_assign; refine m_assign ?_) | (apply qm_load; refine m_load ?_) | (apply qm_faddr; refine m_faddr ?_) | (apply qm_nilck; refine m_nilck ?_) | (apply qm_build; refine m_build ?_) | (refine am_split rfl rfl (fun hb => ?_) (fun hb => ?_) <;> ((try have hq := dX hb); (try (exfalso; omega)))))
   repeat' (first | refine nx ?_ | (apply qr_move; refine r_move ?_) | (apply qr_assign; refine r_assign ?_) | (apply at_cond; first | refine c_t ?_ | refine c_f ?_ | (refine aw_cond rfl (fun hb => ?_) (fun hb => ?_) <;> ((try have hq := dX hb); (try (exfalso; omega))))) | (apply qr_load; refine r_load ?_) | (apply qr_faddr; refine r_faddr ?_) | (apply qr_nilck; refine r_nilck ?_) | (apply qr_store; refine r_store ?_) | (apply qr_build; refine r_build ?_))
   refine aq_nilcell 2 1 6 rfl rfl rfl ?_
   refine aq_nilcell 2 6 5 rfl rfl rfl ?_
   refine aq_nilcell 2 11 5 rfl rfl rfl ?_
   refine aq_nilcell 2 16 5 rfl rfl rfl ?_
   refine aq_nilcell 2 21 5 rfl rfl rfl ?_
   rw [hV]
   refine ret3x (by rfl) (by first | exact ResX.tmp _ _ (by first | exact ToD.d _ | exact ToD.row _ _ _ _ _ rfl) | exact ResX.cellA _ _ _ _ _ _ _ rfl rfl rfl (by first | (simp only [normV, normList, normMap]; rfl) | rfl) rfl | exact ResX.cell1 _ _ _ _ _ _ rfl rfl rfl (by first | exact ToD.d _ | exact ToD.row _ _ _ _ _ rfl)) (by first | exact ResX.tmp _ _ (by first | exact ToD.d _ | exact ToD.row _ _ _ _ _ rfl) | exact ResX.cellA _ _ _ _ _ _ _ rfl rfl rfl (by first | (simp only [normV, normList, normMap]; rfl) | rfl) rfl | exact ResX.cell1 _ _ _ _ _ _ rfl rfl rfl (by first | exact ToD.d _ | exact ToD.row _ _ _ _ _ rfl)) (by first | exact ResX.tmp _ _ (by first | exact ToD.d _ | exact ToD.row _ _ _ _ _ rfl) | exact ResX.cellA _ _ _ _ _ _ _ rfl rfl rfl (by first | (simp only [normV, normList, normMap]; rfl) | rfl) rfl | exact ResX.cell1 _ _ _ _ _ _ rfl rfl rfl (by first | exact ToD.d _ | exact ToD.row _ _ _ _ _ rfl)) ?_
   rfl
 ·rw [if_neg he] at hV
  have q0 : (!decide (e = 0)) = true := by simp [he]
  refine pure_enter Tryz.func10 rfl (by decide) _ Tryz.ntmps10 (le_ok rfl) (fun w Pr hE => ?_)
  dsimp only [slotsOf, Nat.zero_add, Nat.reduceAdd]
  repeat' (first | (apply at_call; refine k_call (hlex) hE ?_; rintro _ rfl) | refine nx ?_ | (apply qr_move; refine r_move ?_) | (apply qr_assign; refine r_assign ?_) | (apply at_cond; first | refine c_t ?_ | refine c_f ?_ | (refine aw_cond rfl (fun hb => ?_) (fun hb => ?_) <;> ((try have hq := dX hb); (try (exfalso; omega))))) | (apply qr_neq; refine r_neq ?_) | (apply qr_extract; refine r_extract ?_) | (apply qr_alloc; refine r_alloc ?_) | (apply qr_store; refine r_store ?_) | (apply qr_build; refine r_build ?_))
  refine aq_nilcell 2 1 6 rfl rfl rfl ?_
  refine aq_nilcell 2 6 5 rfl rfl rfl ?_
  refine aq_nilcell 2 11 5 rfl rfl rfl ?_
  refine aq_nilcell 2 16 5 rfl rfl rfl ?_
  refine aq_nilcell 2 21 5 rfl rfl rfl ?_
  rw [hV]
  refine ret3x (by rfl) (by first | exact ResX.tmp _ _ (by first | exact ToD.d _ | exact ToD.row _ _ _ _ _ rfl) | exact ResX.cellA _ _ _ _ _ _ _ rfl rfl rfl (by first | (simp only [normV, normList, normMap]; rfl) | rfl) rfl | exact ResX.cell1 _ _ _ _ _ _ rfl rfl rfl (by first | exact ToD.d _ | exact ToD.row _ _ _ _ _ rfl)) (by first | exact ResX.tmp _ _ (by first | exact ToD.d _ | exact ToD.row _ _ _ _ _ rfl) | exact ResX.cellA _ _ _ _ _ _ _ rfl rfl rfl (by first | (simp only [normV, normList, normMap]; rfl) | rfl) rfl | exact ResX.cell1 _ _ _ _ _ _ rfl rfl rfl (by first | exact ToD.d _ | exact ToD.row _ _ _ _ _ rfl)) (by first | exact ResX.tmp _ _ (by first | exact ToD.d _ | exact ToD.row _ _ _ _ _ rfl) | exact ResX.cellA _ _ _ _ _ _ _ rfl rfl rfl (by first | (simp only [normV, normList, normMap]; rfl) | rfl) rfl | exact ResX.cell1 _ _ _ _ _ _ rfl rfl rfl (by first | exact ToD.d _ | exact ToD.row _ _ _ _ _ rfl)) ?_
  rfl
end Go.Proofs.YtedoeogopmenpaaGreatDoor
end
section
set_option linter.unusedSimpArgs false
set_option linter.unusedVariables false
namespace Go.Proofs.YtedoeogopmenpaaGreatDoor
open Go.RowKit
theorem tells_any (s : ByteArray) (hs : s.size ≤ 9223372036854775807) : PureC 3 [.str s] (· = .bool true) := by
 by_cases hbig : 1500 < s.size
 ·have q0 : decide ((1500 : Int) < s.size) = true := decide_eq_true (by omega)
  refine pure_enter Tryz.func3 rfl (by decide) _ Tryz.ntmps3 (le_ok rfl) (fun w Pr hE => ?_)
  dsimp only [slotsOf, Nat.zero_add, Nat.reduceAdd]
  repeat' (first | (apply at_call; refine k_call (small_any) hE ?_; rintro _ rfl) | refine nx ?_ | (apply qr_move; refine r_move ?_) | (apply qr_assign; refine r_assign ?_) | (apply at_cond; first | refine c_t ?_ | refine c_f ?_ | (refine aw_cond rfl (fun hb => ?_) (fun hb => ?_) <;> ((try have hq := dX hb); (try (exfalso; omega))))) | (apply qr_gtr; refine r_gtr ?_) | (apply qr_len; refine r_len ?_))
  refine rt1 ?_
  rfl
 have q0 : decide ((1500 : Int) < s.size) = false := decide_eq_false (by omega)
 have p1 := parse_any s (by omega)
 have p2 := rparse_any s (by omega)
 have p3 := parseE_any s (by omega)
 have p4 := rparseE_any s (by omega)
 have t1 := parseV_tame s
 have t2 := parseEV_tame s
 have m1 := rsame_any (parseV s).1 (parseV s).1 t1 t1
 rw [(bySame_iff _ _).2 rfl] at m1
 have m2 := rsameE_any (parseEV s).1 (parseEV s).1 t2 t2
 rw [(same_iff _ _).2 rfl] at m2
 have n1 := name_any s hs
 have n2 := rname_any s hs
 unfold parseD at p1 p2
 unfold parseED at p3 p4
 generalize (parseV s).1 = X at *
 generalize (parseV s).2.1 = xp at *
 generalize (parseV s).2.2 = xe at *
 generalize (parseEV s).1 = Y at *
 generalize (parseEV s).2.1 = yp at *
 generalize (parseEV s).2.2 = ye at *
 have e1 : decide (xp = xp) = true := decide_eq_true rfl
 have e2 : decide (xe = xe) = true := decide_eq_true rfl
 have e3 : decide (yp = yp) = true := decide_eq_true rfl
 have e4 : decide (ye = ye) = true := decide_eq_true rfl
 generalize nameV s = nm at *
 refine pure_enter Tryz.func3 rfl (by decide) _ Tryz.ntmps3 (le_ok rfl) (fun w Pr hE => ?_)
 dsimp only [slotsOf, Nat.zero_add, Nat.reduceAdd]
 repeat' (first | (apply at_call; refine k_call (small_any) hE ?_; rintro _ rfl) | (apply at_call; refine k_call (p1) hE ?_; rintro _ rfl) | (apply at_call; refine k_call (p2) hE ?_; rintro _ rfl) | (apply at_call; refine k_call (p3) hE ?_; rintro _ rfl) | (apply at_call; refine k_call (p4) hE ?_; rintro _ rfl) | (apply at_call; refine k_call (m1) hE ?_; rintro _ rfl) | (apply at_call; refine k_call (m2) hE ?_; rintro _ rfl) | (apply at_call; refine k_call (n1) hE ?_; rintro _ rfl) | (apply at_call; refine k_call (n2) hE ?_; rintro _ rfl) | refine nx ?_ | (apply qr_move; refine r_move ?_) | (apply qr_assign; refine r_assign ?_) | (apply at_cond; first | refine c_t ?_ | refine c_f ?_ | (refine aw_cond rfl (fun hb => ?_) (fun hb => ?_) <;> ((try have hq := dX hb); (try (exfalso; omega))))) | (apply at_guard; first | refine g_go ?_ | refine g_nt ?_ | refine g_nf ?_ | refine g_nu ?_ | ((first | refine al_split_t rfl rfl (lt_ok rfl) (fun hb => ?_) (fun hb => ?_) | refine al_split_f rfl rfl (lt_ok rfl) (fun hb => ?_) (fun hb => ?_)) <;> ((try have hq := dX hb); (try (exfalso; omega))))) | (apply qr_pick; refine r_pick ?_) | (apply qr_gtr; refine r_gtr ?_) | (apply qr_eql; refine r_eql ?_) | (apply qr_len; refine r_len ?_) | (apply qr_extract; refine r_extract ?_) | (apply qr_load; refine r_load ?_) | (apply qr_alloc; refine r_alloc ?_) | (apply qr_store; refine r_store ?_))
 refine rt1 ?_
 cases nm <;> rfl
end Go.Proofs.YtedoeogopmenpaaGreatDoor
end
section
namespace Go.Proofs.YtedoeogopmenpaaGreatDoor
open Go.ChangeShapes Go.WideShapes Go.ChangeAt Go.RowKit Go.Deep Go.Joins
abbrev laidL : List (String × DataW Unit) := [("math/bits.deBruijn32tab", Rows.laid_math_bits_deBruijn32tab), ("math/bits.deBruijn64tab", Rows.laid_math_bits_deBruijn64tab), ("internal/strconv.uint64pow10", Rows.laid_internal_strconv_uint64pow10), ("tonneau/lex.signs", Rows.laid_tonneau_lex_signs)]
theorem gP : Tryz.prog.globalNamed "internal/strconv.uint64pow10" = some 2 := by kernel_rfl
theorem signsN : Tryz.prog.globalNamed "tonneau/lex.signs" = some 0 := by kernel_rfl
theorem signsT : (Tryz.prog.globals[0]?).map (·.type) = some 138 := by kernel_rfl
theorem signsA : Tryz.prog.underlying 138 = some (.array 11 9) := by kernel_rfl
theorem signsC : Tryz.prog.cellsOf 9 = 1 := by kernel_rfl
theorem signsZ : Tryz.prog.cellsOf 138 = 11 := by kernel_rfl
theorem pow_data : (Rows.laid_internal_strconv_uint64pow10 : DataW Unit) = Lib.tabData .u64 Lib.pow10Tab := by
 unfold Rows.laid_internal_strconv_uint64pow10 Lib.tabData
 kernel_rfl
theorem env_cells {W : World} {Pr : Prot} {name : String} {g : Nat} {vs : List Value} {ds : List D} (hg : Tryz.prog.globalNamed name = some g) (hv : W.var? Tryz.prog name = some vs.toArray) (hP : ∀ o, Pr g o) (hl : vs.length = ds.length) (hr : ∀ (i : Nat) (v : Value) (d : D), vs[i]? = some v → ds[i]? = some d → RepD W Pr v d) :
  (∀ (j : Nat) (d : D), ds[j]? = some d → ∃ u, W.cell? ⟨g, j, none⟩ = some u ∧ Pr g j ∧ RepD W Pr u d) ∧ ∀ j, ds[j]? = none → W.cell? ⟨g, j, none⟩ = none ∧ Pr g j := by
 refine ⟨fun j d hd => ?_, fun j hd => ?_⟩
 ·have hj : j < vs.length := by rw [hl]; exact (List.getElem?_eq_some_iff.1 hd).1
  refine ⟨vs[j], (World.var?_cell hg hv j).trans (by simp [hj]), hP j, hr j _ d (List.getElem?_eq_getElem hj) hd⟩
 ·have hj : ds.length ≤ j := List.getElem?_eq_none_iff.1 hd
  exact ⟨(World.var?_cell hg hv j).trans (by simp; omega), hP j⟩
theorem var_lt {W : World} {name : String} {g : Nat} {cs : Array Value} (hg : Tryz.prog.globalNamed name = some g) (hv : W.var? Tryz.prog name = some cs) : g < W.heap.size := by
 simp only [World.var?, hg, Option.bind_some] at hv
 cases hh : W.heap[g]? with
 | none => rw [hh] at hv; cases hv
 | some o => exact (Array.getElem?_eq_some_iff.1 hh).1
theorem signs_cells {W : World} {rest : List (String × DataW Unit)} (h : laidMet Tryz.prog (("tonneau/lex.signs", Rows.laid_tonneau_lex_signs) :: rest) W) : W.var? Tryz.prog "tonneau/lex.signs" = some (signsL.map Value.string).toArray := by
 obtain ⟨ps, ⟨g, t, cs, fuel, p, q, hg, ht, hvar, hd, _, _⟩, _⟩ := h
 obtain rfl := Option.some.inj (signsN.symm.trans hg)
 obtain rfl := Option.some.inj (signsT.symm.trans ht)
 obtain ⟨xs, m, _, hx, hl, hn, hat⟩ := DataW.trod_array signsA hd
 rw [signsZ] at hl
 have hmap : xs.map (·.1) = signsL.map fun s => DataW.lit (.string s.data.toList) := by
  have := congrArg Prod.fst hx
  injection this with this
  exact this.symm
 rw [hvar]
 congr 1
 apply Array.ext'
 apply List.ext_getElem?
 intro j
 by_cases hj11 : j < 11
 ·obtain ⟨s, hs⟩ : ∃ s, signsL[j]? = some s := ⟨_, List.getElem?_eq_getElem (show j < signsL.length from hj11)⟩
  have h1 := hat j hj11
  rw [signsC, Nat.mul_one] at h1
  obtain ⟨x, hx2⟩ : ∃ x, xs[j]? = some x := ⟨_, List.getElem?_eq_getElem (by omega)⟩
  rw [hx2] at h1
  obtain ⟨z, hz, hx3, _⟩ := DataW.trod_string Tryz.underlying9 h1
  have h2 : (xs.map (·.1))[j]? = some x.1 := by rw [List.getElem?_map, hx2]; rfl
  rw [hmap, List.getElem?_map, hs, hx3] at h2
  have h3 : s = z := by
   simp only [Option.map_some, Option.some.injEq, DataW.lit.injEq, Lit.string.injEq] at h2
   apply ByteArray.ext
   exact Array.toList_inj.1 h2
  have h4 : cs.toList[j]? = some (.string z) := by
   have h5 := congrArg (fun l => l[0]?) hz
   simpa [List.getElem?_take, List.getElem?_drop] using h5
  rw [h4, List.getElem?_map, hs, h3]
  rfl
 ·rw [List.getElem?_eq_none (by omega), List.getElem?_eq_none (by rw [List.length_map]; show 11 ≤ j; omega)]
theorem env_of_laid {W : World} (h : laidMet Tryz.prog laidL W) : EnvOk W (fun b _ => b < W.heap.size) := by
 have h2 := h.tail.tail
 have hp := Lib.tabIs_of_head (t := 159) (e := 153) (n := 20) gP (by kernel_rfl) (by kernel_rfl) (by kernel_rfl) (by kernel_rfl) (by kernel_rfl) (pow_data ▸ h2)
 have hs := signs_cells h2.tail
 intro g l hm
 unfold laidG at hm
 rcases List.mem_cons.1 hm with e | hm
 ·cases e
  refine env_cells (Pr := fun b _ => b < W.heap.size) signsN hs (fun _ => var_lt signsN hs) (by simp) (fun i v d h1 h2 => ?_)
  rw [List.getElem?_map, Option.map_eq_some_iff] at h1 h2
  obtain ⟨s, h3, rfl⟩ := h1
  obtain ⟨s', h4, rfl⟩ := h2
  rw [h3] at h4
  cases h4
  exact .val _
 rcases List.mem_cons.1 hm with e | hm
 ·cases e
  refine env_cells (Pr := fun b _ => b < W.heap.size) gP hp (fun _ => var_lt gP hp) (by simp) (fun i v d h1 h2 => ?_)
  rw [List.getElem?_map, h1] at h2
  cases h2
  exact .val _
 ·cases hm
def dataVals : DataW Unit → List Value
 | .agg l => l.map fun
  | .lit (.int k z) => .int k z
  | _ => .nilFunc
 | _ => []
def setVar (h : Array Obj) (g : Nat) (vs : List Value) : Array Obj := h.modify g fun
 | .cells _ t frozen => .cells vs.toArray t frozen
 | o => o
noncomputable def laidWorld (os : Os) : World :=
 let w0 := World.holding Tryz.prog os ⟨#[], #[], []⟩
 { w0 with heap := setVar (setVar (setVar (setVar w0.heap 3 (dataVals Rows.laid_math_bits_deBruijn32tab)) 4 (dataVals Rows.laid_math_bits_deBruijn64tab)) 2 (dataVals Rows.laid_internal_strconv_uint64pow10)) 0 (signsL.map Value.string) }
theorem laid_met (os : Os) (args : Array Value) : laidMet Tryz.prog laidL ((laidWorld os).forCall (fun _ _ => 0) ⟨#[], args, []⟩).memory :=
 laidMet_of_run (ps := (List.range 32).map (MemPlace.cell 3) ++ (List.range 64).map (MemPlace.cell 4) ++ (List.range 20).map (MemPlace.cell 2) ++ (List.range 11).map (MemPlace.cell 0)) 8 (by kernel_rfl) (by kernel_rfl) (by kernel_rfl)
theorem law_call {f : FuncId} {ds : List D} {w : World} {vs : List Value} (h : PureC f ds (· = .bool true)) (hL : laidMet Tryz.prog laidL w) (hl : vs.length = ds.length)
  (hr : ∀ (i : Nat) (v : Value) (d : D), vs[i]? = some v → ds[i]? = some d → RepD w (fun b _ => b < w.heap.size) v d) :
  Calls Tryz.prog f vs.toArray w fun e w' => e = .returned (.bool true) ∧ Below w.heap.size w w' := by
 refine (h.2 w (fun b _ => b < w.heap.size) vs (fun _ _ h => h) (env_of_laid hL) hl hr).mono fun e w' ⟨v, r, he, hp, hrep, hb⟩ => ?_
 subst hp
 cases hrep
 exact ⟨he, hb⟩
end Go.Proofs.YtedoeogopmenpaaGreatDoor
end
