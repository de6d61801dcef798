/-
  Conditions: none.
-/
import Derived.Test.YtedoeogopmenpaaGreatDoorMas
set_option maxHeartbeats 16000000
set_option maxRecDepth 20000
section
set_option linter.unusedSimpArgs false
set_option linter.unusedVariables false
namespace Go.Proofs.YtedoeogopmenpaaGreatDoor
open Go.RowKit
structure By where
 name : ByteArray
 lets : List (ByteArray × Ex)
 admit : Ex
 fare : Ex
 late : Ex
 noshow : Ex
 quota : Int
 share : Int
 change : Int
def Ex.zero : Ex := .mk 0 0 0 ⟨#[]⟩ []
def By.zero : By := ⟨⟨#[]⟩, [], Ex.zero, Ex.zero, Ex.zero, Ex.zero, 0, 0, 0⟩
def partsP : List ByteArray → List Ex → List Tok → Rd (List Ex)
 | [], es, l => .ok es l
 | w :: ws, es, l => (want l w).then fun _ l => (wholeP w_semi l).then fun e l => partsP ws (es ++ [e]) l
theorem partsP_cons {β : Type} (w : ByteArray) (ws : List ByteArray) (es : List Ex) (l : List Tok) (K : List Ex → List Tok → Rd β) : (partsP (w :: ws) es l).then K = (want l w).then fun _ l => (wholeP w_semi l).then fun e l => (partsP ws (es ++ [e]) l).then K := by
 simp only [partsP, then_then]
def mkBy (nm : ByteArray) (ls : List (ByteArray × Ex)) (es : List Ex) (q s c : Int) : By := ⟨nm, ls, es.getD 0 Ex.zero, es.getD 1 Ex.zero, es.getD 2 Ex.zero, es.getD 3 Ex.zero, q, s, c⟩
def lastP (x : By) (l : List Tok) : Rd By := if (nxt l).k = 3 then .ok x l else .bad (nxt l).p 12
def numsP (nm : ByteArray) (ls : List (ByteArray × Ex)) (es : List Ex) (l : List Tok) : Rd By :=
 (partP w_quota 0 1000 l).then fun q l => (partP w_share 0 1000 l).then fun s l => (partP w_change 1 1000 l).then fun c l => lastP (mkBy nm ls es q s c) l
abbrev wsL : List ByteArray := [w_admit, w_fare, w_late, w_noshow]
def bylawsP (l : List Tok) : Rd By :=
 (want l w_bylaws).then fun _ l => (nameP nameV l).then fun nm l => (want l w_semi).then fun _ l => (letsP (l.length + 1) [] l).then fun ls l => (partsP wsL [] l).then fun es l => numsP nm ls es l
abbrev byC (x : By) : List D := [.str x.name, .list 6 (x.lets.map letC), .int x.admit.op, .int x.admit.num, .int x.admit.unit, .str x.admit.str, .list 5 (Ex.rows x.admit.args), .int x.fare.op, .int x.fare.num, .int x.fare.unit, .str x.fare.str, .list 5 (Ex.rows x.fare.args), .int x.late.op, .int x.late.num, .int x.late.unit, .str x.late.str, .list 5 (Ex.rows x.late.args), .int x.noshow.op, .int x.noshow.num, .int x.noshow.unit, .str x.noshow.str, .list 5 (Ex.rows x.noshow.args), .int x.quota, .int x.share, .int x.change]
theorem letsP_suf : ∀ (k : Nat) (ls : List (ByteArray × Ex)) (l : List Tok) {r : List (ByteArray × Ex)} {t : List Tok}, letsP k ls l = .ok r t → Suf l t
 | 0, ls, l, r, t, h => by cases h; exact .refl _
 | k + 1, ls, l, r, t, h => by
  simp only [letsP] at h
  split at h
  ·rename_i hT
   split at h
   ·obtain ⟨s, u1, h1, g1⟩ := then_less h
    obtain ⟨_, u2, h2, g2⟩ := then_less g1
    obtain ⟨e, u3, h3, g3⟩ := then_less g2
    exact (suf_is hT).trans ((freshP_suf h1).trans ((suf_want h2).trans ((wholeP_suf h3).trans (letsP_suf k _ _ g3))))
   ·cases h
  ·cases h
   exact .refl _
theorem partP_suf {w : ByteArray} {a b n : Int} {l t : List Tok} (h : partP w a b l = .ok n t) : Suf l t := by
 obtain ⟨_, u1, h1, g1⟩ := then_less h
 obtain ⟨m, u2, h2, g2⟩ := then_less g1
 obtain ⟨_, u3, h3, g3⟩ := then_less g2
 cases g3
 exact (suf_want h1).trans ((numP_suf h2).trans (suf_want h3))
abbrev exV (e : Ex) : List V := [.d (.int e.op), .d (.int e.num), .d (.int e.unit), .d (.str e.str), .d (.list 5 (Ex.rows e.args))]
def fillV : List Ex → List V
 | [] => expZ ++ (expZ ++ (expZ ++ expZ))
 | [a] => exV a ++ (expZ ++ (expZ ++ expZ))
 | [a, b] => exV a ++ (exV b ++ (expZ ++ expZ))
 | [a, b, c] => exV a ++ (exV b ++ (exV c ++ expZ))
 | a :: b :: c :: d :: _ => exV a ++ (exV b ++ (exV c ++ exV d))
abbrev byB (nm : ByteArray) (r k : Nat) (cells : List V) : O := .box 28 (.d (.str nm) :: .row r k :: (cells ++ [.d (.int 0), .d (.int 0), .d (.int 0)]))
abbrev prtB : O := .box 108 [.d (.str w_admit), .box 3 2, .d (.str w_fare), .box 3 7, .d (.str w_late), .box 3 12, .d (.str w_noshow), .box 3 17]
abbrev zeroBy : O := .box 28 (.d (.str ⟨#[]⟩) :: .d (.val (.slice none 0 0)) :: (fillV [] ++ [.d (.int 0), .d (.int 0), .d (.int 0)]))
abbrev byO (R : Rd By) (L : List Tok) : V → Objs → Prop := Out R (fun x => .d (.agg (byC x))) (psr L)
section
variable {L l : List Tok}
theorem pbylaws (r0 : Rdy L l) (x0 : Texts l) : ObP 38 [.box 1000 0] (psr L l) [] (byO (bylawsP l) L) (Bads (bylawsP l)) := by
 obtain ⟨R, hR⟩ : ∃ R, R = bylawsP l := ⟨_, rfl⟩
 rw [← hR]
 unfold bylawsP at hR
 have hw1 := pwant r0 w_bylaws
 refine obp_enter Tryz.func38 rfl (by decide) _ Tryz.ntmps38 (le_ok rfl) rfl (fun w Pr β κ hE => ?_)
 dsimp only [slotsV, Nat.zero_add, Nat.reduceAdd]
 repeat' (first | refine nx ?_ | apply aq_pq | (apply aq_block_y; decide) | (apply at_cond; first | refine c_t ?_ | refine c_f ?_ | (refine aw_cond rfl (fun hb => ?_) (fun hb => ?_) <;> ((try have hq := dX hb); (try (exfalso; omega))))) | (apply qr_alloc; refine r_alloc ?_))
 refine al_adoptb 3 1 50 43 6 rfl rfl rfl (lt_ok rfl) rfl rfl ?_
 repeat' (first | (apply at_call; refine k_pcall [(1000, 1000)] (hw1) hE (fun v hv => by (repeat (first | with_reducible refine ap_block ?_ | with_reducible refine ap_then ?_)); exact ap_body (bads_then hR hv)) ?_; rintro _ _ ⟨_, u1, hx1, rfl, rfl⟩; rw [hx1, then_ok] at hR; have r1 := r0.to (suf_want hx1); have x1 := x0.suf (suf_want hx1); have hnm := pname r1 x1 <;> (intro _ _ h1 h2; simp only [renEqs, Nat.reduceBEq, renL_app, renL_ds, renL_und] at h1 h2; subst h1 h2)) | (apply at_call; refine k_pcall [(1000, 1000)] (hnm) hE (fun v hv => by (repeat (first | with_reducible refine ap_block ?_ | with_reducible refine ap_then ?_)); exact ap_body (bads_then hR hv)) ?_; rintro _ _ ⟨nm, u2, hx2, rfl, rfl⟩; rw [hx2, then_ok] at hR; have r2 := r1.to (suf_name hx2); have x2 := x1.suf (suf_name hx2); have hw2 := pwant r2 w_semi <;> (intro _ _ h1 h2; simp only [renEqs, Nat.reduceBEq, renL_app, renL_ds, renL_und] at h1 h2; subst h1 h2)) | (apply at_call; refine k_pcall [(1000, 1000)] (hw2) hE (fun v hv => by (repeat (first | with_reducible refine ap_block ?_ | with_reducible refine ap_then ?_)); exact ap_body (bads_then hR hv)) ?_; rintro _ _ ⟨_, u3, hx3, rfl, rfl⟩; rw [hx3, then_ok] at hR; have r3 := r2.to (suf_want hx3); have x3 := x2.suf (suf_want hx3); have hls := plets r3 x3 nm <;> (intro _ _ h1 h2; simp only [renEqs, Nat.reduceBEq, renL_app, renL_ds, renL_und] at h1 h2; subst h1 h2)) | (apply at_call; refine k_pcall [(1000, 1000), (1001, 3), (1002, 50)] (hls) hE (fun v hv => by (repeat (first | with_reducible refine ap_block ?_ | with_reducible refine ap_then ?_)); exact ap_body (bads_then hR hv)) ?_; rintro _ _ ⟨ls, u4, k, hx4, rfl, rfl, hls20⟩; rw [hx4, then_ok] at hR; have r4 := r3.to (letsP_suf _ _ _ hx4); have x4 := x3.suf (letsP_suf _ _ _ hx4) <;> (intro _ _ h1 h2; simp only [renEqs, Nat.reduceBEq, renL_app, renL_ds, renL_und] at h1 h2; subst h1 h2)) | (apply at_op (.build _ _); refine al_y (y_buildS rfl (by repeat (first | exact PartsS.nil | (apply PartsS.cons; rfl; constructor; rfl))) rfl rfl) (lt_ok rfl) ?_) | (apply at_op (.buildSlice _ _ _); refine al_step (st_lit4 rfl rfl rfl rfl rfl (lt_ok rfl) rfl rfl) rfl ?_) | refine nx ?_ | apply aq_pq | (apply aq_block_y; decide) | (apply qr_move; refine r_move ?_) | (apply at_cond; first | refine c_t ?_ | refine c_f ?_ | (refine aw_cond rfl (fun hb => ?_) (fun hb => ?_) <;> ((try have hq := dX hb); (try (exfalso; omega))))) | (apply qr_len; refine r_len ?_) | (apply qr_faddr; refine r_faddr ?_) | (apply qr_store; refine r_store ?_) | (apply qr_build; refine r_build ?_) | (apply qr_lits; refine r_lits ?_))
 clear hw1 hnm hw2 hls hx1 hx2 hx3 hx4
 refine aw_lp (fun N sl ob => ∃ (i : Nat) (es : List Ex) (t : List Tok) (k : Nat), N = 4 - i ∧ es.length = i ∧ i ≤ 4 ∧ Rdy L t ∧ Texts t ∧ R = (partsP (wsL.drop i) es t).then (fun es l => numsP nm ls es l) ∧ sl = [(27, .d (.int i)), (26, .d (.int 4)), (25, .sl 25 0 4), (3, .box 3 0), (2, .box 2 0), (0, .box 1000 0)] ∧ ob = [(25, prtB), (3, byB nm 50 k (fillV es)), (2, zeroBy), (50, letR k ls), (1000, psB L (atN L t))]) (⟨0, [], u4, k, rfl, rfl, by omega, r4, x4, hR, rfl, rfl⟩) ?_
 clear hR r4 x4 r3 x3 r2 x2 r1 x1
 rintro N sl ob ⟨i, es, t, k, rfl, hes, hi, r1, x1, hR, rfl, rfl⟩
 rcases (by omega : i = 0 ∨ i = 1 ∨ i = 2 ∨ i = 3 ∨ i = 4) with rfl | rfl | rfl | rfl | rfl
 ·match es, hes with
  | [], _ =>
   rw [show List.drop 0 wsL = w_admit :: List.drop 1 wsL from rfl, partsP_cons] at hR
   have hw1 := pwant r1 w_admit
   simp only [fillV, List.cons_append, List.nil_append]
   repeat' (first | (apply at_op (.indexAddr _ _ _); refine al_y (y_slix rfl rfl rfl (by first | with_reducible rfl | exact lit0 | exact lit1 | exact lit2 | exact lit3 | exact lit4 | exact int_s _ | exact int_p _ _ | exact int_nat _ (by omega)) (by omega) rfl) (lt_ok rfl) ?_) | (apply at_op (.load _ _); refine al_y (y_bloadV rfl rfl rfl rfl rfl (by decide)) (lt_ok rfl) ?_) | (apply at_op (.store _ _ _); refine al_step (st_store rfl rfl (ev_agg rfl) nofun (by first | (simp only [normV, normList, normMap]; rfl) | rfl) (by simp [V.one, Value.oneCell']) (.inr rfl) rfl (le_ok rfl) (by first | (simp only [normV, normList, normMap]; rfl) | rfl)) rfl ?_) | (apply at_call; refine k_pcall [(1000, 1000)] (hw1) hE (fun v hv => by (repeat (first | with_reducible refine ap_block ?_ | with_reducible refine ap_then ?_)); exact ap_body (bads_then hR hv)) ?_; rintro _ _ ⟨_, u1, hx1, rfl, rfl⟩; rw [hx1, then_ok] at hR; have r2 := r1.to (suf_want hx1); have x2 := x1.suf (suf_want hx1); have hwh := pwhole r2 x2 w_semi <;> (intro _ _ h1 h2; simp only [renEqs, Nat.reduceBEq, renL_app, renL_ds, renL_und] at h1 h2; subst h1 h2)) | refine nx ?_ | apply aq_pq | (apply aq_block_y; decide) | (apply qr_move; refine r_move ?_) | (apply at_cond; first | refine c_t ?_ | refine c_f ?_ | (refine aw_cond rfl (fun hb => ?_) (fun hb => ?_) <;> ((try have hq := dX hb); (try (exfalso; omega))))) | (apply qr_lss; refine r_lss ?_) | (apply qr_ix; refine r_ix ?_) | (apply qr_load; refine r_load ?_) | (apply qr_faddr; refine r_faddr ?_) | (apply qr_alloc; refine r_alloc ?_) | (apply qr_store; refine r_store ?_) | (apply qr_lits; refine r_lits ?_))
   refine aw_mixp (Bads _) ([(5, .box 108 [.d (.str w_admit), .box 3 2])]) [(0, true), (1, true), (2, true), (3, false)] [4, 5] (by kernel_rfl) (by kernel_rfl) (by kernel_rfl) (by decide) (by (repeat (first | exact obs_nil | (apply obs_cons; focus (first | rfl | (simp [find]; done)))))) (fun v hv => by (repeat (first | with_reducible refine ap_block ?_ | with_reducible refine ap_then ?_)); exact ap_body hv) ?_
   simp only [planned, tailed, List.filterMap_cons, List.filterMap_nil, List.getElem?_cons_zero, List.getElem?_cons_succ, Option.map_some]
   repeat' (first | apply am_nil | refine m_skip ?_ | refine n_skip ?_ | (apply at_mcall; refine m_pcall [(1000, 1000)] (hwh) hE (fun v hv => ap_panq (bads_then hR hv)) ?_; rintro _ _ ⟨e, u2, hx2, rfl, rfl⟩; rw [hx2, then_ok] at hR; have r3 := r2.to (wholeP_suf hx2); have x3 := x2.suf (wholeP_suf hx2) <;> (intro _ _ h1 h2; simp only [renEqs, Nat.reduceBEq, renL_app, renL_ds, renL_und] at h1 h2; subst h1 h2; (try dsimp only [flatV, flat, D.plain, D.plainL]))) | (apply qm_move; refine m_move ?_) | (apply qm_load; refine m_load ?_) | (apply qm_faddr; refine m_faddr ?_) | (refine am_split rfl rfl (fun hb => ?_) (fun hb => ?_) <;> ((try have hq := dX hb); (try (exfalso; omega)))))
   repeat' (first | refine nx ?_ | apply aq_pq | (apply aq_block_y; decide) | (apply qr_move; refine r_move ?_) | (apply at_cond; first | refine c_t ?_ | refine c_f ?_ | (refine aw_cond rfl (fun hb => ?_) (fun hb => ?_) <;> ((try have hq := dX hb); (try (exfalso; omega))))) | (apply qr_add; refine r_add ?_) | (apply qr_load; refine r_load ?_) | (apply qr_faddr; refine r_faddr ?_) | (apply qr_nilck; refine r_nilck ?_) | (apply qr_store; refine r_store ?_))
   refine aq_rd (⟨1, [e], u2, k, rfl, rfl, by omega, r3, x3, hR, rfl, rfl⟩) (by omega)
 ·match es, hes with
  | [a], _ =>
   rw [show List.drop 1 wsL = w_fare :: List.drop 2 wsL from rfl, partsP_cons] at hR
   have hw1 := pwant r1 w_fare
   simp only [fillV, List.cons_append, List.nil_append]
   repeat' (first | (apply at_op (.indexAddr _ _ _); refine al_y (y_slix rfl rfl rfl (by first | with_reducible rfl | exact lit0 | exact lit1 | exact lit2 | exact lit3 | exact lit4 | exact int_s _ | exact int_p _ _ | exact int_nat _ (by omega)) (by omega) rfl) (lt_ok rfl) ?_) | (apply at_op (.load _ _); refine al_y (y_bloadV rfl rfl rfl rfl rfl (by decide)) (lt_ok rfl) ?_) | (apply at_op (.store _ _ _); refine al_step (st_store rfl rfl (ev_agg rfl) nofun (by first | (simp only [normV, normList, normMap]; rfl) | rfl) (by simp [V.one, Value.oneCell']) (.inr rfl) rfl (le_ok rfl) (by first | (simp only [normV, normList, normMap]; rfl) | rfl)) rfl ?_) | (apply at_call; refine k_pcall [(1000, 1000)] (hw1) hE (fun v hv => by (repeat (first | with_reducible refine ap_block ?_ | with_reducible refine ap_then ?_)); exact ap_body (bads_then hR hv)) ?_; rintro _ _ ⟨_, u1, hx1, rfl, rfl⟩; rw [hx1, then_ok] at hR; have r2 := r1.to (suf_want hx1); have x2 := x1.suf (suf_want hx1); have hwh := pwhole r2 x2 w_semi <;> (intro _ _ h1 h2; simp only [renEqs, Nat.reduceBEq, renL_app, renL_ds, renL_und] at h1 h2; subst h1 h2)) | refine nx ?_ | apply aq_pq | (apply aq_block_y; decide) | (apply qr_move; refine r_move ?_) | (apply at_cond; first | refine c_t ?_ | refine c_f ?_ | (refine aw_cond rfl (fun hb => ?_) (fun hb => ?_) <;> ((try have hq := dX hb); (try (exfalso; omega))))) | (apply qr_lss; refine r_lss ?_) | (apply qr_ix; refine r_ix ?_) | (apply qr_load; refine r_load ?_) | (apply qr_faddr; refine r_faddr ?_) | (apply qr_alloc; refine r_alloc ?_) | (apply qr_store; refine r_store ?_) | (apply qr_lits; refine r_lits ?_))
   refine aw_mixp (Bads _) ([(5, .box 108 [.d (.str w_fare), .box 3 7])]) [(0, true), (1, true), (2, true), (3, false)] [4, 5] (by kernel_rfl) (by kernel_rfl) (by kernel_rfl) (by decide) (by (repeat (first | exact obs_nil | (apply obs_cons; focus (first | rfl | (simp [find]; done)))))) (fun v hv => by (repeat (first | with_reducible refine ap_block ?_ | with_reducible refine ap_then ?_)); exact ap_body hv) ?_
   simp only [planned, tailed, List.filterMap_cons, List.filterMap_nil, List.getElem?_cons_zero, List.getElem?_cons_succ, Option.map_some]
   repeat' (first | apply am_nil | refine m_skip ?_ | refine n_skip ?_ | (apply at_mcall; refine m_pcall [(1000, 1000)] (hwh) hE (fun v hv => ap_panq (bads_then hR hv)) ?_; rintro _ _ ⟨e, u2, hx2, rfl, rfl⟩; rw [hx2, then_ok] at hR; have r3 := r2.to (wholeP_suf hx2); have x3 := x2.suf (wholeP_suf hx2) <;> (intro _ _ h1 h2; simp only [renEqs, Nat.reduceBEq, renL_app, renL_ds, renL_und] at h1 h2; subst h1 h2; (try dsimp only [flatV, flat, D.plain, D.plainL]))) | (apply qm_move; refine m_move ?_) | (apply qm_load; refine m_load ?_) | (apply qm_faddr; refine m_faddr ?_) | (refine am_split rfl rfl (fun hb => ?_) (fun hb => ?_) <;> ((try have hq := dX hb); (try (exfalso; omega)))))
   repeat' (first | refine nx ?_ | apply aq_pq | (apply aq_block_y; decide) | (apply qr_move; refine r_move ?_) | (apply at_cond; first | refine c_t ?_ | refine c_f ?_ | (refine aw_cond rfl (fun hb => ?_) (fun hb => ?_) <;> ((try have hq := dX hb); (try (exfalso; omega))))) | (apply qr_add; refine r_add ?_) | (apply qr_load; refine r_load ?_) | (apply qr_faddr; refine r_faddr ?_) | (apply qr_nilck; refine r_nilck ?_) | (apply qr_store; refine r_store ?_))
   refine aq_rd (⟨2, [a, e], u2, k, rfl, rfl, by omega, r3, x3, hR, rfl, rfl⟩) (by omega)
 ·match es, hes with
  | [a, b], _ =>
   rw [show List.drop 2 wsL = w_late :: List.drop 3 wsL from rfl, partsP_cons] at hR
   have hw1 := pwant r1 w_late
   simp only [fillV, List.cons_append, List.nil_append]
   repeat' (first | (apply at_op (.indexAddr _ _ _); refine al_y (y_slix rfl rfl rfl (by first | with_reducible rfl | exact lit0 | exact lit1 | exact lit2 | exact lit3 | exact lit4 | exact int_s _ | exact int_p _ _ | exact int_nat _ (by omega)) (by omega) rfl) (lt_ok rfl) ?_) | (apply at_op (.load _ _); refine al_y (y_bloadV rfl rfl rfl rfl rfl (by decide)) (lt_ok rfl) ?_) | (apply at_op (.store _ _ _); refine al_step (st_store rfl rfl (ev_agg rfl) nofun (by first | (simp only [normV, normList, normMap]; rfl) | rfl) (by simp [V.one, Value.oneCell']) (.inr rfl) rfl (le_ok rfl) (by first | (simp only [normV, normList, normMap]; rfl) | rfl)) rfl ?_) | (apply at_call; refine k_pcall [(1000, 1000)] (hw1) hE (fun v hv => by (repeat (first | with_reducible refine ap_block ?_ | with_reducible refine ap_then ?_)); exact ap_body (bads_then hR hv)) ?_; rintro _ _ ⟨_, u1, hx1, rfl, rfl⟩; rw [hx1, then_ok] at hR; have r2 := r1.to (suf_want hx1); have x2 := x1.suf (suf_want hx1); have hwh := pwhole r2 x2 w_semi <;> (intro _ _ h1 h2; simp only [renEqs, Nat.reduceBEq, renL_app, renL_ds, renL_und] at h1 h2; subst h1 h2)) | refine nx ?_ | apply aq_pq | (apply aq_block_y; decide) | (apply qr_move; refine r_move ?_) | (apply at_cond; first | refine c_t ?_ | refine c_f ?_ | (refine aw_cond rfl (fun hb => ?_) (fun hb => ?_) <;> ((try have hq := dX hb); (try (exfalso; omega))))) | (apply qr_lss; refine r_lss ?_) | (apply qr_ix; refine r_ix ?_) | (apply qr_load; refine r_load ?_) | (apply qr_faddr; refine r_faddr ?_) | (apply qr_alloc; refine r_alloc ?_) | (apply qr_store; refine r_store ?_) | (apply qr_lits; refine r_lits ?_))
   refine aw_mixp (Bads _) ([(5, .box 108 [.d (.str w_late), .box 3 12])]) [(0, true), (1, true), (2, true), (3, false)] [4, 5] (by kernel_rfl) (by kernel_rfl) (by kernel_rfl) (by decide) (by (repeat (first | exact obs_nil | (apply obs_cons; focus (first | rfl | (simp [find]; done)))))) (fun v hv => by (repeat (first | with_reducible refine ap_block ?_ | with_reducible refine ap_then ?_)); exact ap_body hv) ?_
   simp only [planned, tailed, List.filterMap_cons, List.filterMap_nil, List.getElem?_cons_zero, List.getElem?_cons_succ, Option.map_some]
   repeat' (first | apply am_nil | refine m_skip ?_ | refine n_skip ?_ | (apply at_mcall; refine m_pcall [(1000, 1000)] (hwh) hE (fun v hv => ap_panq (bads_then hR hv)) ?_; rintro _ _ ⟨e, u2, hx2, rfl, rfl⟩; rw [hx2, then_ok] at hR; have r3 := r2.to (wholeP_suf hx2); have x3 := x2.suf (wholeP_suf hx2) <;> (intro _ _ h1 h2; simp only [renEqs, Nat.reduceBEq, renL_app, renL_ds, renL_und] at h1 h2; subst h1 h2; (try dsimp only [flatV, flat, D.plain, D.plainL]))) | (apply qm_move; refine m_move ?_) | (apply qm_load; refine m_load ?_) | (apply qm_faddr; refine m_faddr ?_) | (refine am_split rfl rfl (fun hb => ?_) (fun hb => ?_) <;> ((try have hq := dX hb); (try (exfalso; omega)))))
   repeat' (first | refine nx ?_ | apply aq_pq | (apply aq_block_y; decide) | (apply qr_move; refine r_move ?_) | (apply at_cond; first | refine c_t ?_ | refine c_f ?_ | (refine aw_cond rfl (fun hb => ?_) (fun hb => ?_) <;> ((try have hq := dX hb); (try (exfalso; omega))))) | (apply qr_add; refine r_add ?_) | (apply qr_load; refine r_load ?_) | (apply qr_faddr; refine r_faddr ?_) | (apply qr_nilck; refine r_nilck ?_) | (apply qr_store; refine r_store ?_))
   refine aq_rd (⟨3, [a, b, e], u2, k, rfl, rfl, by omega, r3, x3, hR, rfl, rfl⟩) (by omega)
 ·match es, hes with
  | [a, b, c], _ =>
   rw [show List.drop 3 wsL = w_noshow :: List.drop 4 wsL from rfl, partsP_cons] at hR
   have hw1 := pwant r1 w_noshow
   simp only [fillV, List.cons_append, List.nil_append]
   repeat' (first | (apply at_op (.indexAddr _ _ _); refine al_y (y_slix rfl rfl rfl (by first | with_reducible rfl | exact lit0 | exact lit1 | exact lit2 | exact lit3 | exact lit4 | exact int_s _ | exact int_p _ _ | exact int_nat _ (by omega)) (by omega) rfl) (lt_ok rfl) ?_) | (apply at_op (.load _ _); refine al_y (y_bloadV rfl rfl rfl rfl rfl (by decide)) (lt_ok rfl) ?_) | (apply at_op (.store _ _ _); refine al_step (st_store rfl rfl (ev_agg rfl) nofun (by first | (simp only [normV, normList, normMap]; rfl) | rfl) (by simp [V.one, Value.oneCell']) (.inr rfl) rfl (le_ok rfl) (by first | (simp only [normV, normList, normMap]; rfl) | rfl)) rfl ?_) | (apply at_call; refine k_pcall [(1000, 1000)] (hw1) hE (fun v hv => by (repeat (first | with_reducible refine ap_block ?_ | with_reducible refine ap_then ?_)); exact ap_body (bads_then hR hv)) ?_; rintro _ _ ⟨_, u1, hx1, rfl, rfl⟩; rw [hx1, then_ok] at hR; have r2 := r1.to (suf_want hx1); have x2 := x1.suf (suf_want hx1); have hwh := pwhole r2 x2 w_semi <;> (intro _ _ h1 h2; simp only [renEqs, Nat.reduceBEq, renL_app, renL_ds, renL_und] at h1 h2; subst h1 h2)) | refine nx ?_ | apply aq_pq | (apply aq_block_y; decide) | (apply qr_move; refine r_move ?_) | (apply at_cond; first | refine c_t ?_ | refine c_f ?_ | (refine aw_cond rfl (fun hb => ?_) (fun hb => ?_) <;> ((try have hq := dX hb); (try (exfalso; omega))))) | (apply qr_lss; refine r_lss ?_) | (apply qr_ix; refine r_ix ?_) | (apply qr_load; refine r_load ?_) | (apply qr_faddr; refine r_faddr ?_) | (apply qr_alloc; refine r_alloc ?_) | (apply qr_store; refine r_store ?_) | (apply qr_lits; refine r_lits ?_))
   refine aw_mixp (Bads _) ([(5, .box 108 [.d (.str w_noshow), .box 3 17])]) [(0, true), (1, true), (2, true), (3, false)] [4, 5] (by kernel_rfl) (by kernel_rfl) (by kernel_rfl) (by decide) (by (repeat (first | exact obs_nil | (apply obs_cons; focus (first | rfl | (simp [find]; done)))))) (fun v hv => by (repeat (first | with_reducible refine ap_block ?_ | with_reducible refine ap_then ?_)); exact ap_body hv) ?_
   simp only [planned, tailed, List.filterMap_cons, List.filterMap_nil, List.getElem?_cons_zero, List.getElem?_cons_succ, Option.map_some]
   repeat' (first | apply am_nil | refine m_skip ?_ | refine n_skip ?_ | (apply at_mcall; refine m_pcall [(1000, 1000)] (hwh) hE (fun v hv => ap_panq (bads_then hR hv)) ?_; rintro _ _ ⟨e, u2, hx2, rfl, rfl⟩; rw [hx2, then_ok] at hR; have r3 := r2.to (wholeP_suf hx2); have x3 := x2.suf (wholeP_suf hx2) <;> (intro _ _ h1 h2; simp only [renEqs, Nat.reduceBEq, renL_app, renL_ds, renL_und] at h1 h2; subst h1 h2; (try dsimp only [flatV, flat, D.plain, D.plainL]))) | (apply qm_move; refine m_move ?_) | (apply qm_load; refine m_load ?_) | (apply qm_faddr; refine m_faddr ?_) | (refine am_split rfl rfl (fun hb => ?_) (fun hb => ?_) <;> ((try have hq := dX hb); (try (exfalso; omega)))))
   repeat' (first | refine nx ?_ | apply aq_pq | (apply aq_block_y; decide) | (apply qr_move; refine r_move ?_) | (apply at_cond; first | refine c_t ?_ | refine c_f ?_ | (refine aw_cond rfl (fun hb => ?_) (fun hb => ?_) <;> ((try have hq := dX hb); (try (exfalso; omega))))) | (apply qr_add; refine r_add ?_) | (apply qr_load; refine r_load ?_) | (apply qr_faddr; refine r_faddr ?_) | (apply qr_nilck; refine r_nilck ?_) | (apply qr_store; refine r_store ?_))
   refine aq_rd (⟨4, [a, b, c, e], u2, k, rfl, rfl, by omega, r3, x3, hR, rfl, rfl⟩) (by omega)
 ·match es, hes with
  | [a, b, c, d], _ =>
   simp only [wsL, List.drop_succ_cons, List.drop_nil, partsP, then_ok] at hR
   unfold numsP at hR
   have hq := ppart r1 w_quota 0 1000
   have q0 : decide (((4 : Nat) : Int) < 4) = false := rfl
   simp only [fillV, List.cons_append, List.nil_append]
   repeat' (first | (apply at_call; refine k_pcall [(1000, 1000)] (hq) hE (fun v hv => by (repeat (first | with_reducible refine ap_block ?_ | with_reducible refine ap_then ?_)); exact ap_body (bads_then hR hv)) ?_; rintro _ _ ⟨n1, u1, hx1, rfl, rfl⟩; rw [hx1, then_ok] at hR; have r2 := r1.to (partP_suf hx1); have hs1 := ppart r2 w_share 0 1000 <;> (intro _ _ h1 h2; simp only [renEqs, Nat.reduceBEq, renL_app, renL_ds, renL_und] at h1 h2; subst h1 h2)) | (apply at_call; refine k_pcall [(1000, 1000)] (hs1) hE (fun v hv => by (repeat (first | with_reducible refine ap_block ?_ | with_reducible refine ap_then ?_)); exact ap_body (bads_then hR hv)) ?_; rintro _ _ ⟨n2, u2, hx2, rfl, rfl⟩; rw [hx2, then_ok] at hR; have r3 := r2.to (partP_suf hx2); have hc1 := ppart r3 w_change 1 1000 <;> (intro _ _ h1 h2; simp only [renEqs, Nat.reduceBEq, renL_app, renL_ds, renL_und] at h1 h2; subst h1 h2)) | (apply at_call; refine k_pcall [(1000, 1000)] (hc1) hE (fun v hv => by (repeat (first | with_reducible refine ap_block ?_ | with_reducible refine ap_then ?_)); exact ap_body (bads_then hR hv)) ?_; rintro _ _ ⟨n3, u3, hx3, rfl, rfl⟩; rw [hx3, then_ok] at hR; have r4 := r3.to (partP_suf hx3); have hnx := pnext r4 <;> (intro _ _ h1 h2; simp only [renEqs, Nat.reduceBEq, renL_app, renL_ds, renL_und] at h1 h2; subst h1 h2)) | refine nx ?_ | apply aq_pq | (apply aq_block_y; decide) | (apply qr_move; refine r_move ?_) | (apply at_cond; first | refine c_t ?_ | refine c_f ?_ | (refine aw_cond rfl (fun hb => ?_) (fun hb => ?_) <;> ((try have hq := dX hb); (try (exfalso; omega))))) | (apply qr_lss; refine r_lss ?_) | (apply qr_faddr; refine r_faddr ?_) | (apply qr_store; refine r_store ?_))
   by_cases hk : (nxt u3).k = 3
   ·have c1 := pcheck_y (L := L) (l := u3) 12
    rw [← decide_eq_true hk] at c1
    have hR : R = .ok (mkBy nm ls [a, b, c, d] n1 n2 n3) u3 := by rw [hR]; simp [lastP, hk]
    repeat' (first | (apply at_call; refine k_ocall [(1000, 1000)] (hnx) hE ?_; rintro _ _ ⟨rfl, rfl⟩ <;> (intro _ _ h1 h2; simp only [renEqs, Nat.reduceBEq, renL_app, renL_ds, renL_und] at h1 h2; subst h1 h2)) | (apply at_call; refine k_ocall [(1000, 1000)] (c1) hE ?_; rintro _ _ ⟨rfl, rfl⟩ <;> (intro _ _ h1 h2; simp only [renEqs, Nat.reduceBEq, renL_app, renL_ds, renL_und] at h1 h2; subst h1 h2)) | refine nx ?_ | apply aq_pq | (apply aq_block_y; decide) | (apply qr_move; refine r_move ?_) | (apply at_cond; first | refine c_t ?_ | refine c_f ?_ | (refine aw_cond rfl (fun hb => ?_) (fun hb => ?_) <;> ((try have hq := dX hb); (try (exfalso; omega))))) | (apply qr_eql; refine r_eql ?_) | (apply qr_field; refine r_field ?_))
    refine al_celltold 3 1 rfl rfl (ToD.row _ _ _ _ _ rfl) rfl ?_
    repeat' (first | refine nx ?_ | apply aq_pq | (apply aq_block_y; decide) | (apply at_cond; first | refine c_t ?_ | refine c_f ?_ | (refine aw_cond rfl (fun hb => ?_) (fun hb => ?_) <;> ((try have hq := dX hb); (try (exfalso; omega))))) | (apply qr_load; refine r_load ?_) | (apply qr_store; refine r_store ?_))
    refine aq_p ?_
    refine oret1 (psr L u3) (by rfl) rv (⟨_, _, hR, rfl, rfl⟩) sb okx
   ·have c1 := pcheck_n r4 12
    rw [← decide_eq_false hk] at c1
    have hR : R = .bad (nxt u3).p 12 := by rw [hR]; simp [lastP, hk]
    repeat' (first | (apply at_call; refine k_ocall [(1000, 1000)] (hnx) hE ?_; rintro _ _ ⟨rfl, rfl⟩ <;> (intro _ _ h1 h2; simp only [renEqs, Nat.reduceBEq, renL_app, renL_ds, renL_und] at h1 h2; subst h1 h2)) | (apply at_call; refine k_pcall [(1000, 1000)] (c1) hE (fun v hv => by subst hv; (repeat (first | with_reducible refine ap_block ?_ | with_reducible refine ap_then ?_)); first | exact ap_body ⟨_, _, hR, rfl⟩ | exact ap_body ⟨_, _, rfl, rfl⟩ | exact ap_body rfl) (fun _ _ h => h.elim)) | refine nx ?_ | apply aq_pq | (apply aq_block_y; decide) | (apply qr_move; refine r_move ?_) | (apply at_cond; first | refine c_t ?_ | refine c_f ?_ | (refine aw_cond rfl (fun hb => ?_) (fun hb => ?_) <;> ((try have hq := dX hb); (try (exfalso; omega))))) | (apply qr_eql; refine r_eql ?_) | (apply qr_field; refine r_field ?_))
end
end Go.Proofs.YtedoeogopmenpaaGreatDoor
end
section
set_option linter.unusedSimpArgs false
set_option linter.unusedVariables false
namespace Go.Proofs.YtedoeogopmenpaaGreatDoor
open Go.RowKit
abbrev rpB (L : List Tok) (k e p : Int) : O := .box 65 [.d (.list 4 (L.map Tok.cells)), .d (.int k), .d (.int e), .d (.int p)]
abbrev rps (L l : List Tok) : Objs := [(1000, rpB L (atN L l) 0 0)]
abbrev rpe (L : List Tok) (k e p : Int) : Objs := [(1000, rpB L k e p)]
def RefO {α : Type} (R : Rd α) (val : α → V) (L : List Tok) : V → Objs → Prop := fun x o => (∃ a t, R = .ok a t ∧ x = val a ∧ o = rps L t) ∨ ∃ p e k a, R = .bad p e ∧ e ≠ 0 ∧ x = val a ∧ o = rpe L k e p
def ErrO {α : Type} (val : α → V) (L : List Tok) (k e p : Int) : V → Objs → Prop := fun x o => (∃ a, x = val a) ∧ o = rpe L k e p
abbrev strV : ByteArray → V := fun s => .d (.str s)
abbrev intV : Int → V := fun s => .d (.int s)
abbrev expV' : Ex → V := fun e => .d (.agg (exC e))
abbrev unitV : Unit → V := fun _ => .tup []
section
variable {L l : List Tok} {k e p : Int}
end
end Go.Proofs.YtedoeogopmenpaaGreatDoor
end
section
set_option linter.unusedSimpArgs false
set_option linter.unusedVariables false
namespace Go.Proofs.YtedoeogopmenpaaGreatDoor
open Go.RowKit
abbrev RRightC (d : Nat) : Prop := ∀ e : Ex, e.tame → PureC 69 [.agg (exC e), .int d] (· = .bool (e.right d))
theorem all_take {α : Type} (f : α → Bool) {l : List α} {i : Nat} (h : i < l.length) : (l.take (i + 1)).all f = ((l.take i).all f && f l[i]) := by
 rw [List.take_succ_eq_append_getElem h, List.all_append]
 simp only [List.all_cons, List.all_nil, Bool.and_true]
end Go.Proofs.YtedoeogopmenpaaGreatDoor
end
section
set_option linter.unusedSimpArgs false
set_option linter.unusedVariables false
namespace Go.Proofs.YtedoeogopmenpaaGreatDoor
open Go.RowKit
theorem rightExp_any (e : Ex) (he : e.tame) : PureC 24 [.agg (exC e)] (· = .bool (e.right 12)) := by
 have hc := right_any 12 (by omega) e he
 refine pure_enter Tryz.func24 rfl (by decide) _ Tryz.ntmps24 (le_ok rfl) (fun w Pr hE => ?_)
 dsimp only [slotsOf, Nat.zero_add, Nat.reduceAdd]
 repeat' (first | (apply at_call; refine k_call (hc) hE ?_; rintro _ rfl) | refine nx ?_ | (apply qr_assign; refine r_assign ?_) | (apply qr_load; refine r_load ?_) | (apply qr_boxed; refine r_boxed ?_))
 refine rt1 ?_
 rfl
end Go.Proofs.YtedoeogopmenpaaGreatDoor
end
section
set_option linter.unusedSimpArgs false
set_option linter.unusedVariables false
namespace Go.Proofs.YtedoeogopmenpaaGreatDoor
open Go.RowKit
theorem show_op {d : Nat} (hd : d ≤ 12) (ih : ShowC d) (op : Int) (t : Tok) (g : Nat) (ho : opInfo op = some (t, g)) (x y : Ex) (ht : (two op x y).tame) (hx : x.right d = true) (hy : y.right d = true) (f fm : Nat) (hf : f ≤ fm) (hfm : PureC 107 [.agg (exC (two op x y))] (· = .int fm)) : PureC 55 [.agg (exC (two op x y)), .int f] (· = .str ((two op x y).text 0)) := by
 have hsz := opInfo_size ho
 have c0 : ObC 108 [.d (.int 0), .d (.int (leftV g)), .box 1002 0] (shO (two op x y)) [] (fun u o => u = .d (.str (x.text (leftV g))) ∧ o = shO (two op x y)) := show1_any ih (two op x y) ht 0 (leftV g) (show 0 < 2 by omega) hx (by unfold leftV; split <;> omega)
 have c1 : ObC 108 [.d (.int 1), .d (.int ((g : Int) + 1)), .box 1002 0] (shO (two op x y)) [] (fun u o => u = .d (.str (y.text (g + 1))) ∧ o = shO (two op x y)) := show1_any ih (two op x y) ht 1 (g + 1) (show 1 < 2 by omega) hy (by omega)
 have hsi := sindex (two op x y) (by show (opInfo op).isSome = true; rw [ho]; rfl)
 have zx := text_small hd hx ht.2.2.1 (leftV g)
 have zy := text_small hd hy ht.2.2.2.1 (g + 1)
 have hne : op ≠ 0 ∧ op ≠ 1 ∧ op ≠ 2 ∧ op ≠ 3 ∧ op ≠ 15 ∧ op ≠ 12 ∧ op ≠ 8 ∧ op ≠ 9 := by
  rcases opInfo_cases ho with ⟨rfl, _⟩ | ⟨rfl, _⟩ | ⟨rfl, _⟩ | ⟨rfl, _⟩ | ⟨rfl, _⟩ | ⟨rfl, _⟩ | ⟨rfl, _⟩ | ⟨rfl, _⟩ <;> decide
 obtain ⟨n0, n1, n2, n3, n15, n12, n8, n9⟩ := hne
 have p0 : decide (op = 0) = false := decide_eq_false n0
 have p1 : decide (op = 1) = false := decide_eq_false n1
 have p2 : decide (op = 2) = false := decide_eq_false n2
 have p3 : decide (op = 3) = false := decide_eq_false n3
 have p15 : decide (op = 15) = false := decide_eq_false n15
 have p12 : decide (op = 12) = false := decide_eq_false n12
 have p8 : decide (op = 8) = false := decide_eq_false n8
 have p9 : decide (op = 9) = false := decide_eq_false n9
 rw [text_op ho hx hy]
 have l1 : ByteArray.size ⟨#[32]⟩ = 1 := rfl
 have s1 := app_size (x.text (leftV g)) ⟨#[32]⟩
 have s2 := app_size (x.text (leftV g) ++ ⟨#[32]⟩) t.s
 have s3 := app_size (x.text (leftV g) ++ ⟨#[32]⟩ ++ t.s) ⟨#[32]⟩
 dsimp only [two, exC, Ex.op, Ex.num, Ex.unit, Ex.str, Ex.args] at hfm ⊢
 have q0 : decide ((fm : Int) < f) = false := decide_eq_false (by omega)
 refine pure_enter Tryz.func55 rfl (by decide) _ Tryz.ntmps55 (le_ok rfl) (fun w Pr hE => ?_)
 dsimp only [slotsOf, Nat.zero_add, Nat.reduceAdd]
 repeat' (first | (apply at_call; refine k_call (hfm) hE ?_; rintro _ rfl) | (apply at_op (.makeFunc (.func 108) _ _); refine al_y (y_clo (zs := [.box 2 0]) rfl) (lt_ok rfl) ?_) | (apply at_op (.makeFunc (.func 109) _ _); refine al_y (y_clo (zs := [.box 5 0]) rfl) (lt_ok rfl) ?_) | (apply at_op (.store _ _ _); refine al_step (st_store (v := .clo (.func 108) [.box 2 0]) (n := [.clo (.func 108) [.box 2 0]]) (l' := [.clo (.func 108) [.box 2 0]]) rfl rfl rfl nofun rfl (by intro z hz; rw [List.mem_singleton] at hz; subst hz; rfl) (.inl ⟨rfl, rfl⟩) rfl (le_ok rfl) rfl) rfl ?_) | refine nx ?_ | (apply aq_block_y; decide) | (apply qr_move; refine r_move ?_) | (apply qr_assign; refine r_assign ?_) | (apply at_cond; first | refine c_t ?_ | refine c_f ?_ | (refine aw_cond rfl (fun hb => ?_) (fun hb => ?_) <;> ((try have hq := dX hb); (try (exfalso; omega))))) | (apply qr_lss; refine r_lss ?_) | (apply qr_eql; refine r_eql ?_) | (apply qr_func; refine r_func ?_) | (apply qr_load; refine r_load ?_) | (apply qr_faddr; refine r_faddr ?_) | (apply qr_alloc; refine r_alloc ?_) | (apply qr_boxed; refine r_boxed ?_) | (apply qr_store; refine r_store ?_))
 clear hfm p0 p1 p2 p3 p15 p12 p8 p9 q0
 repeat' (first | (apply at_call; refine k_call (operators_any) hE ?_; rintro _ rfl) | (apply at_op (.makeFunc (.func 111) _ _); refine al_y (y_clo (zs := [.box 2 0]) rfl) (lt_ok rfl) ?_) | (apply at_call; refine k_ocall [(1002, 2)] (hsi) hE ?_; rintro _ _ ⟨⟨i, q, rfl, hqx, hqo⟩, rfl⟩; have hg0 : (opsL.map opC)[i]? = some (opC q) := by { rw [List.getElem?_map, hqx]; rfl } <;> (intro _ _ h1 h2; simp only [renEqs, Nat.reduceBEq, renL_app, renL_ds, renL_und] at h1 h2; subst h1 h2)) | (apply at_op (.indexAddr _ _ _); refine al_ixq hg0 ?_) | refine nx ?_ | (apply aq_block_y; decide) | (apply at_cond; first | refine c_t ?_ | refine c_f ?_ | (refine aw_cond rfl (fun hb => ?_) (fun hb => ?_) <;> ((try have hq := dX hb); (try (exfalso; omega))))) | (apply qr_func; refine r_func ?_) | (apply qr_ix; refine r_ix ?_) | (apply qr_load; refine r_load ?_) | (apply qr_alloc; refine r_alloc ?_) | (apply qr_store; refine r_store ?_))
 obtain ⟨t', ho', hts, hqn⟩ := op_hit hqx hqo
 have hoo : some (t', q.2.2.toNat) = some (t, g) := ho'.symm.trans ho
 injection hoo with hoo
 injection hoo with hoo1 hoo2
 subst hoo1
 obtain ⟨qs, qo, qg⟩ := q
 dsimp only at hts hqn hoo2 ⊢
 obtain rfl : qg = (g : Int) := by omega
 subst hts
 by_cases h4 : g = 4
 ·subst h4
  repeat' (first | refine nx ?_ | (apply aq_block_y; decide) | (apply qr_move; refine r_move ?_) | (apply qr_assign; refine r_assign ?_) | (apply at_cond; first | refine c_t ?_ | refine c_f ?_ | (refine aw_cond rfl (fun hb => ?_) (fun hb => ?_) <;> ((try have hq := dX hb); (try (exfalso; omega))))) | (apply qr_eql; refine r_eql ?_) | (apply qr_add; refine r_add ?_) | (apply qr_load; refine r_load ?_) | (apply qr_faddr; refine r_faddr ?_))
  refine aw_mixo ([(5, .box 125 [.clo (.func 108) [.box 2 0]]), (7, .box 120 [.d (.str t'.s), .d (.int qo), .d (.int ((4 : Nat) : Int))])]) [(0, true), (1, true), (4, true), (5, true), (8, true), (9, true), (10, true), (11, true), (2, false), (3, true), (6, true), (7, true), (12, false), (13, true)] [14] (by kernel_rfl) (by kernel_rfl) (by kernel_rfl) (by decide) (by (repeat (first | exact obs_nil | (apply obs_cons; focus (first | rfl | (simp [find]; done)))))) ?_
  simp only [planned, tailed, List.filterMap_cons, List.filterMap_nil, List.getElem?_cons_zero, List.getElem?_cons_succ, Option.map_some]
  repeat' (first | apply am_nil | refine m_skip ?_ | refine n_skip ?_ | (apply at_mcall; refine m_clocall2 [(1002, 2)] (c0) hE ?_; rintro _ _ ⟨rfl, rfl⟩; clear c0 <;> (intro _ _ h1 h2; simp only [renEqs, Nat.reduceBEq, renL_app, renL_ds, renL_und] at h1 h2; subst h1 h2; (try dsimp only [flatV, flat, D.plain, D.plainL]))) | (apply at_mcall; refine m_clocall2 [(1002, 2)] (c1) hE ?_; rintro _ _ ⟨rfl, rfl⟩ <;> (intro _ _ h1 h2; simp only [renEqs, Nat.reduceBEq, renL_app, renL_ds, renL_und] at h1 h2; subst h1 h2; (try dsimp only [flatV, flat, D.plain, D.plainL]))) | (apply qm_move; refine m_move ?_) | (apply qm_add; refine m_add ?_) | (apply qm_load; refine m_load ?_) | (apply qm_faddr; refine m_faddr ?_) | (refine am_split rfl rfl (fun hb => ?_) (fun hb => ?_) <;> ((try have hq := dX hb); (try (exfalso; omega)))))
  repeat' (first | refine nx ?_ | (apply aq_block_y; decide) | (apply qr_move; refine r_move ?_) | (apply qr_assign; refine r_assign ?_) | (apply at_cond; first | refine c_t ?_ | refine c_f ?_ | (refine aw_cond rfl (fun hb => ?_) (fun hb => ?_) <;> ((try have hq := dX hb); (try (exfalso; omega))))) | (apply qr_add; refine r_add ?_) | (apply qr_load; refine r_load ?_) | (apply qr_faddr; refine r_faddr ?_))
  refine rt1 ?_
  rfl
 ·have q4 : decide ((g : Int) = 4) = false := decide_eq_false (by omega)
  have hlv : leftV g = g := by unfold leftV; rw [if_neg h4]
  rw [hlv] at c0
  rw [hlv] at zx s1 s2 s3
  rw [hlv]
  repeat' (first | refine nx ?_ | (apply aq_block_y; decide) | (apply qr_move; refine r_move ?_) | (apply qr_assign; refine r_assign ?_) | (apply at_cond; first | refine c_t ?_ | refine c_f ?_ | (refine aw_cond rfl (fun hb => ?_) (fun hb => ?_) <;> ((try have hq := dX hb); (try (exfalso; omega))))) | (apply qr_eql; refine r_eql ?_) | (apply qr_load; refine r_load ?_) | (apply qr_faddr; refine r_faddr ?_))
  refine aw_mixo ([(5, .box 125 [.clo (.func 108) [.box 2 0]]), (7, .box 120 [.d (.str t'.s), .d (.int qo), .d (.int g)])]) [(0, true), (1, true), (4, true), (5, true), (8, true), (9, true), (10, true), (11, true), (2, false), (3, true), (6, true), (7, true), (12, false), (13, true)] [14] (by kernel_rfl) (by kernel_rfl) (by kernel_rfl) (by decide) (by (repeat (first | exact obs_nil | (apply obs_cons; focus (first | rfl | (simp [find]; done)))))) ?_
  simp only [planned, tailed, List.filterMap_cons, List.filterMap_nil, List.getElem?_cons_zero, List.getElem?_cons_succ, Option.map_some]
  repeat' (first | apply am_nil | refine m_skip ?_ | refine n_skip ?_ | (apply at_mcall; refine m_clocall2 [(1002, 2)] (c0) hE ?_; rintro _ _ ⟨rfl, rfl⟩; clear c0 <;> (intro _ _ h1 h2; simp only [renEqs, Nat.reduceBEq, renL_app, renL_ds, renL_und] at h1 h2; subst h1 h2; (try dsimp only [flatV, flat, D.plain, D.plainL]))) | (apply at_mcall; refine m_clocall2 [(1002, 2)] (c1) hE ?_; rintro _ _ ⟨rfl, rfl⟩ <;> (intro _ _ h1 h2; simp only [renEqs, Nat.reduceBEq, renL_app, renL_ds, renL_und] at h1 h2; subst h1 h2; (try dsimp only [flatV, flat, D.plain, D.plainL]))) | (apply qm_move; refine m_move ?_) | (apply qm_add; refine m_add ?_) | (apply qm_load; refine m_load ?_) | (apply qm_faddr; refine m_faddr ?_) | (refine am_split rfl rfl (fun hb => ?_) (fun hb => ?_) <;> ((try have hq := dX hb); (try (exfalso; omega)))))
  repeat' (first | refine nx ?_ | (apply aq_block_y; decide) | (apply qr_move; refine r_move ?_) | (apply qr_assign; refine r_assign ?_) | (apply at_cond; first | refine c_t ?_ | refine c_f ?_ | (refine aw_cond rfl (fun hb => ?_) (fun hb => ?_) <;> ((try have hq := dX hb); (try (exfalso; omega))))) | (apply qr_add; refine r_add ?_) | (apply qr_load; refine r_load ?_) | (apply qr_faddr; refine r_faddr ?_))
  refine rt1 ?_
  rfl
end Go.Proofs.YtedoeogopmenpaaGreatDoor
end
section
set_option linter.unusedSimpArgs false
set_option linter.unusedVariables false
namespace Go.Proofs.YtedoeogopmenpaaGreatDoor
open Go.RowKit
theorem show_in {d : Nat} (hd : d ≤ 12) (ih : ShowC d) (e : Ex) (f : Nat) (hr : e.right (d + 1) = true) (ht : e.tame) (hf : f ≤ formV e.op) : PureC 55 [.agg (exC e), .int f] (· = .str (e.text 0)) := by
 have hfm := form_any e
 rcases right_shape hr with ⟨n, u, rfl, hn⟩ | ⟨op, s, ho, rfl, hv⟩ | ⟨x, rfl, hx⟩ | ⟨x, y, z, rfl, hx, hy, hz⟩ | ⟨op, x, y, ho, rfl, hx, hy⟩ | ⟨op, x, y, t, g, ho, rfl, hx, hy⟩
 ·exact show_num n u hn f _ hf hfm
 ·exact show_leaf op ho s ht.1 f _ hf hfm
 ·exact show_not hd ih x ht hx f _ hf hfm
 ·exact show_if hd ih x y z ht hx hy hz f _ hf hfm
 ·exact show_call hd ih op ho x y ht hx hy f _ hf hfm
 ·exact show_op hd ih op t g ho x y ht hx hy f _ hf hfm
theorem show_any : ∀ d : Nat, d ≤ 12 → ShowC d
 | 0, _, e, f, hr, _, _ => by rw [right_zero] at hr; cases hr
 | d + 1, hd, e, f, hr, ht, hf7 => by
  have ih := show_any d (by omega)
  by_cases hf : f ≤ formV e.op
  ·rw [text_in hf]
   exact show_in (by omega) ih e f hr ht hf
  ·have hc : PureC 55 [.agg (exC e), .int 0] (· = .str (e.text 0)) := show_in (by omega) ih e 0 hr ht (Nat.zero_le _)
   have hfm := form_any e
   have hz := text_small hd hr ht 0
   rw [text_par hr (by omega)]
   have l1 : ByteArray.size ⟨#[40, 32]⟩ = 2 := rfl
   have l2 : ByteArray.size ⟨#[32, 41]⟩ = 2 := rfl
   have s1 := app_size ⟨#[40, 32]⟩ (e.text 0)
   generalize formV e.op = fm at hf hfm
   have q0 : decide ((fm : Int) < f) = true := decide_eq_true (by omega)
   refine pure_enter Tryz.func55 rfl (by decide) _ Tryz.ntmps55 (le_ok rfl) (fun w Pr hE => ?_)
   dsimp only [slotsOf, Nat.zero_add, Nat.reduceAdd]
   repeat' (first | (apply at_call; refine k_call (hfm) hE ?_; rintro _ rfl) | (apply at_call; refine k_call (hc) hE ?_; rintro _ rfl) | refine nx ?_ | (apply aq_block_y; decide) | (apply qr_move; refine r_move ?_) | (apply qr_assign; refine r_assign ?_) | (apply at_cond; first | refine c_t ?_ | refine c_f ?_ | (refine aw_cond rfl (fun hb => ?_) (fun hb => ?_) <;> ((try have hq := dX hb); (try (exfalso; omega))))) | (apply qr_lss; refine r_lss ?_) | (apply qr_add; refine r_add ?_) | (apply qr_load; refine r_load ?_) | (apply qr_boxed; refine r_boxed ?_))
   refine rt1 ?_
   rfl
def fitsD (s : ByteArray) : D := if 4000 < s.size then .tup [.str ⟨#[]⟩, .int 6] else .tup [.str s, .int 0]
def printED (e : Ex) : D := if e.right 12 = true then fitsD (e.text 0) else .tup [.str ⟨#[]⟩, .int 1]
theorem fits_any (s : ByteArray) : PureC 57 [.str s] (· = fitsD s) := by
 unfold fitsD
 by_cases h : 4000 < s.size
 ·rw [if_pos h]
  have q0 : decide ((4000 : Int) < s.size) = true := decide_eq_true (by omega)
  refine pure_enter Tryz.func57 rfl (by decide) _ Tryz.ntmps57 (le_ok rfl) (fun w Pr hE => ?_)
  dsimp only [slotsOf, Nat.zero_add, Nat.reduceAdd]
  repeat' (first | refine nx ?_ | (apply qr_move; refine r_move ?_) | (apply qr_assign; refine r_assign ?_) | (apply at_cond; first | refine c_t ?_ | refine c_f ?_ | (refine aw_cond rfl (fun hb => ?_) (fun hb => ?_) <;> ((try have hq := dX hb); (try (exfalso; omega))))) | (apply qr_gtr; refine r_gtr ?_) | (apply qr_len; refine r_len ?_))
  refine ret_two (by rfl) (by first | exact ToD.d _ | exact ToD.row _ _ _ _ _ rfl) (by first | exact ToD.d _ | exact ToD.row _ _ _ _ _ rfl) ?_
  rfl
 ·rw [if_neg h]
  have q0 : decide ((4000 : Int) < s.size) = false := decide_eq_false (by omega)
  refine pure_enter Tryz.func57 rfl (by decide) _ Tryz.ntmps57 (le_ok rfl) (fun w Pr hE => ?_)
  dsimp only [slotsOf, Nat.zero_add, Nat.reduceAdd]
  repeat' (first | refine nx ?_ | (apply qr_move; refine r_move ?_) | (apply qr_assign; refine r_assign ?_) | (apply at_cond; first | refine c_t ?_ | refine c_f ?_ | (refine aw_cond rfl (fun hb => ?_) (fun hb => ?_) <;> ((try have hq := dX hb); (try (exfalso; omega))))) | (apply qr_gtr; refine r_gtr ?_) | (apply qr_len; refine r_len ?_))
  refine ret_two (by rfl) (by first | exact ToD.d _ | exact ToD.row _ _ _ _ _ rfl) (by first | exact ToD.d _ | exact ToD.row _ _ _ _ _ rfl) ?_
  rfl
theorem fitsD_form (s : ByteArray) : ∃ t n, fitsD s = .tup [.str t, .int n] := by
 unfold fitsD
 split <;> exact ⟨_, _, rfl⟩
theorem printE_any (e : Ex) (ht : e.tame) : PureC 20 [.agg (exC e)] (· = printED e) := by
 have hr := rightExp_any e ht
 unfold printED
 cases hx : e.right 12
 ·rw [if_neg (by simp)]
  rw [hx] at hr
  refine pure_enter Tryz.func20 rfl (by decide) _ Tryz.ntmps20 (le_ok rfl) (fun w Pr hE => ?_)
  dsimp only [slotsOf, Nat.zero_add, Nat.reduceAdd]
  repeat' (first | (apply at_call; refine k_call (hr) hE ?_; rintro _ rfl) | refine nx ?_ | (apply qr_assign; refine r_assign ?_) | (apply at_cond; first | refine c_t ?_ | refine c_f ?_ | (refine aw_cond rfl (fun hb => ?_) (fun hb => ?_) <;> ((try have hq := dX hb); (try (exfalso; omega))))) | (apply qr_not; refine r_not ?_) | (apply qr_load; refine r_load ?_) | (apply qr_boxed; refine r_boxed ?_))
  refine ret_two (by rfl) (by first | exact ToD.d _ | exact ToD.row _ _ _ _ _ rfl) (by first | exact ToD.d _ | exact ToD.row _ _ _ _ _ rfl) ?_
  rfl
 ·rw [if_pos rfl]
  rw [hx] at hr
  have hs := show_any 12 (by omega) e 0 hx ht (by omega)
  have hf := fits_any (e.text 0)
  obtain ⟨t, n, hfe⟩ := fitsD_form (e.text 0)
  rw [hfe] at hf ⊢
  refine pure_enter Tryz.func20 rfl (by decide) _ Tryz.ntmps20 (le_ok rfl) (fun w Pr hE => ?_)
  dsimp only [slotsOf, Nat.zero_add, Nat.reduceAdd]
  repeat' (first | (apply at_call; refine k_call (hr) hE ?_; rintro _ rfl) | (apply at_call; refine k_call (hs) hE ?_; rintro _ rfl) | (apply at_call; refine k_call (hf) hE ?_; rintro _ rfl) | refine nx ?_ | (apply qr_assign; refine r_assign ?_) | (apply at_cond; first | refine c_t ?_ | refine c_f ?_ | (refine aw_cond rfl (fun hb => ?_) (fun hb => ?_) <;> ((try have hq := dX hb); (try (exfalso; omega))))) | (apply qr_not; refine r_not ?_) | (apply qr_extract; refine r_extract ?_) | (apply qr_load; refine r_load ?_) | (apply qr_boxed; refine r_boxed ?_))
  refine ret_two (by rfl) (by first | exact ToD.d _ | exact ToD.row _ _ _ _ _ rfl) (by first | exact ToD.d _ | exact ToD.row _ _ _ _ _ rfl) ?_
  rfl
def wordV (op : Int) : ByteArray := if op = 15 then w_if else if op = 12 then w_not else if op = 8 then w_min else if op = 9 then w_max else match opInfo op with
 | some (t, _) => t.s
 | none => ⟨#[]⟩
end Go.Proofs.YtedoeogopmenpaaGreatDoor
end
section
set_option linter.unusedSimpArgs false
set_option linter.unusedVariables false
namespace Go.Proofs.YtedoeogopmenpaaGreatDoor
open Go.RowKit
abbrev RShowC (d : Nat) : Prop := ∀ (e : Ex) (f : Nat), e.right d = true → e.tame → f ≤ 7 → PureC 60 [.agg (exC e), .int f] (· = .str (e.text f))
section
variable {d : Nat}
end
end Go.Proofs.YtedoeogopmenpaaGreatDoor
end
section
set_option linter.unusedSimpArgs false
set_option linter.unusedVariables false
namespace Go.Proofs.YtedoeogopmenpaaGreatDoor
open Go.RowKit
mutual
def Ex.same : Ex → Ex → Bool
 | .mk o n u s a, .mk o' n' u' s' a' => decide (o = o') && (decide (n = n') && (decide (u = u') && (decide (s = s') && Ex.sameL a a')))
def Ex.sameL : List Ex → List Ex → Bool
 | [], [] => true
 | x :: r, y :: t => x.same y && Ex.sameL r t
 | [], _ :: _ => false
 | _ :: _, [] => false
end
mutual
theorem same_iff : ∀ a b : Ex, a.same b = true ↔ a = b
 | .mk o n u s a, .mk o' n' u' s' a' => by
  simp only [Ex.same, Bool.and_eq_true, decide_eq_true_eq, sameL_iff a a', Ex.mk.injEq]
theorem sameL_iff : ∀ a b : List Ex, Ex.sameL a b = true ↔ a = b
 | [], [] => by simp [Ex.sameL]
 | x :: r, y :: t => by simp only [Ex.sameL, Bool.and_eq_true, same_iff x y, sameL_iff r t, List.cons.injEq]
 | [], _ :: _ => by simp [Ex.sameL]
 | _ :: _, [] => by simp [Ex.sameL]
end
theorem same_eq (a b : Ex) : a.same b = (decide (a.op = b.op) && (decide (a.num = b.num) && (decide (a.unit = b.unit) && (decide (a.str = b.str) && Ex.sameL a.args b.args)))) := by
 cases a
 cases b
 rfl
theorem sameL_len {a b : List Ex} (h : a.length ≠ b.length) : Ex.sameL a b = false := by
 rw [Bool.eq_false_iff, Ne, sameL_iff]
 rintro rfl
 exact h rfl
theorem sameL_no {a b : List Ex} {i : Nat} (ha : i < a.length) (hb : i < b.length) (h : a[i].same b[i] = false) : Ex.sameL a b = false := by
 rw [Bool.eq_false_iff, Ne, sameL_iff]
 rintro rfl
 have := (same_iff a[i] a[i]).2 rfl
 rw [h] at this
 cases this
theorem sameL_yes {a b : List Ex} (hl : a.length = b.length) (h : ∀ (i : Nat) (ha : i < a.length) (hb : i < b.length), a[i].same b[i] = true) : Ex.sameL a b = true := by
 rw [sameL_iff]
 apply List.ext_getElem hl
 intro i h1 h2
 exact (same_iff _ _).1 (h i h1 h2)
abbrev SameC (n : Nat) (f : FuncId) : Prop := ∀ a b : Ex, a.levels ≤ n → a.tame → b.tame → PureC f [.agg (exC a), .agg (exC b)] (· = .bool (a.same b))
theorem equal_exps {n : Nat} (ih : SameC n 27) (a b : List Ex) (ha : ∀ x ∈ a, Ex.levels x ≤ n) (ta : ∀ x ∈ a, Ex.tame x) (tb : ∀ x ∈ b, Ex.tame x) (la : a.length ≤ 100000) (lb : b.length ≤ 100000) : PureC 72 [.list 5 (Ex.rows a), .list 5 (Ex.rows b), .val (.func (.func 27) #[] #[])] (· = .bool (Ex.sameL a b)) := by
 have hla := rows_len a
 have hlb := rows_len b
 by_cases hl : a.length = b.length
 ·have q0 : (!decide (((Ex.rows a).length : Int) = (Ex.rows b).length)) = false := by simp [hla, hlb, hl]
  refine pure_enter Tryz.func72 rfl (by decide) _ Tryz.ntmps72 (le_ok rfl) (fun w Pr hE => ?_)
  dsimp only [slotsOf, Nat.zero_add, Nat.reduceAdd]
  repeat' (first | refine nx ?_ | (apply aq_block_y; decide) | (apply qr_move; refine r_move ?_) | (apply qr_assign; refine r_assign ?_) | (apply at_cond; first | refine c_t ?_ | refine c_f ?_ | (refine aw_cond rfl (fun hb => ?_) (fun hb => ?_) <;> ((try have hq := dX hb); (try (exfalso; omega))))) | (apply qr_neq; refine r_neq ?_) | (apply qr_len; refine r_len ?_))
  refine aw_lp (fun N sl ob => ∃ i : Nat, N = a.length - i ∧ i ≤ a.length ∧ (∀ (j : Nat) (ha : j < a.length) (hb : j < b.length), j < i → a[j].same b[j] = true) ∧ sl = [(17, .d (.int i)), (16, .d (.int (Ex.rows a).length)), (15, .d (.list 5 (Ex.rows a))), (2, .d (.val (.func (.func 27) #[] #[]))), (1, .d (.list 5 (Ex.rows b)))] ∧ ob = []) (⟨0, rfl, Nat.zero_le _, fun j _ _ h => by omega, rfl, rfl⟩) ?_
  rintro N sl ob ⟨i, rfl, hi, hs, rfl, rfl⟩
  by_cases hlt : i < a.length
  ·have hlt2 : i < b.length := by omega
   have hg1 := rows_get hlt
   have hg2 := rows_get hlt2
   have hc := ih a[i] b[i] (ha _ (List.getElem_mem hlt)) (ta _ (List.getElem_mem hlt)) (tb _ (List.getElem_mem hlt2))
   have q : decide ((i : Int) < (Ex.rows a).length) = true := decide_eq_true (by omega)
   cases hT : a[i].same b[i]
   ·rw [sameL_no hlt hlt2 hT]
    rw [hT] at hc
    generalize a[i] = x at hg1 hc
    generalize b[i] = y at hg2 hc
    repeat' (first | (apply at_op (.indexAddr _ _ _); refine al_ixq hg1 ?_; clear hg1) | (apply at_op (.indexAddr _ _ _); refine al_ixq hg2 ?_) | (apply at_call; refine k_call (hc) hE ?_; rintro _ rfl) | refine nx ?_ | (apply aq_block_y; decide) | (apply qr_move; refine r_move ?_) | (apply qr_assign; refine r_assign ?_) | (apply at_cond; first | refine c_t ?_ | refine c_f ?_ | (refine aw_cond rfl (fun hb => ?_) (fun hb => ?_) <;> ((try have hq := dX hb); (try (exfalso; omega))))) | (apply qr_lss; refine r_lss ?_) | (apply qr_not; refine r_not ?_) | (apply qr_ix; refine r_ix ?_) | (apply qr_load; refine r_load ?_) | (apply qr_alloc; refine r_alloc ?_) | (apply qr_store; refine r_store ?_))
    refine rt1 ?_
    rfl
   ·have hnext : ∀ (j : Nat) (ha : j < a.length) (hb : j < b.length), j < i + 1 → a[j].same b[j] = true := fun j h1 h2 h3 => by
     rcases Nat.lt_succ_iff_lt_or_eq.1 h3 with h | rfl
     ·exact hs j h1 h2 h
     ·exact hT
    rw [hT] at hc
    generalize a[i] = x at hg1 hc
    generalize b[i] = y at hg2 hc
    repeat' (first | (apply at_op (.indexAddr _ _ _); refine al_ixq hg1 ?_; clear hg1) | (apply at_op (.indexAddr _ _ _); refine al_ixq hg2 ?_) | (apply at_call; refine k_call (hc) hE ?_; rintro _ rfl) | refine nx ?_ | (apply aq_block_y; decide) | (apply qr_move; refine r_move ?_) | (apply qr_assign; refine r_assign ?_) | (apply at_cond; first | refine c_t ?_ | refine c_f ?_ | (refine aw_cond rfl (fun hb => ?_) (fun hb => ?_) <;> ((try have hq := dX hb); (try (exfalso; omega))))) | (apply qr_lss; refine r_lss ?_) | (apply qr_add; refine r_add ?_) | (apply qr_not; refine r_not ?_) | (apply qr_ix; refine r_ix ?_) | (apply qr_load; refine r_load ?_) | (apply qr_alloc; refine r_alloc ?_) | (apply qr_store; refine r_store ?_))
    refine aq_rd (⟨i + 1, rfl, by omega, hnext, rfl, rfl⟩) (by omega)
  ·rw [sameL_yes hl (fun j h1 h2 => hs j h1 h2 (by omega))]
   have q : decide ((i : Int) < (Ex.rows a).length) = false := decide_eq_false (by omega)
   repeat' (first | refine nx ?_ | (apply aq_block_y; decide) | (apply qr_assign; refine r_assign ?_) | (apply at_cond; first | refine c_t ?_ | refine c_f ?_ | (refine aw_cond rfl (fun hb => ?_) (fun hb => ?_) <;> ((try have hq := dX hb); (try (exfalso; omega))))) | (apply qr_lss; refine r_lss ?_))
   refine rt1 ?_
   rfl
 ·rw [sameL_len hl]
  have q0 : (!decide (((Ex.rows a).length : Int) = (Ex.rows b).length)) = true := by
   have : ¬ (a.length : Int) = b.length := by omega
   simp [hla, hlb, this]
  refine pure_enter Tryz.func72 rfl (by decide) _ Tryz.ntmps72 (le_ok rfl) (fun w Pr hE => ?_)
  dsimp only [slotsOf, Nat.zero_add, Nat.reduceAdd]
  repeat' (first | refine nx ?_ | (apply aq_block_y; decide) | (apply qr_move; refine r_move ?_) | (apply qr_assign; refine r_assign ?_) | (apply at_cond; first | refine c_t ?_ | refine c_f ?_ | (refine aw_cond rfl (fun hb => ?_) (fun hb => ?_) <;> ((try have hq := dX hb); (try (exfalso; omega))))) | (apply qr_neq; refine r_neq ?_) | (apply qr_len; refine r_len ?_))
  refine rt1 ?_
  rfl
end Go.Proofs.YtedoeogopmenpaaGreatDoor
end
