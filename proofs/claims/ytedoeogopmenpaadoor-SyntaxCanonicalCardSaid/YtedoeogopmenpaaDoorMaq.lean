/-
  Conditions: none.
-/
import Derived.Lib.Join
import Derived.Test.YtedoeogopmenpaaDoorMap
set_option maxHeartbeats 16000000
set_option maxRecDepth 20000
section
set_option linter.unusedSimpArgs false
set_option linter.unusedVariables false
namespace Go.Proofs.YtedoeogopmenpaaDoor
open Go.RowKit
structure By where
 name : ByteArray
 lets : List (ByteArray × Ex)
 admit : Ex
 fare : Ex
 late : Ex
 noshow : Ex
 quota : Int
 share : Int
 change : Int
def Ex.zero : Ex := .mk 0 0 0 ⟨#[]⟩ []
def By.zero : By := ⟨⟨#[]⟩, [], Ex.zero, Ex.zero, Ex.zero, Ex.zero, 0, 0, 0⟩
def partsP : List ByteArray → List Ex → List Tok → Rd (List Ex)
 | [], es, l => .ok es l
 | w :: ws, es, l => (want l w).then fun _ l => (wholeP w_semi l).then fun e l => partsP ws (es ++ [e]) l
theorem partsP_cons {β : Type} (w : ByteArray) (ws : List ByteArray) (es : List Ex) (l : List Tok) (K : List Ex → List Tok → Rd β) : (partsP (w :: ws) es l).then K = (want l w).then fun _ l => (wholeP w_semi l).then fun e l => (partsP ws (es ++ [e]) l).then K := by
 simp only [partsP, then_then]
def mkBy (nm : ByteArray) (ls : List (ByteArray × Ex)) (es : List Ex) (q s c : Int) : By := ⟨nm, ls, es.getD 0 Ex.zero, es.getD 1 Ex.zero, es.getD 2 Ex.zero, es.getD 3 Ex.zero, q, s, c⟩
def lastP (x : By) (l : List Tok) : Rd By := if (nxt l).k = 3 then .ok x l else .bad (nxt l).p 12
def numsP (nm : ByteArray) (ls : List (ByteArray × Ex)) (es : List Ex) (l : List Tok) : Rd By :=
 (partP w_quota 0 1000 l).then fun q l => (partP w_share 0 1000 l).then fun s l => (partP w_change 1 1000 l).then fun c l => lastP (mkBy nm ls es q s c) l
abbrev wsL : List ByteArray := [w_admit, w_fare, w_late, w_noshow]
def bylawsP (l : List Tok) : Rd By :=
 (want l w_bylaws).then fun _ l => (nameP nameV l).then fun nm l => (want l w_semi).then fun _ l => (letsP (l.length + 1) [] l).then fun ls l => (partsP wsL [] l).then fun es l => numsP nm ls es l
abbrev byC (x : By) : List D := [.str x.name, .list 6 (x.lets.map letC), .int x.admit.op, .int x.admit.num, .int x.admit.unit, .str x.admit.str, .list 5 (Ex.rows x.admit.args), .int x.fare.op, .int x.fare.num, .int x.fare.unit, .str x.fare.str, .list 5 (Ex.rows x.fare.args), .int x.late.op, .int x.late.num, .int x.late.unit, .str x.late.str, .list 5 (Ex.rows x.late.args), .int x.noshow.op, .int x.noshow.num, .int x.noshow.unit, .str x.noshow.str, .list 5 (Ex.rows x.noshow.args), .int x.quota, .int x.share, .int x.change]
theorem letsP_suf : ∀ (k : Nat) (ls : List (ByteArray × Ex)) (l : List Tok) {r : List (ByteArray × Ex)} {t : List Tok}, letsP k ls l = .ok r t → Suf l t
 | 0, ls, l, r, t, h => by cases h; exact .refl _
 | k + 1, ls, l, r, t, h => by
  simp only [letsP] at h
  split at h
  ·rename_i hT
   split at h
   ·obtain ⟨s, u1, h1, g1⟩ := then_less h
    obtain ⟨_, u2, h2, g2⟩ := then_less g1
    obtain ⟨e, u3, h3, g3⟩ := then_less g2
    exact (suf_is hT).trans ((freshP_suf h1).trans ((suf_want h2).trans ((wholeP_suf h3).trans (letsP_suf k _ _ g3))))
   ·cases h
  ·cases h
   exact .refl _
theorem partP_suf {w : ByteArray} {a b n : Int} {l t : List Tok} (h : partP w a b l = .ok n t) : Suf l t := by
 obtain ⟨_, u1, h1, g1⟩ := then_less h
 obtain ⟨m, u2, h2, g2⟩ := then_less g1
 obtain ⟨_, u3, h3, g3⟩ := then_less g2
 cases g3
 exact (suf_want h1).trans ((numP_suf h2).trans (suf_want h3))
abbrev exV (e : Ex) : List V := [.d (.int e.op), .d (.int e.num), .d (.int e.unit), .d (.str e.str), .d (.list 5 (Ex.rows e.args))]
def fillV : List Ex → List V
 | [] => expZ ++ (expZ ++ (expZ ++ expZ))
 | [a] => exV a ++ (expZ ++ (expZ ++ expZ))
 | [a, b] => exV a ++ (exV b ++ (expZ ++ expZ))
 | [a, b, c] => exV a ++ (exV b ++ (exV c ++ expZ))
 | a :: b :: c :: d :: _ => exV a ++ (exV b ++ (exV c ++ exV d))
abbrev byB (nm : ByteArray) (r k : Nat) (cells : List V) : O := .box 28 (.d (.str nm) :: .row r k :: (cells ++ [.d (.int 0), .d (.int 0), .d (.int 0)]))
abbrev prtB : O := .box 93 [.d (.str w_admit), .box 3 2, .d (.str w_fare), .box 3 7, .d (.str w_late), .box 3 12, .d (.str w_noshow), .box 3 17]
abbrev zeroBy : O := .box 28 (.d (.str ⟨#[]⟩) :: .d (.val (.slice none 0 0)) :: (fillV [] ++ [.d (.int 0), .d (.int 0), .d (.int 0)]))
abbrev byO (R : Rd By) (L : List Tok) : V → Objs → Prop := Out R (fun x => .d (.agg (byC x))) (psr L)
section
variable {L l : List Tok}
theorem pbylaws (r0 : Rdy L l) (x0 : Texts l) : ObP 21 [.box 1000 0] (psr L l) [] (byO (bylawsP l) L) (Bads (bylawsP l)) := by
 obtain ⟨R, hR⟩ : ∃ R, R = bylawsP l := ⟨_, rfl⟩
 rw [← hR]
 unfold bylawsP at hR
 have hw1 := pwant r0 w_bylaws
 refine obp_enter Tryd.func21 rfl (by decide) _ Tryd.ntmps21 (le_ok rfl) rfl (fun w Pr β κ hE => ?_)
 dsimp only [slotsV, Nat.zero_add, Nat.reduceAdd]
 repeat' (first | refine nx ?_ | apply aq_pq | (apply aq_block_y; decide) | (apply at_cond; first | refine c_t ?_ | refine c_f ?_ | (refine aw_cond rfl (fun hb => ?_) (fun hb => ?_) <;> ((try have hq := dX hb); (try (exfalso; omega))))) | (apply qr_alloc; refine r_alloc ?_))
 refine al_adoptb 3 1 50 58 6 rfl rfl rfl (lt_ok rfl) rfl rfl ?_
 repeat' (first | (apply at_call; refine k_pcall [(1000, 1000)] (hw1) hE (fun v hv => by (repeat (first | with_reducible refine ap_block ?_ | with_reducible refine ap_then ?_)); exact ap_body (bads_then hR hv)) ?_; rintro _ _ ⟨_, u1, hx1, rfl, rfl⟩; rw [hx1, then_ok] at hR; have r1 := r0.to (suf_want hx1); have x1 := x0.suf (suf_want hx1); have hnm := pname r1 x1 <;> (intro _ _ h1 h2; simp only [renEqs, Nat.reduceBEq, renL_app, renL_ds, renL_und] at h1 h2; subst h1 h2)) | (apply at_call; refine k_pcall [(1000, 1000)] (hnm) hE (fun v hv => by (repeat (first | with_reducible refine ap_block ?_ | with_reducible refine ap_then ?_)); exact ap_body (bads_then hR hv)) ?_; rintro _ _ ⟨nm, u2, hx2, rfl, rfl⟩; rw [hx2, then_ok] at hR; have r2 := r1.to (suf_name hx2); have x2 := x1.suf (suf_name hx2); have hw2 := pwant r2 w_semi <;> (intro _ _ h1 h2; simp only [renEqs, Nat.reduceBEq, renL_app, renL_ds, renL_und] at h1 h2; subst h1 h2)) | (apply at_call; refine k_pcall [(1000, 1000)] (hw2) hE (fun v hv => by (repeat (first | with_reducible refine ap_block ?_ | with_reducible refine ap_then ?_)); exact ap_body (bads_then hR hv)) ?_; rintro _ _ ⟨_, u3, hx3, rfl, rfl⟩; rw [hx3, then_ok] at hR; have r3 := r2.to (suf_want hx3); have x3 := x2.suf (suf_want hx3); have hls := plets r3 x3 nm <;> (intro _ _ h1 h2; simp only [renEqs, Nat.reduceBEq, renL_app, renL_ds, renL_und] at h1 h2; subst h1 h2)) | (apply at_call; refine k_pcall [(1000, 1000), (1001, 3), (1002, 50)] (hls) hE (fun v hv => by (repeat (first | with_reducible refine ap_block ?_ | with_reducible refine ap_then ?_)); exact ap_body (bads_then hR hv)) ?_; rintro _ _ ⟨ls, u4, k, hx4, rfl, rfl, hls20⟩; rw [hx4, then_ok] at hR; have r4 := r3.to (letsP_suf _ _ _ hx4); have x4 := x3.suf (letsP_suf _ _ _ hx4) <;> (intro _ _ h1 h2; simp only [renEqs, Nat.reduceBEq, renL_app, renL_ds, renL_und] at h1 h2; subst h1 h2)) | (apply at_op (.build _ _); refine al_y (y_buildS rfl (by repeat (first | exact PartsS.nil | (apply PartsS.cons; rfl; constructor; rfl))) rfl rfl) (lt_ok rfl) ?_) | (apply at_op (.buildSlice _ _ _); refine al_step (st_lit4 rfl rfl rfl rfl rfl (lt_ok rfl) rfl rfl) rfl ?_) | refine nx ?_ | apply aq_pq | (apply aq_block_y; decide) | (apply qr_move; refine r_move ?_) | (apply at_cond; first | refine c_t ?_ | refine c_f ?_ | (refine aw_cond rfl (fun hb => ?_) (fun hb => ?_) <;> ((try have hq := dX hb); (try (exfalso; omega))))) | (apply qr_len; refine r_len ?_) | (apply qr_faddr; refine r_faddr ?_) | (apply qr_store; refine r_store ?_) | (apply qr_build; refine r_build ?_) | (apply qr_lits; refine r_lits ?_))
 clear hw1 hnm hw2 hls hx1 hx2 hx3 hx4
 refine aw_lp (fun N sl ob => ∃ (i : Nat) (es : List Ex) (t : List Tok) (k : Nat), N = 4 - i ∧ es.length = i ∧ i ≤ 4 ∧ Rdy L t ∧ Texts t ∧ R = (partsP (wsL.drop i) es t).then (fun es l => numsP nm ls es l) ∧ sl = [(27, .d (.int i)), (26, .d (.int 4)), (25, .sl 25 0 4), (3, .box 3 0), (2, .box 2 0), (0, .box 1000 0)] ∧ ob = [(25, prtB), (3, byB nm 50 k (fillV es)), (2, zeroBy), (50, letR k ls), (1000, psB L (atN L t))]) (⟨0, [], u4, k, rfl, rfl, by omega, r4, x4, hR, rfl, rfl⟩) ?_
 clear hR r4 x4 r3 x3 r2 x2 r1 x1
 rintro N sl ob ⟨i, es, t, k, rfl, hes, hi, r1, x1, hR, rfl, rfl⟩
 rcases (by omega : i = 0 ∨ i = 1 ∨ i = 2 ∨ i = 3 ∨ i = 4) with rfl | rfl | rfl | rfl | rfl
 ·match es, hes with
  | [], _ =>
   rw [show List.drop 0 wsL = w_admit :: List.drop 1 wsL from rfl, partsP_cons] at hR
   have hw1 := pwant r1 w_admit
   simp only [fillV, List.cons_append, List.nil_append]
   repeat' (first | (apply at_op (.indexAddr _ _ _); refine al_y (y_slix rfl rfl rfl (by first | with_reducible rfl | exact lit0 | exact lit1 | exact lit2 | exact lit3 | exact lit4 | exact int_s _ | exact int_p _ _ | exact int_nat _ (by omega)) (by omega) rfl) (lt_ok rfl) ?_) | (apply at_op (.load _ _); refine al_y (y_bloadV rfl rfl rfl rfl rfl (by decide)) (lt_ok rfl) ?_) | (apply at_op (.store _ _ _); refine al_step (st_store rfl rfl (ev_agg rfl) nofun (by first | (simp only [normV, normList, normMap]; rfl) | rfl) (by simp [V.one, Value.oneCell']) (.inr rfl) rfl (le_ok rfl) (by first | (simp only [normV, normList, normMap]; rfl) | rfl)) rfl ?_) | (apply at_call; refine k_pcall [(1000, 1000)] (hw1) hE (fun v hv => by (repeat (first | with_reducible refine ap_block ?_ | with_reducible refine ap_then ?_)); exact ap_body (bads_then hR hv)) ?_; rintro _ _ ⟨_, u1, hx1, rfl, rfl⟩; rw [hx1, then_ok] at hR; have r2 := r1.to (suf_want hx1); have x2 := x1.suf (suf_want hx1); have hwh := pwhole r2 x2 w_semi <;> (intro _ _ h1 h2; simp only [renEqs, Nat.reduceBEq, renL_app, renL_ds, renL_und] at h1 h2; subst h1 h2)) | refine nx ?_ | apply aq_pq | (apply aq_block_y; decide) | (apply qr_move; refine r_move ?_) | (apply at_cond; first | refine c_t ?_ | refine c_f ?_ | (refine aw_cond rfl (fun hb => ?_) (fun hb => ?_) <;> ((try have hq := dX hb); (try (exfalso; omega))))) | (apply qr_lss; refine r_lss ?_) | (apply qr_ix; refine r_ix ?_) | (apply qr_load; refine r_load ?_) | (apply qr_faddr; refine r_faddr ?_) | (apply qr_alloc; refine r_alloc ?_) | (apply qr_store; refine r_store ?_) | (apply qr_lits; refine r_lits ?_))
   refine aw_mixp (Bads _) ([(5, .box 93 [.d (.str w_admit), .box 3 2])]) [(0, true), (1, true), (2, true), (3, false)] [4, 5] (by kernel_rfl) (by kernel_rfl) (by kernel_rfl) (by decide) (by (repeat (first | exact obs_nil | (apply obs_cons; focus (first | rfl | (simp [find]; done)))))) (fun v hv => by (repeat (first | with_reducible refine ap_block ?_ | with_reducible refine ap_then ?_)); exact ap_body hv) ?_
   simp only [planned, tailed, List.filterMap_cons, List.filterMap_nil, List.getElem?_cons_zero, List.getElem?_cons_succ, Option.map_some]
   repeat' (first | apply am_nil | refine m_skip ?_ | refine n_skip ?_ | (apply at_mcall; refine m_pcall [(1000, 1000)] (hwh) hE (fun v hv => ap_panq (bads_then hR hv)) ?_; rintro _ _ ⟨e, u2, hx2, rfl, rfl⟩; rw [hx2, then_ok] at hR; have r3 := r2.to (wholeP_suf hx2); have x3 := x2.suf (wholeP_suf hx2) <;> (intro _ _ h1 h2; simp only [renEqs, Nat.reduceBEq, renL_app, renL_ds, renL_und] at h1 h2; subst h1 h2; (try dsimp only [flatV, flat, D.plain, D.plainL]))) | (apply qm_move; refine m_move ?_) | (apply qm_load; refine m_load ?_) | (apply qm_faddr; refine m_faddr ?_) | (refine am_split rfl rfl (fun hb => ?_) (fun hb => ?_) <;> ((try have hq := dX hb); (try (exfalso; omega)))))
   repeat' (first | refine nx ?_ | apply aq_pq | (apply aq_block_y; decide) | (apply qr_move; refine r_move ?_) | (apply at_cond; first | refine c_t ?_ | refine c_f ?_ | (refine aw_cond rfl (fun hb => ?_) (fun hb => ?_) <;> ((try have hq := dX hb); (try (exfalso; omega))))) | (apply qr_add; refine r_add ?_) | (apply qr_load; refine r_load ?_) | (apply qr_faddr; refine r_faddr ?_) | (apply qr_nilck; refine r_nilck ?_) | (apply qr_store; refine r_store ?_))
   refine aq_rd (⟨1, [e], u2, k, rfl, rfl, by omega, r3, x3, hR, rfl, rfl⟩) (by omega)
 ·match es, hes with
  | [a], _ =>
   rw [show List.drop 1 wsL = w_fare :: List.drop 2 wsL from rfl, partsP_cons] at hR
   have hw1 := pwant r1 w_fare
   simp only [fillV, List.cons_append, List.nil_append]
   repeat' (first | (apply at_op (.indexAddr _ _ _); refine al_y (y_slix rfl rfl rfl (by first | with_reducible rfl | exact lit0 | exact lit1 | exact lit2 | exact lit3 | exact lit4 | exact int_s _ | exact int_p _ _ | exact int_nat _ (by omega)) (by omega) rfl) (lt_ok rfl) ?_) | (apply at_op (.load _ _); refine al_y (y_bloadV rfl rfl rfl rfl rfl (by decide)) (lt_ok rfl) ?_) | (apply at_op (.store _ _ _); refine al_step (st_store rfl rfl (ev_agg rfl) nofun (by first | (simp only [normV, normList, normMap]; rfl) | rfl) (by simp [V.one, Value.oneCell']) (.inr rfl) rfl (le_ok rfl) (by first | (simp only [normV, normList, normMap]; rfl) | rfl)) rfl ?_) | (apply at_call; refine k_pcall [(1000, 1000)] (hw1) hE (fun v hv => by (repeat (first | with_reducible refine ap_block ?_ | with_reducible refine ap_then ?_)); exact ap_body (bads_then hR hv)) ?_; rintro _ _ ⟨_, u1, hx1, rfl, rfl⟩; rw [hx1, then_ok] at hR; have r2 := r1.to (suf_want hx1); have x2 := x1.suf (suf_want hx1); have hwh := pwhole r2 x2 w_semi <;> (intro _ _ h1 h2; simp only [renEqs, Nat.reduceBEq, renL_app, renL_ds, renL_und] at h1 h2; subst h1 h2)) | refine nx ?_ | apply aq_pq | (apply aq_block_y; decide) | (apply qr_move; refine r_move ?_) | (apply at_cond; first | refine c_t ?_ | refine c_f ?_ | (refine aw_cond rfl (fun hb => ?_) (fun hb => ?_) <;> ((try have hq := dX hb); (try (exfalso; omega))))) | (apply qr_lss; refine r_lss ?_) | (apply qr_ix; refine r_ix ?_) | (apply qr_load; refine r_load ?_) | (apply qr_faddr; refine r_faddr ?_) | (apply qr_alloc; refine r_alloc ?_) | (apply qr_store; refine r_store ?_) | (apply qr_lits; refine r_lits ?_))
   refine aw_mixp (Bads _) ([(5, .box 93 [.d (.str w_fare), .box 3 7])]) [(0, true), (1, true), (2, true), (3, false)] [4, 5] (by kernel_rfl) (by kernel_rfl) (by kernel_rfl) (by decide) (by (repeat (first | exact obs_nil | (apply obs_cons; focus (first | rfl | (simp [find]; done)))))) (fun v hv => by (repeat (first | with_reducible refine ap_block ?_ | with_reducible refine ap_then ?_)); exact ap_body hv) ?_
   simp only [planned, tailed, List.filterMap_cons, List.filterMap_nil, List.getElem?_cons_zero, List.getElem?_cons_succ, Option.map_some]
   repeat' (first | apply am_nil | refine m_skip ?_ | refine n_skip ?_ | (apply at_mcall; refine m_pcall [(1000, 1000)] (hwh) hE (fun v hv => ap_panq (bads_then hR hv)) ?_; rintro _ _ ⟨e, u2, hx2, rfl, rfl⟩; rw [hx2, then_ok] at hR; have r3 := r2.to (wholeP_suf hx2); have x3 := x2.suf (wholeP_suf hx2) <;> (intro _ _ h1 h2; simp only [renEqs, Nat.reduceBEq, renL_app, renL_ds, renL_und] at h1 h2; subst h1 h2; (try dsimp only [flatV, flat, D.plain, D.plainL]))) | (apply qm_move; refine m_move ?_) | (apply qm_load; refine m_load ?_) | (apply qm_faddr; refine m_faddr ?_) | (refine am_split rfl rfl (fun hb => ?_) (fun hb => ?_) <;> ((try have hq := dX hb); (try (exfalso; omega)))))
   repeat' (first | refine nx ?_ | apply aq_pq | (apply aq_block_y; decide) | (apply qr_move; refine r_move ?_) | (apply at_cond; first | refine c_t ?_ | refine c_f ?_ | (refine aw_cond rfl (fun hb => ?_) (fun hb => ?_) <;> ((try have hq := dX hb); (try (exfalso; omega))))) | (apply qr_add; refine r_add ?_) | (apply qr_load; refine r_load ?_) | (apply qr_faddr; refine r_faddr ?_) | (apply qr_nilck; refine r_nilck ?_) | (apply qr_store; refine r_store ?_))
   refine aq_rd (⟨2, [a, e], u2, k, rfl, rfl, by omega, r3, x3, hR, rfl, rfl⟩) (by omega)
 ·match es, hes with
  | [a, b], _ =>
   rw [show List.drop 2 wsL = w_late :: List.drop 3 wsL from rfl, partsP_cons] at hR
   have hw1 := pwant r1 w_late
   simp only [fillV, List.cons_append, List.nil_append]
   repeat' (first | (apply at_op (.indexAddr _ _ _); refine al_y (y_slix rfl rfl rfl (by first | with_reducible rfl | exact lit0 | exact lit1 | exact lit2 | exact lit3 | exact lit4 | exact int_s _ | exact int_p _ _ | exact int_nat _ (by omega)) (by omega) rfl) (lt_ok rfl) ?_) | (apply at_op (.load _ _); refine al_y (y_bloadV rfl rfl rfl rfl rfl (by decide)) (lt_ok rfl) ?_) | (apply at_op (.store _ _ _); refine al_step (st_store rfl rfl (ev_agg rfl) nofun (by first | (simp only [normV, normList, normMap]; rfl) | rfl) (by simp [V.one, Value.oneCell']) (.inr rfl) rfl (le_ok rfl) (by first | (simp only [normV, normList, normMap]; rfl) | rfl)) rfl ?_) | (apply at_call; refine k_pcall [(1000, 1000)] (hw1) hE (fun v hv => by (repeat (first | with_reducible refine ap_block ?_ | with_reducible refine ap_then ?_)); exact ap_body (bads_then hR hv)) ?_; rintro _ _ ⟨_, u1, hx1, rfl, rfl⟩; rw [hx1, then_ok] at hR; have r2 := r1.to (suf_want hx1); have x2 := x1.suf (suf_want hx1); have hwh := pwhole r2 x2 w_semi <;> (intro _ _ h1 h2; simp only [renEqs, Nat.reduceBEq, renL_app, renL_ds, renL_und] at h1 h2; subst h1 h2)) | refine nx ?_ | apply aq_pq | (apply aq_block_y; decide) | (apply qr_move; refine r_move ?_) | (apply at_cond; first | refine c_t ?_ | refine c_f ?_ | (refine aw_cond rfl (fun hb => ?_) (fun hb => ?_) <;> ((try have hq := dX hb); (try (exfalso; omega))))) | (apply qr_lss; refine r_lss ?_) | (apply qr_ix; refine r_ix ?_) | (apply qr_load; refine r_load ?_) | (apply qr_faddr; refine r_faddr ?_) | (apply qr_alloc; refine r_alloc ?_) | (apply qr_store; refine r_store ?_) | (apply qr_lits; refine r_lits ?_))
   refine aw_mixp (Bads _) ([(5, .box 93 [.d (.str w_late), .box 3 12])]) [(0, true), (1, true), (2, true), (3, false)] [4, 5] (by kernel_rfl) (by kernel_rfl) (by kernel_rfl) (by decide) (by (repeat (first | exact obs_nil | (apply obs_cons; focus (first | rfl | (simp [find]; done)))))) (fun v hv => by (repeat (first | with_reducible refine ap_block ?_ | with_reducible refine ap_then ?_)); exact ap_body hv) ?_
   simp only [planned, tailed, List.filterMap_cons, List.filterMap_nil, List.getElem?_cons_zero, List.getElem?_cons_succ, Option.map_some]
   repeat' (first | apply am_nil | refine m_skip ?_ | refine n_skip ?_ | (apply at_mcall; refine m_pcall [(1000, 1000)] (hwh) hE (fun v hv => ap_panq (bads_then hR hv)) ?_; rintro _ _ ⟨e, u2, hx2, rfl, rfl⟩; rw [hx2, then_ok] at hR; have r3 := r2.to (wholeP_suf hx2); have x3 := x2.suf (wholeP_suf hx2) <;> (intro _ _ h1 h2; simp only [renEqs, Nat.reduceBEq, renL_app, renL_ds, renL_und] at h1 h2; subst h1 h2; (try dsimp only [flatV, flat, D.plain, D.plainL]))) | (apply qm_move; refine m_move ?_) | (apply qm_load; refine m_load ?_) | (apply qm_faddr; refine m_faddr ?_) | (refine am_split rfl rfl (fun hb => ?_) (fun hb => ?_) <;> ((try have hq := dX hb); (try (exfalso; omega)))))
   repeat' (first | refine nx ?_ | apply aq_pq | (apply aq_block_y; decide) | (apply qr_move; refine r_move ?_) | (apply at_cond; first | refine c_t ?_ | refine c_f ?_ | (refine aw_cond rfl (fun hb => ?_) (fun hb => ?_) <;> ((try have hq := dX hb); (try (exfalso; omega))))) | (apply qr_add; refine r_add ?_) | (apply qr_load; refine r_load ?_) | (apply qr_faddr; refine r_faddr ?_) | (apply qr_nilck; refine r_nilck ?_) | (apply qr_store; refine r_store ?_))
   refine aq_rd (⟨3, [a, b, e], u2, k, rfl, rfl, by omega, r3, x3, hR, rfl, rfl⟩) (by omega)
 ·match es, hes with
  | [a, b, c], _ =>
   rw [show List.drop 3 wsL = w_noshow :: List.drop 4 wsL from rfl, partsP_cons] at hR
   have hw1 := pwant r1 w_noshow
   simp only [fillV, List.cons_append, List.nil_append]
   repeat' (first | (apply at_op (.indexAddr _ _ _); refine al_y (y_slix rfl rfl rfl (by first | with_reducible rfl | exact lit0 | exact lit1 | exact lit2 | exact lit3 | exact lit4 | exact int_s _ | exact int_p _ _ | exact int_nat _ (by omega)) (by omega) rfl) (lt_ok rfl) ?_) | (apply at_op (.load _ _); refine al_y (y_bloadV rfl rfl rfl rfl rfl (by decide)) (lt_ok rfl) ?_) | (apply at_op (.store _ _ _); refine al_step (st_store rfl rfl (ev_agg rfl) nofun (by first | (simp only [normV, normList, normMap]; rfl) | rfl) (by simp [V.one, Value.oneCell']) (.inr rfl) rfl (le_ok rfl) (by first | (simp only [normV, normList, normMap]; rfl) | rfl)) rfl ?_) | (apply at_call; refine k_pcall [(1000, 1000)] (hw1) hE (fun v hv => by (repeat (first | with_reducible refine ap_block ?_ | with_reducible refine ap_then ?_)); exact ap_body (bads_then hR hv)) ?_; rintro _ _ ⟨_, u1, hx1, rfl, rfl⟩; rw [hx1, then_ok] at hR; have r2 := r1.to (suf_want hx1); have x2 := x1.suf (suf_want hx1); have hwh := pwhole r2 x2 w_semi <;> (intro _ _ h1 h2; simp only [renEqs, Nat.reduceBEq, renL_app, renL_ds, renL_und] at h1 h2; subst h1 h2)) | refine nx ?_ | apply aq_pq | (apply aq_block_y; decide) | (apply qr_move; refine r_move ?_) | (apply at_cond; first | refine c_t ?_ | refine c_f ?_ | (refine aw_cond rfl (fun hb => ?_) (fun hb => ?_) <;> ((try have hq := dX hb); (try (exfalso; omega))))) | (apply qr_lss; refine r_lss ?_) | (apply qr_ix; refine r_ix ?_) | (apply qr_load; refine r_load ?_) | (apply qr_faddr; refine r_faddr ?_) | (apply qr_alloc; refine r_alloc ?_) | (apply qr_store; refine r_store ?_) | (apply qr_lits; refine r_lits ?_))
   refine aw_mixp (Bads _) ([(5, .box 93 [.d (.str w_noshow), .box 3 17])]) [(0, true), (1, true), (2, true), (3, false)] [4, 5] (by kernel_rfl) (by kernel_rfl) (by kernel_rfl) (by decide) (by (repeat (first | exact obs_nil | (apply obs_cons; focus (first | rfl | (simp [find]; done)))))) (fun v hv => by (repeat (first | with_reducible refine ap_block ?_ | with_reducible refine ap_then ?_)); exact ap_body hv) ?_
   simp only [planned, tailed, List.filterMap_cons, List.filterMap_nil, List.getElem?_cons_zero, List.getElem?_cons_succ, Option.map_some]
   repeat' (first | apply am_nil | refine m_skip ?_ | refine n_skip ?_ | (apply at_mcall; refine m_pcall [(1000, 1000)] (hwh) hE (fun v hv => ap_panq (bads_then hR hv)) ?_; rintro _ _ ⟨e, u2, hx2, rfl, rfl⟩; rw [hx2, then_ok] at hR; have r3 := r2.to (wholeP_suf hx2); have x3 := x2.suf (wholeP_suf hx2) <;> (intro _ _ h1 h2; simp only [renEqs, Nat.reduceBEq, renL_app, renL_ds, renL_und] at h1 h2; subst h1 h2; (try dsimp only [flatV, flat, D.plain, D.plainL]))) | (apply qm_move; refine m_move ?_) | (apply qm_load; refine m_load ?_) | (apply qm_faddr; refine m_faddr ?_) | (refine am_split rfl rfl (fun hb => ?_) (fun hb => ?_) <;> ((try have hq := dX hb); (try (exfalso; omega)))))
   repeat' (first | refine nx ?_ | apply aq_pq | (apply aq_block_y; decide) | (apply qr_move; refine r_move ?_) | (apply at_cond; first | refine c_t ?_ | refine c_f ?_ | (refine aw_cond rfl (fun hb => ?_) (fun hb => ?_) <;> ((try have hq := dX hb); (try (exfalso; omega))))) | (apply qr_add; refine r_add ?_) | (apply qr_load; refine r_load ?_) | (apply qr_faddr; refine r_faddr ?_) | (apply qr_nilck; refine r_nilck ?_) | (apply qr_store; refine r_store ?_))
   refine aq_rd (⟨4, [a, b, c, e], u2, k, rfl, rfl, by omega, r3, x3, hR, rfl, rfl⟩) (by omega)
 ·match es, hes with
  | [a, b, c, d], _ =>
   simp only [wsL, List.drop_succ_cons, List.drop_nil, partsP, then_ok] at hR
   unfold numsP at hR
   have hq := ppart r1 w_quota 0 1000
   have q0 : decide (((4 : Nat) : Int) < 4) = false := rfl
   simp only [fillV, List.cons_append, List.nil_append]
   repeat' (first | (apply at_call; refine k_pcall [(1000, 1000)] (hq) hE (fun v hv => by (repeat (first | with_reducible refine ap_block ?_ | with_reducible refine ap_then ?_)); exact ap_body (bads_then hR hv)) ?_; rintro _ _ ⟨n1, u1, hx1, rfl, rfl⟩; rw [hx1, then_ok] at hR; have r2 := r1.to (partP_suf hx1); have hs1 := ppart r2 w_share 0 1000 <;> (intro _ _ h1 h2; simp only [renEqs, Nat.reduceBEq, renL_app, renL_ds, renL_und] at h1 h2; subst h1 h2)) | (apply at_call; refine k_pcall [(1000, 1000)] (hs1) hE (fun v hv => by (repeat (first | with_reducible refine ap_block ?_ | with_reducible refine ap_then ?_)); exact ap_body (bads_then hR hv)) ?_; rintro _ _ ⟨n2, u2, hx2, rfl, rfl⟩; rw [hx2, then_ok] at hR; have r3 := r2.to (partP_suf hx2); have hc1 := ppart r3 w_change 1 1000 <;> (intro _ _ h1 h2; simp only [renEqs, Nat.reduceBEq, renL_app, renL_ds, renL_und] at h1 h2; subst h1 h2)) | (apply at_call; refine k_pcall [(1000, 1000)] (hc1) hE (fun v hv => by (repeat (first | with_reducible refine ap_block ?_ | with_reducible refine ap_then ?_)); exact ap_body (bads_then hR hv)) ?_; rintro _ _ ⟨n3, u3, hx3, rfl, rfl⟩; rw [hx3, then_ok] at hR; have r4 := r3.to (partP_suf hx3); have hnx := pnext r4 <;> (intro _ _ h1 h2; simp only [renEqs, Nat.reduceBEq, renL_app, renL_ds, renL_und] at h1 h2; subst h1 h2)) | refine nx ?_ | apply aq_pq | (apply aq_block_y; decide) | (apply qr_move; refine r_move ?_) | (apply at_cond; first | refine c_t ?_ | refine c_f ?_ | (refine aw_cond rfl (fun hb => ?_) (fun hb => ?_) <;> ((try have hq := dX hb); (try (exfalso; omega))))) | (apply qr_lss; refine r_lss ?_) | (apply qr_faddr; refine r_faddr ?_) | (apply qr_store; refine r_store ?_))
   by_cases hk : (nxt u3).k = 3
   ·have c1 := pcheck_y (L := L) (l := u3) 12
    rw [← decide_eq_true hk] at c1
    have hR : R = .ok (mkBy nm ls [a, b, c, d] n1 n2 n3) u3 := by rw [hR]; simp [lastP, hk]
    repeat' (first | (apply at_call; refine k_ocall [(1000, 1000)] (hnx) hE ?_; rintro _ _ ⟨rfl, rfl⟩ <;> (intro _ _ h1 h2; simp only [renEqs, Nat.reduceBEq, renL_app, renL_ds, renL_und] at h1 h2; subst h1 h2)) | (apply at_call; refine k_ocall [(1000, 1000)] (c1) hE ?_; rintro _ _ ⟨rfl, rfl⟩ <;> (intro _ _ h1 h2; simp only [renEqs, Nat.reduceBEq, renL_app, renL_ds, renL_und] at h1 h2; subst h1 h2)) | refine nx ?_ | apply aq_pq | (apply aq_block_y; decide) | (apply qr_move; refine r_move ?_) | (apply at_cond; first | refine c_t ?_ | refine c_f ?_ | (refine aw_cond rfl (fun hb => ?_) (fun hb => ?_) <;> ((try have hq := dX hb); (try (exfalso; omega))))) | (apply qr_eql; refine r_eql ?_) | (apply qr_field; refine r_field ?_))
    refine al_celltold 3 1 rfl rfl (ToD.row _ _ _ _ _ rfl) rfl ?_
    repeat' (first | refine nx ?_ | apply aq_pq | (apply aq_block_y; decide) | (apply at_cond; first | refine c_t ?_ | refine c_f ?_ | (refine aw_cond rfl (fun hb => ?_) (fun hb => ?_) <;> ((try have hq := dX hb); (try (exfalso; omega))))) | (apply qr_load; refine r_load ?_) | (apply qr_store; refine r_store ?_))
    refine aq_p ?_
    refine oret1 (psr L u3) (by rfl) rv (⟨_, _, hR, rfl, rfl⟩) sb okx
   ·have c1 := pcheck_n r4 12
    rw [← decide_eq_false hk] at c1
    have hR : R = .bad (nxt u3).p 12 := by rw [hR]; simp [lastP, hk]
    repeat' (first | (apply at_call; refine k_ocall [(1000, 1000)] (hnx) hE ?_; rintro _ _ ⟨rfl, rfl⟩ <;> (intro _ _ h1 h2; simp only [renEqs, Nat.reduceBEq, renL_app, renL_ds, renL_und] at h1 h2; subst h1 h2)) | (apply at_call; refine k_pcall [(1000, 1000)] (c1) hE (fun v hv => by subst hv; (repeat (first | with_reducible refine ap_block ?_ | with_reducible refine ap_then ?_)); first | exact ap_body ⟨_, _, hR, rfl⟩ | exact ap_body ⟨_, _, rfl, rfl⟩ | exact ap_body rfl) (fun _ _ h => h.elim)) | refine nx ?_ | apply aq_pq | (apply aq_block_y; decide) | (apply qr_move; refine r_move ?_) | (apply at_cond; first | refine c_t ?_ | refine c_f ?_ | (refine aw_cond rfl (fun hb => ?_) (fun hb => ?_) <;> ((try have hq := dX hb); (try (exfalso; omega))))) | (apply qr_eql; refine r_eql ?_) | (apply qr_field; refine r_field ?_))
end
end Go.Proofs.YtedoeogopmenpaaDoor
end
section
namespace Go.Proofs.YtedoeogopmenpaaDoor
inductive LexOk (s : ByteArray) : Nat → List Tok → Prop where
 | stop (p : Nat) (hp : p ≤ s.size) (h : skip s p = s.size) : LexOk s p [endTok s.size]
 | tok (p : Nat) (t : Tok) (l : List Tok) (hp : p ≤ s.size) (h : ¬ skip s p = s.size) (ht : tokenV s (skip s p) = (t, 0)) (hl : LexOk s (skip s p + t.s.size) l) : LexOk s p (t :: l)
inductive LexErr (s : ByteArray) : Nat → Nat → Int → Prop where
 | here (p : Nat) (t : Tok) (e : Int) (hp : p ≤ s.size) (h : ¬ skip s p = s.size) (ht : tokenV s (skip s p) = (t, e)) (he : ¬ e = 0) : LexErr s p (skip s p) e
 | tok (p a : Nat) (t : Tok) (e : Int) (hp : p ≤ s.size) (h : ¬ skip s p = s.size) (ht : tokenV s (skip s p) = (t, 0)) (hl : LexErr s (skip s p + t.s.size) a e) : LexErr s p a e
theorem lexF_case {s : ByteArray} (n p : Nat) (out : List Tok) (hn : s.size - p < n) (hp : p ≤ s.size) :
  (∃ l, LexOk s p l ∧ lexF s n p out = (out ++ l, 0, 0)) ∨ (∃ a e, LexErr s p a e ∧ ¬ e = 0 ∧ lexF s n p out = ([], (a : Int), e)) := by
 induction n generalizing p out with
 | zero => omega
 | succ n ih =>
  have h1 := skip_le hp
  rw [lexF]
  by_cases h : skip s p = s.size
  ·rw [if_pos h]
   exact .inl ⟨_, .stop p hp h, rfl⟩
  ·rw [if_neg h]
   rcases hT : tokenV s (skip s p) with ⟨t, e⟩
   by_cases he : e = 0
   ·subst he
    rw [if_pos rfl]
    have h2 := tokenV_size (s := s) (p := skip s p) (by omega) (by rw [hT])
    rw [hT] at h2
    simp only at h2
    rcases ih (skip s p + t.s.size) (out ++ [t]) (by omega) (by omega) with ⟨l, h3, h4⟩ | ⟨a, e, h3, h4, h5⟩
    ·refine .inl ⟨t :: l, .tok p t l hp h hT h3, ?_⟩
     rw [h4, List.append_assoc]
     rfl
    ·exact .inr ⟨a, e, .tok p a t e hp h hT h3, h4, h5⟩
   ·rw [if_neg he]
    exact .inr ⟨_, e, .here p t e hp h hT he, he, rfl⟩
theorem lexV_case {s : ByteArray} (hs : s.size ≤ 4000) :
  (∃ l, LexOk s 0 l ∧ lexV s = (l, 0, 0)) ∨ (∃ a e, LexErr s 0 a e ∧ ¬ e = 0 ∧ lexV s = ([], (a : Int), e)) := by
 unfold lexV
 rw [if_neg (by omega)]
 simpa using lexF_case (s := s) (s.size + 1) 0 [] (by omega) (by omega)
theorem LexOk.unique {s : ByteArray} {p : Nat} {l m : List Tok} (h : LexOk s p l) (h' : LexOk s p m) : l = m := by
 induction h generalizing m with
 | stop p hp h =>
  cases h' with
  | stop _ _ _ => rfl
  | tok _ _ _ _ h2 _ _ => exact absurd h h2
 | tok p t l hp h ht hl ih =>
  cases h' with
  | stop _ _ h2 => exact absurd h2 h
  | tok _ u m _ _ hu hm =>
   rw [ht] at hu
   cases hu
   rw [ih hm]
theorem LexOk.noErr {s : ByteArray} {p a : Nat} {l : List Tok} {e : Int} (h : LexOk s p l) (h' : LexErr s p a e) (he : ¬ e = 0) : False := by
 induction h with
 | stop p hp h =>
  cases h' with
  | here _ _ _ _ h2 _ _ => exact h2 h
  | tok _ _ _ _ _ h2 _ _ => exact h2 h
 | tok p t l hp h ht hl ih =>
  cases h' with
  | here _ _ _ _ _ h3 h4 => rw [ht] at h3; cases h3; exact h4 rfl
  | tok _ _ _ _ _ _ h3 h4 => rw [ht] at h3; cases h3; exact ih h4
theorem lexV_ok {s : ByteArray} {l : List Tok} (hs : s.size ≤ 4000) (h : LexOk s 0 l) : lexV s = (l, 0, 0) := by
 rcases lexV_case hs with ⟨m, h1, h2⟩ | ⟨a, e, h1, h2, _⟩
 ·rw [h2, h.unique h1]
 ·exact (h.noErr h1 h2).elim
theorem tokenV_form {s : ByteArray} {p : Nat} {t : Tok} (hp : p < s.size) (h : tokenV s p = (t, 0)) :
  t.p = p ∧ 0 < t.s.size ∧ p + t.s.size ≤ s.size ∧ t.s = s.extract p (p + t.s.size) ∧
  ((t.k = 0 ∧ letterB (bAt s p) = true ∧ t.s.size = pre alnumB (s.extract p s.size) ∧ t.s.size ≤ 20 ∧ t.n = 0) ∨
   (t.k = 1 ∧ letterB (bAt s p) = false ∧ digitB (bAt s p) = true ∧ t.s.size = pre digitB (s.extract p s.size) ∧ numOk t.s = true ∧ t.n = numTo t.s t.s.size) ∨
   (t.k = 2 ∧ letterB (bAt s p) = false ∧ digitB (bAt s p) = false ∧ (t.s.size : Int) = signTo s p ∧ t.n = 0)) := by
 have hsz := tokenV_size (s := s) (p := p) hp (by rw [h])
 rw [h] at hsz
 simp only at hsz
 have hz : (s.extract p s.size).size = s.size - p := by simp
 have h0 : bAt (s.extract p s.size) 0 = bAt s p := by rw [bAt_ext (by omega) (Nat.le_refl _), Nat.add_zero]
 have hpos : ∀ F : UInt8 → Bool, F (bAt s p) = true → 0 < pre F (s.extract p s.size) := by
  intro F hF
  rcases Nat.eq_zero_or_pos (pre F (s.extract p s.size)) with h | h
  ·exfalso
   have h1 := pre_stop (F := F) (s := s.extract p s.size) (by omega)
   rw [h, h0, hF] at h1
   cases h1
  ·exact h
 have hle : ∀ F : UInt8 → Bool, pre F (s.extract p s.size) ≤ s.size - p := fun F => by have := pre_le F (s.extract p s.size); omega
 have hes : ∀ a b, b ≤ s.size → (s.extract a b).size = b - a := fun a b hb => extract_size hb
 cases hl : letterB (bAt s p)
 ·cases hd : digitB (bAt s p)
  ·rw [token_sign hl hd hp] at h
   have h1 := signTo_bd hp
   by_cases h2 : signTo s p = 0
   ·rw [if_pos h2] at h; cases h
   ·rw [if_neg h2] at h
    cases h
    have h3 := hes p (p + (signTo s p).toNat) (by omega)
    refine ⟨rfl, hsz.1, hsz.2, ?_, .inr (.inr ⟨rfl, rfl, rfl, ?_, rfl⟩)⟩
    ·simp only [h3]
     congr 1
     omega
    ·simp only [h3]
     omega
  ·have h1 := hpos digitB hd
   have h2 := hle digitB
   rw [token_num (k := p + pre digitB (s.extract p s.size)) hl hd (by omega) (by omega) (by omega)] at h
   split at h
   ·rename_i hn
    cases h
    have h3 := hes p (p + pre digitB (s.extract p s.size)) (by omega)
    refine ⟨rfl, hsz.1, hsz.2, ?_, .inr (.inl ⟨rfl, rfl, rfl, ?_, hn, rfl⟩)⟩
    ·simp only [h3]
     congr 1
     omega
    ·simp only [h3]
     omega
   ·cases h
 ·have h1 := hpos alnumB (alnum_of hl)
  have h2 := hle alnumB
  rw [token_word (k := p + pre alnumB (s.extract p s.size)) hl (by omega) (by omega) (by omega)] at h
  split at h
  ·rename_i hn
   cases h
   have h3 := hes p (p + pre alnumB (s.extract p s.size)) (by omega)
   refine ⟨rfl, hsz.1, hsz.2, ?_, .inl ⟨rfl, rfl, ?_, ?_, rfl⟩⟩
   ·simp only [h3]
    congr 1
    omega
   ·simp only [h3]
    omega
   ·simp only [h3]
    omega
  ·cases h
end Go.Proofs.YtedoeogopmenpaaDoor
end
section
namespace Go.Proofs.YtedoeogopmenpaaDoor
theorem skip_end (s : ByteArray) : skip s s.size = s.size := by have := skip_le (s := s) (p := s.size) (Nat.le_refl _); omega
theorem bytes_ext {s t : ByteArray} (hz : s.size = t.size) (h : ∀ j, j < s.size → bAt s j = bAt t j) : s = t := by
 apply ByteArray.ext
 apply Array.ext
 ·exact hz
 ·intro i h1 h2
  have h3 := h i h1
  rw [bAt_eq s i (by simpa using h1), bAt_eq t i (by simpa using h2)] at h3
  simpa using h3
structure Agr (s t : ByteArray) (p q m : Nat) : Prop where
 hs : p + m ≤ s.size
 ht : q + m ≤ t.size
 h : ∀ j, j < m → bAt t (q + j) = bAt s (p + j)
theorem Agr.ext {s t : ByteArray} {p q m : Nat} (h : Agr s t p q m) : t.extract q (q + m) = s.extract p (p + m) := by
 have h1 := h.hs
 have h2 := h.ht
 have e1 : (t.extract q (q + m)).size = m := by rw [extract_size h2]; omega
 have e2 : (s.extract p (p + m)).size = m := by rw [extract_size h1]; omega
 refine bytes_ext (by omega) fun j hj => ?_
 rw [e1] at hj
 rw [bAt_ext (by omega) h2, bAt_ext (by omega) h1]
 exact h.h j hj
theorem Agr.part {s t : ByteArray} {p q m : Nat} (h : Agr s t p q m) {i k : Nat} (hk : i + k ≤ m) : Agr s t (p + i) (q + i) k := by
 have h1 := h.hs
 have h2 := h.ht
 refine ⟨by omega, by omega, fun j hj => ?_⟩
 rw [Nat.add_assoc, Nat.add_assoc]
 exact h.h _ (by omega)
theorem Agr.first {s t : ByteArray} {p q m : Nat} (h : Agr s t p q m) (hm : 0 < m) : bAt t q = bAt s p := h.h 0 hm
theorem run_shift {F : UInt8 → Bool} {s t : ByteArray} {p q m : Nat} (h : Agr s t p q m) (hr : pre F (s.extract p s.size) = m) (hf : q + m < t.size → F (bAt t (q + m)) = false) : pre F (t.extract q t.size) = q + m - q := by
 have h1 := h.hs
 have hz : (s.extract p s.size).size = s.size - p := by simp
 refine pre_ext (by omega) h.ht (fun j h2 h3 => ?_) hf
 rw [show j = q + (j - q) by omega, h.h _ (by omega), ← bAt_ext (a := p) (b := s.size) (by omega) (Nat.le_refl _)]
 exact pre_lt (by omega)
theorem run_next {F : UInt8 → Bool} {s : ByteArray} {p m : Nat} (hr : pre F (s.extract p s.size) = m) (h : p + m < s.size) : F (bAt s (p + m)) = false := by
 have hz : (s.extract p s.size).size = s.size - p := by simp
 have h3 := pre_stop (F := F) (s := s.extract p s.size) (by omega)
 rw [hr, bAt_ext (by omega) (Nat.le_refl _)] at h3
 exact h3
theorem blank_nat {c : UInt8} (h : isBlank c = true) : (c.toNat : Int) = 32 ∨ (c.toNat : Int) = 9 ∨ (c.toNat : Int) = 10 := by
 simp only [isBlank, Bool.or_eq_true, decide_eq_true_eq] at h
 omega
theorem blank_alnum {c : UInt8} (h : isBlank c = true) : alnumB c = false ∧ digitB c = false ∧ letterB c = false ∧ ¬ c.toNat = 61 := by
 have h1 := blank_nat h
 have h2 : letterB c = false := by
  simp only [letterB, Bool.and_eq_false_iff, decide_eq_false_iff_not]
  omega
 have h3 : digitB c = false := by
  simp only [digitB, Bool.and_eq_false_iff, decide_eq_false_iff_not]
  omega
 refine ⟨by simp [alnumB, h2, h3], h3, h2, by omega⟩
def Foll (s t : ByteArray) (p q m : Nat) : Prop := q + m < t.size → isBlank (bAt t (q + m)) = true ∨ (p + m < s.size ∧ bAt t (q + m) = bAt s (p + m))
theorem Foll.run {F : UInt8 → Bool} {s t : ByteArray} {p q m : Nat} (h : Foll s t p q m) (hF : ∀ c, isBlank c = true → F c = false) (hr : pre F (s.extract p s.size) = m) : q + m < t.size → F (bAt t (q + m)) = false := fun h1 => by
 rcases h h1 with h2 | ⟨h2, h3⟩
 ·exact hF _ h2
 ·rw [h3]
  exact run_next hr h2
theorem signTo_two {s : ByteArray} {p : Nat} (h : p + 1 < s.size) (h1 : (bAt s (p + 1)).toNat = 61) (h2 : (bAt s p).toNat = 61) : signTo s p = 2 := by
 unfold signTo
 rw [if_pos ⟨h, h1, h2⟩]
theorem signTo_one {s : ByteArray} {p : Nat} (h : ¬ (p + 1 < s.size ∧ (bAt s (p + 1)).toNat = 61 ∧ (bAt s p).toNat = 61)) : signTo s p = if singleB (bAt s p) then 1 else 0 := by
 unfold signTo
 rw [if_neg h]
theorem sign_shift {s t : ByteArray} {p q m : Nat} (hm : (m : Int) = signTo s p) (hm0 : 0 < m) (ha : Agr s t p q m) (hf : Foll s t p q m) : signTo t q = m := by
 have h1 := ha.hs
 have h2 := ha.ht
 have h0 := ha.first hm0
 by_cases hc : p + 1 < s.size ∧ (bAt s (p + 1)).toNat = 61 ∧ (bAt s p).toNat = 61
 ·have h3 := signTo_two hc.1 hc.2.1 hc.2.2
  have h4 : m = 2 := by omega
  subst h4
  rw [signTo_two (by omega) (by rw [ha.h 1 (by omega)]; exact hc.2.1) (by rw [h0]; exact hc.2.2)]
  rfl
 ·rw [signTo_one hc] at hm
  have hs : singleB (bAt s p) = true ∧ m = 1 := by
   by_cases h : singleB (bAt s p) = true
   ·rw [if_pos h] at hm; exact ⟨h, by omega⟩
   ·rw [if_neg h] at hm; omega
  obtain ⟨h3, rfl⟩ := hs
  rw [signTo_one (fun h => ?_), h0, h3]
  ·rfl
  ·rcases hf h.1 with h4 | ⟨h4, h5⟩
   ·exact (blank_alnum h4).2.2.2 h.2.1
   ·exact hc ⟨h4, by rw [← h5]; exact h.2.1, by rw [← h0]; exact h.2.2⟩
theorem tok_shift {s t : ByteArray} {p q : Nat} {x : Tok} (hp : p < s.size) (h : tokenV s p = (x, 0)) (ha : Agr s t p q x.s.size) (hf : Foll s t p q x.s.size) : tokenV t q = ({ x with p := q }, 0) := by
 obtain ⟨_, h2, h3, h4, h5⟩ := tokenV_form hp h
 have h0 := ha.first h2
 have h6 := ha.ext
 have h7 := ha.ht
 rw [← h4] at h6
 rcases h5 with ⟨k0, k1, k2, k3, k4⟩ | ⟨k0, k1, k2, k3, k4, k5⟩ | ⟨k0, k1, k2, k3, k4⟩
 ·rw [token_word (k := q + x.s.size) (by rw [h0]; exact k1) (by omega) h7 (run_shift ha k2.symm (hf.run (fun c hc => (blank_alnum hc).1) k2.symm)), if_pos (by omega), h6]
  obtain ⟨a, b, c, d⟩ := x
  simp only at k0 k4
  subst k0
  subst k4
  rfl
 ·rw [token_num (k := q + x.s.size) (by rw [h0]; exact k1) (by rw [h0]; exact k2) (by omega) h7 (run_shift ha k3.symm (hf.run (fun c hc => (blank_alnum hc).2.1) k3.symm)), h6, if_pos k4]
  obtain ⟨a, b, c, d⟩ := x
  simp only at k0 k5
  subst k0
  subst k5
  rfl
 ·have h8 := sign_shift k3 h2 ha hf
  rw [token_sign (by rw [h0]; exact k1) (by rw [h0]; exact k2) (by omega), if_neg (by omega), h8, Int.toNat_natCast, h6]
  obtain ⟨a, b, c, d⟩ := x
  simp only at k0 k4
  subst k0
  subst k4
  rfl
structure Seg (s t : ByteArray) (a : Nat) : Prop where
 agr : Agr s t 0 a s.size
 fol : a + s.size < t.size → isBlank (bAt t (a + s.size)) = true
theorem Seg.foll {s t : ByteArray} {a p m : Nat} (h : Seg s t a) (hm : p + m ≤ s.size) : Foll s t p (a + p) m := fun h1 => by
 by_cases h2 : p + m = s.size
 ·rw [show a + p + m = a + s.size by omega] at h1 ⊢
  exact .inl (h.fol h1)
 ·refine .inr ⟨by omega, ?_⟩
  have := h.agr.h (p + m) (by omega)
  rw [Nat.zero_add] at this
  rw [← this, Nat.add_assoc]
theorem Seg.at {s t : ByteArray} {a p m : Nat} (h : Seg s t a) (hm : p + m ≤ s.size) : Agr s t p (a + p) m := by
 have := h.agr.part hm
 rwa [Nat.zero_add] at this
theorem Seg.byte {s t : ByteArray} {a p : Nat} (h : Seg s t a) (hp : p < s.size) : bAt t (a + p) = bAt s p := (h.at (p := p) (m := 1) (by omega)).first (by omega)
theorem Seg.tok {s t : ByteArray} {a p : Nat} {x : Tok} (h : Seg s t a) (hp : p < s.size) (ht : tokenV s p = (x, 0)) : tokenV t (a + p) = ({ x with p := ((a + p : Nat) : Int) }, 0) := by
 obtain ⟨_, _, h3, _⟩ := tokenV_form hp ht
 exact tok_shift hp ht (h.at h3) (h.foll h3)
theorem Seg.err {s t : ByteArray} {a p : Nat} {x : Tok} {e : Int} (h : Seg s t a) (hp : p < s.size) (ht : tokenV s p = (x, e)) (he : ¬ e = 0) : tokenV t (a + p) = (x, e) := by
 have hz : (s.extract p s.size).size = s.size - p := by simp
 have h0 := h.byte hp
 have hat := h.agr.ht
 have hpos : ∀ F : UInt8 → Bool, F (bAt s p) = true → 0 < pre F (s.extract p s.size) := by
  intro F hF
  rcases Nat.eq_zero_or_pos (pre F (s.extract p s.size)) with h | h
  ·exfalso
   have h1 := run_next h (by omega)
   rw [Nat.add_zero, hF] at h1
   cases h1
  ·exact h
 have hle : ∀ F : UInt8 → Bool, pre F (s.extract p s.size) ≤ s.size - p := fun F => by have := pre_le F (s.extract p s.size); omega
 cases hl : letterB (bAt s p)
 ·cases hd : digitB (bAt s p)
  ·rw [token_sign hl hd hp] at ht
   by_cases h2 : signTo s p = 0
   ·rw [if_pos h2] at ht
    have hsg : singleB (bAt s p) = false := by
     unfold signTo at h2
     split at h2
     ·cases h2
     ·split at h2
      ·cases h2
      ·simp_all
    have h3 : signTo t (a + p) = 0 := by
     have hne : ¬ (bAt s p).toNat = 61 := fun h61 => by
      have : bAt s p = 61 := by rw [byte_eq]; exact h61
      rw [this] at hsg
      revert hsg
      decide
     rw [signTo_one (by rw [h0]; exact fun h => hne h.2.2), h0, hsg]
     rfl
    rw [token_sign (by rw [h0]; exact hl) (by rw [h0]; exact hd) (by omega), if_pos h3]
    exact ht
   ·rw [if_neg h2] at ht
    cases ht
    exact absurd rfl he
  ·have h1 := hpos digitB hd
   have h2 := hle digitB
   have h3 := h.at (p := p) (m := pre digitB (s.extract p s.size)) (by omega)
   have h4 := h.foll (p := p) (m := pre digitB (s.extract p s.size)) (by omega)
   rw [token_num (k := p + pre digitB (s.extract p s.size)) hl hd (by omega) (by omega) (by omega)] at ht
   rw [token_num (k := a + p + pre digitB (s.extract p s.size)) (by rw [h0]; exact hl) (by rw [h0]; exact hd) (by omega) h3.ht (run_shift h3 rfl (h4.run (fun c hc => (blank_alnum hc).2.1) rfl)), h3.ext]
   split at ht
   ·cases ht
    exact absurd rfl he
   ·rename_i h5
    rw [if_neg h5]
    exact ht
 ·have h1 := hpos alnumB (alnum_of hl)
  have h2 := hle alnumB
  have h3 := h.at (p := p) (m := pre alnumB (s.extract p s.size)) (by omega)
  have h4 := h.foll (p := p) (m := pre alnumB (s.extract p s.size)) (by omega)
  rw [token_word (k := p + pre alnumB (s.extract p s.size)) hl (by omega) (by omega) (by omega)] at ht
  rw [token_word (k := a + p + pre alnumB (s.extract p s.size)) (by rw [h0]; exact hl) (by omega) h3.ht (run_shift h3 rfl (h4.run (fun c hc => (blank_alnum hc).1) rfl)), h3.ext]
  split at ht
  ·cases ht
   exact absurd rfl he
  ·rename_i h5
   rw [if_neg (by omega)]
   exact ht
theorem Seg.skp {s t : ByteArray} {a p : Nat} (h : Seg s t a) (hp : p ≤ s.size) (hk : skip s p < s.size) : skip t (a + p) = a + skip s p := by
 have h1 := skip_le hp
 have h2 := h.agr.ht
 obtain ⟨h3, h4⟩ := skip_fact hp
 refine skip_is (by omega) (by omega) (fun j h5 h6 => ?_) (fun _ => ?_)
 ·rw [show j = a + (j - a) by omega, h.byte (by omega)]
  exact h3 _ (by omega) (by omega)
 ·rw [h.byte hk]
  exact h4 hk
theorem skip_over {t : ByteArray} {p q : Nat} (hpq : p ≤ q) (hq : q ≤ t.size) (h : ∀ j, p ≤ j → j < q → isBlank (bAt t j) = true) : skip t p = skip t q := by
 have h1 := skip_le hq
 obtain ⟨h3, h4⟩ := skip_fact hq
 refine skip_is (by omega) h1.2 (fun j h5 h6 => ?_) h4
 by_cases h7 : j < q
 ·exact h j h5 h7
 ·exact h3 j (by omega) h6
theorem Seg.skpEnd {s t : ByteArray} {a p : Nat} (h : Seg s t a) (hp : p ≤ s.size) (hk : skip s p = s.size) : skip t (a + p) = skip t (a + s.size) := by
 have h2 := h.agr.ht
 obtain ⟨h3, h4⟩ := skip_fact hp
 refine skip_over (by omega) (by omega) (fun j h5 h6 => ?_)
 rw [show j = a + (j - a) by omega, h.byte (by omega)]
 exact h3 _ (by omega) (by omega)
theorem LexOk.from {s : ByteArray} {p q : Nat} {l : List Tok} (h : LexOk s q l) (hp : p ≤ s.size) (hk : skip s p = skip s q) : LexOk s p l := by
 cases h with
 | stop _ _ h1 => exact .stop p hp (hk.trans h1)
 | tok _ t r _ h1 h2 h3 => exact .tok p t r hp (by rw [hk]; exact h1) (by rw [hk]; exact h2) (by rw [hk]; exact h3)
theorem LexErr.from {s : ByteArray} {p q a : Nat} {e : Int} (h : LexErr s q a e) (hp : p ≤ s.size) (hk : skip s p = skip s q) : LexErr s p a e := by
 cases h with
 | here _ t _ _ h1 h2 h3 => rw [← hk]; exact .here p t e hp (by rw [hk]; exact h1) (by rw [hk]; exact h2) h3
 | tok _ _ t _ _ h1 h2 h3 => exact .tok p a t e hp (by rw [hk]; exact h1) (by rw [hk]; exact h2) (by rw [hk]; exact h3)
def Tok.move (a : Nat) (t : Tok) : Tok := { t with p := t.p + a }
theorem LexOk.last {s : ByteArray} {p : Nat} {l : List Tok} (h : LexOk s p l) : ∃ m, l = m ++ [endTok s.size] := by
 induction h with
 | stop => exact ⟨[], rfl⟩
 | tok p t l hp h ht hl ih =>
  obtain ⟨m, rfl⟩ := ih
  exact ⟨t :: m, rfl⟩
theorem Seg.ok {s t : ByteArray} {a p : Nat} {l : List Tok} (h : Seg s t a) (hl : LexOk s p l) :
  (∀ r, LexOk t (a + s.size) r → LexOk t (a + p) ((l.take (l.length - 1)).map (Tok.move a) ++ r)) ∧ (∀ b e, LexErr t (a + s.size) b e → LexErr t (a + p) b e) := by
 have hat := h.agr.ht
 induction hl with
 | stop p hp h1 =>
  have h2 := h.skpEnd hp h1
  exact ⟨fun r hr => by simpa using hr.from (by omega) h2, fun b e he => he.from (by omega) h2⟩
 | tok p x l hp h1 h2 h3 ih =>
  have h4 := skip_le hp
  have h5 := h.skp hp (by omega)
  have h6 := h.tok (by omega) h2
  obtain ⟨q1, q2, q3, _⟩ := tokenV_form (by omega) h2
  obtain ⟨m, rfl⟩ := h3.last
  have h7 : (x :: (m ++ [endTok s.size])).take ((x :: (m ++ [endTok s.size])).length - 1) = x :: m := by simp
  have h8 : (m ++ [endTok s.size]).take ((m ++ [endTok s.size]).length - 1) = m := by simp
  rw [h8, ← Nat.add_assoc] at ih
  rw [h7]
  have h9 : ({ x with p := ((a + skip s p : Nat) : Int) } : Tok) = Tok.move a x := by
   unfold Tok.move
   rw [q1]
   have hq : ((a + skip s p : Nat) : Int) = (skip s p : Int) + (a : Int) := by omega
   rw [hq]
  rw [h9] at h6
  refine ⟨fun r hr => ?_, fun b e he => ?_⟩
  ·refine .tok (a + p) (Tok.move a x) _ (by omega) (by omega) (by rw [h5]; exact h6) ?_
   rw [h5]
   exact ih.1 r hr
  ·refine .tok (a + p) b (Tok.move a x) e (by omega) (by omega) (by rw [h5]; exact h6) ?_
   rw [h5]
   exact ih.2 b e he
theorem Seg.bad {s t : ByteArray} {a p b : Nat} {e : Int} (h : Seg s t a) (hl : LexErr s p b e) : LexErr t (a + p) (a + b) e := by
 have hat := h.agr.ht
 induction hl with
 | here p x e hp h1 h2 h3 =>
  have h4 := skip_le hp
  have h5 := h.skp hp (by omega)
  rw [← h5]
  exact .here (a + p) x e (by omega) (by omega) (by rw [h5]; exact h.err (by omega) h2 h3) h3
 | tok p b x e hp h1 h2 h3 ih =>
  have h4 := skip_le hp
  have h5 := h.skp hp (by omega)
  refine .tok (a + p) (a + b) _ e (by omega) (by omega) (by rw [h5]; exact h.tok (by omega) h2) ?_
  rw [h5, Nat.add_assoc]
  exact ih
end Go.Proofs.YtedoeogopmenpaaDoor
end
section
namespace Go.Proofs.YtedoeogopmenpaaDoor
open Go.RowKit
def jn (ws : List ByteArray) : ByteArray := ⟨(Lib.join (ws.map (·.data.toList)) [32]).toArray⟩
def blank1 : ByteArray := ⟨#[32]⟩
def wordsOf (l : List Tok) : List ByteArray := (l.filter fun t => !decide (t.k = 3)).map (·.s)
def textV (l : List Tok) : ByteArray := jn (wordsOf l)
theorem join_any (ws : List ByteArray) (hn : ws.length ≤ 140737488355328) (hs : (jn ws).size ≤ 140737488355328) : PureC 29 [.list 1 (ws.map fun s => [.str s]), .str blank1] (· = .str (jn ws)) := by
 refine ⟨⟨_, Tryd.func29, by decide, rfl⟩, fun w Pr vs h1 h2 h3 h4 => ?_⟩
 match vs, h3 with
 | [v1, v2], _ =>
  have e1 := h4 0 v1 _ rfl rfl
  have e2 := h4 1 v2 _ rfl rfl
  cases e2
  have hempty : ∀ a c, ws = [] → Calls Tryd.prog 29 #[.slice a 0 c, .string blank1] w (PostR w Pr (· = .str (jn ws))) := by
   intro a c hw
   subst hw
   refine (Tryd.strings_Join_none a c blank1 w).mono fun e w' ⟨he, hw⟩ => ?_
   subst hw
   exact ⟨_, _, he, rfl, .val _, Below.refl _ _⟩
  generalize hl : (ws.map fun s => [D.str s]) = l at e1
  cases e1 with
  | nil A c s hm => exact hempty _ _ (by simpa using hl)
  | list b o n c s l u hn2 hsz hc hm hr hd =>
   subst hn2
   by_cases hw : ws = []
   ·have h0 : l = [] := by rw [← hl, hw]; rfl
    subst h0
    exact hempty _ _ hw
   ·subst hl
    have hcell : ∀ (j : Nat) x, ws[j]? = some x → w.cell? ⟨b, o + j, none⟩ = some (.string x) ∧ Pr b (o + j) := by
     intro j x hx
     have h5 : (ws.map fun s => [D.str s])[j]? = some [D.str x] := by simp [hx]
     obtain ⟨h6, h7⟩ := hr j 0 _ (D.str x) h5 rfl
     have h8 := hd j 0 _ (D.str x) h5 rfl
     generalize u j 0 = z at h6 h8
     cases h8
     rw [show o + j * 1 + 0 = o + j by omega] at h6 h7
     exact ⟨h6, h7⟩
    have hb : b < w.heap.size := by
     obtain ⟨x, hx⟩ : ∃ x, ws[0]? = some x := ⟨_, List.getElem?_eq_getElem (List.length_pos_iff.2 hw)⟩
     exact h1 _ _ (hcell 0 x hx).2
    have hlen : (ws.map fun s => [D.str s]).length = ws.length := by simp
    rw [hlen] at hc ⊢
    refine (Tryd.strings_Join b o c ws blank1 w (fun j x hx => (hcell j x hx).1) hb hn hc hs).mono fun e w' ⟨he, hbel⟩ => ?_
    exact ⟨_, _, he, rfl, .val _, hbel⟩
end Go.Proofs.YtedoeogopmenpaaDoor
end
