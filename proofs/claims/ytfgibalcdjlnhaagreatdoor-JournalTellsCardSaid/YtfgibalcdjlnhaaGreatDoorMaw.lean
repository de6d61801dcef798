/-
  The reference's disk: Crash. Conditions: none.
  The reference's disk: comes. Conditions: none.
  The reference's disk: comes. Conditions: none.
  The reference's disk: Write. Conditions: none.
  The reference's disk: Sync, Truncate. Conditions: none.
-/
import Derived.Test.YtfgibalcdjlnhaaGreatDoorMav
section
set_option linter.unusedSimpArgs false
set_option linter.unusedVariables false
namespace Go.Proofs.YtfgibalcdjlnhaaGreatDoor
open Go.RowKit Go.ChangeMaps

abbrev stCF (st : DS) (F : Int → Fl) : DS := { stC st with F := F }
def durR (x : RFile) : RFile := (x.1, ⟨x.2.last, x.2.last⟩)
theorem rget_last : ∀ (fs : List RFile) (f : Int), rget (fs.map durR) f = ⟨(rget fs f).last, (rget fs f).last⟩
  | [], _ => rfl
  | x :: l, f => by
    rw [List.map_cons, rget_cons, rget_cons]
    by_cases h : x.1 = f
    · rw [if_pos h, if_pos (show (durR x).1 = f from h)]
      rfl
    · rw [if_neg h, if_neg (show ¬ (durR x).1 = f from h), rget_last l f]
theorem survs_nokeep {keep : List Int} (h : keep.length = 0) : ∀ (Q : List Sec) (i : Nat) (F : Int → Fl), survs keep i Q F = F
  | [], _, _ => rfl
  | p :: Q, i, F => by
    have : keep = [] := List.eq_nil_of_length_eq_zero h
    subst this
    unfold survs
    rw [survs_nokeep h Q (i + 1)]
    rfl
theorem map_take1 {α β : Type} (g : α → β) {l : List α} {i : Nat} (h : i < l.length) : (l.take (i + 1)).map g = (l.take i).map g ++ [g l[i]] := by
  rw [List.take_succ_eq_append_getElem h, List.map_append]
  rfl
section
variable {k : Nat} {fs : List RFile} {st : DS}
set_option maxHeartbeats 8000000 in
set_option maxRecDepth 20000 in
theorem rcrash_down (keep : List Int) (hd : st.down = true) : ObC 21 [.box 1000 0, .d (keepD keep)] (rsk 1000 1001 k fs st) [] (fun x o => x = .tup [] ∧ o = rsk 1000 1001 k fs st) := by
  refine ob_enter Tryz.func21 rfl (by decide) _ Tryz.ntmps21 (le_ok rfl) rfl (fun w Pr β κ hE => ?_)
  dsimp only [slotsV, Nat.zero_add, Nat.reduceAdd]
  repeat' (first | refine nx ?_ | (apply aq_block_y; decide) | (apply qr_move; refine r_move ?_) | (apply at_cond; first | refine c_t ?_ | refine c_f ?_ | (refine aw_cond rfl (fun hb => ?_) (fun hb => ?_) <;> ((try have hq := dX hb); (try (exfalso; omega))))) | (apply qr_load; refine r_load ?_) | (apply qr_faddr; refine r_faddr ?_) | (apply qr_nilck; refine r_nilck ?_))
  try refine aq_end ?_
  refine oret0 (rsk 1000 1001 k fs st) (by rfl) (⟨rfl, rfl⟩) sb okx
set_option maxHeartbeats 16000000 in
set_option maxRecDepth 20000 in
theorem rcrash_up (h : RkOk fs st) (keep : List Int) (hkl : keep.length ≤ 1000000) (hdn : st.down = false) : ObC 21 [.box 1000 0, .d (keepD keep)] (rsk 1000 1001 k fs st) [] (fun x o => x = .tup [] ∧ ROut (crashS st keep) o) := by
  have hok := h.ok.crash keep
  have hcr : crashS st keep = { st with F := lastF (survs keep 0 st.Q st.F), Q := [], down := true, armed := 0 } := by unfold crashS; rw [if_neg (by rw [hdn]; decide)]
  rw [hcr] at hok ⊢
  have hlen := h.ok.len
  have hC0 : CrF (stC st) st.F := ⟨fun _ => rfl, h.ok.last, h.ok.out⟩
  have hok1 : (stC st).Ok := ⟨h.ok.now, h.ok.last, h.ok.out, h.ok.nodup, h.ok.file, h.ok.num, h.ok.lost0, by simp, h.ok.keepl⟩
  have hR0 : RkOk fs { stC st with F := st.F } := ⟨h.get, h.nodup, h.num, hok1⟩
  refine ob_enter Tryz.func21 rfl (by decide) _ Tryz.ntmps21 (le_ok rfl) rfl (fun w Pr β κ hE => ?_)
  dsimp only [slotsV, Nat.zero_add, Nat.reduceAdd]
  repeat' (first | refine nx ?_ | (apply aq_block_y; decide) | (apply qr_move; refine r_move ?_) | (apply qr_assign; refine r_assign ?_) | (apply at_cond; first | refine c_t ?_ | refine c_f ?_ | (refine aw_cond rfl (fun hb => ?_) (fun hb => ?_) <;> ((try have hq := dX hb); (try (exfalso; omega))))) | (apply qr_load; refine r_load ?_) | (apply qr_faddr; refine r_faddr ?_) | (apply qr_nilck; refine r_nilck ?_) | (apply qr_store; refine r_store ?_))
  generalize hFF : survs keep 0 st.Q st.F = FF at hok ⊢
  refine aw_lp (fun N sl ob => ∃ (i : Nat) (fs1 : List RFile) (F : Int → Fl), N = st.Q.length - i ∧ i ≤ st.Q.length ∧ RkOk fs1 { stC st with F := F } ∧ survs keep i (st.Q.drop i) F = FF ∧ sl = [(4, .d (.int i)), (0, .box 1000 0), (1, .d (keepD keep))] ∧ ob = rsk 1000 1001 k fs1 { stC st with F := F }) (⟨0, fs, st.F, rfl, Nat.zero_le _, hR0, by rw [List.drop_zero]; exact hFF, rfl, rfl⟩) ?_
  rintro N sl ob ⟨i, fs1, F, rfl, hi, hR, hsv, rfl, rfl⟩
  by_cases hgo : i < st.Q.length ∧ 0 < keep.length
  · obtain ⟨hlt, hkp⟩ := hgo
    have hmem := List.getElem_mem hlt
    rw [List.drop_eq_getElem_cons hlt] at hsv
    generalize hp : st.Q[i] = p at hmem hsv
    have hget : (st.Q.map secC)[i]? = some [D.int p.1, D.int p.2] := by rw [get_map hlt, hp]; rfl
    have p1 := h.ok.file p hmem
    have p2 := h.ok.num p hmem
    unfold survs at hsv
    have hidx : (i : Int) % (keep.length : Int) = ((i % keep.length : Nat) : Int) := (Int.natCast_emod i keep.length).symm
    have hsv2 := rsurv_any (k := k) hR p1 p2
    rcases keep_cases keep i with ⟨hk0, _⟩ | ⟨_, v, hgv, ⟨hv, hka⟩ | ⟨hv, hka⟩⟩
    · omega
    · have hq1 : decide (v % 2 = 1) = false := decide_eq_false (by omega)
      rw [hka, if_neg (by decide)] at hsv
      clear hv
      repeat' (first | (apply at_op (.binOp .rem _ _ _ _); refine al_y (y_rem rfl rfl (by omega)) (lt_ok rfl) ?_) | (apply at_op (.indexAddr _ (.tmp 31) _); refine al_y (y_ix (by first | exact ToD.d _ | exact ToD.row _ _ _ _ _ rfl) rfl rfl hidx hgv) (lt_ok rfl) ?_) | (apply at_op (.indexAddr _ _ _); refine al_y (y_ix (by first | exact ToD.d _ | exact ToD.row _ _ _ _ _ rfl) rfl rfl (by first | with_reducible rfl | exact lit0 | exact lit1 | exact lit2 | exact lit3 | exact lit4 | exact int_s _ | exact int_p _ _ | exact int_nat _ (by omega)) hget) (lt_ok rfl) ?_) | (apply at_op (.binOp .and _ _ _ _); refine al_y (y_and rfl rfl (i64_and1 _)) (lt_ok rfl) ?_) | (apply at_call; refine k_ocall [(1000, 1000), (1001, 1001)] (hsv2) hE ?_; rintro _ _ ⟨rfl, fs2, hR2, rfl⟩ <;> (intro _ _ h1 h2; simp only [renEqs, Nat.reduceBEq, renL_app, renL_ds, renL_und] at h1 h2; subst h1 h2)) | refine nx ?_ | (apply aq_block_y; decide) | (apply qr_move; refine r_move ?_) | (apply qr_assign; refine r_assign ?_) | (apply at_cond; first | refine c_t ?_ | refine c_f ?_ | (refine aw_cond rfl (fun hb => ?_) (fun hb => ?_) <;> ((try have hq := dX hb); (try (exfalso; omega))))) | (apply at_guard; first | refine g_go ?_ | refine g_nt ?_ | refine g_nf ?_ | refine g_nu ?_ | ((first | refine al_split_t rfl rfl (lt_ok rfl) (fun hb => ?_) (fun hb => ?_) | refine al_split_f rfl rfl (lt_ok rfl) (fun hb => ?_) (fun hb => ?_)) <;> ((try have hq := dX hb); (try (exfalso; omega))))) | (apply qr_pick; refine r_pick ?_) | (apply qr_lss; refine r_lss ?_) | (apply qr_gtr; refine r_gtr ?_) | (apply qr_eql; refine r_eql ?_) | (apply qr_add; refine r_add ?_) | (apply qr_rem; refine r_rem ?_) | (apply qr_len; refine r_len ?_) | (apply qr_ix; refine r_ix ?_) | (apply qr_load; refine r_load ?_) | (apply qr_faddr; refine r_faddr ?_) | (apply qr_nilck; refine r_nilck ?_) | (apply qr_store; refine r_store ?_) | (apply qr_build; refine r_build ?_) | (apply qr_lits; refine r_lits ?_) | (apply qr_appd; refine r_appd ?_))
      refine aq_rd (⟨i + 1, fs1, F, rfl, by omega, hR, hsv, rfl, rfl⟩) (by omega)
    · have hq1 : decide (v % 2 = 1) = true := decide_eq_true (by omega)
      rw [hka, if_pos rfl] at hsv
      clear hv
      repeat' (first | (apply at_op (.binOp .rem _ _ _ _); refine al_y (y_rem rfl rfl (by omega)) (lt_ok rfl) ?_) | (apply at_op (.indexAddr _ (.tmp 31) _); refine al_y (y_ix (by first | exact ToD.d _ | exact ToD.row _ _ _ _ _ rfl) rfl rfl hidx hgv) (lt_ok rfl) ?_) | (apply at_op (.indexAddr _ _ _); refine al_y (y_ix (by first | exact ToD.d _ | exact ToD.row _ _ _ _ _ rfl) rfl rfl (by first | with_reducible rfl | exact lit0 | exact lit1 | exact lit2 | exact lit3 | exact lit4 | exact int_s _ | exact int_p _ _ | exact int_nat _ (by omega)) hget) (lt_ok rfl) ?_) | (apply at_op (.binOp .and _ _ _ _); refine al_y (y_and rfl rfl (i64_and1 _)) (lt_ok rfl) ?_) | (apply at_call; refine k_ocall [(1000, 1000), (1001, 1001)] (hsv2) hE ?_; rintro _ _ ⟨rfl, fs2, hR2, rfl⟩ <;> (intro _ _ h1 h2; simp only [renEqs, Nat.reduceBEq, renL_app, renL_ds, renL_und] at h1 h2; subst h1 h2)) | refine nx ?_ | (apply aq_block_y; decide) | (apply qr_move; refine r_move ?_) | (apply qr_assign; refine r_assign ?_) | (apply at_cond; first | refine c_t ?_ | refine c_f ?_ | (refine aw_cond rfl (fun hb => ?_) (fun hb => ?_) <;> ((try have hq := dX hb); (try (exfalso; omega))))) | (apply at_guard; first | refine g_go ?_ | refine g_nt ?_ | refine g_nf ?_ | refine g_nu ?_ | ((first | refine al_split_t rfl rfl (lt_ok rfl) (fun hb => ?_) (fun hb => ?_) | refine al_split_f rfl rfl (lt_ok rfl) (fun hb => ?_) (fun hb => ?_)) <;> ((try have hq := dX hb); (try (exfalso; omega))))) | (apply qr_pick; refine r_pick ?_) | (apply qr_lss; refine r_lss ?_) | (apply qr_gtr; refine r_gtr ?_) | (apply qr_eql; refine r_eql ?_) | (apply qr_add; refine r_add ?_) | (apply qr_rem; refine r_rem ?_) | (apply qr_len; refine r_len ?_) | (apply qr_ix; refine r_ix ?_) | (apply qr_load; refine r_load ?_) | (apply qr_faddr; refine r_faddr ?_) | (apply qr_nilck; refine r_nilck ?_) | (apply qr_store; refine r_store ?_) | (apply qr_build; refine r_build ?_) | (apply qr_lits; refine r_lits ?_) | (apply qr_appd; refine r_appd ?_))
      refine aq_rd (⟨i + 1, fs2, surv F p, rfl, by omega, hR2, hsv, rfl, rfl⟩) (by omega)
  · have hFe : F = FF := by
      by_cases hk0 : keep.length = 0
      · rw [survs_nokeep hk0] at hsv
        exact hsv
      · rw [List.drop_of_length_le (by omega)] at hsv
        exact hsv
    subst hFe
    have hlen1 := hR.len
    have hend : RkOk (fs1.map durR) { st with F := lastF F, Q := [], down := true, armed := 0 } := ⟨fun f => by rw [rget_last, hR.get]; rfl, by rw [List.map_map]; exact hR.nodup, fun x hx => by
      obtain ⟨y, hy, rfl⟩ := List.mem_map.1 hx
      exact hR.num y hy, hok⟩
    clear hFF hsv
    by_cases hlt : i < st.Q.length
    · have hk0 : keep.length = 0 := by omega
      have hq0 : decide ((0 : Int) < (keep.length : Int)) = false := decide_eq_false (by omega)
      repeat' (first | refine nx ?_ | (apply aq_block_y; decide) | (apply qr_move; refine r_move ?_) | (apply qr_assign; refine r_assign ?_) | (apply at_cond; first | refine c_t ?_ | refine c_f ?_ | (refine aw_cond rfl (fun hb => ?_) (fun hb => ?_) <;> ((try have hq := dX hb); (try (exfalso; omega))))) | (apply at_guard; first | refine g_go ?_ | refine g_nt ?_ | refine g_nf ?_ | refine g_nu ?_ | ((first | refine al_split_t rfl rfl (lt_ok rfl) (fun hb => ?_) (fun hb => ?_) | refine al_split_f rfl rfl (lt_ok rfl) (fun hb => ?_) (fun hb => ?_)) <;> ((try have hq := dX hb); (try (exfalso; omega))))) | (apply qr_pick; refine r_pick ?_) | (apply qr_lss; refine r_lss ?_) | (apply qr_gtr; refine r_gtr ?_) | (apply qr_len; refine r_len ?_) | (apply qr_load; refine r_load ?_) | (apply qr_faddr; refine r_faddr ?_) | (apply qr_nilck; refine r_nilck ?_))
      refine aw_adopt 5 5 84 3 rfl rfl (lt_ok rfl) ?_
      refine aw_lp (fun N sl ob => ∃ j v : Nat, N = fs1.length - j ∧ j ≤ fs1.length ∧ sl = [(6, .d (.int j)), (5, .row 5 v), (0, .box 1000 0)] ∧ ob = (5, .row 84 3 v (((fs1.take j).map durR).map rfC)) :: rsk 1000 1001 k fs1 { stC st with F := F }) (⟨0, 0, rfl, Nat.zero_le _, rfl, rfl⟩) ?_
      rintro N sl ob ⟨j, v, rfl, hj, rfl, rfl⟩
      have htl : (fs1.take j).length = j := by simp; omega
      by_cases hlt2 : j < fs1.length
      · have hft := map_take1 durR hlt2
        have hget : (fs1.map rfC)[j]? = some (rfC fs1[j]) := get_map hlt2
        generalize fs1[j] = z at hft hget
        obtain ⟨m, z⟩ := z
        have hget : (fs1.map rfC)[j]? = some [D.int m, .str z.now, .str z.last] := hget
        repeat' (first | refine nx ?_ | (apply aq_block_y; decide) | (apply qr_move; refine r_move ?_) | (apply at_cond; first | refine c_t ?_ | refine c_f ?_ | (refine aw_cond rfl (fun hb => ?_) (fun hb => ?_) <;> ((try have hq := dX hb); (try (exfalso; omega))))) | (apply qr_lss; refine r_lss ?_) | (apply qr_len; refine r_len ?_) | (apply qr_load; refine r_load ?_) | (apply qr_faddr; refine r_faddr ?_) | (apply qr_nilck; refine r_nilck ?_))
        refine aw_mixo ([(1000, rskBox 1001 k fs1 (stCF st F)), (1001, rsecRow k st.Q)]) [(0, true), (1, true), (2, true), (3, true), (4, true), (5, true), (6, true), (7, true), (8, true), (9, true), (10, true), (11, true), (12, true), (13, true), (14, true), (15, true), (16, true), (17, true), (18, true), (19, true), (20, true), (21, true), (22, true), (23, true), (24, true), (25, true), (26, false), (27, false)] [28] (by kernel_rfl) (by kernel_rfl) (by kernel_rfl) (by decide) (by (repeat (first | exact obs_nil | (apply obs_cons; focus (first | rfl | (simp [find]; done)))))) ?_
        simp only [planned, tailed, List.filterMap_cons, List.filterMap_nil, List.getElem?_cons_zero, List.getElem?_cons_succ, Option.map_some]
        repeat' (first | apply am_nil | refine m_skip ?_ | refine n_skip ?_ | (apply at_am (.indexAddr _ _ _); first | refine am_y (by first | exact want_none | exact want_yes rfl rfl (by assumption) | exact want_yes rfl rfl (by with_reducible rfl)) (y_ix (by first | exact ToD.d _ | exact ToD.row _ _ _ _ _ rfl) rfl rfl (by first | with_reducible rfl | exact lit0 | exact lit1 | exact lit2 | exact lit3 | exact lit4 | exact int_s _ | exact int_p _ _ | exact int_nat _ (by omega)) hget) (lt_ok rfl) ?_ | refine am_y' (by first | exact want_none | exact want_yes rfl rfl (by assumption) | exact want_yes rfl rfl (by with_reducible rfl)) (y_ix (by first | exact ToD.d _ | exact ToD.row _ _ _ _ _ rfl) rfl rfl (by first | with_reducible rfl | exact lit0 | exact lit1 | exact lit2 | exact lit3 | exact lit4 | exact int_s _ | exact int_p _ _ | exact int_nat _ (by omega)) hget) (lt_ok rfl) ?_) | (apply at_am (.call { callee := .builtin .append, args := _, argTypes := _ }); refine am_append (by first | exact want_none | exact want_yes rfl rfl (by assumption) | exact want_yes rfl rfl (by with_reducible rfl)) rfl rfl rfl (by first | exact ToD.d _ | exact ToD.row _ _ _ _ _ rfl) rfl rfl (by simp [D.one, Value.oneCell']) (by decide) (by first | (simp only [List.length_map, List.length_append, List.length_cons, List.length_nil]; omega) | omega) (by first | (simp only [List.length_map, List.length_append, List.length_cons, List.length_nil]; omega) | omega) (lt_ok rfl) ?_) | (apply qm_move; refine m_move ?_) | (apply qm_ix; refine m_ix ?_) | (apply qm_load; refine m_load ?_) | (apply qm_faddr; refine m_faddr ?_) | (apply qm_nilck; refine m_nilck ?_) | (apply qm_build; refine m_build ?_) | (apply at_am (.buildSlice _ _ _); first | refine am_lit1 (by first | exact want_none | exact want_yes rfl rfl (by assumption) | exact want_yes rfl rfl (by with_reducible rfl)) rfl (by first | exact ToD.d _ | exact ToD.row _ _ _ _ _ rfl) (by first | (simp only [normV, normList, normMap]; rfl) | rfl) rfl (le_ok rfl) (lt_ok rfl) ?_ | refine am_lit (by first | exact want_none | exact want_yes rfl rfl (by assumption) | exact want_yes rfl rfl (by with_reducible rfl)) rfl (by repeat (first | exact PartsD.nil | (apply PartsD.cons; first | exact ToD.d _ | exact ToD.row _ _ _ _ _ rfl))) (by simp [dfill, putD, cellsD, zerosD, Value.cells]; rfl) (by first | (simp only [normV, normList, normMap]; rfl) | rfl) (by decide) (by decide) (lt_ok rfl) ?_) | (refine am_split rfl rfl (fun hb => ?_) (fun hb => ?_) <;> ((try have hq := dX hb); (try (exfalso; omega)))))
        repeat' (first | refine nx ?_ | (apply aq_block_y; decide) | (apply qr_move; refine r_move ?_) | (apply qr_assign; refine r_assign ?_) | (apply at_cond; first | refine c_t ?_ | refine c_f ?_ | (refine aw_cond rfl (fun hb => ?_) (fun hb => ?_) <;> ((try have hq := dX hb); (try (exfalso; omega))))) | (apply qr_add; refine r_add ?_) | (apply qr_ix; refine r_ix ?_) | (apply qr_load; refine r_load ?_) | (apply qr_faddr; refine r_faddr ?_) | (apply qr_nilck; refine r_nilck ?_) | (apply qr_build; refine r_build ?_) | (apply qr_lits; refine r_lits ?_) | (apply qr_appd; refine r_appd ?_))
        refine aq_rd (⟨j + 1, v + 1, rfl, by omega, rfl, by rw [hft, List.map_append]⟩) (by omega)
      · rw [List.take_of_length_le (by omega)]
        repeat' (first | (apply at_op (.store _ _ _); refine al_list 87 (by first | exact ToD.d _ | exact ToD.row _ _ _ _ _ rfl) ?_; refine al_step (st_store rfl rfl (ev_d rfl) nofun (by first | (simp only [normV, normList, normMap]; rfl) | rfl) (by simp [V.one, Value.oneCell']) (.inl ⟨rfl, rfl⟩) rfl (le_ok rfl) (by first | (simp only [normV, normList, normMap]; rfl) | rfl)) rfl ?_) | refine nx ?_ | (apply aq_block_y; decide) | (apply qr_move; refine r_move ?_) | (apply at_cond; first | refine c_t ?_ | refine c_f ?_ | (refine aw_cond rfl (fun hb => ?_) (fun hb => ?_) <;> ((try have hq := dX hb); (try (exfalso; omega))))) | (apply qr_lss; refine r_lss ?_) | (apply qr_len; refine r_len ?_) | (apply qr_load; refine r_load ?_) | (apply qr_faddr; refine r_faddr ?_) | (apply qr_nilck; refine r_nilck ?_) | (apply qr_store; refine r_store ?_))
        repeat' (first | refine nx ?_ | (apply aq_block_y; decide) | (apply qr_move; refine r_move ?_) | (apply at_cond; first | refine c_t ?_ | refine c_f ?_ | (refine aw_cond rfl (fun hb => ?_) (fun hb => ?_) <;> ((try have hq := dX hb); (try (exfalso; omega))))) | (apply qr_faddr; refine r_faddr ?_) | (apply qr_nilck; refine r_nilck ?_) | (apply qr_store; refine r_store ?_))
        refine aq_reset 1000 1 1001 rfl rfl rfl rfl ?_
        refine aq_protect 1001 rfl ?_
        try refine aq_end ?_
        refine oret0 (rsk 1000 1001 (k + 1) (fs1.map durR) { st with F := lastF F, Q := [], down := true, armed := 0 }) (by rfl) (⟨rfl, k + 1, _, hend, rfl⟩) sb okx
    · skip
      repeat' (first | refine nx ?_ | (apply aq_block_y; decide) | (apply qr_move; refine r_move ?_) | (apply qr_assign; refine r_assign ?_) | (apply at_cond; first | refine c_t ?_ | refine c_f ?_ | (refine aw_cond rfl (fun hb => ?_) (fun hb => ?_) <;> ((try have hq := dX hb); (try (exfalso; omega))))) | (apply at_guard; first | refine g_go ?_ | refine g_nt ?_ | refine g_nf ?_ | refine g_nu ?_ | ((first | refine al_split_t rfl rfl (lt_ok rfl) (fun hb => ?_) (fun hb => ?_) | refine al_split_f rfl rfl (lt_ok rfl) (fun hb => ?_) (fun hb => ?_)) <;> ((try have hq := dX hb); (try (exfalso; omega))))) | (apply qr_pick; refine r_pick ?_) | (apply qr_lss; refine r_lss ?_) | (apply qr_gtr; refine r_gtr ?_) | (apply qr_len; refine r_len ?_) | (apply qr_load; refine r_load ?_) | (apply qr_faddr; refine r_faddr ?_) | (apply qr_nilck; refine r_nilck ?_))
      refine aw_adopt 5 5 84 3 rfl rfl (lt_ok rfl) ?_
      refine aw_lp (fun N sl ob => ∃ j v : Nat, N = fs1.length - j ∧ j ≤ fs1.length ∧ sl = [(6, .d (.int j)), (5, .row 5 v), (0, .box 1000 0)] ∧ ob = (5, .row 84 3 v (((fs1.take j).map durR).map rfC)) :: rsk 1000 1001 k fs1 { stC st with F := F }) (⟨0, 0, rfl, Nat.zero_le _, rfl, rfl⟩) ?_
      rintro N sl ob ⟨j, v, rfl, hj, rfl, rfl⟩
      have htl : (fs1.take j).length = j := by simp; omega
      by_cases hlt2 : j < fs1.length
      · have hft := map_take1 durR hlt2
        have hget : (fs1.map rfC)[j]? = some (rfC fs1[j]) := get_map hlt2
        generalize fs1[j] = z at hft hget
        obtain ⟨m, z⟩ := z
        have hget : (fs1.map rfC)[j]? = some [D.int m, .str z.now, .str z.last] := hget
        repeat' (first | refine nx ?_ | (apply aq_block_y; decide) | (apply qr_move; refine r_move ?_) | (apply at_cond; first | refine c_t ?_ | refine c_f ?_ | (refine aw_cond rfl (fun hb => ?_) (fun hb => ?_) <;> ((try have hq := dX hb); (try (exfalso; omega))))) | (apply qr_lss; refine r_lss ?_) | (apply qr_len; refine r_len ?_) | (apply qr_load; refine r_load ?_) | (apply qr_faddr; refine r_faddr ?_) | (apply qr_nilck; refine r_nilck ?_))
        refine aw_mixo ([(1000, rskBox 1001 k fs1 (stCF st F)), (1001, rsecRow k st.Q)]) [(0, true), (1, true), (2, true), (3, true), (4, true), (5, true), (6, true), (7, true), (8, true), (9, true), (10, true), (11, true), (12, true), (13, true), (14, true), (15, true), (16, true), (17, true), (18, true), (19, true), (20, true), (21, true), (22, true), (23, true), (24, true), (25, true), (26, false), (27, false)] [28] (by kernel_rfl) (by kernel_rfl) (by kernel_rfl) (by decide) (by (repeat (first | exact obs_nil | (apply obs_cons; focus (first | rfl | (simp [find]; done)))))) ?_
        simp only [planned, tailed, List.filterMap_cons, List.filterMap_nil, List.getElem?_cons_zero, List.getElem?_cons_succ, Option.map_some]
        repeat' (first | apply am_nil | refine m_skip ?_ | refine n_skip ?_ | (apply at_am (.indexAddr _ _ _); first | refine am_y (by first | exact want_none | exact want_yes rfl rfl (by assumption) | exact want_yes rfl rfl (by with_reducible rfl)) (y_ix (by first | exact ToD.d _ | exact ToD.row _ _ _ _ _ rfl) rfl rfl (by first | with_reducible rfl | exact lit0 | exact lit1 | exact lit2 | exact lit3 | exact lit4 | exact int_s _ | exact int_p _ _ | exact int_nat _ (by omega)) hget) (lt_ok rfl) ?_ | refine am_y' (by first | exact want_none | exact want_yes rfl rfl (by assumption) | exact want_yes rfl rfl (by with_reducible rfl)) (y_ix (by first | exact ToD.d _ | exact ToD.row _ _ _ _ _ rfl) rfl rfl (by first | with_reducible rfl | exact lit0 | exact lit1 | exact lit2 | exact lit3 | exact lit4 | exact int_s _ | exact int_p _ _ | exact int_nat _ (by omega)) hget) (lt_ok rfl) ?_) | (apply at_am (.call { callee := .builtin .append, args := _, argTypes := _ }); refine am_append (by first | exact want_none | exact want_yes rfl rfl (by assumption) | exact want_yes rfl rfl (by with_reducible rfl)) rfl rfl rfl (by first | exact ToD.d _ | exact ToD.row _ _ _ _ _ rfl) rfl rfl (by simp [D.one, Value.oneCell']) (by decide) (by first | (simp only [List.length_map, List.length_append, List.length_cons, List.length_nil]; omega) | omega) (by first | (simp only [List.length_map, List.length_append, List.length_cons, List.length_nil]; omega) | omega) (lt_ok rfl) ?_) | (apply qm_move; refine m_move ?_) | (apply qm_ix; refine m_ix ?_) | (apply qm_load; refine m_load ?_) | (apply qm_faddr; refine m_faddr ?_) | (apply qm_nilck; refine m_nilck ?_) | (apply qm_build; refine m_build ?_) | (apply at_am (.buildSlice _ _ _); first | refine am_lit1 (by first | exact want_none | exact want_yes rfl rfl (by assumption) | exact want_yes rfl rfl (by with_reducible rfl)) rfl (by first | exact ToD.d _ | exact ToD.row _ _ _ _ _ rfl) (by first | (simp only [normV, normList, normMap]; rfl) | rfl) rfl (le_ok rfl) (lt_ok rfl) ?_ | refine am_lit (by first | exact want_none | exact want_yes rfl rfl (by assumption) | exact want_yes rfl rfl (by with_reducible rfl)) rfl (by repeat (first | exact PartsD.nil | (apply PartsD.cons; first | exact ToD.d _ | exact ToD.row _ _ _ _ _ rfl))) (by simp [dfill, putD, cellsD, zerosD, Value.cells]; rfl) (by first | (simp only [normV, normList, normMap]; rfl) | rfl) (by decide) (by decide) (lt_ok rfl) ?_) | (refine am_split rfl rfl (fun hb => ?_) (fun hb => ?_) <;> ((try have hq := dX hb); (try (exfalso; omega)))))
        repeat' (first | refine nx ?_ | (apply aq_block_y; decide) | (apply qr_move; refine r_move ?_) | (apply qr_assign; refine r_assign ?_) | (apply at_cond; first | refine c_t ?_ | refine c_f ?_ | (refine aw_cond rfl (fun hb => ?_) (fun hb => ?_) <;> ((try have hq := dX hb); (try (exfalso; omega))))) | (apply qr_add; refine r_add ?_) | (apply qr_ix; refine r_ix ?_) | (apply qr_load; refine r_load ?_) | (apply qr_faddr; refine r_faddr ?_) | (apply qr_nilck; refine r_nilck ?_) | (apply qr_build; refine r_build ?_) | (apply qr_lits; refine r_lits ?_) | (apply qr_appd; refine r_appd ?_))
        refine aq_rd (⟨j + 1, v + 1, rfl, by omega, rfl, by rw [hft, List.map_append]⟩) (by omega)
      · rw [List.take_of_length_le (by omega)]
        repeat' (first | (apply at_op (.store _ _ _); refine al_list 87 (by first | exact ToD.d _ | exact ToD.row _ _ _ _ _ rfl) ?_; refine al_step (st_store rfl rfl (ev_d rfl) nofun (by first | (simp only [normV, normList, normMap]; rfl) | rfl) (by simp [V.one, Value.oneCell']) (.inl ⟨rfl, rfl⟩) rfl (le_ok rfl) (by first | (simp only [normV, normList, normMap]; rfl) | rfl)) rfl ?_) | refine nx ?_ | (apply aq_block_y; decide) | (apply qr_move; refine r_move ?_) | (apply at_cond; first | refine c_t ?_ | refine c_f ?_ | (refine aw_cond rfl (fun hb => ?_) (fun hb => ?_) <;> ((try have hq := dX hb); (try (exfalso; omega))))) | (apply qr_lss; refine r_lss ?_) | (apply qr_len; refine r_len ?_) | (apply qr_load; refine r_load ?_) | (apply qr_faddr; refine r_faddr ?_) | (apply qr_nilck; refine r_nilck ?_) | (apply qr_store; refine r_store ?_))
        repeat' (first | refine nx ?_ | (apply aq_block_y; decide) | (apply qr_move; refine r_move ?_) | (apply at_cond; first | refine c_t ?_ | refine c_f ?_ | (refine aw_cond rfl (fun hb => ?_) (fun hb => ?_) <;> ((try have hq := dX hb); (try (exfalso; omega))))) | (apply qr_faddr; refine r_faddr ?_) | (apply qr_nilck; refine r_nilck ?_) | (apply qr_store; refine r_store ?_))
        refine aq_reset 1000 1 1001 rfl rfl rfl rfl ?_
        refine aq_protect 1001 rfl ?_
        try refine aq_end ?_
        refine oret0 (rsk 1000 1001 (k + 1) (fs1.map durR) { st with F := lastF F, Q := [], down := true, armed := 0 }) (by rfl) (⟨rfl, k + 1, _, hend, rfl⟩) sb okx
end
end Go.Proofs.YtfgibalcdjlnhaaGreatDoor
end
section
namespace Go.Proofs.YtfgibalcdjlnhaaGreatDoor
open Go.RowKit Go.ChangeMaps

/-- what comes leaves of a disk -/
def comesS (st : DS) (f at_ : Int) (s : ByteArray) : DS := if endsB st then crashS (if wrE (endS st) f at_ s = 0 then wrS (endS st) f at_ s else endS st) st.keep else endS st
theorem RkOk.ends {fs : List RFile} {st : DS} (h : RkOk fs st) : RkOk fs (endS st) := ⟨fun f => by rw [(endS_f st).1]; exact h.get f, h.nodup, h.num, endS_ok h.ok⟩
section
variable {k : Nat} {fs : List RFile} {st : DS}
theorem rcrash_any (h : RkOk fs st) {keep : List Int} (hkl : keep.length ≤ 1000000) : ObC 21 [.box 1000 0, .d (keepD keep)] (rsk 1000 1001 k fs st) [] (fun x o => x = .tup [] ∧ ROut (crashS st keep) o) := by
  cases hd : st.down
  · exact rcrash_up h keep hkl hd
  · refine (rcrash_down keep hd).mono fun x o ⟨h1, h2⟩ => ⟨h1, k, fs, ?_, ?_⟩
    · unfold crashS
      rw [if_pos hd]
      exact h
    · unfold crashS
      rw [if_pos hd]
      exact h2
theorem fits_wr {st : DS} (hd : st.down = false) {f at_ : Int} (hf : 0 ≤ f ∧ f ≤ 15) (s : ByteArray) : (wrE st f at_ s = 0) ↔ fitsB at_ s = true := by
  have hm : mayE st f = 0 := by
    unfold mayE
    rw [hd, if_neg (by decide), if_neg (by omega)]
  unfold wrE fitsB
  rw [if_neg (by simp [hm]), decide_eq_true_eq]
  by_cases h1 : at_ < 0
  · simp [h1]
    omega
  · rw [if_neg h1]
    by_cases h2 : 16777216 < at_ ∨ 16777216 - at_ < s.size
    · rw [if_pos h2]
      simp
      omega
    · rw [if_neg h2]
      simp
      omega
theorem out_wr {st : DS} {f at_ : Int} (hf : f < 0 ∨ 15 < f) (s : ByteArray) : wrE st f at_ s ≠ 0 := by
  unfold wrE
  have hm : mayE st f ≠ 0 := by
    unfold mayE
    cases st.down
    · rw [if_neg (by decide), if_pos (by omega)]
      decide
    · simp
  rw [if_pos hm]
  exact hm
end
end Go.Proofs.YtfgibalcdjlnhaaGreatDoor
end
section
set_option linter.unusedSimpArgs false
set_option linter.unusedVariables false
namespace Go.Proofs.YtfgibalcdjlnhaaGreatDoor
open Go.RowKit Go.ChangeMaps

section
variable {k : Nat} {fs : List RFile} {st : DS}
set_option maxHeartbeats 8000000 in
set_option maxRecDepth 20000 in
theorem rcomes_any (h : RkOk fs st) (f at_ : Int) (s : ByteArray) (hs : s.size ≤ 9223372036837998591) : ObC 55 [.box 1000 0, .d (.int f), .d (.int at_), .d (.str s)] (rsk 1000 1001 k fs st) [] (fun x o => x = .tup [] ∧ ROut (comesS st f at_ s) o) := by
  have ha := h.ok.armed0
  cases hdn : st.down
  · by_cases h0 : st.armed = 0
    · have hq : decide (st.armed = 0) = true := decide_eq_true h0
      have hC : comesS st f at_ s = st := by simp [comesS, endsB, endS, h0]
      rw [hC]
      refine ob_enter Tryz.func55 rfl (by decide) _ Tryz.ntmps55 (le_ok rfl) rfl (fun w Pr β κ hE => ?_)
      dsimp only [slotsV, Nat.zero_add, Nat.reduceAdd]
      repeat' (first | refine nx ?_ | (apply qr_move; refine r_move ?_) | (apply at_cond; first | refine c_t ?_ | refine c_f ?_ | (refine aw_cond rfl (fun hb => ?_) (fun hb => ?_) <;> ((try have hq := dX hb); (try (exfalso; omega))))) | (apply at_guard; first | refine g_go ?_ | refine g_nt ?_ | refine g_nf ?_ | refine g_nu ?_ | ((first | refine al_split_t rfl rfl (lt_ok rfl) (fun hb => ?_) (fun hb => ?_) | refine al_split_f rfl rfl (lt_ok rfl) (fun hb => ?_) (fun hb => ?_)) <;> ((try have hq := dX hb); (try (exfalso; omega))))) | (apply qr_pick; refine r_pick ?_) | (apply qr_leq; refine r_leq ?_) | (apply qr_gtr; refine r_gtr ?_) | (apply qr_geq; refine r_geq ?_) | (apply qr_eql; refine r_eql ?_) | (apply qr_sub; refine r_sub ?_) | (apply qr_load; refine r_load ?_) | (apply qr_faddr; refine r_faddr ?_) | (apply qr_nilck; refine r_nilck ?_) | (apply qr_store; refine r_store ?_))
      try refine aq_end ?_
      refine oret0 (rsk 1000 1001 k fs st) (by rfl) (⟨rfl, k, fs, h, rfl⟩) sb okx
    · have hq : decide (st.armed = 0) = false := decide_eq_false h0
      have hE : endS st = { st with armed := st.armed - 1 } := by simp [endS, hdn, h0]
      have hR := h.ends
      rw [hE] at hR
      by_cases h1 : 0 < st.armed - 1
      · have hq2 : decide (0 < st.armed - 1) = true := decide_eq_true h1
        have hC : comesS st f at_ s = { st with armed := st.armed - 1 } := by
          unfold comesS
          rw [if_neg (by simp [endsB]; omega), hE]
        rw [hC]
        refine ob_enter Tryz.func55 rfl (by decide) _ Tryz.ntmps55 (le_ok rfl) rfl (fun w Pr β κ hE => ?_)
        dsimp only [slotsV, Nat.zero_add, Nat.reduceAdd]
        repeat' (first | refine nx ?_ | (apply qr_move; refine r_move ?_) | (apply at_cond; first | refine c_t ?_ | refine c_f ?_ | (refine aw_cond rfl (fun hb => ?_) (fun hb => ?_) <;> ((try have hq := dX hb); (try (exfalso; omega))))) | (apply at_guard; first | refine g_go ?_ | refine g_nt ?_ | refine g_nf ?_ | refine g_nu ?_ | ((first | refine al_split_t rfl rfl (lt_ok rfl) (fun hb => ?_) (fun hb => ?_) | refine al_split_f rfl rfl (lt_ok rfl) (fun hb => ?_) (fun hb => ?_)) <;> ((try have hq := dX hb); (try (exfalso; omega))))) | (apply qr_pick; refine r_pick ?_) | (apply qr_leq; refine r_leq ?_) | (apply qr_gtr; refine r_gtr ?_) | (apply qr_geq; refine r_geq ?_) | (apply qr_eql; refine r_eql ?_) | (apply qr_sub; refine r_sub ?_) | (apply qr_load; refine r_load ?_) | (apply qr_faddr; refine r_faddr ?_) | (apply qr_nilck; refine r_nilck ?_) | (apply qr_store; refine r_store ?_))
        try refine aq_end ?_
        refine oret0 (rsk 1000 1001 k fs { st with armed := st.armed - 1 }) (by rfl) (⟨rfl, k, fs, hR, rfl⟩) sb okx
      · have hA : st.armed = 1 := by omega
        have hq2 : decide (0 < st.armed - 1) = false := decide_eq_false h1
        have hE' : endsB st = true := by simp [endsB, hdn, hA]
        have hkl := h.ok.keepl
        by_cases hf : 0 ≤ f ∧ f ≤ 15
        · have hiff := fits_wr (st := { st with armed := st.armed - 1 }) hdn hf (at_ := at_) s
          cases hfit : fitsB at_ s
          · have hw : ¬ wrE { st with armed := st.armed - 1 } f at_ s = 0 := fun e => by
              rw [hiff, hfit] at e
              cases e
            have hC : comesS st f at_ s = crashS { st with armed := st.armed - 1 } st.keep := by
              unfold comesS
              rw [if_pos hE', hE, if_neg hw]
            rw [hC]
            have hfi := rfits_any at_ s hs
            rw [hfit] at hfi
            refine ob_enter Tryz.func55 rfl (by decide) _ Tryz.ntmps55 (le_ok rfl) rfl (fun w Pr β κ hE => ?_)
            dsimp only [slotsV, Nat.zero_add, Nat.reduceAdd]
            repeat' (first | (apply at_call; refine k_call (hfi) hE ?_; rintro _ rfl) | (apply at_call; refine k_ocall [(1000, 1000), (1001, 1001)] (rcrash_any hR hkl) hE ?_; rintro _ _ ⟨rfl, k2, fs2, hR2, rfl⟩ <;> (intro _ _ h1 h2; simp only [renEqs, Nat.reduceBEq, renL_app, renL_ds, renL_und] at h1 h2; subst h1 h2)) | refine nx ?_ | (apply qr_move; refine r_move ?_) | (apply at_cond; first | refine c_t ?_ | refine c_f ?_ | (refine aw_cond rfl (fun hb => ?_) (fun hb => ?_) <;> ((try have hq := dX hb); (try (exfalso; omega))))) | (apply at_guard; first | refine g_go ?_ | refine g_nt ?_ | refine g_nf ?_ | refine g_nu ?_ | ((first | refine al_split_t rfl rfl (lt_ok rfl) (fun hb => ?_) (fun hb => ?_) | refine al_split_f rfl rfl (lt_ok rfl) (fun hb => ?_) (fun hb => ?_)) <;> ((try have hq := dX hb); (try (exfalso; omega))))) | (apply qr_pick; refine r_pick ?_) | (apply qr_leq; refine r_leq ?_) | (apply qr_gtr; refine r_gtr ?_) | (apply qr_geq; refine r_geq ?_) | (apply qr_eql; refine r_eql ?_) | (apply qr_sub; refine r_sub ?_) | (apply qr_load; refine r_load ?_) | (apply qr_faddr; refine r_faddr ?_) | (apply qr_nilck; refine r_nilck ?_) | (apply qr_store; refine r_store ?_))
            try refine aq_end ?_
            refine oret0 (rsk 1000 1001 k2 fs2 (crashS { st with armed := st.armed - 1 } st.keep)) (by rfl) (⟨rfl, k2, fs2, hR2, rfl⟩) sb okx
          · have hw : wrE { st with armed := st.armed - 1 } f at_ s = 0 := hiff.2 hfit
            have hC : comesS st f at_ s = crashS (wrS { st with armed := st.armed - 1 } f at_ s) st.keep := by
              unfold comesS
              rw [if_pos hE', hE, if_pos hw]
            rw [hC]
            have hfi := rfits_any at_ s hs
            rw [hfit] at hfi
            have hadd := radd_any (k := k) hR hw
            have hkeep : (wrS { st with armed := st.armed - 1 } f at_ s).keep = st.keep := (wrS_f _ _ _ _).1
            refine ob_enter Tryz.func55 rfl (by decide) _ Tryz.ntmps55 (le_ok rfl) rfl (fun w Pr β κ hE => ?_)
            dsimp only [slotsV, Nat.zero_add, Nat.reduceAdd]
            repeat' (first | (apply at_call; refine k_call (hfi) hE ?_; rintro _ rfl) | (apply at_call; refine k_ocall [(1000, 1000), (1001, 1001)] (hadd) hE ?_; rintro _ _ ⟨rfl, k1, fs1, hR1, rfl⟩ <;> (intro _ _ h1 h2; simp only [renEqs, Nat.reduceBEq, renL_app, renL_ds, renL_und] at h1 h2; subst h1 h2)) | (apply at_call; refine k_ocall [(1000, 1000), (1001, 1001)] (rcrash_any hR1 (hkeep ▸ hkl)) hE ?_; rintro _ _ ⟨rfl, k2, fs2, hR2, rfl⟩ <;> (intro _ _ h1 h2; simp only [renEqs, Nat.reduceBEq, renL_app, renL_ds, renL_und] at h1 h2; subst h1 h2)) | refine nx ?_ | (apply qr_move; refine r_move ?_) | (apply at_cond; first | refine c_t ?_ | refine c_f ?_ | (refine aw_cond rfl (fun hb => ?_) (fun hb => ?_) <;> ((try have hq := dX hb); (try (exfalso; omega))))) | (apply at_guard; first | refine g_go ?_ | refine g_nt ?_ | refine g_nf ?_ | refine g_nu ?_ | ((first | refine al_split_t rfl rfl (lt_ok rfl) (fun hb => ?_) (fun hb => ?_) | refine al_split_f rfl rfl (lt_ok rfl) (fun hb => ?_) (fun hb => ?_)) <;> ((try have hq := dX hb); (try (exfalso; omega))))) | (apply qr_pick; refine r_pick ?_) | (apply qr_leq; refine r_leq ?_) | (apply qr_gtr; refine r_gtr ?_) | (apply qr_geq; refine r_geq ?_) | (apply qr_eql; refine r_eql ?_) | (apply qr_sub; refine r_sub ?_) | (apply qr_load; refine r_load ?_) | (apply qr_faddr; refine r_faddr ?_) | (apply qr_nilck; refine r_nilck ?_) | (apply qr_store; refine r_store ?_))
            rw [hkeep] at hR2 ⊢
            try refine aq_end ?_
            refine oret0 (rsk 1000 1001 k2 fs2 (crashS (wrS { st with armed := st.armed - 1 } f at_ s) st.keep)) (by rfl) (⟨rfl, k2, fs2, hR2, rfl⟩) sb okx
        · have hw := out_wr (st := { st with armed := st.armed - 1 }) (f := f) (at_ := at_) (by omega) s
          have hC : comesS st f at_ s = crashS { st with armed := st.armed - 1 } st.keep := by
            unfold comesS
            rw [if_pos hE', hE, if_neg hw]
          rw [hC]
          by_cases hf1 : 0 ≤ f
          · skip
            refine ob_enter Tryz.func55 rfl (by decide) _ Tryz.ntmps55 (le_ok rfl) rfl (fun w Pr β κ hE => ?_)
            dsimp only [slotsV, Nat.zero_add, Nat.reduceAdd]
            repeat' (first | (apply at_call; refine k_ocall [(1000, 1000), (1001, 1001)] (rcrash_any hR hkl) hE ?_; rintro _ _ ⟨rfl, k2, fs2, hR2, rfl⟩ <;> (intro _ _ h1 h2; simp only [renEqs, Nat.reduceBEq, renL_app, renL_ds, renL_und] at h1 h2; subst h1 h2)) | refine nx ?_ | (apply qr_move; refine r_move ?_) | (apply at_cond; first | refine c_t ?_ | refine c_f ?_ | (refine aw_cond rfl (fun hb => ?_) (fun hb => ?_) <;> ((try have hq := dX hb); (try (exfalso; omega))))) | (apply at_guard; first | refine g_go ?_ | refine g_nt ?_ | refine g_nf ?_ | refine g_nu ?_ | ((first | refine al_split_t rfl rfl (lt_ok rfl) (fun hb => ?_) (fun hb => ?_) | refine al_split_f rfl rfl (lt_ok rfl) (fun hb => ?_) (fun hb => ?_)) <;> ((try have hq := dX hb); (try (exfalso; omega))))) | (apply qr_pick; refine r_pick ?_) | (apply qr_leq; refine r_leq ?_) | (apply qr_gtr; refine r_gtr ?_) | (apply qr_geq; refine r_geq ?_) | (apply qr_eql; refine r_eql ?_) | (apply qr_sub; refine r_sub ?_) | (apply qr_load; refine r_load ?_) | (apply qr_faddr; refine r_faddr ?_) | (apply qr_nilck; refine r_nilck ?_) | (apply qr_store; refine r_store ?_))
            try refine aq_end ?_
            refine oret0 (rsk 1000 1001 k2 fs2 (crashS { st with armed := st.armed - 1 } st.keep)) (by rfl) (⟨rfl, k2, fs2, hR2, rfl⟩) sb okx
          · skip
            refine ob_enter Tryz.func55 rfl (by decide) _ Tryz.ntmps55 (le_ok rfl) rfl (fun w Pr β κ hE => ?_)
            dsimp only [slotsV, Nat.zero_add, Nat.reduceAdd]
            repeat' (first | (apply at_call; refine k_ocall [(1000, 1000), (1001, 1001)] (rcrash_any hR hkl) hE ?_; rintro _ _ ⟨rfl, k2, fs2, hR2, rfl⟩ <;> (intro _ _ h1 h2; simp only [renEqs, Nat.reduceBEq, renL_app, renL_ds, renL_und] at h1 h2; subst h1 h2)) | refine nx ?_ | (apply qr_move; refine r_move ?_) | (apply at_cond; first | refine c_t ?_ | refine c_f ?_ | (refine aw_cond rfl (fun hb => ?_) (fun hb => ?_) <;> ((try have hq := dX hb); (try (exfalso; omega))))) | (apply at_guard; first | refine g_go ?_ | refine g_nt ?_ | refine g_nf ?_ | refine g_nu ?_ | ((first | refine al_split_t rfl rfl (lt_ok rfl) (fun hb => ?_) (fun hb => ?_) | refine al_split_f rfl rfl (lt_ok rfl) (fun hb => ?_) (fun hb => ?_)) <;> ((try have hq := dX hb); (try (exfalso; omega))))) | (apply qr_pick; refine r_pick ?_) | (apply qr_leq; refine r_leq ?_) | (apply qr_gtr; refine r_gtr ?_) | (apply qr_geq; refine r_geq ?_) | (apply qr_eql; refine r_eql ?_) | (apply qr_sub; refine r_sub ?_) | (apply qr_load; refine r_load ?_) | (apply qr_faddr; refine r_faddr ?_) | (apply qr_nilck; refine r_nilck ?_) | (apply qr_store; refine r_store ?_))
            try refine aq_end ?_
            refine oret0 (rsk 1000 1001 k2 fs2 (crashS { st with armed := st.armed - 1 } st.keep)) (by rfl) (⟨rfl, k2, fs2, hR2, rfl⟩) sb okx
  · have hC : comesS st f at_ s = st := by simp [comesS, endsB, endS, hdn]
    rw [hC]
    refine ob_enter Tryz.func55 rfl (by decide) _ Tryz.ntmps55 (le_ok rfl) rfl (fun w Pr β κ hE => ?_)
    dsimp only [slotsV, Nat.zero_add, Nat.reduceAdd]
    repeat' (first | refine nx ?_ | (apply qr_move; refine r_move ?_) | (apply at_cond; first | refine c_t ?_ | refine c_f ?_ | (refine aw_cond rfl (fun hb => ?_) (fun hb => ?_) <;> ((try have hq := dX hb); (try (exfalso; omega))))) | (apply at_guard; first | refine g_go ?_ | refine g_nt ?_ | refine g_nf ?_ | refine g_nu ?_ | ((first | refine al_split_t rfl rfl (lt_ok rfl) (fun hb => ?_) (fun hb => ?_) | refine al_split_f rfl rfl (lt_ok rfl) (fun hb => ?_) (fun hb => ?_)) <;> ((try have hq := dX hb); (try (exfalso; omega))))) | (apply qr_pick; refine r_pick ?_) | (apply qr_leq; refine r_leq ?_) | (apply qr_gtr; refine r_gtr ?_) | (apply qr_geq; refine r_geq ?_) | (apply qr_eql; refine r_eql ?_) | (apply qr_sub; refine r_sub ?_) | (apply qr_load; refine r_load ?_) | (apply qr_faddr; refine r_faddr ?_) | (apply qr_nilck; refine r_nilck ?_) | (apply qr_store; refine r_store ?_))
    try refine aq_end ?_
    refine oret0 (rsk 1000 1001 k fs st) (by rfl) (⟨rfl, k, fs, h, rfl⟩) sb okx
end
end Go.Proofs.YtfgibalcdjlnhaaGreatDoor
end
section
set_option linter.unusedSimpArgs false
set_option linter.unusedVariables false
namespace Go.Proofs.YtfgibalcdjlnhaaGreatDoor
open Go.RowKit Go.ChangeMaps

theorem comes_write {st : DS} (he : endsB st = true) (f at_ : Int) (s : ByteArray) : comesS st f at_ s = crashS (wrS (endS st) f at_ s) st.keep := by
  unfold comesS
  rw [if_pos he]
  by_cases hw : wrE (endS st) f at_ s = 0
  · rw [if_pos hw]
  · rw [if_neg hw, show wrS (endS st) f at_ s = endS st from if_pos (.inl hw)]
theorem comes_none {st : DS} (he : endsB st = false) (f at_ : Int) (s : ByteArray) : comesS st f at_ s = endS st := by
  unfold comesS
  rw [if_neg (by rw [he]; decide)]
section
variable {k : Nat} {fs : List RFile} {st : DS}
set_option maxHeartbeats 8000000 in
set_option maxRecDepth 20000 in
theorem rWrite_ends (h : RkOk fs st) (f at_ : Int) (s : ByteArray) (hs : s.size ≤ 9223372036837998591) (he : endsB st = true) : ObC 42 [.box 1000 0, .d (.int f), .d (.int at_), .d (.str s)] (rsk 1000 1001 k fs st) [] (fun x o => x = .d (.int 8) ∧ ROut (crashS (wrS (endS st) f at_ s) st.keep) o) := by
  have hc := rcomes_any (k := k) h f at_ s hs
  rw [comes_write he] at hc
  have hm := fun k fs => rmay_any (k := k) (fs := fs) (st := crashS (wrS (endS st) f at_ s) st.keep) f
  rw [may_down (crash_isdown _ _)] at hm
  refine ob_enter Tryz.func42 rfl (by decide) _ Tryz.ntmps42 (le_ok rfl) rfl (fun w Pr β κ hE => ?_)
  dsimp only [slotsV, Nat.zero_add, Nat.reduceAdd]
  repeat' (first | (apply at_call; refine k_ocall [(1000, 1000), (1001, 1001)] (hc) hE ?_; rintro _ _ ⟨rfl, k2, fs2, hR2, rfl⟩ <;> (intro _ _ h1 h2; simp only [renEqs, Nat.reduceBEq, renL_app, renL_ds, renL_und] at h1 h2; subst h1 h2)) | (apply at_call; refine k_ocall [(1000, 1000), (1001, 1001)] (hm k2 fs2) hE ?_; rintro _ _ ⟨rfl, rfl⟩ <;> (intro _ _ h1 h2; simp only [renEqs, Nat.reduceBEq, renL_app, renL_ds, renL_und] at h1 h2; subst h1 h2)) | refine nx ?_ | (apply qr_move; refine r_move ?_) | (apply qr_assign; refine r_assign ?_) | (apply at_cond; first | refine c_t ?_ | refine c_f ?_ | (refine aw_cond rfl (fun hb => ?_) (fun hb => ?_) <;> ((try have hq := dX hb); (try (exfalso; omega))))) | (apply qr_lss; refine r_lss ?_) | (apply qr_neq; refine r_neq ?_) | (apply qr_not; refine r_not ?_))
  refine oret1 (rsk 1000 1001 k2 fs2 (crashS (wrS (endS st) f at_ s) st.keep)) (by rfl) rv (⟨rfl, k2, fs2, hR2, rfl⟩) sb okx
set_option maxHeartbeats 8000000 in
set_option maxRecDepth 20000 in
theorem rWrite_not (h : RkOk fs st) (f at_ : Int) (s : ByteArray) (hs : s.size ≤ 9223372036837998591) (he : endsB st = false) : ObC 42 [.box 1000 0, .d (.int f), .d (.int at_), .d (.str s)] (rsk 1000 1001 k fs st) [] (fun x o => x = .d (.int (wrE (endS st) f at_ s)) ∧ ROut (wrS (endS st) f at_ s) o) := by
  have hc := rcomes_any (k := k) h f at_ s hs
  rw [comes_none he] at hc
  have hm := fun k fs => rmay_any (k := k) (fs := fs) (st := endS st) f
  by_cases hm0 : mayE (endS st) f = 0
  · have hm1 := hm
    rw [hm0] at hm1
    have ht0 : (!decide ((0 : Int) = 0)) = false := rfl
    obtain ⟨hd, hf⟩ := may_ok hm0
    have hfi := rfits_any at_ s hs
    have hiff := fits_wr (st := endS st) hd (f := f) (by omega) (at_ := at_) s
    by_cases ha : at_ < 0
    · have hw : wrE (endS st) f at_ s = 1 := by unfold wrE; rw [if_neg (by simp [hm0]), if_pos ha]
      rw [hw, show wrS (endS st) f at_ s = endS st from if_pos (.inl (by rw [hw]; decide))]
      refine ob_enter Tryz.func42 rfl (by decide) _ Tryz.ntmps42 (le_ok rfl) rfl (fun w Pr β κ hE => ?_)
      dsimp only [slotsV, Nat.zero_add, Nat.reduceAdd]
      repeat' (first | (apply at_call; refine k_ocall [(1000, 1000), (1001, 1001)] (hc) hE ?_; rintro _ _ ⟨rfl, k2, fs2, hR2, rfl⟩ <;> (intro _ _ h1 h2; simp only [renEqs, Nat.reduceBEq, renL_app, renL_ds, renL_und] at h1 h2; subst h1 h2)) | (apply at_call; refine k_ocall [(1000, 1000), (1001, 1001)] (hm1 k2 fs2) hE ?_; rintro _ _ ⟨rfl, rfl⟩ <;> (intro _ _ h1 h2; simp only [renEqs, Nat.reduceBEq, renL_app, renL_ds, renL_und] at h1 h2; subst h1 h2)) | refine nx ?_ | (apply qr_move; refine r_move ?_) | (apply qr_assign; refine r_assign ?_) | (apply at_cond; first | refine c_t ?_ | refine c_f ?_ | (refine aw_cond rfl (fun hb => ?_) (fun hb => ?_) <;> ((try have hq := dX hb); (try (exfalso; omega))))) | (apply qr_lss; refine r_lss ?_) | (apply qr_neq; refine r_neq ?_) | (apply qr_not; refine r_not ?_))
      refine oret1 (rsk 1000 1001 k2 fs2 (endS st)) (by rfl) rv (⟨rfl, k2, fs2, hR2, rfl⟩) sb okx
    · cases hfit : fitsB at_ s
      · have hw0 : wrE (endS st) f at_ s ≠ 0 := fun e => by
          rw [hiff, hfit] at e
          cases e
        have hw : wrE (endS st) f at_ s = 6 := by
          unfold wrE at hw0 ⊢
          rw [if_neg (by simp [hm0]), if_neg ha] at hw0 ⊢
          split
          · rfl
          · rename_i hn
            rw [if_neg hn] at hw0
            exact absurd rfl hw0
        rw [hfit] at hfi
        rw [hw, show wrS (endS st) f at_ s = endS st from if_pos (.inl hw0)]
        refine ob_enter Tryz.func42 rfl (by decide) _ Tryz.ntmps42 (le_ok rfl) rfl (fun w Pr β κ hE => ?_)
        dsimp only [slotsV, Nat.zero_add, Nat.reduceAdd]
        repeat' (first | (apply at_call; refine k_ocall [(1000, 1000), (1001, 1001)] (hc) hE ?_; rintro _ _ ⟨rfl, k2, fs2, hR2, rfl⟩ <;> (intro _ _ h1 h2; simp only [renEqs, Nat.reduceBEq, renL_app, renL_ds, renL_und] at h1 h2; subst h1 h2)) | (apply at_call; refine k_ocall [(1000, 1000), (1001, 1001)] (hm1 k2 fs2) hE ?_; rintro _ _ ⟨rfl, rfl⟩ <;> (intro _ _ h1 h2; simp only [renEqs, Nat.reduceBEq, renL_app, renL_ds, renL_und] at h1 h2; subst h1 h2)) | (apply at_call; refine k_call (hfi) hE ?_; rintro _ rfl) | refine nx ?_ | (apply qr_move; refine r_move ?_) | (apply qr_assign; refine r_assign ?_) | (apply at_cond; first | refine c_t ?_ | refine c_f ?_ | (refine aw_cond rfl (fun hb => ?_) (fun hb => ?_) <;> ((try have hq := dX hb); (try (exfalso; omega))))) | (apply qr_lss; refine r_lss ?_) | (apply qr_neq; refine r_neq ?_) | (apply qr_not; refine r_not ?_))
        refine oret1 (rsk 1000 1001 k2 fs2 (endS st)) (by rfl) rv (⟨rfl, k2, fs2, hR2, rfl⟩) sb okx
      · have hw := hiff.2 hfit
        rw [hfit] at hfi
        rw [hw]
        refine ob_enter Tryz.func42 rfl (by decide) _ Tryz.ntmps42 (le_ok rfl) rfl (fun w Pr β κ hE => ?_)
        dsimp only [slotsV, Nat.zero_add, Nat.reduceAdd]
        repeat' (first | (apply at_call; refine k_ocall [(1000, 1000), (1001, 1001)] (hc) hE ?_; rintro _ _ ⟨rfl, k2, fs2, hR2, rfl⟩ <;> (intro _ _ h1 h2; simp only [renEqs, Nat.reduceBEq, renL_app, renL_ds, renL_und] at h1 h2; subst h1 h2)) | (apply at_call; refine k_ocall [(1000, 1000), (1001, 1001)] (hm1 k2 fs2) hE ?_; rintro _ _ ⟨rfl, rfl⟩ <;> (intro _ _ h1 h2; simp only [renEqs, Nat.reduceBEq, renL_app, renL_ds, renL_und] at h1 h2; subst h1 h2)) | (apply at_call; refine k_call (hfi) hE ?_; rintro _ rfl) | (apply at_call; refine k_ocall [(1000, 1000), (1001, 1001)] (radd_any hR2 hw) hE ?_; rintro _ _ ⟨rfl, k3, fs3, hR3, rfl⟩ <;> (intro _ _ h1 h2; simp only [renEqs, Nat.reduceBEq, renL_app, renL_ds, renL_und] at h1 h2; subst h1 h2)) | refine nx ?_ | (apply qr_move; refine r_move ?_) | (apply qr_assign; refine r_assign ?_) | (apply at_cond; first | refine c_t ?_ | refine c_f ?_ | (refine aw_cond rfl (fun hb => ?_) (fun hb => ?_) <;> ((try have hq := dX hb); (try (exfalso; omega))))) | (apply qr_lss; refine r_lss ?_) | (apply qr_neq; refine r_neq ?_) | (apply qr_not; refine r_not ?_))
        refine oret1 (rsk 1000 1001 k3 fs3 (wrS (endS st) f at_ s)) (by rfl) rv (⟨rfl, k3, fs3, hR3, rfl⟩) sb okx
  · have hw : wrE (endS st) f at_ s = mayE (endS st) f := by unfold wrE; rw [if_pos hm0]
    have hS : wrS (endS st) f at_ s = endS st := if_pos (.inl (by rw [hw]; exact hm0))
    rw [hw, hS]
    have hq2 : (!decide (mayE (endS st) f = 0)) = true := by rw [decide_eq_false hm0]; rfl
    refine ob_enter Tryz.func42 rfl (by decide) _ Tryz.ntmps42 (le_ok rfl) rfl (fun w Pr β κ hE => ?_)
    dsimp only [slotsV, Nat.zero_add, Nat.reduceAdd]
    repeat' (first | (apply at_call; refine k_ocall [(1000, 1000), (1001, 1001)] (hc) hE ?_; rintro _ _ ⟨rfl, k2, fs2, hR2, rfl⟩ <;> (intro _ _ h1 h2; simp only [renEqs, Nat.reduceBEq, renL_app, renL_ds, renL_und] at h1 h2; subst h1 h2)) | (apply at_call; refine k_ocall [(1000, 1000), (1001, 1001)] (hm k2 fs2) hE ?_; rintro _ _ ⟨rfl, rfl⟩ <;> (intro _ _ h1 h2; simp only [renEqs, Nat.reduceBEq, renL_app, renL_ds, renL_und] at h1 h2; subst h1 h2)) | refine nx ?_ | (apply qr_move; refine r_move ?_) | (apply qr_assign; refine r_assign ?_) | (apply at_cond; first | refine c_t ?_ | refine c_f ?_ | (refine aw_cond rfl (fun hb => ?_) (fun hb => ?_) <;> ((try have hq := dX hb); (try (exfalso; omega))))) | (apply qr_lss; refine r_lss ?_) | (apply qr_neq; refine r_neq ?_) | (apply qr_not; refine r_not ?_))
    refine oret1 (rsk 1000 1001 k2 fs2 (endS st)) (by rfl) rv (⟨rfl, k2, fs2, hR2, rfl⟩) sb okx
end
end Go.Proofs.YtfgibalcdjlnhaaGreatDoor
end
section
set_option linter.unusedSimpArgs false
set_option linter.unusedVariables false
namespace Go.Proofs.YtfgibalcdjlnhaaGreatDoor
open Go.RowKit Go.ChangeMaps

theorem RkOk.lose {fs : List RFile} {st : DS} (h : RkOk fs st) {n : Int} (hn : 0 ≤ n ∧ n ≤ 9223372036854775807) : RkOk fs { st with lost := n } := ⟨h.get, h.nodup, h.num, ⟨h.ok.now, h.ok.last, h.ok.out, h.ok.nodup, h.ok.file, h.ok.num, hn, h.ok.armed0, h.ok.keepl⟩⟩
/-- comes, of no write -/
theorem comes_sync {st : DS} (h : endsB st = true) : comesS st 0 0 ⟨#[]⟩ = crashS (endS st) st.keep := by
  rw [comes_write h]
  have : wrS (endS st) 0 0 ⟨#[]⟩ = endS st := if_pos (.inr rfl)
  rw [this]
section
variable {k : Nat} {fs : List RFile} {st : DS}
set_option maxHeartbeats 8000000 in
set_option maxRecDepth 20000 in
theorem rSync_any (h : RkOk fs st) (f : Int) : ObC 36 [.box 1000 0, .d (.int f)] (rsk 1000 1001 k fs st) [] (fun x o => x = .d (.int (syncR st f).1) ∧ ROut (syncR st f).2 o) := by
  have hc := rcomes_any (k := k) h 0 0 ⟨#[]⟩ (by decide)
  unfold syncR
  cases he : endsB st
  · rw [comes_none he] at hc
    rw [if_neg (by decide)]
    have hm := fun k fs => rmay_any (k := k) (fs := fs) (st := endS st) f
    by_cases hm0 : mayE (endS st) f = 0
    · rw [if_neg (by simp [hm0])]
      have hmf := (may_ok hm0).2
      rw [hm0] at hm
      have ht0 : (!decide ((0 : Int) = 0)) = false := rfl
      have hl := h.ends.ok.lost0
      by_cases hlost : 0 < (endS st).lost
      · rw [if_pos hlost]
        have hq : decide (0 < (endS st).lost) = true := decide_eq_true hlost
        refine ob_enter Tryz.func36 rfl (by decide) _ Tryz.ntmps36 (le_ok rfl) rfl (fun w Pr β κ hE => ?_)
        dsimp only [slotsV, Nat.zero_add, Nat.reduceAdd]
        repeat' (first | (apply at_call; refine k_ocall [(1000, 1000), (1001, 1001)] (hc) hE ?_; rintro _ _ ⟨rfl, k2, fs2, hR2, rfl⟩ <;> (intro _ _ h1 h2; simp only [renEqs, Nat.reduceBEq, renL_app, renL_ds, renL_und] at h1 h2; subst h1 h2)) | (apply at_call; refine k_ocall [(1000, 1000), (1001, 1001)] (hm k2 fs2) hE ?_; rintro _ _ ⟨rfl, rfl⟩ <;> (intro _ _ h1 h2; simp only [renEqs, Nat.reduceBEq, renL_app, renL_ds, renL_und] at h1 h2; subst h1 h2)) | refine nx ?_ | (apply qr_move; refine r_move ?_) | (apply qr_assign; refine r_assign ?_) | (apply at_cond; first | refine c_t ?_ | refine c_f ?_ | (refine aw_cond rfl (fun hb => ?_) (fun hb => ?_) <;> ((try have hq := dX hb); (try (exfalso; omega))))) | (apply qr_gtr; refine r_gtr ?_) | (apply qr_neq; refine r_neq ?_) | (apply qr_sub; refine r_sub ?_) | (apply qr_load; refine r_load ?_) | (apply qr_faddr; refine r_faddr ?_) | (apply qr_field; refine r_field ?_) | (apply qr_nilck; refine r_nilck ?_) | (apply qr_store; refine r_store ?_))
        refine oret1 (rsk 1000 1001 k2 fs2 { endS st with lost := (endS st).lost - 1 }) (by rfl) rv (⟨rfl, k2, fs2, hR2.lose (by omega), rfl⟩) sb okx
      · rw [if_neg hlost]
        have hq : decide (0 < (endS st).lost) = false := decide_eq_false hlost
        refine ob_enter Tryz.func36 rfl (by decide) _ Tryz.ntmps36 (le_ok rfl) rfl (fun w Pr β κ hE => ?_)
        dsimp only [slotsV, Nat.zero_add, Nat.reduceAdd]
        repeat' (first | (apply at_call; refine k_ocall [(1000, 1000), (1001, 1001)] (hc) hE ?_; rintro _ _ ⟨rfl, k2, fs2, hR2, rfl⟩ <;> (intro _ _ h1 h2; simp only [renEqs, Nat.reduceBEq, renL_app, renL_ds, renL_und] at h1 h2; subst h1 h2)) | (apply at_call; refine k_ocall [(1000, 1000), (1001, 1001)] (hm k2 fs2) hE ?_; rintro _ _ ⟨rfl, rfl⟩ <;> (intro _ _ h1 h2; simp only [renEqs, Nat.reduceBEq, renL_app, renL_ds, renL_und] at h1 h2; subst h1 h2)) | (apply at_call; refine k_ocall [(1000, 1000), (1001, 1001)] (rget_any hR2 f) hE ?_; rintro _ _ ⟨rfl, rfl⟩ <;> (intro _ _ h1 h2; simp only [renEqs, Nat.reduceBEq, renL_app, renL_ds, renL_und] at h1 h2; subst h1 h2)) | (apply at_call; refine k_ocall [(1000, 1000), (1001, 1001)] (rsettle_any hR2 f ((endS st).F f).now) hE ?_; rintro _ _ ⟨rfl, k3, rfl⟩ <;> (intro _ _ h1 h2; simp only [renEqs, Nat.reduceBEq, renL_app, renL_ds, renL_und] at h1 h2; subst h1 h2)) | refine nx ?_ | (apply qr_move; refine r_move ?_) | (apply qr_assign; refine r_assign ?_) | (apply at_cond; first | refine c_t ?_ | refine c_f ?_ | (refine aw_cond rfl (fun hb => ?_) (fun hb => ?_) <;> ((try have hq := dX hb); (try (exfalso; omega))))) | (apply qr_gtr; refine r_gtr ?_) | (apply qr_neq; refine r_neq ?_) | (apply qr_sub; refine r_sub ?_) | (apply qr_load; refine r_load ?_) | (apply qr_faddr; refine r_faddr ?_) | (apply qr_field; refine r_field ?_) | (apply qr_nilck; refine r_nilck ?_) | (apply qr_store; refine r_store ?_))
        refine oret1 (rsk 1000 1001 k3 (rset fs2 (f, ⟨((endS st).F f).now, ((endS st).F f).now⟩)) (settleS (endS st) f ((endS st).F f).now)) (by rfl) rv (⟨rfl, k3, _, hR2.put hmf rfl (hR2.ok.settle hmf (hR2.ok.now f)), rfl⟩) sb okx
    · rw [if_pos hm0]
      have hq2 : (!decide (mayE (endS st) f = 0)) = true := by rw [decide_eq_false hm0]; rfl
      refine ob_enter Tryz.func36 rfl (by decide) _ Tryz.ntmps36 (le_ok rfl) rfl (fun w Pr β κ hE => ?_)
      dsimp only [slotsV, Nat.zero_add, Nat.reduceAdd]
      repeat' (first | (apply at_call; refine k_ocall [(1000, 1000), (1001, 1001)] (hc) hE ?_; rintro _ _ ⟨rfl, k2, fs2, hR2, rfl⟩ <;> (intro _ _ h1 h2; simp only [renEqs, Nat.reduceBEq, renL_app, renL_ds, renL_und] at h1 h2; subst h1 h2)) | (apply at_call; refine k_ocall [(1000, 1000), (1001, 1001)] (hm k2 fs2) hE ?_; rintro _ _ ⟨rfl, rfl⟩ <;> (intro _ _ h1 h2; simp only [renEqs, Nat.reduceBEq, renL_app, renL_ds, renL_und] at h1 h2; subst h1 h2)) | refine nx ?_ | (apply qr_move; refine r_move ?_) | (apply qr_assign; refine r_assign ?_) | (apply at_cond; first | refine c_t ?_ | refine c_f ?_ | (refine aw_cond rfl (fun hb => ?_) (fun hb => ?_) <;> ((try have hq := dX hb); (try (exfalso; omega))))) | (apply qr_gtr; refine r_gtr ?_) | (apply qr_neq; refine r_neq ?_) | (apply qr_sub; refine r_sub ?_) | (apply qr_load; refine r_load ?_) | (apply qr_faddr; refine r_faddr ?_) | (apply qr_field; refine r_field ?_) | (apply qr_nilck; refine r_nilck ?_) | (apply qr_store; refine r_store ?_))
      refine oret1 (rsk 1000 1001 k2 fs2 (endS st)) (by rfl) rv (⟨rfl, k2, fs2, hR2, rfl⟩) sb okx
  · rw [comes_sync he] at hc
    rw [if_pos rfl]
    have hm := fun k fs => rmay_any (k := k) (fs := fs) (st := crashS (endS st) st.keep) f
    rw [may_down (crash_isdown _ _)] at hm
    refine ob_enter Tryz.func36 rfl (by decide) _ Tryz.ntmps36 (le_ok rfl) rfl (fun w Pr β κ hE => ?_)
    dsimp only [slotsV, Nat.zero_add, Nat.reduceAdd]
    repeat' (first | (apply at_call; refine k_ocall [(1000, 1000), (1001, 1001)] (hc) hE ?_; rintro _ _ ⟨rfl, k2, fs2, hR2, rfl⟩ <;> (intro _ _ h1 h2; simp only [renEqs, Nat.reduceBEq, renL_app, renL_ds, renL_und] at h1 h2; subst h1 h2)) | (apply at_call; refine k_ocall [(1000, 1000), (1001, 1001)] (hm k2 fs2) hE ?_; rintro _ _ ⟨rfl, rfl⟩ <;> (intro _ _ h1 h2; simp only [renEqs, Nat.reduceBEq, renL_app, renL_ds, renL_und] at h1 h2; subst h1 h2)) | refine nx ?_ | (apply qr_move; refine r_move ?_) | (apply qr_assign; refine r_assign ?_) | (apply at_cond; first | refine c_t ?_ | refine c_f ?_ | (refine aw_cond rfl (fun hb => ?_) (fun hb => ?_) <;> ((try have hq := dX hb); (try (exfalso; omega))))) | (apply qr_gtr; refine r_gtr ?_) | (apply qr_neq; refine r_neq ?_) | (apply qr_sub; refine r_sub ?_) | (apply qr_load; refine r_load ?_) | (apply qr_faddr; refine r_faddr ?_) | (apply qr_field; refine r_field ?_) | (apply qr_nilck; refine r_nilck ?_) | (apply qr_store; refine r_store ?_))
    refine oret1 (rsk 1000 1001 k2 fs2 (crashS (endS st) st.keep)) (by rfl) rv (⟨rfl, k2, fs2, hR2, rfl⟩) sb okx
end
end Go.Proofs.YtfgibalcdjlnhaaGreatDoor
end
