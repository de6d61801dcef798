/-
  A disk: Copy; acts. Conditions: none.
-/
import Derived.Test.YtabaflklognhaaaDkI
set_option linter.unusedSimpArgs false
set_option linter.unusedVariables false
namespace Go.Proofs.Ytabaflklognhaaa
open Go.RowKit Go.ChangeMaps

set_option maxHeartbeats 4000000 in
set_option maxRecDepth 20000 in
theorem cloneF_run (b : Nat) (es : Array MapEntry) (clock : Nat) (w : World) (hb : w.heap[b]? = some (.map es clock)) :
    Calls Try.prog 40 #[.map (some b)] w fun e w' => e = .returned (.map (some w.heap.size)) ∧ w' = w.alloc (.map es clock) := by
  have hq := fun w => run_mnil w (some b) Try.underlying52
  have mixed : Try.prog.follows .mixedOrders = true := follows_mixed
  go_enter Try.func40, Try.ntmps40
  go_wp2
  rw [run_callFunc_extern Try.func55 (by kernel_rfl) (by kernel_rfl) (by kernel_rfl) (e := Extern.MapsClone.clone) (by kernel_rfl), run_mclone w 52 hb]
  simp only [Result.andThen]
  rw [Oper.upon_value]
  go_wp2
  rw [run_massert _ _ Try.underlying52]
  simp only [Result.andThen]
  rw [Oper.upon_value]
  go_wp2
  go_ret
  exact ⟨rfl, rfl⟩
set_option maxHeartbeats 4000000 in
set_option maxRecDepth 20000 in
theorem cloneS_run (b : Nat) (es : Array MapEntry) (clock : Nat) (w : World) (hb : w.heap[b]? = some (.map es clock)) :
    Calls Try.prog 42 #[.map (some b)] w fun e w' => e = .returned (.map (some w.heap.size)) ∧ w' = w.alloc (.map es clock) := by
  have hq := fun w => run_mnil w (some b) Try.underlying53
  have mixed : Try.prog.follows .mixedOrders = true := follows_mixed
  go_enter Try.func42, Try.ntmps42
  go_wp2
  rw [run_callFunc_extern Try.func55 (by kernel_rfl) (by kernel_rfl) (by kernel_rfl) (e := Extern.MapsClone.clone) (by kernel_rfl), run_mclone w 53 hb]
  simp only [Result.andThen]
  rw [Oper.upon_value]
  go_wp2
  rw [run_massert _ _ Try.underlying53]
  simp only [Result.andThen]
  rw [Oper.upon_value]
  go_wp2
  go_ret
  exact ⟨rfl, rfl⟩
theorem cloneF_any (c : Nat) (l : List ME) : ObC 40 [.mp 1000] [(1000, .map 52 c l)] [3] (fun x o => x = .mp 3 ∧ o = [(3, .map 52 c l), (1000, .map 52 c l)]) :=
  clone_obc ⟨_, Try.func40, by decide, rfl⟩ cloneF_run c l
theorem cloneS_any (c : Nat) (l : List ME) : ObC 42 [.mp 1000] [(1000, .map 53 c l)] [3] (fun x o => x = .mp 3 ∧ o = [(3, .map 53 c l), (1000, .map 53 c l)]) :=
  clone_obc ⟨_, Try.func42, by decide, rfl⟩ cloneS_run c l
theorem vals_secs (Q : List Sec) : valsOnly (Q.map secC) := by
  intro q hq z hz
  obtain ⟨p, _, rfl⟩ := List.mem_map.1 hq
  simp [secC] at hz
  rcases hz with rfl | rfl <;> exact ⟨_, rfl⟩
theorem one_secs (Q : List Sec) : ∀ q ∈ Q.map secC, ∀ z ∈ q, D.one z = true := by
  intro q hq z hz
  obtain ⟨p, _, rfl⟩ := List.mem_map.1 hq
  simp [secC] at hz
  rcases hz with rfl | rfl <;> rfl
set_option maxHeartbeats 8000000 in
set_option maxRecDepth 20000 in
theorem cloneQ_any (k : Nat) (Q : List Sec) (hQ : Q.length ≤ 4194320) : ObC 41 [.row 1000 k] [(1000, secRow k Q)] [5] (fun x o => ∃ k', x = .row 5 k' ∧ o = [(5, secRow k' Q), (1000, secRow k Q)]) := by
  refine ob_enter Try.func41 rfl (by decide) _ Try.ntmps41 (le_ok rfl) rfl (fun w Pr β κ hE => ?_)
  dsimp only [slotsV, Nat.zero_add, Nat.reduceAdd]
  repeat' (first | (apply at_op (.binOp .eql _ _ _ _); refine al_vecnil rfl rfl Try.underlying54 (lt_ok rfl) (fun b hb0 => ?_)) | (apply at_op (.buildSlice _ _ _); refine al_step (st_litR0 rfl (lt_ok rfl) rfl) rfl ?_; refine al_unrow 5 rfl ?_) | (apply at_op (.call { callee := .builtin .append, args := _, argTypes := _ }); refine al_step (st_vappendv rfl rfl rfl rfl (vals_secs Q) rfl rfl (one_secs Q) (by decide) (by first | (simp only [List.length_map, List.length_append, List.length_cons, List.length_nil]; omega) | omega) (by first | (simp only [List.length_map, List.length_append, List.length_cons, List.length_nil]; omega) | omega) (lt_ok rfl)) rfl ?_) | apply aw_seq | apply aw_region | apply al_nil | apply aq_np | apply aq_then | apply aq_then_x | apply aq_then_r | apply aw_skip | apply aw_exit | apply aw_ret | (apply at_op (.move _); refine r_move ?_) | (apply at_op (.assign _); refine r_assign ?_) | (apply at_cond; first | refine c_t ?_ | refine c_f ?_ | (refine aw_cond rfl (fun hb => ?_) (fun hb => ?_) <;> ((first | have hq := of_decide_eq_true hb | have hq := of_decide_eq_false hb | have hq := dNT hb | have hq := dNF hb | skip); (try (exfalso; omega))))) | (apply at_op (.binOp .eql _ _ _ _); refine r_eql ?_) | (apply at_op (.buildSlice _ _ _); refine r_lits ?_) | (apply at_op (.call { callee := .builtin .append, args := _, argTypes := _ }); refine r_appd ?_))
  · have hQ0 : Q = [] := by simpa using hb0 (by assumption)
    subst hQ0
    refine aq_adopt 2 5 70 2 rfl rfl (lt_ok rfl) ?_
    refine aq_unrow 5 rfl ?_
    refine oret1 ([(5, secRow 0 []), (1000, secRow k [])]) (by rfl) (by first | exact ResV.x _ _ (ResX.tmp _ _ (by first | exact ToD.d _ | exact ToD.row _ _ _ _ _ rfl | exact ToD.nil _)) | exact ResV.tmp _ _ rfl | exact ResV.x _ _ (ResX.cellA _ _ _ _ _ _ _ rfl rfl rfl (by first | (simp only [normV, normList, normMap]; rfl) | rfl) rfl)) (⟨0, rfl, rfl⟩) (by (repeat (first | exact obs_nil | (apply obs_cons; focus (first | rfl | (simp [find]; done)))))) (by first | (simp [okOut, V.within, V.withinL, O.within, keys, mem, look, nbeq_def, withinL_app, withinL_ds, withinL_und]; done) | rfl)
  · skip
    refine oret1 ([(5, .vec 70 2 1 ([] ++ Q.map secC)), (1000, secRow k Q)]) (by rfl) (by first | exact ResV.x _ _ (ResX.tmp _ _ (by first | exact ToD.d _ | exact ToD.row _ _ _ _ _ rfl | exact ToD.nil _)) | exact ResV.tmp _ _ rfl | exact ResV.x _ _ (ResX.cellA _ _ _ _ _ _ _ rfl rfl rfl (by first | (simp only [normV, normList, normMap]; rfl) | rfl) rfl)) (⟨1, rfl, rfl⟩) (by (repeat (first | exact obs_nil | (apply obs_cons; focus (first | rfl | (simp [find]; done)))))) (by first | (simp [okOut, V.within, V.withinL, O.within, keys, mem, look, nbeq_def, withinL_app, withinL_ds, withinL_und]; done) | rfl)
section
variable {k cm cs : Nat} {lm ls : List ME} {st : DS}
set_option maxHeartbeats 8000000 in
set_option maxRecDepth 20000 in
theorem copy_any (h : DkOk lm ls st) : ObC 18 [.box 1000 0] (dsk 1000 1001 1002 1003 k cm cs lm ls st) [3, 11, 16, 21] (fun x o => ∃ k', x = .box 3 0 ∧ o = dsk 3 11 16 21 k' cm cs lm ls st ++ dsk 1000 1001 1002 1003 k cm cs lm ls st) := by
  have hQ := h.ok.len
  refine ob_enter Try.func18 rfl (by decide) _ Try.ntmps18 (le_ok rfl) rfl (fun w Pr β κ hE => ?_)
  dsimp only [slotsV, Nat.zero_add, Nat.reduceAdd]
  repeat' (first | (apply at_op (.load _ _); refine al_y (y_bloadV rfl rfl rfl (by first | (simp only [normV, normList, normMap]; rfl) | rfl) rfl (by decide)) (lt_ok rfl) ?_) | apply aw_seq | apply aw_region | apply al_nil | apply aq_np | apply aq_then | apply aq_then_x | apply aq_then_r | apply aw_skip | apply aw_exit | apply aw_ret | (apply at_op (.move _); refine r_move ?_) | (apply at_op (.assign _); refine r_assign ?_) | (apply at_op (.load _ _); refine r_load ?_) | (apply at_op (.fieldAddr _ _ _); refine r_faddr ?_) | (apply at_op (.nilCheck _); refine r_nilck ?_) | (apply at_op (.alloc _); refine r_alloc ?_) | (apply at_op (.store _ _ _); refine r_store ?_))
  apply at_op (.store _ _ _)
  refine al_step (st_store rfl rfl (ev_agg rfl) nofun rfl (by intro z hz; simp [cellsV] at hz; rcases hz with rfl | rfl | rfl | rfl | rfl | rfl | rfl <;> rfl) (.inr rfl) rfl (le_ok rfl) (by first | (simp only [normV, normList, normMap]; rfl) | rfl)) rfl ?_
  repeat' (first | apply aw_seq | apply aw_region | apply al_nil | apply aq_np | apply aq_then | apply aq_then_x | apply aq_then_r | apply aw_skip | apply aw_exit | apply aw_ret | (apply at_op (.move _); refine r_move ?_) | (apply at_op (.assign _); refine r_assign ?_) | (apply at_op (.load _ _); refine r_load ?_) | (apply at_op (.fieldAddr _ _ _); refine r_faddr ?_) | (apply at_op (.nilCheck _); refine r_nilck ?_) | (apply at_op (.alloc _); refine r_alloc ?_) | (apply at_op (.store _ _ _); refine r_store ?_))
  refine aw_mixo ([(1000, dskBox 1001 1002 1003 k st)]) [(0, true), (1, true), (2, true), (3, true), (5, true), (6, true), (7, true), (8, true), (10, true), (11, true), (12, true), (13, true), (4, false), (9, false), (14, false), (15, true), (16, false), (17, true), (18, false)] [19, 20] (by kernel_rfl) (by kernel_rfl) (by kernel_rfl) (by decide) (by (repeat (first | exact obs_nil | (apply obs_cons; focus (first | rfl | (simp [find]; done)))))) ?_
  simp only [planned, tailed, List.filterMap_cons, List.filterMap_nil, List.getElem?_cons_zero, List.getElem?_cons_succ, Option.map_some]
  repeat' (first | apply am_nil | refine am_skip (by first | exact want_no_t rfl rfl (by assumption) | exact want_no_f rfl rfl (by assumption) | exact want_no_t rfl rfl (by with_reducible rfl) | exact want_no_f rfl rfl (by with_reducible rfl) | exact want_no_u rfl rfl) (lt_ok rfl) ?_ | refine am_skip' (by first | exact want_no_t rfl rfl (by assumption) | exact want_no_f rfl rfl (by assumption) | exact want_no_t rfl rfl (by with_reducible rfl) | exact want_no_f rfl rfl (by with_reducible rfl) | exact want_no_u rfl rfl) (lt_ok rfl) ?_ | (apply at_am (.call { callee := .value _, args := _, argTypes := _ }); refine am_ocall1 [(1000, 1001), (3, 11)] (cloneF_any cm lm) (by first | exact want_none | exact want_yes rfl rfl (by assumption) | exact want_yes rfl rfl (by with_reducible rfl)) rfl hE (lt_ok rfl) (by (repeat (first | refine ArgsV.cons (.same _ _ rfl) ?_ | refine ArgsV.cons (.toD _ _ (by first | exact ToD.d _ | exact ToD.row _ _ _ _ _ rfl | exact ToD.nil _)) ?_)); exact ArgsV.nil) ⟨(obs_cons (by first | rfl | (simp [find, O.ren, V.ren, V.renL, rn, nbeq_def, renL_app, renL_ds, renL_und]; done)) obs_nil), rfl, rfl, rfl, rfl⟩ rfl rfl rfl (lt_ok rfl) ?_; (all_goals (try first | omega | assumption)); rintro _ _ ⟨rfl, rfl⟩; intro _ _ h1 h2; simp only [V.ren, V.renL, O.ren, renO, rn, dropK, keys, mem, List.map_cons, List.map_nil, List.any_cons, List.any_nil, List.cons_append, List.nil_append, nbeq_def, Nat.reduceBEq, cond_true, cond_false, Bool.or_false, Bool.false_or, Bool.true_or, renL_app, renL_ds, renL_und] at h1 h2; subst h1 h2) | (apply at_am (.call { callee := .value _, args := _, argTypes := _ }); refine am_ocall1 [(1000, 1002), (5, 16)] (cloneQ_any k st.Q hQ) (by first | exact want_none | exact want_yes rfl rfl (by assumption) | exact want_yes rfl rfl (by with_reducible rfl)) rfl hE (lt_ok rfl) (by (repeat (first | refine ArgsV.cons (.same _ _ rfl) ?_ | refine ArgsV.cons (.toD _ _ (by first | exact ToD.d _ | exact ToD.row _ _ _ _ _ rfl | exact ToD.nil _)) ?_)); exact ArgsV.nil) ⟨(obs_cons (by first | rfl | (simp [find, O.ren, V.ren, V.renL, rn, nbeq_def, renL_app, renL_ds, renL_und]; done)) obs_nil), rfl, rfl, rfl, rfl⟩ rfl rfl rfl (lt_ok rfl) ?_; (all_goals (try first | omega | assumption)); rintro _ _ ⟨k1, rfl, rfl⟩; intro _ _ h1 h2; simp only [V.ren, V.renL, O.ren, renO, rn, dropK, keys, mem, List.map_cons, List.map_nil, List.any_cons, List.any_nil, List.cons_append, List.nil_append, nbeq_def, Nat.reduceBEq, cond_true, cond_false, Bool.or_false, Bool.false_or, Bool.true_or, renL_app, renL_ds, renL_und] at h1 h2; subst h1 h2) | (apply at_am (.call { callee := .value _, args := _, argTypes := _ }); refine am_ocall1 [(1000, 1003), (3, 21)] (cloneS_any cs ls) (by first | exact want_none | exact want_yes rfl rfl (by assumption) | exact want_yes rfl rfl (by with_reducible rfl)) rfl hE (lt_ok rfl) (by (repeat (first | refine ArgsV.cons (.same _ _ rfl) ?_ | refine ArgsV.cons (.toD _ _ (by first | exact ToD.d _ | exact ToD.row _ _ _ _ _ rfl | exact ToD.nil _)) ?_)); exact ArgsV.nil) ⟨(obs_cons (by first | rfl | (simp [find, O.ren, V.ren, V.renL, rn, nbeq_def, renL_app, renL_ds, renL_und]; done)) obs_nil), rfl, rfl, rfl, rfl⟩ rfl rfl rfl (lt_ok rfl) ?_; (all_goals (try first | omega | assumption)); rintro _ _ ⟨rfl, rfl⟩; intro _ _ h1 h2; simp only [V.ren, V.renL, O.ren, renO, rn, dropK, keys, mem, List.map_cons, List.map_nil, List.any_cons, List.any_nil, List.cons_append, List.nil_append, nbeq_def, Nat.reduceBEq, cond_true, cond_false, Bool.or_false, Bool.false_or, Bool.true_or, renL_app, renL_ds, renL_und] at h1 h2; subst h1 h2) | (apply at_am (.store _ _ _); first | refine am_store (n := [.mp 11]) (by first | exact want_none | exact want_yes rfl rfl (by assumption) | exact want_yes rfl rfl (by with_reducible rfl)) rfl rfl rfl (ev_mp rfl) nofun rfl (by intro z hz; simp at hz; subst hz; rfl) (.inl ⟨rfl, rfl⟩) rfl (le_ok rfl) (by first | (simp only [normV, normList, normMap]; rfl) | rfl) ?_ | refine am_store (n := [_]) (by first | exact want_none | exact want_yes rfl rfl (by assumption) | exact want_yes rfl rfl (by with_reducible rfl)) rfl rfl rfl (ev_row rfl) nofun rfl (by intro z hz; simp at hz; subst hz; rfl) (.inl ⟨rfl, rfl⟩) rfl (le_ok rfl) (by first | (simp only [normV, normList, normMap]; rfl) | rfl) ?_) | (apply at_am (.move _); refine m_move ?_) | (apply at_am (.assign _); refine n_assign ?_) | (apply at_am (.load _ _); refine m_load ?_) | (apply at_am (.fieldAddr _ _ _); refine m_faddr ?_) | (apply at_am (.nilCheck _); refine m_nilck ?_) | (refine am_split rfl rfl (fun hb => ?_) (fun hb => ?_) <;> ((first | have hq := of_decide_eq_true hb | have hq := of_decide_eq_false hb | have hq := of_decide_eq_false (not_t hb) | have hq := of_decide_eq_true (not_f hb) | skip); (try (exfalso; omega)))))
  repeat' (first | (apply at_op (.store _ _ _); refine al_step (st_store (n := [.mp 21]) rfl rfl (ev_mp rfl) nofun rfl (by intro z hz; simp at hz; subst hz; rfl) (.inl ⟨rfl, rfl⟩) rfl (le_ok rfl) (by first | (simp only [normV, normList, normMap]; rfl) | rfl)) rfl ?_) | apply aw_seq | apply aw_region | apply al_nil | apply aq_np | apply aq_then | apply aq_then_x | apply aq_then_r | apply aw_skip | apply aw_exit | apply aw_ret | (apply at_op (.move _); refine r_move ?_) | (apply at_op (.assign _); refine r_assign ?_) | (apply at_op (.load _ _); refine r_load ?_) | (apply at_op (.fieldAddr _ _ _); refine r_faddr ?_) | (apply at_op (.nilCheck _); refine r_nilck ?_) | (apply at_op (.alloc _); refine r_alloc ?_) | (apply at_op (.store _ _ _); refine r_store ?_))
  refine oret1 (dsk 3 11 16 21 k1 cm cs lm ls st ++ dsk 1000 1001 1002 1003 k cm cs lm ls st) (by rfl) (by first | exact ResV.x _ _ (ResX.tmp _ _ (by first | exact ToD.d _ | exact ToD.row _ _ _ _ _ rfl | exact ToD.nil _)) | exact ResV.tmp _ _ rfl | exact ResV.x _ _ (ResX.cellA _ _ _ _ _ _ _ rfl rfl rfl (by first | (simp only [normV, normList, normMap]; rfl) | rfl) rfl)) (⟨k1, rfl, rfl⟩) (by (repeat (first | exact obs_nil | (apply obs_cons; focus (first | rfl | (simp [find]; done)))))) (by first | (simp [okOut, V.within, V.withinL, O.within, keys, mem, look, nbeq_def, withinL_app, withinL_ds, withinL_und]; done) | rfl)
end
end Go.Proofs.Ytabaflklognhaaa
