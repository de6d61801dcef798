/-
  A disk's small methods: New, Down, Size, Start, Lose, Arm, Read, may, ends. Conditions: none.
  A disk's queue and set: what is deleted from them. Conditions: none.
  A disk's queue and set: DeleteFunc of slices and maps; settle. Conditions: none.
-/
import Derived.Test.YtfgibalcdjlnhaaGreatDoorMan
section
set_option linter.unusedSimpArgs false
set_option linter.unusedVariables false
namespace Go.Proofs.YtfgibalcdjlnhaaGreatDoor
open Go.RowKit Go.ChangeMaps

def mayE (st : DS) (f : Int) : Int := if st.down then 8 else if f < 0 ∨ 16 ≤ f then 1 else 0
def endsB (st : DS) : Bool := !st.down && decide (st.armed = 1)
def endS (st : DS) : DS := if st.down = true ∨ st.armed = 0 then st else { st with armed := st.armed - 1 }
abbrev DS.new : DS := ⟨fun _ => nofile, [], 0, false, 0, []⟩
theorem DS.new_ok : DkOk [] [] DS.new := ⟨⟨by simp, fun _ _ => rfl⟩, ⟨by simp, by simp⟩, ⟨fun _ => Nat.zero_le _, fun _ => Nat.zero_le _, fun _ _ => rfl, List.nodup_nil, by simp, by simp, by simp, by simp, by simp⟩⟩
set_option maxHeartbeats 4000000 in
set_option maxRecDepth 20000 in
theorem new_any : ObC 6 [] [] [4, 1, 3, 2] (fun x o => x = .box 4 0 ∧ o = dsk 4 1 3 2 0 0 0 [] [] DS.new) := by
  refine ob_enter Tryz.func6 rfl (by decide) _ Tryz.ntmps6 (le_ok rfl) rfl (fun w Pr β κ hE => ?_)
  dsimp only [slotsV, Nat.zero_add, Nat.reduceAdd]
  repeat' (first | (apply at_op (.makeMap _ _); refine al_step (st_makemap (lt_ok rfl) rfl) rfl ?_) | (apply at_op (.build _ _); refine al_y (y_buildS rfl (by repeat (first | exact PartsS.nil | (apply PartsS.cons; rfl; constructor; rfl))) rfl rfl) (lt_ok rfl) ?_) | (apply at_op (.box _ _); refine al_step (st_box (ev_agg rfl) nofun (by first | (simp only [normV, normList, normMap]; rfl) | rfl) (lt_ok rfl) rfl rfl) rfl ?_) | refine nx ?_ | (apply qr_assign; refine r_assign ?_) | (apply qr_boxed; refine r_boxed ?_) | (apply qr_build; refine r_build ?_))
  refine aq_adoptb 4 1 3 76 2 rfl rfl rfl (lt_ok rfl) rfl rfl ?_
  refine aq_unrow 3 rfl ?_
  refine aq_nilcell 4 6 1 rfl rfl rfl ?_
  refine oret1 (dsk 4 1 3 2 0 0 0 [] [] DS.new) (by rfl) (by first | exact ResV.x _ _ (ResX.tmp _ _ (by first | exact ToD.d _ | exact ToD.row _ _ _ _ _ rfl | exact ToD.nil _)) | exact ResV.tmp _ _ rfl | exact ResV.x _ _ (ResX.cellA _ _ _ _ _ _ _ rfl rfl rfl (by first | (simp only [normV, normList, normMap]; rfl) | rfl) rfl)) (⟨rfl, rfl⟩) (by (repeat (first | exact obs_nil | (apply obs_cons; focus (first | rfl | (simp [find]; done)))))) (by first | rfl | (simp [okOut, V.within, V.withinL, O.within, keys, mem, look, nbeq_def, withinL_app, withinL_ds, withinL_und]; done))
section
variable {k cm cs : Nat} {lm ls : List ME} {st : DS}
set_option maxHeartbeats 4000000 in
set_option maxRecDepth 20000 in
theorem size_any (h : DkOk lm ls st) {f : Int} (hf : i64 f) : ObC 27 [.box 1000 0, .d (.int f)] (dsk 1000 1001 1002 1003 k cm cs lm ls st) [] (fun x o => x = .d (.int (st.F f).now.size) ∧ o = dsk 1000 1001 1002 1003 k cm cs lm ls st) := by
  have hkey := int_key hf
  obtain ⟨b, hhit⟩ := h.f.hit f
  refine ob_enter Tryz.func27 rfl (by decide) _ Tryz.ntmps27 (le_ok rfl) rfl (fun w Pr β κ hE => ?_)
  dsimp only [slotsV, Nat.zero_add, Nat.reduceAdd]
  repeat' (first | (apply at_op (.lookup _ _ _ _); refine al_y (y_lookup1 fileM rfl rfl rfl hkey hhit) (lt_ok rfl) ?_) | refine nx ?_ | (apply qr_move; refine r_move ?_) | (apply qr_assign; refine r_assign ?_) | (apply qr_len; refine r_len ?_) | (apply qr_load; refine r_load ?_) | (apply qr_faddr; refine r_faddr ?_) | (apply qr_field; refine r_field ?_) | (apply qr_nilck; refine r_nilck ?_))
  refine oret1 (dsk 1000 1001 1002 1003 k cm cs lm ls st) (by rfl) (by first | exact ResV.x _ _ (ResX.tmp _ _ (by first | exact ToD.d _ | exact ToD.row _ _ _ _ _ rfl | exact ToD.nil _)) | exact ResV.tmp _ _ rfl | exact ResV.x _ _ (ResX.cellA _ _ _ _ _ _ _ rfl rfl rfl (by first | (simp only [normV, normList, normMap]; rfl) | rfl) rfl)) (⟨rfl, rfl⟩) (by (repeat (first | exact obs_nil | (apply obs_cons; focus (first | rfl | (simp [find]; done)))))) (by first | rfl | (simp [okOut, V.within, V.withinL, O.within, keys, mem, look, nbeq_def, withinL_app, withinL_ds, withinL_und]; done))
set_option maxHeartbeats 4000000 in
set_option maxRecDepth 20000 in
theorem start_any : ObC 22 [.box 1000 0] (dsk 1000 1001 1002 1003 k cm cs lm ls st) [] (fun x o => x = .tup [] ∧ o = dsk 1000 1001 1002 1003 k cm cs lm ls { st with down := false }) := by
  refine ob_enter Tryz.func22 rfl (by decide) _ Tryz.ntmps22 (le_ok rfl) rfl (fun w Pr β κ hE => ?_)
  dsimp only [slotsV, Nat.zero_add, Nat.reduceAdd]
  repeat' (first | refine nx ?_ | (apply qr_move; refine r_move ?_) | (apply qr_faddr; refine r_faddr ?_) | (apply qr_nilck; refine r_nilck ?_) | (apply qr_store; refine r_store ?_))
  try refine aq_end ?_
  refine oret0 (dsk 1000 1001 1002 1003 k cm cs lm ls { st with down := false }) (by rfl)  (⟨rfl, rfl⟩) (by (repeat (first | exact obs_nil | (apply obs_cons; focus (first | rfl | (simp [find]; done)))))) (by first | rfl | (simp [okOut, V.within, V.withinL, O.within, keys, mem, look, nbeq_def, withinL_app, withinL_ds, withinL_und]; done))
set_option maxHeartbeats 4000000 in
set_option maxRecDepth 20000 in
theorem lose_any (n : Int) : ObC 16 [.box 1000 0, .d (.int n)] (dsk 1000 1001 1002 1003 k cm cs lm ls st) [] (fun x o => x = .tup [] ∧ o = dsk 1000 1001 1002 1003 k cm cs lm ls { st with lost := max n 0 }) := by
  refine ob_enter Tryz.func16 rfl (by decide) _ Tryz.ntmps16 (le_ok rfl) rfl (fun w Pr β κ hE => ?_)
  dsimp only [slotsV, Nat.zero_add, Nat.reduceAdd]
  repeat' (first | refine nx ?_ | (apply qr_move; refine r_move ?_) | (apply qr_max; refine r_max ?_) | (apply qr_faddr; refine r_faddr ?_) | (apply qr_nilck; refine r_nilck ?_) | (apply qr_store; refine r_store ?_))
  try refine aq_end ?_
  refine oret0 (dsk 1000 1001 1002 1003 k cm cs lm ls { st with lost := max n 0 }) (by rfl)  (⟨rfl, rfl⟩) (by (repeat (first | exact obs_nil | (apply obs_cons; focus (first | rfl | (simp [find]; done)))))) (by first | rfl | (simp [okOut, V.within, V.withinL, O.within, keys, mem, look, nbeq_def, withinL_app, withinL_ds, withinL_und]; done))
theorem one_ints (l : List Int) : ∀ q ∈ l.map (fun n => [D.int n]), ∀ z ∈ q, D.one z = true := by
  intro q hq z hz
  obtain ⟨x, _, rfl⟩ := List.mem_map.1 hq
  simp at hz
  subst hz
  rfl
set_option maxHeartbeats 8000000 in
set_option maxRecDepth 20000 in
theorem cloneInts (l : List Int) (hl : l.length ≤ 1000000) : PureC 43 [keepD l] (· = keepD l) := by
  refine pure_enter Tryz.func43 rfl (by decide) _ Tryz.ntmps43 (le_ok rfl) (fun w Pr hE => ?_)
  dsimp only [slotsOf, Nat.zero_add, Nat.reduceAdd]
  repeat' (first | (apply at_op (.binOp .eql _ _ _ _); refine al_slnil (by first | exact ToD.d _ | exact ToD.row _ _ _ _ _ rfl) Tryz.underlying36 (lt_ok rfl) (fun b hb0 => ?_)) | (apply at_op (.buildSlice _ _ _); refine al_step (st_litR0 rfl (lt_ok rfl) rfl) rfl ?_) | (apply at_op (.call { callee := .builtin .append, args := _, argTypes := _ }); refine al_step (st_append rfl rfl (by first | exact ToD.d _ | exact ToD.row _ _ _ _ _ rfl) rfl rfl (one_ints l) (by decide) (by first | (simp only [List.length_map, List.length_append, List.length_cons, List.length_nil]; omega) | omega) (by first | (simp only [List.length_map, List.length_append, List.length_cons, List.length_nil]; omega) | omega) (lt_ok rfl)) rfl ?_) | refine nx ?_ | (apply qr_move; refine r_move ?_) | (apply qr_assign; refine r_assign ?_) | (apply at_cond; first | refine c_t ?_ | refine c_f ?_ | (refine aw_cond rfl (fun hb => ?_) (fun hb => ?_) <;> ((try have hq := dX hb); (try (exfalso; omega))))) | (apply qr_eql; refine r_eql ?_) | (apply qr_lits; refine r_lits ?_) | (apply qr_appd; refine r_appd ?_))
  · refine ret_one (by rfl) (ToD.nil 1) ?_
    have := hb0 (by assumption)
    have e : l = [] := by simpa using this
    rw [e]
    rfl
  · skip
    refine ret_one (by rfl) (by first | exact ToD.d _ | exact ToD.row _ _ _ _ _ rfl) ?_
    simp
set_option maxHeartbeats 4000000 in
set_option maxRecDepth 20000 in
theorem arm_any (n : Int) (l : List Int) (hl : l.length ≤ 1000000) : ObC 18 [.box 1000 0, .d (.int n), .d (keepD l)] (dsk 1000 1001 1002 1003 k cm cs lm ls st) [] (fun x o => x = .tup [] ∧ o = dsk 1000 1001 1002 1003 k cm cs lm ls { st with armed := max n 0, keep := l }) := by
  refine ob_enter Tryz.func18 rfl (by decide) _ Tryz.ntmps18 (le_ok rfl) rfl (fun w Pr β κ hE => ?_)
  dsimp only [slotsV, Nat.zero_add, Nat.reduceAdd]
  repeat' (first | (apply at_call; refine k_call (cloneInts l hl) hE ?_; rintro _ rfl) | refine nx ?_ | (apply qr_move; refine r_move ?_) | (apply qr_max; refine r_max ?_) | (apply qr_faddr; refine r_faddr ?_) | (apply qr_nilck; refine r_nilck ?_) | (apply qr_store; refine r_store ?_))
  try refine aq_end ?_
  refine oret0 (dsk 1000 1001 1002 1003 k cm cs lm ls { st with armed := max n 0, keep := l }) (by rfl)  (⟨rfl, rfl⟩) (by (repeat (first | exact obs_nil | (apply obs_cons; focus (first | rfl | (simp [find]; done)))))) (by first | rfl | (simp [okOut, V.within, V.withinL, O.within, keys, mem, look, nbeq_def, withinL_app, withinL_ds, withinL_und]; done))
set_option maxHeartbeats 4000000 in
set_option maxRecDepth 20000 in
theorem may_any (f : Int) : ObC 46 [.box 1000 0, .d (.int f)] (dsk 1000 1001 1002 1003 k cm cs lm ls st) [] (fun x o => x = .d (.int (mayE st f)) ∧ o = dsk 1000 1001 1002 1003 k cm cs lm ls st) := by
  cases hdn : st.down
  · by_cases h1 : f < 0
    · skip
      refine ob_enter Tryz.func46 rfl (by decide) _ Tryz.ntmps46 (le_ok rfl) rfl (fun w Pr β κ hE => ?_)
      dsimp only [slotsV, Nat.zero_add, Nat.reduceAdd]
      repeat' (first | refine nx ?_ | (apply aq_block_y; decide) | (apply qr_move; refine r_move ?_) | (apply qr_assign; refine r_assign ?_) | (apply at_cond; first | refine c_t ?_ | refine c_f ?_ | (refine aw_cond rfl (fun hb => ?_) (fun hb => ?_) <;> ((try have hq := dX hb); (try (exfalso; omega))))) | (apply at_guard; first | refine g_go ?_ | refine g_nt ?_ | refine g_nf ?_ | refine g_nu ?_ | ((first | refine al_split_t rfl rfl (lt_ok rfl) (fun hb => ?_) (fun hb => ?_) | refine al_split_f rfl rfl (lt_ok rfl) (fun hb => ?_) (fun hb => ?_)) <;> ((try have hq := dX hb); (try (exfalso; omega))))) | (apply qr_pick; refine r_pick ?_) | (apply qr_lss; refine r_lss ?_) | (apply qr_geq; refine r_geq ?_) | (apply qr_load; refine r_load ?_) | (apply qr_faddr; refine r_faddr ?_) | (apply qr_nilck; refine r_nilck ?_))
      refine oret1 (dsk 1000 1001 1002 1003 k cm cs lm ls st) (by rfl) (by first | exact ResV.x _ _ (ResX.tmp _ _ (by first | exact ToD.d _ | exact ToD.row _ _ _ _ _ rfl | exact ToD.nil _)) | exact ResV.tmp _ _ rfl | exact ResV.x _ _ (ResX.cellA _ _ _ _ _ _ _ rfl rfl rfl (by first | (simp only [normV, normList, normMap]; rfl) | rfl) rfl)) (⟨by simp [mayE, hdn, h1], rfl⟩) (by (repeat (first | exact obs_nil | (apply obs_cons; focus (first | rfl | (simp [find]; done)))))) (by first | rfl | (simp [okOut, V.within, V.withinL, O.within, keys, mem, look, nbeq_def, withinL_app, withinL_ds, withinL_und]; done))
    · by_cases h2 : 16 ≤ f
      · skip
        refine ob_enter Tryz.func46 rfl (by decide) _ Tryz.ntmps46 (le_ok rfl) rfl (fun w Pr β κ hE => ?_)
        dsimp only [slotsV, Nat.zero_add, Nat.reduceAdd]
        repeat' (first | refine nx ?_ | (apply aq_block_y; decide) | (apply qr_move; refine r_move ?_) | (apply qr_assign; refine r_assign ?_) | (apply at_cond; first | refine c_t ?_ | refine c_f ?_ | (refine aw_cond rfl (fun hb => ?_) (fun hb => ?_) <;> ((try have hq := dX hb); (try (exfalso; omega))))) | (apply at_guard; first | refine g_go ?_ | refine g_nt ?_ | refine g_nf ?_ | refine g_nu ?_ | ((first | refine al_split_t rfl rfl (lt_ok rfl) (fun hb => ?_) (fun hb => ?_) | refine al_split_f rfl rfl (lt_ok rfl) (fun hb => ?_) (fun hb => ?_)) <;> ((try have hq := dX hb); (try (exfalso; omega))))) | (apply qr_pick; refine r_pick ?_) | (apply qr_lss; refine r_lss ?_) | (apply qr_geq; refine r_geq ?_) | (apply qr_load; refine r_load ?_) | (apply qr_faddr; refine r_faddr ?_) | (apply qr_nilck; refine r_nilck ?_))
        refine oret1 (dsk 1000 1001 1002 1003 k cm cs lm ls st) (by rfl) (by first | exact ResV.x _ _ (ResX.tmp _ _ (by first | exact ToD.d _ | exact ToD.row _ _ _ _ _ rfl | exact ToD.nil _)) | exact ResV.tmp _ _ rfl | exact ResV.x _ _ (ResX.cellA _ _ _ _ _ _ _ rfl rfl rfl (by first | (simp only [normV, normList, normMap]; rfl) | rfl) rfl)) (⟨by simp [mayE, hdn, h2], rfl⟩) (by (repeat (first | exact obs_nil | (apply obs_cons; focus (first | rfl | (simp [find]; done)))))) (by first | rfl | (simp [okOut, V.within, V.withinL, O.within, keys, mem, look, nbeq_def, withinL_app, withinL_ds, withinL_und]; done))
      · skip
        refine ob_enter Tryz.func46 rfl (by decide) _ Tryz.ntmps46 (le_ok rfl) rfl (fun w Pr β κ hE => ?_)
        dsimp only [slotsV, Nat.zero_add, Nat.reduceAdd]
        repeat' (first | refine nx ?_ | (apply aq_block_y; decide) | (apply qr_move; refine r_move ?_) | (apply qr_assign; refine r_assign ?_) | (apply at_cond; first | refine c_t ?_ | refine c_f ?_ | (refine aw_cond rfl (fun hb => ?_) (fun hb => ?_) <;> ((try have hq := dX hb); (try (exfalso; omega))))) | (apply at_guard; first | refine g_go ?_ | refine g_nt ?_ | refine g_nf ?_ | refine g_nu ?_ | ((first | refine al_split_t rfl rfl (lt_ok rfl) (fun hb => ?_) (fun hb => ?_) | refine al_split_f rfl rfl (lt_ok rfl) (fun hb => ?_) (fun hb => ?_)) <;> ((try have hq := dX hb); (try (exfalso; omega))))) | (apply qr_pick; refine r_pick ?_) | (apply qr_lss; refine r_lss ?_) | (apply qr_geq; refine r_geq ?_) | (apply qr_load; refine r_load ?_) | (apply qr_faddr; refine r_faddr ?_) | (apply qr_nilck; refine r_nilck ?_))
        refine oret1 (dsk 1000 1001 1002 1003 k cm cs lm ls st) (by rfl) (by first | exact ResV.x _ _ (ResX.tmp _ _ (by first | exact ToD.d _ | exact ToD.row _ _ _ _ _ rfl | exact ToD.nil _)) | exact ResV.tmp _ _ rfl | exact ResV.x _ _ (ResX.cellA _ _ _ _ _ _ _ rfl rfl rfl (by first | (simp only [normV, normList, normMap]; rfl) | rfl) rfl)) (⟨by simp [mayE, hdn, h1, h2], rfl⟩) (by (repeat (first | exact obs_nil | (apply obs_cons; focus (first | rfl | (simp [find]; done)))))) (by first | rfl | (simp [okOut, V.within, V.withinL, O.within, keys, mem, look, nbeq_def, withinL_app, withinL_ds, withinL_und]; done))
  · skip
    refine ob_enter Tryz.func46 rfl (by decide) _ Tryz.ntmps46 (le_ok rfl) rfl (fun w Pr β κ hE => ?_)
    dsimp only [slotsV, Nat.zero_add, Nat.reduceAdd]
    repeat' (first | refine nx ?_ | (apply aq_block_y; decide) | (apply qr_move; refine r_move ?_) | (apply qr_assign; refine r_assign ?_) | (apply at_cond; first | refine c_t ?_ | refine c_f ?_ | (refine aw_cond rfl (fun hb => ?_) (fun hb => ?_) <;> ((try have hq := dX hb); (try (exfalso; omega))))) | (apply at_guard; first | refine g_go ?_ | refine g_nt ?_ | refine g_nf ?_ | refine g_nu ?_ | ((first | refine al_split_t rfl rfl (lt_ok rfl) (fun hb => ?_) (fun hb => ?_) | refine al_split_f rfl rfl (lt_ok rfl) (fun hb => ?_) (fun hb => ?_)) <;> ((try have hq := dX hb); (try (exfalso; omega))))) | (apply qr_pick; refine r_pick ?_) | (apply qr_lss; refine r_lss ?_) | (apply qr_geq; refine r_geq ?_) | (apply qr_load; refine r_load ?_) | (apply qr_faddr; refine r_faddr ?_) | (apply qr_nilck; refine r_nilck ?_))
    refine oret1 (dsk 1000 1001 1002 1003 k cm cs lm ls st) (by rfl) (by first | exact ResV.x _ _ (ResX.tmp _ _ (by first | exact ToD.d _ | exact ToD.row _ _ _ _ _ rfl | exact ToD.nil _)) | exact ResV.tmp _ _ rfl | exact ResV.x _ _ (ResX.cellA _ _ _ _ _ _ _ rfl rfl rfl (by first | (simp only [normV, normList, normMap]; rfl) | rfl) rfl)) (⟨by simp [mayE, hdn], rfl⟩) (by (repeat (first | exact obs_nil | (apply obs_cons; focus (first | rfl | (simp [find]; done)))))) (by first | rfl | (simp [okOut, V.within, V.withinL, O.within, keys, mem, look, nbeq_def, withinL_app, withinL_ds, withinL_und]; done))
set_option maxHeartbeats 4000000 in
set_option maxRecDepth 20000 in
theorem ends_any (h : st.Ok) : ObC 49 [.box 1000 0] (dsk 1000 1001 1002 1003 k cm cs lm ls st) [] (fun x o => x = .d (.bool (endsB st)) ∧ o = dsk 1000 1001 1002 1003 k cm cs lm ls (endS st)) := by
  have ha := h.armed0
  cases hdn : st.down
  · by_cases h0 : st.armed = 0
    · have hq : decide (st.armed = 0) = true := decide_eq_true h0
      refine ob_enter Tryz.func49 rfl (by decide) _ Tryz.ntmps49 (le_ok rfl) rfl (fun w Pr β κ hE => ?_)
      dsimp only [slotsV, Nat.zero_add, Nat.reduceAdd]
      repeat' (first | refine nx ?_ | (apply qr_move; refine r_move ?_) | (apply qr_assign; refine r_assign ?_) | (apply at_cond; first | refine c_t ?_ | refine c_f ?_ | (refine aw_cond rfl (fun hb => ?_) (fun hb => ?_) <;> ((try have hq := dX hb); (try (exfalso; omega))))) | (apply at_guard; first | refine g_go ?_ | refine g_nt ?_ | refine g_nf ?_ | refine g_nu ?_ | ((first | refine al_split_t rfl rfl (lt_ok rfl) (fun hb => ?_) (fun hb => ?_) | refine al_split_f rfl rfl (lt_ok rfl) (fun hb => ?_) (fun hb => ?_)) <;> ((try have hq := dX hb); (try (exfalso; omega))))) | (apply qr_pick; refine r_pick ?_) | (apply qr_eql; refine r_eql ?_) | (apply qr_sub; refine r_sub ?_) | (apply qr_load; refine r_load ?_) | (apply qr_faddr; refine r_faddr ?_) | (apply qr_nilck; refine r_nilck ?_) | (apply qr_store; refine r_store ?_))
      refine oret1 (dsk 1000 1001 1002 1003 k cm cs lm ls st) (by rfl) (by first | exact ResV.x _ _ (ResX.tmp _ _ (by first | exact ToD.d _ | exact ToD.row _ _ _ _ _ rfl | exact ToD.nil _)) | exact ResV.tmp _ _ rfl | exact ResV.x _ _ (ResX.cellA _ _ _ _ _ _ _ rfl rfl rfl (by first | (simp only [normV, normList, normMap]; rfl) | rfl) rfl)) (⟨by simp [endsB, h0], by simp [endS, h0]⟩) (by (repeat (first | exact obs_nil | (apply obs_cons; focus (first | rfl | (simp [find]; done)))))) (by first | rfl | (simp [okOut, V.within, V.withinL, O.within, keys, mem, look, nbeq_def, withinL_app, withinL_ds, withinL_und]; done))
    · have hq : decide (st.armed = 0) = false := decide_eq_false h0
      have hq2 : decide (st.armed - 1 = 0) = endsB st := by simp only [endsB, hdn, Bool.not_false, Bool.true_and]; exact decide_eq_decide.2 (by omega)
      refine ob_enter Tryz.func49 rfl (by decide) _ Tryz.ntmps49 (le_ok rfl) rfl (fun w Pr β κ hE => ?_)
      dsimp only [slotsV, Nat.zero_add, Nat.reduceAdd]
      repeat' (first | refine nx ?_ | (apply qr_move; refine r_move ?_) | (apply qr_assign; refine r_assign ?_) | (apply at_cond; first | refine c_t ?_ | refine c_f ?_ | (refine aw_cond rfl (fun hb => ?_) (fun hb => ?_) <;> ((try have hq := dX hb); (try (exfalso; omega))))) | (apply at_guard; first | refine g_go ?_ | refine g_nt ?_ | refine g_nf ?_ | refine g_nu ?_ | ((first | refine al_split_t rfl rfl (lt_ok rfl) (fun hb => ?_) (fun hb => ?_) | refine al_split_f rfl rfl (lt_ok rfl) (fun hb => ?_) (fun hb => ?_)) <;> ((try have hq := dX hb); (try (exfalso; omega))))) | (apply qr_pick; refine r_pick ?_) | (apply qr_eql; refine r_eql ?_) | (apply qr_sub; refine r_sub ?_) | (apply qr_load; refine r_load ?_) | (apply qr_faddr; refine r_faddr ?_) | (apply qr_nilck; refine r_nilck ?_) | (apply qr_store; refine r_store ?_))
      refine oret1 (dsk 1000 1001 1002 1003 k cm cs lm ls { st with armed := st.armed - 1 }) (by rfl) (by first | exact ResV.x _ _ (ResX.tmp _ _ (by first | exact ToD.d _ | exact ToD.row _ _ _ _ _ rfl | exact ToD.nil _)) | exact ResV.tmp _ _ rfl | exact ResV.x _ _ (ResX.cellA _ _ _ _ _ _ _ rfl rfl rfl (by first | (simp only [normV, normList, normMap]; rfl) | rfl) rfl)) (⟨by rw [hq2], by simp [endS, h0, hdn]⟩) (by (repeat (first | exact obs_nil | (apply obs_cons; focus (first | rfl | (simp [find]; done)))))) (by first | rfl | (simp [okOut, V.within, V.withinL, O.within, keys, mem, look, nbeq_def, withinL_app, withinL_ds, withinL_und]; done))
  · skip
    refine ob_enter Tryz.func49 rfl (by decide) _ Tryz.ntmps49 (le_ok rfl) rfl (fun w Pr β κ hE => ?_)
    dsimp only [slotsV, Nat.zero_add, Nat.reduceAdd]
    repeat' (first | refine nx ?_ | (apply qr_move; refine r_move ?_) | (apply qr_assign; refine r_assign ?_) | (apply at_cond; first | refine c_t ?_ | refine c_f ?_ | (refine aw_cond rfl (fun hb => ?_) (fun hb => ?_) <;> ((try have hq := dX hb); (try (exfalso; omega))))) | (apply at_guard; first | refine g_go ?_ | refine g_nt ?_ | refine g_nf ?_ | refine g_nu ?_ | ((first | refine al_split_t rfl rfl (lt_ok rfl) (fun hb => ?_) (fun hb => ?_) | refine al_split_f rfl rfl (lt_ok rfl) (fun hb => ?_) (fun hb => ?_)) <;> ((try have hq := dX hb); (try (exfalso; omega))))) | (apply qr_pick; refine r_pick ?_) | (apply qr_eql; refine r_eql ?_) | (apply qr_sub; refine r_sub ?_) | (apply qr_load; refine r_load ?_) | (apply qr_faddr; refine r_faddr ?_) | (apply qr_nilck; refine r_nilck ?_) | (apply qr_store; refine r_store ?_))
    refine oret1 (dsk 1000 1001 1002 1003 k cm cs lm ls st) (by rfl) (by first | exact ResV.x _ _ (ResX.tmp _ _ (by first | exact ToD.d _ | exact ToD.row _ _ _ _ _ rfl | exact ToD.nil _)) | exact ResV.tmp _ _ rfl | exact ResV.x _ _ (ResX.cellA _ _ _ _ _ _ _ rfl rfl rfl (by first | (simp only [normV, normList, normMap]; rfl) | rfl) rfl)) (⟨by simp [endsB, hdn], by simp [endS, hdn]⟩) (by (repeat (first | exact obs_nil | (apply obs_cons; focus (first | rfl | (simp [find]; done)))))) (by first | rfl | (simp [okOut, V.within, V.withinL, O.within, keys, mem, look, nbeq_def, withinL_app, withinL_ds, withinL_und]; done))
/-- the part of a string that a read returns -/
def cutB (s : ByteArray) (at_ size : Int) : ByteArray := s.extract (min at_ s.size).toNat (min (at_ + size) s.size).toNat
def readV (st : DS) (f at_ size : Int) : List D := if mayE st f ≠ 0 then [.str ⟨#[]⟩, .int (mayE st f)] else if at_ < 0 ∨ size < 0 then [.str ⟨#[]⟩, .int 1] else [.str (cutB (st.F f).now at_ size), .int 0]
theorem cut_eq (s : ByteArray) {at_ size : Int} (h1 : ¬ at_ < 0) (h2 : ¬ size < 0) : (s.extract (min at_ ↑s.size).toNat s.size).extract 0 (min size ↑(s.size - (min at_ ↑s.size).toNat)).toNat = cutB s at_ size := by
  rw [ByteArray.extract_extract, cutB]
  congr 1
  omega
set_option maxHeartbeats 4000000 in
set_option maxRecDepth 20000 in
theorem read_any (h : DkOk lm ls st) {f at_ size : Int} (hf : i64 f) : ObC 26 [.box 1000 0, .d (.int f), .d (.int at_), .d (.int size)] (dsk 1000 1001 1002 1003 k cm cs lm ls st) [] (fun x o => x = .tup ((readV st f at_ size).map V.d) ∧ o = dsk 1000 1001 1002 1003 k cm cs lm ls st) := by
  have hkey := int_key hf
  obtain ⟨b, hhit⟩ := h.f.hit f
  have hm := may_any (k := k) (cm := cm) (cs := cs) (lm := lm) (ls := ls) (st := st) f
  by_cases h0 : mayE st f = 0
  · rw [h0] at hm
    by_cases h1 : at_ < 0
    · skip
      refine ob_enter Tryz.func26 rfl (by decide) _ Tryz.ntmps26 (le_ok rfl) rfl (fun w Pr β κ hE => ?_)
      dsimp only [slotsV, Nat.zero_add, Nat.reduceAdd]
      repeat' (first | (apply at_call; refine k_ocall [(1000, 1000), (1001, 1001), (1002, 1002), (1003, 1003)] (hm) hE ?_; rintro _ _ ⟨rfl, rfl⟩ <;> (intro _ _ h1 h2; simp only [renEqs, Nat.reduceBEq] at h1 h2; subst h1 h2)) | refine nx ?_ | (apply qr_move; refine r_move ?_) | (apply qr_assign; refine r_assign ?_) | (apply at_cond; first | refine c_t ?_ | refine c_f ?_ | (refine aw_cond rfl (fun hb => ?_) (fun hb => ?_) <;> ((try have hq := dX hb); (try (exfalso; omega))))) | (apply at_guard; first | refine g_go ?_ | refine g_nt ?_ | refine g_nf ?_ | refine g_nu ?_ | ((first | refine al_split_t rfl rfl (lt_ok rfl) (fun hb => ?_) (fun hb => ?_) | refine al_split_f rfl rfl (lt_ok rfl) (fun hb => ?_) (fun hb => ?_)) <;> ((try have hq := dX hb); (try (exfalso; omega))))) | (apply qr_pick; refine r_pick ?_) | (apply qr_lss; refine r_lss ?_) | (apply qr_neq; refine r_neq ?_) | (apply qr_min; refine r_min ?_) | (apply qr_len; refine r_len ?_) | (apply qr_slice; refine r_slice ?_) | (apply qr_load; refine r_load ?_) | (apply qr_faddr; refine r_faddr ?_) | (apply qr_field; refine r_field ?_) | (apply qr_nilck; refine r_nilck ?_))
      refine oret2 (dsk 1000 1001 1002 1003 k cm cs lm ls st) (by rfl) (by first | exact ResV.x _ _ (ResX.tmp _ _ (by first | exact ToD.d _ | exact ToD.row _ _ _ _ _ rfl | exact ToD.nil _)) | exact ResV.tmp _ _ rfl | exact ResV.x _ _ (ResX.cellA _ _ _ _ _ _ _ rfl rfl rfl (by first | (simp only [normV, normList, normMap]; rfl) | rfl) rfl)) (by first | exact ResV.x _ _ (ResX.tmp _ _ (by first | exact ToD.d _ | exact ToD.row _ _ _ _ _ rfl | exact ToD.nil _)) | exact ResV.tmp _ _ rfl | exact ResV.x _ _ (ResX.cellA _ _ _ _ _ _ _ rfl rfl rfl (by first | (simp only [normV, normList, normMap]; rfl) | rfl) rfl)) (⟨by simp [readV, h0, h1], rfl⟩) (by (repeat (first | exact obs_nil | (apply obs_cons; focus (first | rfl | (simp [find]; done)))))) (by first | rfl | (simp [okOut, V.within, V.withinL, O.within, keys, mem, look, nbeq_def, withinL_app, withinL_ds, withinL_und]; done))
    · by_cases h2 : size < 0
      · skip
        refine ob_enter Tryz.func26 rfl (by decide) _ Tryz.ntmps26 (le_ok rfl) rfl (fun w Pr β κ hE => ?_)
        dsimp only [slotsV, Nat.zero_add, Nat.reduceAdd]
        repeat' (first | (apply at_call; refine k_ocall [(1000, 1000), (1001, 1001), (1002, 1002), (1003, 1003)] (hm) hE ?_; rintro _ _ ⟨rfl, rfl⟩ <;> (intro _ _ h1 h2; simp only [renEqs, Nat.reduceBEq] at h1 h2; subst h1 h2)) | refine nx ?_ | (apply qr_move; refine r_move ?_) | (apply qr_assign; refine r_assign ?_) | (apply at_cond; first | refine c_t ?_ | refine c_f ?_ | (refine aw_cond rfl (fun hb => ?_) (fun hb => ?_) <;> ((try have hq := dX hb); (try (exfalso; omega))))) | (apply at_guard; first | refine g_go ?_ | refine g_nt ?_ | refine g_nf ?_ | refine g_nu ?_ | ((first | refine al_split_t rfl rfl (lt_ok rfl) (fun hb => ?_) (fun hb => ?_) | refine al_split_f rfl rfl (lt_ok rfl) (fun hb => ?_) (fun hb => ?_)) <;> ((try have hq := dX hb); (try (exfalso; omega))))) | (apply qr_pick; refine r_pick ?_) | (apply qr_lss; refine r_lss ?_) | (apply qr_neq; refine r_neq ?_) | (apply qr_min; refine r_min ?_) | (apply qr_len; refine r_len ?_) | (apply qr_slice; refine r_slice ?_) | (apply qr_load; refine r_load ?_) | (apply qr_faddr; refine r_faddr ?_) | (apply qr_field; refine r_field ?_) | (apply qr_nilck; refine r_nilck ?_))
        refine oret2 (dsk 1000 1001 1002 1003 k cm cs lm ls st) (by rfl) (by first | exact ResV.x _ _ (ResX.tmp _ _ (by first | exact ToD.d _ | exact ToD.row _ _ _ _ _ rfl | exact ToD.nil _)) | exact ResV.tmp _ _ rfl | exact ResV.x _ _ (ResX.cellA _ _ _ _ _ _ _ rfl rfl rfl (by first | (simp only [normV, normList, normMap]; rfl) | rfl) rfl)) (by first | exact ResV.x _ _ (ResX.tmp _ _ (by first | exact ToD.d _ | exact ToD.row _ _ _ _ _ rfl | exact ToD.nil _)) | exact ResV.tmp _ _ rfl | exact ResV.x _ _ (ResX.cellA _ _ _ _ _ _ _ rfl rfl rfl (by first | (simp only [normV, normList, normMap]; rfl) | rfl) rfl)) (⟨by simp [readV, h0, h1, h2], rfl⟩) (by (repeat (first | exact obs_nil | (apply obs_cons; focus (first | rfl | (simp [find]; done)))))) (by first | rfl | (simp [okOut, V.within, V.withinL, O.within, keys, mem, look, nbeq_def, withinL_app, withinL_ds, withinL_und]; done))
      · generalize hs : (st.F f).now = s at hhit
        refine ob_enter Tryz.func26 rfl (by decide) _ Tryz.ntmps26 (le_ok rfl) rfl (fun w Pr β κ hE => ?_)
        dsimp only [slotsV, Nat.zero_add, Nat.reduceAdd]
        repeat' (first | (apply at_call; refine k_ocall [(1000, 1000), (1001, 1001), (1002, 1002), (1003, 1003)] (hm) hE ?_; rintro _ _ ⟨rfl, rfl⟩ <;> (intro _ _ h1 h2; simp only [renEqs, Nat.reduceBEq] at h1 h2; subst h1 h2)) | (apply at_op (.lookup _ _ _ _); refine al_y (y_lookup1 fileM rfl rfl rfl hkey hhit) (lt_ok rfl) ?_) | refine nx ?_ | (apply qr_move; refine r_move ?_) | (apply qr_assign; refine r_assign ?_) | (apply at_cond; first | refine c_t ?_ | refine c_f ?_ | (refine aw_cond rfl (fun hb => ?_) (fun hb => ?_) <;> ((try have hq := dX hb); (try (exfalso; omega))))) | (apply at_guard; first | refine g_go ?_ | refine g_nt ?_ | refine g_nf ?_ | refine g_nu ?_ | ((first | refine al_split_t rfl rfl (lt_ok rfl) (fun hb => ?_) (fun hb => ?_) | refine al_split_f rfl rfl (lt_ok rfl) (fun hb => ?_) (fun hb => ?_)) <;> ((try have hq := dX hb); (try (exfalso; omega))))) | (apply qr_pick; refine r_pick ?_) | (apply qr_lss; refine r_lss ?_) | (apply qr_neq; refine r_neq ?_) | (apply qr_min; refine r_min ?_) | (apply qr_len; refine r_len ?_) | (apply qr_slice; refine r_slice ?_) | (apply qr_load; refine r_load ?_) | (apply qr_faddr; refine r_faddr ?_) | (apply qr_field; refine r_field ?_) | (apply qr_nilck; refine r_nilck ?_))
        refine oret2 (dsk 1000 1001 1002 1003 k cm cs lm ls st) (by rfl) (by first | exact ResV.x _ _ (ResX.tmp _ _ (by first | exact ToD.d _ | exact ToD.row _ _ _ _ _ rfl | exact ToD.nil _)) | exact ResV.tmp _ _ rfl | exact ResV.x _ _ (ResX.cellA _ _ _ _ _ _ _ rfl rfl rfl (by first | (simp only [normV, normList, normMap]; rfl) | rfl) rfl)) (by first | exact ResV.x _ _ (ResX.tmp _ _ (by first | exact ToD.d _ | exact ToD.row _ _ _ _ _ rfl | exact ToD.nil _)) | exact ResV.tmp _ _ rfl | exact ResV.x _ _ (ResX.cellA _ _ _ _ _ _ _ rfl rfl rfl (by first | (simp only [normV, normList, normMap]; rfl) | rfl) rfl)) (⟨by simp [readV, h0, h1, h2, hs, cut_eq s h1 h2], rfl⟩) (by (repeat (first | exact obs_nil | (apply obs_cons; focus (first | rfl | (simp [find]; done)))))) (by first | rfl | (simp [okOut, V.within, V.withinL, O.within, keys, mem, look, nbeq_def, withinL_app, withinL_ds, withinL_und]; done))
  · have hq : decide (mayE st f = 0) = false := decide_eq_false h0
    have hq2 : (!decide (mayE st f = 0)) = true := by rw [hq]; rfl
    refine ob_enter Tryz.func26 rfl (by decide) _ Tryz.ntmps26 (le_ok rfl) rfl (fun w Pr β κ hE => ?_)
    dsimp only [slotsV, Nat.zero_add, Nat.reduceAdd]
    repeat' (first | (apply at_call; refine k_ocall [(1000, 1000), (1001, 1001), (1002, 1002), (1003, 1003)] (hm) hE ?_; rintro _ _ ⟨rfl, rfl⟩ <;> (intro _ _ h1 h2; simp only [renEqs, Nat.reduceBEq] at h1 h2; subst h1 h2)) | refine nx ?_ | (apply qr_move; refine r_move ?_) | (apply qr_assign; refine r_assign ?_) | (apply at_cond; first | refine c_t ?_ | refine c_f ?_ | (refine aw_cond rfl (fun hb => ?_) (fun hb => ?_) <;> ((try have hq := dX hb); (try (exfalso; omega))))) | (apply at_guard; first | refine g_go ?_ | refine g_nt ?_ | refine g_nf ?_ | refine g_nu ?_ | ((first | refine al_split_t rfl rfl (lt_ok rfl) (fun hb => ?_) (fun hb => ?_) | refine al_split_f rfl rfl (lt_ok rfl) (fun hb => ?_) (fun hb => ?_)) <;> ((try have hq := dX hb); (try (exfalso; omega))))) | (apply qr_pick; refine r_pick ?_) | (apply qr_lss; refine r_lss ?_) | (apply qr_neq; refine r_neq ?_) | (apply qr_min; refine r_min ?_) | (apply qr_len; refine r_len ?_) | (apply qr_slice; refine r_slice ?_) | (apply qr_load; refine r_load ?_) | (apply qr_faddr; refine r_faddr ?_) | (apply qr_field; refine r_field ?_) | (apply qr_nilck; refine r_nilck ?_))
    refine oret2 (dsk 1000 1001 1002 1003 k cm cs lm ls st) (by rfl) (by first | exact ResV.x _ _ (ResX.tmp _ _ (by first | exact ToD.d _ | exact ToD.row _ _ _ _ _ rfl | exact ToD.nil _)) | exact ResV.tmp _ _ rfl | exact ResV.x _ _ (ResX.cellA _ _ _ _ _ _ _ rfl rfl rfl (by first | (simp only [normV, normList, normMap]; rfl) | rfl) rfl)) (by first | exact ResV.x _ _ (ResX.tmp _ _ (by first | exact ToD.d _ | exact ToD.row _ _ _ _ _ rfl | exact ToD.nil _)) | exact ResV.tmp _ _ rfl | exact ResV.x _ _ (ResX.cellA _ _ _ _ _ _ _ rfl rfl rfl (by first | (simp only [normV, normList, normMap]; rfl) | rfl) rfl)) (⟨by simp [readV, h0], rfl⟩) (by (repeat (first | exact obs_nil | (apply obs_cons; focus (first | rfl | (simp [find]; done)))))) (by first | rfl | (simp [okOut, V.within, V.withinL, O.within, keys, mem, look, nbeq_def, withinL_app, withinL_ds, withinL_und]; done))
end
end Go.Proofs.YtfgibalcdjlnhaaGreatDoor
end
section
set_option linter.unusedSimpArgs false
set_option linter.unusedVariables false
namespace Go.Proofs.YtfgibalcdjlnhaaGreatDoor
open Go.RowKit Go.ChangeMaps

def flatD (Q : List Sec) : List D := (Q.map secC).flatten
theorem flatD_cons (p : Sec) (Q : List Sec) : flatD (p :: Q) = D.int p.1 :: D.int p.2 :: flatD Q := rfl
theorem flatD_app (A B : List Sec) : flatD (A ++ B) = flatD A ++ flatD B := by simp [flatD]
theorem flatD_len : ∀ (Q : List Sec), (flatD Q).length = 2 * Q.length
  | [] => rfl
  | p :: Q => by rw [flatD_cons, List.length_cons, List.length_cons, flatD_len Q, List.length_cons]; omega
theorem flatD_drop : ∀ (Q : List Sec) (i : Nat), (flatD Q).drop (2 * i) = flatD (Q.drop i)
  | Q, 0 => by simp
  | [], i + 1 => by simp [flatD]
  | p :: Q, i + 1 => by rw [flatD_cons, show 2 * (i + 1) = 2 * i + 1 + 1 by omega, List.drop_succ_cons, List.drop_succ_cons, List.drop_succ_cons, flatD_drop Q i]
theorem flatD_get {Q : List Sec} {i : Nat} (h : i < Q.length) : ((flatD Q).drop (2 * i)).take 2 = [D.int Q[i].1, D.int Q[i].2] := by
  rw [flatD_drop, List.drop_eq_getElem_cons h, flatD_cons]
  rfl
theorem unD_maps : ∀ (l : List D), unD (l.map V.d) = some l
  | [] => rfl
  | x :: l => by simp [unD, unD_maps l]
theorem unD_part {B : List D} {Z : List V} {o n : Nat} (h : o + n ≤ B.length) : unD (((B.map V.d ++ Z).drop o).take n) = some ((B.drop o).take n) := by
  rw [List.drop_append_of_le_length (by simp; omega), List.take_append_of_le_length (by simp; omega), ← List.map_drop, ← List.map_take, unD_maps]
theorem put_ds {B : List D} {Z : List V} {o : Nat} {n : List D} (h : o + n.length ≤ B.length) : Go.Proofs.YtfgibalcdjlnhaaGreatDoor.put (B.map V.d ++ Z) o (n.map V.d) = (putD B o n).map V.d ++ Z := by
  unfold Go.Proofs.YtfgibalcdjlnhaaGreatDoor.put putD
  rw [List.take_append_of_le_length (by simp; omega), List.drop_append_of_le_length (by simp; omega)]
  simp
theorem take_ne {f : Int} {Q : List Sec} {i : Nat} (hlt : i < Q.length) (hs : ∀ p ∈ Q.take i, p.1 ≠ f) (he : ¬ Q[i].1 = f) : ∀ p ∈ Q.take (i + 1), p.1 ≠ f := by
  rw [List.take_succ_eq_append_getElem hlt]
  intro p hp
  rcases List.mem_append.1 hp with hp | hp
  · exact hs p hp
  · simp at hp
    subst hp
    exact he
abbrev capB (f : Int) : O := .box 3 [.d (.int f)]
set_option maxHeartbeats 4000000 in
set_option maxRecDepth 20000 in
theorem clo1_any (f a b : Int) : ObC 70 [.d (.agg [.int a, .int b]), .box 1000 0] [(1000, capB f)] [] (fun x o => x = .d (.bool (decide (a = f))) ∧ o = [(1000, capB f)]) := by
  refine ob_enter Tryz.func70 rfl (by decide) _ Tryz.ntmps70 (le_ok rfl) rfl (fun w Pr β κ hE => ?_)
  dsimp only [slotsV, Nat.zero_add, Nat.reduceAdd]
  repeat' (first | refine nx ?_ | (apply qr_assign; refine r_assign ?_) | (apply qr_eql; refine r_eql ?_) | (apply qr_load; refine r_load ?_) | (apply qr_faddr; refine r_faddr ?_) | (apply qr_boxed; refine r_boxed ?_))
  refine oret1 ([(1000, capB f)]) (by rfl) (by first | exact ResV.x _ _ (ResX.tmp _ _ (by first | exact ToD.d _ | exact ToD.row _ _ _ _ _ rfl | exact ToD.nil _)) | exact ResV.tmp _ _ rfl | exact ResV.x _ _ (ResX.cellA _ _ _ _ _ _ _ rfl rfl rfl (by first | (simp only [normV, normList, normMap]; rfl) | rfl) rfl)) (⟨rfl, rfl⟩) (by (repeat (first | exact obs_nil | (apply obs_cons; focus (first | rfl | (simp [find]; done)))))) (by first | rfl | (simp [okOut, V.within, V.withinL, O.within, keys, mem, look, nbeq_def, withinL_app, withinL_ds, withinL_und]; done))
set_option maxHeartbeats 4000000 in
set_option maxRecDepth 20000 in
theorem clo2_any (f a b : Int) (u : Bool) : ObC 72 [.d (.agg [.int a, .int b]), .d (.bool u), .box 1000 0] [(1000, capB f)] [] (fun x o => x = .d (.bool (decide (a = f))) ∧ o = [(1000, capB f)]) := by
  refine ob_enter Tryz.func72 rfl (by decide) _ Tryz.ntmps72 (le_ok rfl) rfl (fun w Pr β κ hE => ?_)
  dsimp only [slotsV, Nat.zero_add, Nat.reduceAdd]
  repeat' (first | refine nx ?_ | (apply qr_assign; refine r_assign ?_) | (apply qr_eql; refine r_eql ?_) | (apply qr_load; refine r_load ?_) | (apply qr_faddr; refine r_faddr ?_) | (apply qr_boxed; refine r_boxed ?_))
  refine oret1 ([(1000, capB f)]) (by rfl) (by first | exact ResV.x _ _ (ResX.tmp _ _ (by first | exact ToD.d _ | exact ToD.row _ _ _ _ _ rfl | exact ToD.nil _)) | exact ResV.tmp _ _ rfl | exact ResV.x _ _ (ResX.cellA _ _ _ _ _ _ _ rfl rfl rfl (by first | (simp only [normV, normList, normMap]; rfl) | rfl) rfl)) (⟨rfl, rfl⟩) (by (repeat (first | exact obs_nil | (apply obs_cons; focus (first | rfl | (simp [find]; done)))))) (by first | rfl | (simp [okOut, V.within, V.withinL, O.within, keys, mem, look, nbeq_def, withinL_app, withinL_ds, withinL_und]; done))
abbrev rowB (B : List D) (m : Nat) : O := .box 76 (B.map V.d ++ List.replicate m .und)
def Idx (f : Int) (Q : List Sec) (r : Int) : Prop := (r = -1 ∧ ∀ p ∈ Q, p.1 ≠ f) ∨ ∃ i : Nat, ∃ h : i < Q.length, r = i ∧ Q[i].1 = f ∧ ∀ p ∈ Q.take i, p.1 ≠ f
set_option maxHeartbeats 8000000 in
set_option maxRecDepth 20000 in
theorem index_any (f : Int) (Q : List Sec) (m : Nat) (hQ : Q.length ≤ 4194320) : ObC 84 [.sl 1001 0 Q.length, .clo (.func 70) [.box 1000 0]] [(1001, rowB (flatD Q) m), (1000, capB f)] [] (fun x o => (∃ r, x = .d (.int r) ∧ Idx f Q r) ∧ o = [(1001, rowB (flatD Q) m), (1000, capB f)]) := by
  refine ob_enter Tryz.func84 rfl (by decide) _ Tryz.ntmps84 (le_ok rfl) rfl (fun w Pr β κ hE => ?_)
  dsimp only [slotsV, Nat.zero_add, Nat.reduceAdd]
  repeat' (first | refine nx ?_ | (apply aq_block_y; decide) | (apply qr_move; refine r_move ?_) | (apply qr_assign; refine r_assign ?_) | (apply at_cond; first | refine c_t ?_ | refine c_f ?_ | (refine aw_cond rfl (fun hb => ?_) (fun hb => ?_) <;> ((try have hq := dX hb); (try (exfalso; omega))))) | (apply qr_lss; refine r_lss ?_) | (apply qr_add; refine r_add ?_) | (apply qr_len; refine r_len ?_) | (apply qr_ix; refine r_ix ?_) | (apply qr_load; refine r_load ?_))
  refine aw_lp (fun N sl ob => ∃ i : Nat, N = Q.length - i ∧ i ≤ Q.length ∧ (∀ p ∈ Q.take i, p.1 ≠ f) ∧ sl = [(8, .d (.int i)), (7, .d (.int Q.length)), (1, .clo (.func 70) [.box 1000 0]), (0, .sl 1001 0 Q.length)] ∧ ob = [(1001, rowB (flatD Q) m), (1000, capB f)]) (⟨0, rfl, Nat.zero_le _, by simp, rfl, rfl⟩) ?_
  rintro N sl ob ⟨i, rfl, hi, hs, rfl, rfl⟩
  by_cases hlt : i < Q.length
  · have hld : unD ((((flatD Q).map V.d ++ List.replicate m V.und).drop (0 + i * 2)).take 2) = some [D.int Q[i].1, D.int Q[i].2] := by
      rw [unD_part (by rw [flatD_len]; omega), show 0 + i * 2 = 2 * i by omega, flatD_get hlt]
    have hc := clo1_any f Q[i].1 Q[i].2
    by_cases he : Q[i].1 = f
    · have hq1 : decide (Q[i].1 = f) = true := decide_eq_true he
      repeat' (first | (apply at_op (.indexAddr _ _ _); refine al_y (y_slix rfl rfl rfl rfl hlt rfl) (lt_ok rfl) ?_) | (apply at_op (.load _ _); refine al_y (y_bloadA rfl rfl rfl hld rfl) (lt_ok rfl) ?_) | (apply at_call; refine k_clocall1 [(1000, 1000)] (hc) hE ?_; rintro _ _ ⟨rfl, rfl⟩ <;> (intro _ _ h1 h2; simp only [renEqs, Nat.reduceBEq] at h1 h2; subst h1 h2)) | refine nx ?_ | (apply aq_block_y; decide) | (apply qr_move; refine r_move ?_) | (apply qr_assign; refine r_assign ?_) | (apply at_cond; first | refine c_t ?_ | refine c_f ?_ | (refine aw_cond rfl (fun hb => ?_) (fun hb => ?_) <;> ((try have hq := dX hb); (try (exfalso; omega))))) | (apply qr_lss; refine r_lss ?_) | (apply qr_add; refine r_add ?_) | (apply qr_len; refine r_len ?_) | (apply qr_ix; refine r_ix ?_) | (apply qr_load; refine r_load ?_))
      refine oret1 ([(1001, rowB (flatD Q) m), (1000, capB f)]) (by rfl) (by first | exact ResV.x _ _ (ResX.tmp _ _ (by first | exact ToD.d _ | exact ToD.row _ _ _ _ _ rfl | exact ToD.nil _)) | exact ResV.tmp _ _ rfl | exact ResV.x _ _ (ResX.cellA _ _ _ _ _ _ _ rfl rfl rfl (by first | (simp only [normV, normList, normMap]; rfl) | rfl) rfl)) (⟨⟨i, rfl, .inr ⟨i, hlt, rfl, he, hs⟩⟩, rfl⟩) (by (repeat (first | exact obs_nil | (apply obs_cons; focus (first | rfl | (simp [find]; done)))))) (by first | rfl | (simp [okOut, V.within, V.withinL, O.within, keys, mem, look, nbeq_def, withinL_app, withinL_ds, withinL_und]; done))
    · have hq1 : decide (Q[i].1 = f) = false := decide_eq_false he
      repeat' (first | (apply at_op (.indexAddr _ _ _); refine al_y (y_slix rfl rfl rfl rfl hlt rfl) (lt_ok rfl) ?_) | (apply at_op (.load _ _); refine al_y (y_bloadA rfl rfl rfl hld rfl) (lt_ok rfl) ?_) | (apply at_call; refine k_clocall1 [(1000, 1000)] (hc) hE ?_; rintro _ _ ⟨rfl, rfl⟩ <;> (intro _ _ h1 h2; simp only [renEqs, Nat.reduceBEq] at h1 h2; subst h1 h2)) | refine nx ?_ | (apply aq_block_y; decide) | (apply qr_move; refine r_move ?_) | (apply qr_assign; refine r_assign ?_) | (apply at_cond; first | refine c_t ?_ | refine c_f ?_ | (refine aw_cond rfl (fun hb => ?_) (fun hb => ?_) <;> ((try have hq := dX hb); (try (exfalso; omega))))) | (apply qr_lss; refine r_lss ?_) | (apply qr_add; refine r_add ?_) | (apply qr_len; refine r_len ?_) | (apply qr_ix; refine r_ix ?_) | (apply qr_load; refine r_load ?_))
      refine aq_rd (⟨i + 1, rfl, by omega, take_ne hlt hs he, rfl, rfl⟩) (by omega)
  · rw [List.take_of_length_le (by omega)] at hs
    repeat' (first | refine nx ?_ | (apply aq_block_y; decide) | (apply qr_move; refine r_move ?_) | (apply qr_assign; refine r_assign ?_) | (apply at_cond; first | refine c_t ?_ | refine c_f ?_ | (refine aw_cond rfl (fun hb => ?_) (fun hb => ?_) <;> ((try have hq := dX hb); (try (exfalso; omega))))) | (apply qr_lss; refine r_lss ?_) | (apply qr_add; refine r_add ?_) | (apply qr_len; refine r_len ?_) | (apply qr_ix; refine r_ix ?_) | (apply qr_load; refine r_load ?_))
    refine oret1 ([(1001, rowB (flatD Q) m), (1000, capB f)]) (by rfl) (by first | exact ResV.x _ _ (ResX.tmp _ _ (by first | exact ToD.d _ | exact ToD.row _ _ _ _ _ rfl | exact ToD.nil _)) | exact ResV.tmp _ _ rfl | exact ResV.x _ _ (ResX.cellA _ _ _ _ _ _ _ rfl rfl rfl (by first | (simp only [normV, normList, normMap]; rfl) | rfl) rfl)) (⟨⟨_, rfl, .inl ⟨rfl, hs⟩⟩, rfl⟩) (by (repeat (first | exact obs_nil | (apply obs_cons; focus (first | rfl | (simp [find]; done)))))) (by first | rfl | (simp [okOut, V.within, V.withinL, O.within, keys, mem, look, nbeq_def, withinL_app, withinL_ds, withinL_und]; done))
end Go.Proofs.YtfgibalcdjlnhaaGreatDoor
end
section
set_option linter.unusedSimpArgs false
set_option linter.unusedVariables false
namespace Go.Proofs.YtfgibalcdjlnhaaGreatDoor
open Go.RowKit Go.ChangeMaps

def kept (f : Int) (Q : List Sec) : List Sec := Q.filter fun p => !decide (p.1 = f)
theorem kept_snoc (f : Int) {Q : List Sec} {j : Nat} (h : j < Q.length) : kept f (Q.take (j + 1)) = if Q[j].1 = f then kept f (Q.take j) else kept f (Q.take j) ++ [Q[j]] := by
  rw [List.take_succ_eq_append_getElem h]
  unfold kept
  rw [List.filter_append]
  by_cases he : Q[j].1 = f
  · simp [he]
  · simp [he]
theorem kept_all {f : Int} {Q : List Sec} (h : ∀ p ∈ Q, p.1 ≠ f) : kept f Q = Q := by
  unfold kept
  rw [List.filter_eq_self]
  intro p hp
  simp [h p hp]
/-- how far DeleteFunc has come: i places are settled, the places from j on are as they were -/
structure Come (f : Int) (Q : List Sec) (i j : Nat) (B : List D) : Prop where
  lt : i < j
  le : j ≤ Q.length
  len : B.length = 2 * Q.length
  cnt : i = (kept f (Q.take j)).length
  head : B.take (2 * i) = flatD (kept f (Q.take j))
  tail : B.drop (2 * j) = flatD (Q.drop j)
theorem Come.start {f : Int} {Q : List Sec} {i : Nat} (h : i < Q.length) (he : Q[i].1 = f) (hs : ∀ p ∈ Q.take i, p.1 ≠ f) : Come f Q i (i + 1) (flatD Q) := by
  have hk : kept f (Q.take (i + 1)) = Q.take i := by rw [kept_snoc f h, if_pos he, kept_all hs]
  refine ⟨by omega, by omega, flatD_len Q, by rw [hk]; simp; omega, ?_, flatD_drop Q (i + 1)⟩
  rw [hk]
  have e : flatD Q = flatD (Q.take i) ++ flatD (Q.drop i) := by rw [← flatD_app, List.take_append_drop]
  rw [e, List.take_append_of_le_length (by rw [flatD_len]; simp; omega), List.take_of_length_le (by rw [flatD_len]; simp; omega)]
theorem Come.skip {f : Int} {Q : List Sec} {i j : Nat} {B : List D} (h : Come f Q i j B) (hj : j < Q.length) (he : Q[j].1 = f) : Come f Q i (j + 1) B := by
  obtain ⟨h1, h2, h3, h4, h5, h6⟩ := h
  refine ⟨by omega, by omega, h3, ?_, ?_, ?_⟩
  · rw [kept_snoc f hj, if_pos he]; exact h4
  · rw [kept_snoc f hj, if_pos he]; exact h5
  · rw [show 2 * (j + 1) = 2 * j + 2 by omega, ← List.drop_drop, h6, ← flatD_drop, ← flatD_drop, List.drop_drop]
    congr 1
theorem Come.get {f : Int} {Q : List Sec} {i j : Nat} {B : List D} (h : Come f Q i j B) (hj : j < Q.length) : (B.drop (2 * j)).take 2 = [D.int Q[j].1, D.int Q[j].2] := by
  rw [h.tail, ← flatD_drop, flatD_get hj]
theorem Come.move {f : Int} {Q : List Sec} {i j : Nat} {B : List D} (h : Come f Q i j B) (hj : j < Q.length) (he : ¬ Q[j].1 = f) : Come f Q (i + 1) (j + 1) (putD B (2 * i) [D.int Q[j].1, D.int Q[j].2]) := by
  have hk := kept_snoc f hj
  rw [if_neg he] at hk
  obtain ⟨h1, h2, h3, h4, h5, h6⟩ := h
  have hl : (putD B (2 * i) [D.int Q[j].1, D.int Q[j].2]).length = B.length := by simp [putD]; omega
  refine ⟨by omega, by omega, by rw [hl, h3], by rw [hk, List.length_append, ← h4]; rfl, ?_, ?_⟩
  · rw [hk, flatD_app, ← h5, show flatD [Q[j]] = [D.int Q[j].1, D.int Q[j].2] from rfl]
    unfold putD
    rw [show 2 * (i + 1) = (B.take (2 * i) ++ [D.int Q[j].1, D.int Q[j].2]).length by simp; omega, List.take_left]
  · unfold putD
    rw [show 2 * (j + 1) = (B.take (2 * i) ++ [D.int Q[j].1, D.int Q[j].2]).length + 2 * (j - i) by simp; omega, ← List.drop_drop, List.drop_left, List.drop_drop]
    have e : 2 * i + [D.int Q[j].1, D.int Q[j].2].length + 2 * (j - i) = 2 * j + 2 := by simp; omega
    rw [e, ← List.drop_drop, h6, ← flatD_drop, ← flatD_drop, List.drop_drop]
    congr 1
theorem idx_none {f : Int} {Q : List Sec} {r : Int} (h : Idx f Q r) (hn : ∀ p ∈ Q, p.1 ≠ f) : r = -1 := by
  rcases h with ⟨h, _⟩ | ⟨i, hi, _, he, _⟩
  · exact h
  · exact absurd he (hn _ (List.getElem_mem hi))
theorem idx_some {f : Int} {Q : List Sec} {r : Int} (h : Idx f Q r) {i : Nat} (hi : i < Q.length) (he : Q[i].1 = f) (hs : ∀ p ∈ Q.take i, p.1 ≠ f) : r = i := by
  have mem : ∀ {a b : Nat} (hb : b < Q.length), b < a → Q[b] ∈ Q.take a := fun {a b} hb hab => by
    rw [List.mem_take_iff_getElem]
    exact ⟨b, by omega, rfl⟩
  rcases h with ⟨_, hn⟩ | ⟨j, hj, rfl, hje, hjs⟩
  · exact absurd he (hn _ (List.getElem_mem hi))
  · rcases Nat.lt_trichotomy i j with hlt | rfl | hlt
    · exact absurd he (hjs _ (mem hi hlt))
    · rfl
    · exact absurd hje (hs _ (mem hj hlt))
theorem idx_cases (f : Int) (Q : List Sec) : (∀ p ∈ Q, p.1 ≠ f) ∨ ∃ i, ∃ h : i < Q.length, Q[i].1 = f ∧ ∀ p ∈ Q.take i, p.1 ≠ f := by
  induction Q with
  | nil => exact .inl (by simp)
  | cons p Q ih =>
    by_cases h : p.1 = f
    · exact .inr ⟨0, by simp, h, by simp⟩
    · rcases ih with h1 | ⟨i, hi, h1, h2⟩
      · refine .inl fun q hq => ?_
        rcases List.mem_cons.1 hq with rfl | hq
        · exact h
        · exact h1 q hq
      · refine .inr ⟨i + 1, by simpa using hi, by simpa using h1, fun q hq => ?_⟩
        rw [List.take_succ_cons] at hq
        rcases List.mem_cons.1 hq with rfl | hq
        · exact h
        · exact h2 q hq
def DelPost (f : Int) (Q : List Sec) (m : Nat) (x : V) (o : Objs) : Prop := ∃ Z, ((flatD Q).map V.d ++ List.replicate m V.und).length = ((flatD (kept f Q)).map V.d ++ Z).length ∧ x = .sl 1001 0 (kept f Q).length ∧ o = [(1001, .box 76 ((flatD (kept f Q)).map V.d ++ Z)), (1000, capB f)]
set_option maxHeartbeats 16000000 in
set_option maxRecDepth 20000 in
theorem delq_box (f : Int) (Q : List Sec) (m : Nat) (hQ : Q.length ≤ 4194320) (h0 : 0 < Q.length) : ObC 69 [.sl 1001 0 Q.length, .clo (.func 70) [.box 1000 0]] [(1001, rowB (flatD Q) m), (1000, capB f)] [] (DelPost f Q m) := by
  rcases idx_cases f Q with hn | ⟨i, hi, he, hs⟩
  · have hix := (index_any f Q m hQ).mono (Q := fun x o => x = .d (.int (-1)) ∧ o = [(1001, rowB (flatD Q) m), (1000, capB f)]) (fun x o ⟨⟨r, h1, h2⟩, h3⟩ => ⟨by rw [h1, idx_none h2 hn], h3⟩)
    have hq1 : decide ((-1 : Int) = -1) = true := rfl
    refine ob_enter Tryz.func69 rfl (by decide) _ Tryz.ntmps69 (le_ok rfl) rfl (fun w Pr β κ hE => ?_)
    dsimp only [slotsV, Nat.zero_add, Nat.reduceAdd]
    repeat' (first | (apply at_call; refine k_ocall [(1001, 1001), (1000, 1000)] (hix) hE ?_; rintro _ _ ⟨rfl, rfl⟩ <;> (intro _ _ h1 h2; simp only [renEqs, Nat.reduceBEq, renL_app, renL_ds, renL_und] at h1 h2; subst h1 h2)) | refine nx ?_ | (apply aq_block_y; decide) | (apply qr_move; refine r_move ?_) | (apply qr_assign; refine r_assign ?_) | (apply at_cond; first | refine c_t ?_ | refine c_f ?_ | (refine aw_cond rfl (fun hb => ?_) (fun hb => ?_) <;> ((try have hq := dX hb); (try (exfalso; omega))))) | (apply qr_lss; refine r_lss ?_) | (apply qr_eql; refine r_eql ?_) | (apply qr_add; refine r_add ?_) | (apply qr_not; refine r_not ?_) | (apply qr_len; refine r_len ?_) | (apply qr_slice; refine r_slice ?_) | (apply qr_ix; refine r_ix ?_) | (apply qr_load; refine r_load ?_) | (apply qr_alloc; refine r_alloc ?_) | (apply qr_store; refine r_store ?_))
    refine oret1 ([(1001, rowB (flatD Q) m), (1000, capB f)]) (by rfl) rv (⟨List.replicate m V.und, by rw [kept_all hn], by rw [kept_all hn]; rfl, by rw [kept_all hn]⟩) sb okx
  · have hix := (index_any f Q m hQ).mono (Q := fun x o => x = .d (.int i) ∧ o = [(1001, rowB (flatD Q) m), (1000, capB f)]) (fun x o ⟨⟨r, h1, h2⟩, h3⟩ => ⟨by rw [h1, idx_some h2 hi he hs], h3⟩)
    refine ob_enter Tryz.func69 rfl (by decide) _ Tryz.ntmps69 (le_ok rfl) rfl (fun w Pr β κ hE => ?_)
    dsimp only [slotsV, Nat.zero_add, Nat.reduceAdd]
    repeat' (first | (apply at_call; refine k_ocall [(1001, 1001), (1000, 1000)] (hix) hE ?_; rintro _ _ ⟨rfl, rfl⟩ <;> (intro _ _ h1 h2; simp only [renEqs, Nat.reduceBEq, renL_app, renL_ds, renL_und] at h1 h2; subst h1 h2)) | refine nx ?_ | (apply aq_block_y; decide) | (apply qr_move; refine r_move ?_) | (apply qr_assign; refine r_assign ?_) | (apply at_cond; first | refine c_t ?_ | refine c_f ?_ | (refine aw_cond rfl (fun hb => ?_) (fun hb => ?_) <;> ((try have hq := dX hb); (try (exfalso; omega))))) | (apply qr_lss; refine r_lss ?_) | (apply qr_eql; refine r_eql ?_) | (apply qr_add; refine r_add ?_) | (apply qr_not; refine r_not ?_) | (apply qr_len; refine r_len ?_) | (apply qr_slice; refine r_slice ?_) | (apply qr_ix; refine r_ix ?_) | (apply qr_load; refine r_load ?_) | (apply qr_alloc; refine r_alloc ?_) | (apply qr_store; refine r_store ?_))
    refine aw_lp (fun N sl ob => ∃ (i j : Nat) (B : List D), N = Q.length - j ∧ Come f Q i j B ∧ sl = [(6, .d (.int j)), (5, .d (.int i)), (1, .clo (.func 70) [.box 1000 0]), (0, .sl 1001 0 Q.length)] ∧ ob = [(1001, rowB B m), (1000, capB f)]) (⟨i, i + 1, _, rfl, Come.start hi he hs, rfl, rfl⟩) ?_
    clear hi he hs hix
    rintro N sl ob ⟨i, j, B, rfl, hC, rfl, rfl⟩
    have c1 := hC.lt
    have c2 := hC.le
    have c3 := hC.len
    by_cases hlt : j < Q.length
    · have hld : unD (((B.map V.d ++ List.replicate m V.und).drop (0 + j * 2)).take 2) = some [D.int Q[j].1, D.int Q[j].2] := by
        rw [unD_part (by omega), show 0 + j * 2 = 2 * j by omega, hC.get hlt]
      have hno : ∀ i, V.hasL i (B.map V.d ++ List.replicate m V.und) = false := fun i => by rw [hasL_app, hasL_ds, hasL_und]; rfl
      have hc := clo1_any f Q[j].1 Q[j].2
      by_cases hf : Q[j].1 = f
      · have hq1 : decide (Q[j].1 = f) = true := decide_eq_true hf
        have hq2 : (!decide (Q[j].1 = f)) = false := by rw [hq1]; rfl
        repeat' (first | (apply at_op (.indexAddr _ _ _); refine al_y (y_slix rfl rfl rfl rfl hlt rfl) (lt_ok rfl) ?_) | (apply at_op (.load _ _); first | refine al_y (y_bloadA rfl rfl rfl hld rfl) (lt_ok rfl) ?_ | refine al_y (y_bloadA rfl rfl rfl (by first | (simp only [normV, normList, normMap]; rfl) | rfl) rfl) (lt_ok rfl) ?_) | (apply at_op (.alloc _); refine al_step (st_alloc rfl (by first | (simp only [normV, normList, normMap]; rfl) | rfl) rfl (lt_ok rfl) (by simp [noneOf, V.has, V.hasL, O.has, hasL_app, hasL_ds, hasL_und, nbeq_def])) rfl ?_) | (apply at_call; refine k_clocall1 [(1000, 1000)] (hc) hE ?_; rintro _ _ ⟨rfl, rfl⟩ <;> (intro _ _ h1 h2; simp only [renEqs, Nat.reduceBEq, renL_app, renL_ds, renL_und] at h1 h2; subst h1 h2)) | refine nx ?_ | (apply aq_block_y; decide) | (apply qr_move; refine r_move ?_) | (apply qr_assign; refine r_assign ?_) | (apply at_cond; first | refine c_t ?_ | refine c_f ?_ | (refine aw_cond rfl (fun hb => ?_) (fun hb => ?_) <;> ((try have hq := dX hb); (try (exfalso; omega))))) | (apply qr_lss; refine r_lss ?_) | (apply qr_eql; refine r_eql ?_) | (apply qr_add; refine r_add ?_) | (apply qr_not; refine r_not ?_) | (apply qr_len; refine r_len ?_) | (apply qr_slice; refine r_slice ?_) | (apply qr_ix; refine r_ix ?_) | (apply qr_load; refine r_load ?_) | (apply qr_alloc; refine r_alloc ?_) | (apply qr_store; refine r_store ?_))
        refine aq_rd (⟨i, j + 1, B, rfl, hC.skip hlt hf, rfl, rfl⟩) (by omega)
      · have hput : Go.Proofs.YtfgibalcdjlnhaaGreatDoor.put (B.map V.d ++ List.replicate m V.und) (i * 2) [.d (.int Q[j].1), .d (.int Q[j].2)] = (putD B (2 * i) [D.int Q[j].1, D.int Q[j].2]).map V.d ++ List.replicate m V.und := by
          rw [Nat.mul_comm]
          exact put_ds (n := [D.int Q[j].1, D.int Q[j].2]) (by simp; omega)
        have hq1 : decide (Q[j].1 = f) = false := decide_eq_false hf
        have hq2 : (!decide (Q[j].1 = f)) = true := by rw [hq1]; rfl
        repeat' (first | (apply at_op (.indexAddr _ _ _); refine al_y (y_slix rfl rfl rfl rfl hlt rfl) (lt_ok rfl) ?_) | (apply at_op (.load _ _); first | refine al_y (y_bloadA rfl rfl rfl hld rfl) (lt_ok rfl) ?_ | refine al_y (y_bloadA rfl rfl rfl (by first | (simp only [normV, normList, normMap]; rfl) | rfl) rfl) (lt_ok rfl) ?_) | (apply at_op (.alloc _); refine al_step (st_alloc rfl (by first | (simp only [normV, normList, normMap]; rfl) | rfl) rfl (lt_ok rfl) (by simp [noneOf, V.has, V.hasL, O.has, hasL_app, hasL_ds, hasL_und, nbeq_def])) rfl ?_) | (apply at_call; refine k_clocall1 [(1000, 1000)] (hc) hE ?_; rintro _ _ ⟨rfl, rfl⟩ <;> (intro _ _ h1 h2; simp only [renEqs, Nat.reduceBEq, renL_app, renL_ds, renL_und] at h1 h2; subst h1 h2)) | (apply at_op (.store _ _ _); refine al_step (st_store (i := 1001) (n := [.d (.int Q[j].1), .d (.int Q[j].2)]) rfl rfl (ev_d rfl) nofun rfl (by simp [V.one, Value.oneCell']) (.inr rfl) rfl (by simp; omega) hput) rfl ?_) | refine nx ?_ | (apply aq_block_y; decide) | (apply qr_move; refine r_move ?_) | (apply qr_assign; refine r_assign ?_) | (apply at_cond; first | refine c_t ?_ | refine c_f ?_ | (refine aw_cond rfl (fun hb => ?_) (fun hb => ?_) <;> ((try have hq := dX hb); (try (exfalso; omega))))) | (apply qr_lss; refine r_lss ?_) | (apply qr_eql; refine r_eql ?_) | (apply qr_add; refine r_add ?_) | (apply qr_not; refine r_not ?_) | (apply qr_len; refine r_len ?_) | (apply qr_slice; refine r_slice ?_) | (apply qr_ix; refine r_ix ?_) | (apply qr_load; refine r_load ?_) | (apply qr_alloc; refine r_alloc ?_) | (apply qr_store; refine r_store ?_))
        refine aq_rd (⟨i + 1, j + 1, _, rfl, hC.move hlt hf, rfl, rfl⟩) (by omega)
    · have hj : j = Q.length := by omega
      subst hj
      have hk : i = (kept f Q).length := by have := hC.cnt; rwa [List.take_length] at this
      have hh : B.take (2 * i) = flatD (kept f Q) := by have := hC.head; rwa [List.take_length] at this
      have hio : i * 2 + (Q.length - i) * 2 ≤ (B.map V.d ++ List.replicate m V.und).length := by simp; omega
      repeat' (first | (apply at_op (.slice _ _ none (some _) none); refine al_y (y_sub_slH (o := 0) (n := Q.length) (h1 := i) rfl rfl (high_some rfl rfl) (by omega) (by omega)) (lt_ok rfl) ?_) | (apply at_op (.slice _ _ (some _) none none); refine al_y (y_sub_slA (o := 0) (n := Q.length) (l1 := i) (es := 2) (r := i * 2) (q := Q.length - i) rfl rfl (low_some rfl rfl) (by omega) (by decide) (by omega) rfl) (lt_ok rfl) ?_) | (apply at_op (.call { callee := .builtin .clear, args := _, argTypes := _ }); refine al_step (st_clear rfl rfl rfl rfl rfl hio) rfl ?_) | refine nx ?_ | (apply aq_block_y; decide) | (apply qr_move; refine r_move ?_) | (apply qr_assign; refine r_assign ?_) | (apply at_cond; first | refine c_t ?_ | refine c_f ?_ | (refine aw_cond rfl (fun hb => ?_) (fun hb => ?_) <;> ((try have hq := dX hb); (try (exfalso; omega))))) | (apply qr_lss; refine r_lss ?_) | (apply qr_eql; refine r_eql ?_) | (apply qr_add; refine r_add ?_) | (apply qr_not; refine r_not ?_) | (apply qr_len; refine r_len ?_) | (apply qr_slice; refine r_slice ?_) | (apply qr_ix; refine r_ix ?_) | (apply qr_load; refine r_load ?_) | (apply qr_alloc; refine r_alloc ?_) | (apply qr_store; refine r_store ?_))
      have hbox : Go.Proofs.YtfgibalcdjlnhaaGreatDoor.put (B.map V.d ++ List.replicate m V.und) (i * 2) (List.replicate ((Q.length - i) * 2) .und) = (flatD (kept f Q)).map V.d ++ (List.replicate ((Q.length - i) * 2) .und ++ List.replicate m V.und) := by
        unfold Go.Proofs.YtfgibalcdjlnhaaGreatDoor.put
        rw [List.take_append_of_le_length (by simp; omega), ← List.map_take, Nat.mul_comm, hh, List.drop_append, List.drop_of_length_le (by simp; omega), List.append_assoc]
        congr 2
        rw [List.length_replicate, List.length_map]
        have e : 2 * i + 2 * (Q.length - i) - B.length = 0 := by omega
        have e2 : i * 2 + (Q.length - i) * 2 - B.length = 0 := by omega
        simp [Nat.mul_comm, e]
        omega
      rw [hbox]
      refine oret1 ([(1001, .box 76 ((flatD (kept f Q)).map V.d ++ (List.replicate ((Q.length - i) * 2) .und ++ List.replicate m V.und))), (1000, capB f)]) (by rfl) rv (⟨_, by simp [flatD_len]; omega, by rw [← hk]; rfl, rfl⟩) sb okx
end Go.Proofs.YtfgibalcdjlnhaaGreatDoor
end
