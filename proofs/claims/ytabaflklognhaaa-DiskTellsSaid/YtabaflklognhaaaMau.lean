/-
  Lists of acts: few, played, after, byteAt, same. Conditions: none.
  What a disk's file is after a crash, read by the laws; the documentation's examples. Conditions: none.
  The reference's disk: what it is; New, Down, Size, may, get, Read, fits, pending, Lose, Start. Conditions: none.
-/
import Derived.Test.YtabaflklognhaaaMat
section
set_option linter.unusedSimpArgs false
set_option linter.unusedVariables false
namespace Go.Proofs.Ytabaflklognhaaa
open Go.RowKit Go.ChangeMaps

structure Small (a : Act) : Prop where
  s : a.s.size ≤ 300
  keep : a.keep.length ≤ 60
  n : a.n ≤ 3000 ∨ 16776916 ≤ a.n
theorem take_all1 {α : Type} {P : α → Prop} {l : List α} {i : Nat} (hlt : i < l.length) (hs : ∀ e ∈ l.take i, P e) (h : P l[i]) : ∀ e ∈ l.take (i + 1), P e := fun e he => by
  rw [List.take_succ_eq_append_getElem hlt] at he
  rcases List.mem_append.1 he with he | he
  · exact hs e he
  · simp at he
    subst he
    exact h
set_option maxHeartbeats 8000000 in
set_option maxRecDepth 20000 in
theorem few_any (l : List Act) (hl : l.length ≤ 9223372036854775807) (hi : ∀ a ∈ l, a.s.size ≤ 9223372036854775807 ∧ a.keep.length ≤ 9223372036854775807) : PureC 9 [.list 5 (l.map Act.cells)] (fun d => ∃ b, d = .bool b ∧ (b = true → l.length ≤ 40 ∧ ∀ a ∈ l, Small a)) := by
  refine pure_enter Try.func9 rfl (by decide) _ Try.ntmps9 (le_ok rfl) (fun w Pr hE => ?_)
  dsimp only [slotsOf, Nat.zero_add, Nat.reduceAdd]
  repeat' (first | apply aw_seq | apply aw_region | apply al_nil | apply aq_np | apply aq_then | apply aq_then_x | apply aq_then_r | apply aq_block_x | (apply aq_block_y; decide) | apply aq_block_r | apply aq_block | apply aw_block | apply aw_skip | apply aw_exit | apply aw_ret | (apply at_op (.move _); refine r_move ?_) | (apply at_op (.assign _); refine r_assign ?_) | (apply at_cond; first | refine c_t ?_ | refine c_f ?_ | (refine aw_cond rfl (fun hb => ?_) (fun hb => ?_) <;> ((first | have hq := of_decide_eq_true hb | have hq := of_decide_eq_false hb | have hq := dNT hb | have hq := dNF hb | skip); (try (exfalso; omega))))) | (apply at_guard; first | refine g_go ?_ | refine g_nt ?_ | refine g_nf ?_ | refine g_nu ?_ | ((first | refine al_split_t rfl rfl (lt_ok rfl) (fun hb => ?_) (fun hb => ?_) | refine al_split_f rfl rfl (lt_ok rfl) (fun hb => ?_) (fun hb => ?_)) <;> ((first | have hq := of_decide_eq_true hb | have hq := of_decide_eq_false hb | have hq := dNT hb | have hq := dNF hb | skip); (try (exfalso; omega))))) | (apply at_op (.pick _ _ _); refine r_pick ?_) | (apply at_op (.binOp .lss _ _ _ _); refine r_lss ?_) | (apply at_op (.binOp .leq _ _ _ _); refine r_leq ?_) | (apply at_op (.binOp .gtr _ _ _ _); refine r_gtr ?_) | (apply at_op (.binOp .add _ _ _ _); refine r_add ?_) | (apply at_op (.call { callee := .builtin .len, args := _, argTypes := _ }); refine r_len ?_) | (apply at_op (.indexAddr _ _ _); refine r_ix ?_) | (apply at_op (.load _ _); refine r_load ?_) | (apply at_op (.fieldAddr _ _ _); refine r_faddr ?_))
  refine aw_loop2 (fun N sl ob => ∃ i : Nat, N = l.length - i ∧ i ≤ l.length ∧ (∀ e ∈ l.take i, Small e) ∧ sl = [(3, .d (.int i)), (2, .d (.bool false)), (0, .d (.list 5 (l.map Act.cells)))] ∧ ob = []) (_) _ _ (⟨0, rfl, Nat.zero_le _, by simp, rfl, rfl⟩) ?_ ?_ ?_
  · (repeat (first | exact sub_nil | (apply sub_cons; focus (first | rfl | exact vint (by first | omega) | (simp [look]; done)))))
  · (repeat (first | exact obs_nil | (apply obs_cons; focus (first | rfl | (simp [find]; done)))))
  rintro N sl ob ⟨i, rfl, hi1, hs, rfl, rfl⟩
  by_cases hlt : i < l.length
  · have hin := hi _ (List.getElem_mem hlt)
    have hstep := fun h => take_all1 (P := Small) hlt hs h
    generalize hw : l[i] = a at hin hstep
    have hget : (l.map Act.cells)[i]? = some [.int a.kind, .int a.f, .int a.n, .str a.s, keepD a.keep] := by rw [get_map hlt, hw]; rfl
    by_cases h1 : 300 < a.s.size
    · skip
      repeat' (first | (apply at_op (.indexAddr _ _ _); refine al_y (y_ix (by first | exact ToD.d _ | exact ToD.row _ _ _ _ _ rfl) rfl rfl (by first | with_reducible rfl | exact lit0 | exact lit1 | exact lit2 | exact lit3 | exact lit4 | exact int_s _ | exact int_p _ _ | exact int_nat _ (by omega)) hget) (lt_ok rfl) ?_) | apply aw_seq | apply aw_region | apply al_nil | apply aq_np | apply aq_then | apply aq_then_x | apply aq_then_r | apply aq_block_x | (apply aq_block_y; decide) | apply aq_block_r | apply aq_block | apply aw_block | apply aw_skip | apply aw_exit | apply aw_ret | (apply at_op (.move _); refine r_move ?_) | (apply at_op (.assign _); refine r_assign ?_) | (apply at_cond; first | refine c_t ?_ | refine c_f ?_ | (refine aw_cond rfl (fun hb => ?_) (fun hb => ?_) <;> ((first | have hq := of_decide_eq_true hb | have hq := of_decide_eq_false hb | have hq := dNT hb | have hq := dNF hb | skip); (try (exfalso; omega))))) | (apply at_guard; first | refine g_go ?_ | refine g_nt ?_ | refine g_nf ?_ | refine g_nu ?_ | ((first | refine al_split_t rfl rfl (lt_ok rfl) (fun hb => ?_) (fun hb => ?_) | refine al_split_f rfl rfl (lt_ok rfl) (fun hb => ?_) (fun hb => ?_)) <;> ((first | have hq := of_decide_eq_true hb | have hq := of_decide_eq_false hb | have hq := dNT hb | have hq := dNF hb | skip); (try (exfalso; omega))))) | (apply at_op (.pick _ _ _); refine r_pick ?_) | (apply at_op (.binOp .lss _ _ _ _); refine r_lss ?_) | (apply at_op (.binOp .leq _ _ _ _); refine r_leq ?_) | (apply at_op (.binOp .gtr _ _ _ _); refine r_gtr ?_) | (apply at_op (.binOp .add _ _ _ _); refine r_add ?_) | (apply at_op (.call { callee := .builtin .len, args := _, argTypes := _ }); refine r_len ?_) | (apply at_op (.indexAddr _ _ _); refine r_ix ?_) | (apply at_op (.load _ _); refine r_load ?_) | (apply at_op (.fieldAddr _ _ _); refine r_faddr ?_))
      refine ret_one (by rfl) (by first | exact ToD.d _ | exact ToD.row _ _ _ _ _ rfl) ?_
      exact ⟨_, rfl, fun h => by cases h⟩
    · by_cases h2 : 60 < a.keep.length
      · skip
        repeat' (first | (apply at_op (.indexAddr _ _ _); refine al_y (y_ix (by first | exact ToD.d _ | exact ToD.row _ _ _ _ _ rfl) rfl rfl (by first | with_reducible rfl | exact lit0 | exact lit1 | exact lit2 | exact lit3 | exact lit4 | exact int_s _ | exact int_p _ _ | exact int_nat _ (by omega)) hget) (lt_ok rfl) ?_) | apply aw_seq | apply aw_region | apply al_nil | apply aq_np | apply aq_then | apply aq_then_x | apply aq_then_r | apply aq_block_x | (apply aq_block_y; decide) | apply aq_block_r | apply aq_block | apply aw_block | apply aw_skip | apply aw_exit | apply aw_ret | (apply at_op (.move _); refine r_move ?_) | (apply at_op (.assign _); refine r_assign ?_) | (apply at_cond; first | refine c_t ?_ | refine c_f ?_ | (refine aw_cond rfl (fun hb => ?_) (fun hb => ?_) <;> ((first | have hq := of_decide_eq_true hb | have hq := of_decide_eq_false hb | have hq := dNT hb | have hq := dNF hb | skip); (try (exfalso; omega))))) | (apply at_guard; first | refine g_go ?_ | refine g_nt ?_ | refine g_nf ?_ | refine g_nu ?_ | ((first | refine al_split_t rfl rfl (lt_ok rfl) (fun hb => ?_) (fun hb => ?_) | refine al_split_f rfl rfl (lt_ok rfl) (fun hb => ?_) (fun hb => ?_)) <;> ((first | have hq := of_decide_eq_true hb | have hq := of_decide_eq_false hb | have hq := dNT hb | have hq := dNF hb | skip); (try (exfalso; omega))))) | (apply at_op (.pick _ _ _); refine r_pick ?_) | (apply at_op (.binOp .lss _ _ _ _); refine r_lss ?_) | (apply at_op (.binOp .leq _ _ _ _); refine r_leq ?_) | (apply at_op (.binOp .gtr _ _ _ _); refine r_gtr ?_) | (apply at_op (.binOp .add _ _ _ _); refine r_add ?_) | (apply at_op (.call { callee := .builtin .len, args := _, argTypes := _ }); refine r_len ?_) | (apply at_op (.indexAddr _ _ _); refine r_ix ?_) | (apply at_op (.load _ _); refine r_load ?_) | (apply at_op (.fieldAddr _ _ _); refine r_faddr ?_))
        refine ret_one (by rfl) (by first | exact ToD.d _ | exact ToD.row _ _ _ _ _ rfl) ?_
        exact ⟨_, rfl, fun h => by cases h⟩
      · by_cases h3 : 3000 < a.n
        · by_cases h4 : a.n < 16776916
          · skip
            repeat' (first | (apply at_op (.indexAddr _ _ _); refine al_y (y_ix (by first | exact ToD.d _ | exact ToD.row _ _ _ _ _ rfl) rfl rfl (by first | with_reducible rfl | exact lit0 | exact lit1 | exact lit2 | exact lit3 | exact lit4 | exact int_s _ | exact int_p _ _ | exact int_nat _ (by omega)) hget) (lt_ok rfl) ?_) | apply aw_seq | apply aw_region | apply al_nil | apply aq_np | apply aq_then | apply aq_then_x | apply aq_then_r | apply aq_block_x | (apply aq_block_y; decide) | apply aq_block_r | apply aq_block | apply aw_block | apply aw_skip | apply aw_exit | apply aw_ret | (apply at_op (.move _); refine r_move ?_) | (apply at_op (.assign _); refine r_assign ?_) | (apply at_cond; first | refine c_t ?_ | refine c_f ?_ | (refine aw_cond rfl (fun hb => ?_) (fun hb => ?_) <;> ((first | have hq := of_decide_eq_true hb | have hq := of_decide_eq_false hb | have hq := dNT hb | have hq := dNF hb | skip); (try (exfalso; omega))))) | (apply at_guard; first | refine g_go ?_ | refine g_nt ?_ | refine g_nf ?_ | refine g_nu ?_ | ((first | refine al_split_t rfl rfl (lt_ok rfl) (fun hb => ?_) (fun hb => ?_) | refine al_split_f rfl rfl (lt_ok rfl) (fun hb => ?_) (fun hb => ?_)) <;> ((first | have hq := of_decide_eq_true hb | have hq := of_decide_eq_false hb | have hq := dNT hb | have hq := dNF hb | skip); (try (exfalso; omega))))) | (apply at_op (.pick _ _ _); refine r_pick ?_) | (apply at_op (.binOp .lss _ _ _ _); refine r_lss ?_) | (apply at_op (.binOp .leq _ _ _ _); refine r_leq ?_) | (apply at_op (.binOp .gtr _ _ _ _); refine r_gtr ?_) | (apply at_op (.binOp .add _ _ _ _); refine r_add ?_) | (apply at_op (.call { callee := .builtin .len, args := _, argTypes := _ }); refine r_len ?_) | (apply at_op (.indexAddr _ _ _); refine r_ix ?_) | (apply at_op (.load _ _); refine r_load ?_) | (apply at_op (.fieldAddr _ _ _); refine r_faddr ?_))
            refine ret_one (by rfl) (by first | exact ToD.d _ | exact ToD.row _ _ _ _ _ rfl) ?_
            exact ⟨_, rfl, fun h => by cases h⟩
          · skip
            repeat' (first | (apply at_op (.indexAddr _ _ _); refine al_y (y_ix (by first | exact ToD.d _ | exact ToD.row _ _ _ _ _ rfl) rfl rfl (by first | with_reducible rfl | exact lit0 | exact lit1 | exact lit2 | exact lit3 | exact lit4 | exact int_s _ | exact int_p _ _ | exact int_nat _ (by omega)) hget) (lt_ok rfl) ?_) | apply aw_seq | apply aw_region | apply al_nil | apply aq_np | apply aq_then | apply aq_then_x | apply aq_then_r | apply aq_block_x | (apply aq_block_y; decide) | apply aq_block_r | apply aq_block | apply aw_block | apply aw_skip | apply aw_exit | apply aw_ret | (apply at_op (.move _); refine r_move ?_) | (apply at_op (.assign _); refine r_assign ?_) | (apply at_cond; first | refine c_t ?_ | refine c_f ?_ | (refine aw_cond rfl (fun hb => ?_) (fun hb => ?_) <;> ((first | have hq := of_decide_eq_true hb | have hq := of_decide_eq_false hb | have hq := dNT hb | have hq := dNF hb | skip); (try (exfalso; omega))))) | (apply at_guard; first | refine g_go ?_ | refine g_nt ?_ | refine g_nf ?_ | refine g_nu ?_ | ((first | refine al_split_t rfl rfl (lt_ok rfl) (fun hb => ?_) (fun hb => ?_) | refine al_split_f rfl rfl (lt_ok rfl) (fun hb => ?_) (fun hb => ?_)) <;> ((first | have hq := of_decide_eq_true hb | have hq := of_decide_eq_false hb | have hq := dNT hb | have hq := dNF hb | skip); (try (exfalso; omega))))) | (apply at_op (.pick _ _ _); refine r_pick ?_) | (apply at_op (.binOp .lss _ _ _ _); refine r_lss ?_) | (apply at_op (.binOp .leq _ _ _ _); refine r_leq ?_) | (apply at_op (.binOp .gtr _ _ _ _); refine r_gtr ?_) | (apply at_op (.binOp .add _ _ _ _); refine r_add ?_) | (apply at_op (.call { callee := .builtin .len, args := _, argTypes := _ }); refine r_len ?_) | (apply at_op (.indexAddr _ _ _); refine r_ix ?_) | (apply at_op (.load _ _); refine r_load ?_) | (apply at_op (.fieldAddr _ _ _); refine r_faddr ?_))
            refine aq_round _ _ _ (⟨i + 1, rfl, by omega, hstep ⟨by omega, by omega, by omega⟩, rfl, rfl⟩) (by omega) ?_ ?_
            · (repeat (first | exact sub_nil | (apply sub_cons; focus (first | rfl | exact vint (by first | omega) | (simp [look]; done)))))
            · (repeat (first | exact obs_nil | (apply obs_cons; focus (first | rfl | (simp [find]; done)))))
        · skip
          repeat' (first | (apply at_op (.indexAddr _ _ _); refine al_y (y_ix (by first | exact ToD.d _ | exact ToD.row _ _ _ _ _ rfl) rfl rfl (by first | with_reducible rfl | exact lit0 | exact lit1 | exact lit2 | exact lit3 | exact lit4 | exact int_s _ | exact int_p _ _ | exact int_nat _ (by omega)) hget) (lt_ok rfl) ?_) | apply aw_seq | apply aw_region | apply al_nil | apply aq_np | apply aq_then | apply aq_then_x | apply aq_then_r | apply aq_block_x | (apply aq_block_y; decide) | apply aq_block_r | apply aq_block | apply aw_block | apply aw_skip | apply aw_exit | apply aw_ret | (apply at_op (.move _); refine r_move ?_) | (apply at_op (.assign _); refine r_assign ?_) | (apply at_cond; first | refine c_t ?_ | refine c_f ?_ | (refine aw_cond rfl (fun hb => ?_) (fun hb => ?_) <;> ((first | have hq := of_decide_eq_true hb | have hq := of_decide_eq_false hb | have hq := dNT hb | have hq := dNF hb | skip); (try (exfalso; omega))))) | (apply at_guard; first | refine g_go ?_ | refine g_nt ?_ | refine g_nf ?_ | refine g_nu ?_ | ((first | refine al_split_t rfl rfl (lt_ok rfl) (fun hb => ?_) (fun hb => ?_) | refine al_split_f rfl rfl (lt_ok rfl) (fun hb => ?_) (fun hb => ?_)) <;> ((first | have hq := of_decide_eq_true hb | have hq := of_decide_eq_false hb | have hq := dNT hb | have hq := dNF hb | skip); (try (exfalso; omega))))) | (apply at_op (.pick _ _ _); refine r_pick ?_) | (apply at_op (.binOp .lss _ _ _ _); refine r_lss ?_) | (apply at_op (.binOp .leq _ _ _ _); refine r_leq ?_) | (apply at_op (.binOp .gtr _ _ _ _); refine r_gtr ?_) | (apply at_op (.binOp .add _ _ _ _); refine r_add ?_) | (apply at_op (.call { callee := .builtin .len, args := _, argTypes := _ }); refine r_len ?_) | (apply at_op (.indexAddr _ _ _); refine r_ix ?_) | (apply at_op (.load _ _); refine r_load ?_) | (apply at_op (.fieldAddr _ _ _); refine r_faddr ?_))
          refine aq_round _ _ _ (⟨i + 1, rfl, by omega, hstep ⟨by omega, by omega, by omega⟩, rfl, rfl⟩) (by omega) ?_ ?_
          · (repeat (first | exact sub_nil | (apply sub_cons; focus (first | rfl | exact vint (by first | omega) | (simp [look]; done)))))
          · (repeat (first | exact obs_nil | (apply obs_cons; focus (first | rfl | (simp [find]; done)))))
  · skip
    repeat' (first | apply aw_seq | apply aw_region | apply al_nil | apply aq_np | apply aq_then | apply aq_then_x | apply aq_then_r | apply aq_block_x | (apply aq_block_y; decide) | apply aq_block_r | apply aq_block | apply aw_block | apply aw_skip | apply aw_exit | apply aw_ret | (apply at_op (.move _); refine r_move ?_) | (apply at_op (.assign _); refine r_assign ?_) | (apply at_cond; first | refine c_t ?_ | refine c_f ?_ | (refine aw_cond rfl (fun hb => ?_) (fun hb => ?_) <;> ((first | have hq := of_decide_eq_true hb | have hq := of_decide_eq_false hb | have hq := dNT hb | have hq := dNF hb | skip); (try (exfalso; omega))))) | (apply at_guard; first | refine g_go ?_ | refine g_nt ?_ | refine g_nf ?_ | refine g_nu ?_ | ((first | refine al_split_t rfl rfl (lt_ok rfl) (fun hb => ?_) (fun hb => ?_) | refine al_split_f rfl rfl (lt_ok rfl) (fun hb => ?_) (fun hb => ?_)) <;> ((first | have hq := of_decide_eq_true hb | have hq := of_decide_eq_false hb | have hq := dNT hb | have hq := dNF hb | skip); (try (exfalso; omega))))) | (apply at_op (.pick _ _ _); refine r_pick ?_) | (apply at_op (.binOp .lss _ _ _ _); refine r_lss ?_) | (apply at_op (.binOp .leq _ _ _ _); refine r_leq ?_) | (apply at_op (.binOp .gtr _ _ _ _); refine r_gtr ?_) | (apply at_op (.binOp .add _ _ _ _); refine r_add ?_) | (apply at_op (.call { callee := .builtin .len, args := _, argTypes := _ }); refine r_len ?_) | (apply at_op (.indexAddr _ _ _); refine r_ix ?_) | (apply at_op (.load _ _); refine r_load ?_) | (apply at_op (.fieldAddr _ _ _); refine r_faddr ?_))
    refine ret_one (by rfl) (by first | exact ToD.d _ | exact ToD.row _ _ _ _ _ rfl) ?_
    exact ⟨_, rfl, fun h => ⟨by simp at h; omega, fun e he => hs e (by rw [List.take_of_length_le (by omega)]; exact he)⟩⟩
/-- bytes, 0 behind the end -/
def byteAtN (s : ByteArray) (i : Nat) : Nat := ((s.data.toList[i]?).getD 0).toNat
/-- a disk after some acts -/
def runs (st : DS) (l : List Act) : DS := l.foldl (fun st a => (doR st a).2) st
theorem runs_snoc (st : DS) {l : List Act} {i : Nat} (h : i < l.length) : runs st (l.take (i + 1)) = (doR (runs st (l.take i)) l[i]).2 := by
  rw [List.take_succ_eq_append_getElem h]
  unfold runs
  rw [List.foldl_append]
  rfl
theorem ptrD : Try.prog.underlying 25 = some (.pointer 56) := Try.underlying25
set_option maxHeartbeats 8000000 in
set_option maxRecDepth 20000 in
theorem played_any (l : List Act) (hl : l.length ≤ 9223372036854775807) (hok : ∀ a ∈ l, a.Ok) : ObC 22 [.d (.list 5 (l.map Act.cells))] [] [5, 6, 7, 8] (fun x o => ∃ k cm cs lm ls, x = .box 5 0 ∧ DkOk lm ls (runs DS.new l) ∧ o = dsk 5 6 7 8 k cm cs lm ls (runs DS.new l)) := by
  refine ob_enter Try.func22 rfl (by decide) _ Try.ntmps22 (le_ok rfl) rfl (fun w Pr β κ hE => ?_)
  dsimp only [slotsV, Nat.zero_add, Nat.reduceAdd]
  repeat' (first | (apply at_call; refine k_ocall [(4, 5), (1, 6), (3, 7), (2, 8)] (new_any) hE ?_; rintro _ _ ⟨rfl, rfl⟩ <;> (intro _ _ h1 h2; simp only [renEqs, Nat.reduceBEq, renL_app, renL_ds, renL_und] at h1 h2; subst h1 h2)) | apply aw_seq | apply aw_region | apply al_nil | apply aq_np | apply aq_then | apply aq_then_x | apply aq_then_r | apply aq_block_x | (apply aq_block_y; decide) | apply aq_block_r | apply aq_block | apply aw_block | apply aw_skip | apply aw_exit | apply aw_ret | (apply at_op (.move _); refine r_move ?_) | (apply at_op (.assign _); refine r_assign ?_) | (apply at_cond; first | refine c_t ?_ | refine c_f ?_ | (refine aw_cond rfl (fun hb => ?_) (fun hb => ?_) <;> ((first | have hq := of_decide_eq_true hb | have hq := of_decide_eq_false hb | have hq := dNT hb | have hq := dNF hb | skip); (try (exfalso; omega))))) | (apply at_guard; first | refine g_go ?_ | refine g_nt ?_ | refine g_nf ?_ | refine g_nu ?_ | ((first | refine al_split_t rfl rfl (lt_ok rfl) (fun hb => ?_) (fun hb => ?_) | refine al_split_f rfl rfl (lt_ok rfl) (fun hb => ?_) (fun hb => ?_)) <;> ((first | have hq := of_decide_eq_true hb | have hq := of_decide_eq_false hb | have hq := dNT hb | have hq := dNF hb | skip); (try (exfalso; omega))))) | (apply at_op (.pick _ _ _); refine r_pick ?_) | (apply at_op (.binOp .lss _ _ _ _); refine r_lss ?_) | (apply at_op (.binOp .neq _ _ _ _); refine r_neq ?_) | (apply at_op (.binOp .add _ _ _ _); refine r_add ?_) | (apply at_op (.call { callee := .builtin .len, args := _, argTypes := _ }); refine r_len ?_) | (apply at_op (.indexAddr _ _ _); refine r_ix ?_) | (apply at_op (.load _ _); refine r_load ?_))
  refine aw_loop2 (fun N sl ob => ∃ (i k cm cs : Nat) (lm ls : List ME), N = l.length - i ∧ i ≤ l.length ∧ DkOk lm ls (runs DS.new (l.take i)) ∧ sl = [(4, .d (.int i)), (3, .box 5 0), (0, .d (.list 5 (l.map Act.cells)))] ∧ ob = dsk 5 6 7 8 k cm cs lm ls (runs DS.new (l.take i))) (_) _ _ (⟨0, 0, 0, 0, [], [], rfl, Nat.zero_le _, DS.new_ok, rfl, rfl⟩) ?_ ?_ ?_
  · (repeat (first | exact sub_nil | (apply sub_cons; focus (first | rfl | exact vint (by first | omega) | (simp [look]; done)))))
  · (repeat (first | exact obs_nil | (apply obs_cons; focus (first | rfl | (simp [find]; done)))))
  rintro N sl ob ⟨i, k, cm, cs, lm, ls, rfl, hi, hD, rfl, rfl⟩
  by_cases hlt : i < l.length
  · have ha := hok _ (List.getElem_mem hlt)
    have hrs := runs_snoc DS.new hlt
    generalize hw : l[i] = a at ha hrs
    have hget : (l.map Act.cells)[i]? = some a.cells := by rw [get_map hlt, hw]
    repeat' (first | (apply at_op (.binOp .neq _ _ _ _); refine al_y (y_boxnot rfl ptrD) (lt_ok rfl) ?_) | (apply at_op (.indexAddr _ _ _); refine al_y (y_ix (by first | exact ToD.d _ | exact ToD.row _ _ _ _ _ rfl) rfl rfl (by first | with_reducible rfl | exact lit0 | exact lit1 | exact lit2 | exact lit3 | exact lit4 | exact int_s _ | exact int_p _ _ | exact int_nat _ (by omega)) hget) (lt_ok rfl) ?_) | (apply at_call; refine k_ocall [(1000, 5), (1001, 6), (1002, 7), (1003, 8), (54, 21)] (do_any hD ha) hE ?_; rintro _ _ ⟨rfl, s3, k3, cm3, cs3, lm3, ls3, hs3, hD3, rfl⟩ _ _ rfl rfl; refine disk_merge (b := 5) (m := 6) (r := 7) (s := 8) (Y := 21) (X := 54) hs3 (by decide) rfl rfl rfl rfl rfl ?_; simp only [renEqs, Nat.reduceBEq]) | apply aw_seq | apply aw_region | apply al_nil | apply aq_np | apply aq_then | apply aq_then_x | apply aq_then_r | apply aq_block_x | (apply aq_block_y; decide) | apply aq_block_r | apply aq_block | apply aw_block | apply aw_skip | apply aw_exit | apply aw_ret | (apply at_op (.move _); refine r_move ?_) | (apply at_op (.assign _); refine r_assign ?_) | (apply at_cond; first | refine c_t ?_ | refine c_f ?_ | (refine aw_cond rfl (fun hb => ?_) (fun hb => ?_) <;> ((first | have hq := of_decide_eq_true hb | have hq := of_decide_eq_false hb | have hq := dNT hb | have hq := dNF hb | skip); (try (exfalso; omega))))) | (apply at_guard; first | refine g_go ?_ | refine g_nt ?_ | refine g_nf ?_ | refine g_nu ?_ | ((first | refine al_split_t rfl rfl (lt_ok rfl) (fun hb => ?_) (fun hb => ?_) | refine al_split_f rfl rfl (lt_ok rfl) (fun hb => ?_) (fun hb => ?_)) <;> ((first | have hq := of_decide_eq_true hb | have hq := of_decide_eq_false hb | have hq := dNT hb | have hq := dNF hb | skip); (try (exfalso; omega))))) | (apply at_op (.pick _ _ _); refine r_pick ?_) | (apply at_op (.binOp .lss _ _ _ _); refine r_lss ?_) | (apply at_op (.binOp .neq _ _ _ _); refine r_neq ?_) | (apply at_op (.binOp .add _ _ _ _); refine r_add ?_) | (apply at_op (.call { callee := .builtin .len, args := _, argTypes := _ }); refine r_len ?_) | (apply at_op (.indexAddr _ _ _); refine r_ix ?_) | (apply at_op (.load _ _); refine r_load ?_))
    rw [← hrs] at hD3 ⊢
    refine aq_round _ _ _ (⟨i + 1, k3, cm3, cs3, lm3, ls3, rfl, by omega, hD3, rfl, rfl⟩) (by omega) ?_ ?_
    · (repeat (first | exact sub_nil | (apply sub_cons; focus (first | rfl | exact vint (by first | omega) | (simp [look]; done)))))
    · (repeat (first | exact obs_nil | (apply obs_cons; focus (first | rfl | (simp [find]; done)))))
  · rw [List.take_of_length_le (by omega)] at hD ⊢
    repeat' (first | (apply at_op (.binOp .neq _ _ _ _); refine al_y (y_boxnot rfl ptrD) (lt_ok rfl) ?_) | apply aw_seq | apply aw_region | apply al_nil | apply aq_np | apply aq_then | apply aq_then_x | apply aq_then_r | apply aq_block_x | (apply aq_block_y; decide) | apply aq_block_r | apply aq_block | apply aw_block | apply aw_skip | apply aw_exit | apply aw_ret | (apply at_op (.move _); refine r_move ?_) | (apply at_op (.assign _); refine r_assign ?_) | (apply at_cond; first | refine c_t ?_ | refine c_f ?_ | (refine aw_cond rfl (fun hb => ?_) (fun hb => ?_) <;> ((first | have hq := of_decide_eq_true hb | have hq := of_decide_eq_false hb | have hq := dNT hb | have hq := dNF hb | skip); (try (exfalso; omega))))) | (apply at_guard; first | refine g_go ?_ | refine g_nt ?_ | refine g_nf ?_ | refine g_nu ?_ | ((first | refine al_split_t rfl rfl (lt_ok rfl) (fun hb => ?_) (fun hb => ?_) | refine al_split_f rfl rfl (lt_ok rfl) (fun hb => ?_) (fun hb => ?_)) <;> ((first | have hq := of_decide_eq_true hb | have hq := of_decide_eq_false hb | have hq := dNT hb | have hq := dNF hb | skip); (try (exfalso; omega))))) | (apply at_op (.pick _ _ _); refine r_pick ?_) | (apply at_op (.binOp .lss _ _ _ _); refine r_lss ?_) | (apply at_op (.binOp .neq _ _ _ _); refine r_neq ?_) | (apply at_op (.binOp .add _ _ _ _); refine r_add ?_) | (apply at_op (.call { callee := .builtin .len, args := _, argTypes := _ }); refine r_len ?_) | (apply at_op (.indexAddr _ _ _); refine r_ix ?_) | (apply at_op (.load _ _); refine r_load ?_))
    refine oret1 (dsk 5 6 7 8 k cm cs lm ls (runs DS.new l)) (by rfl) (by first | exact ResV.x _ _ (ResX.tmp _ _ (by first | exact ToD.d _ | exact ToD.row _ _ _ _ _ rfl | exact ToD.nil _)) | exact ResV.tmp _ _ rfl | exact ResV.x _ _ (ResX.cellA _ _ _ _ _ _ _ rfl rfl rfl (by first | (simp only [normV, normList, normMap]; rfl) | rfl) rfl)) (⟨k, cm, cs, lm, ls, rfl, hD, rfl⟩) (by (repeat (first | exact obs_nil | (apply obs_cons; focus (first | rfl | (simp [find]; done)))))) (by first | (simp [okOut, V.within, V.withinL, O.within, keys, mem, look, nbeq_def, withinL_app, withinL_ds, withinL_und]; done) | rfl)
end Go.Proofs.Ytabaflklognhaaa
end
section
set_option linter.unusedSimpArgs false
set_option linter.unusedVariables false
namespace Go.Proofs.Ytabaflklognhaaa
open Go.RowKit Go.ChangeMaps

/-- what a read returns -/
def readP (st : DS) (f at_ size : Int) : ByteArray × Int := if mayE st f ≠ 0 then (⟨#[]⟩, mayE st f) else if at_ < 0 ∨ size < 0 then (⟨#[]⟩, 1) else (cutB (st.F f).now at_ size, 0)
section
variable {k cm cs : Nat} {lm ls : List ME} {st : DS}
theorem readp_any (h : DkOk lm ls st) {f at_ size : Int} (hf : i64 f) : ObC 20 [.box 1000 0, .d (.int f), .d (.int at_), .d (.int size)] (dsk 1000 1001 1002 1003 k cm cs lm ls st) [] (fun x o => x = .tup [.d (.str (readP st f at_ size).1), .d (.int (readP st f at_ size).2)] ∧ o = dsk 1000 1001 1002 1003 k cm cs lm ls st) := by
  refine (read_any h hf).mono fun x o ⟨h1, h2⟩ => ⟨?_, h2⟩
  rw [h1]
  unfold readV readP
  split
  · rfl
  · split <;> rfl
def upS (st : DS) : DS := { st with down := false }
theorem DkOk.up (h : DkOk lm ls st) : DkOk lm ls (upS st) := ⟨h.f, h.s, ⟨h.ok.now, h.ok.last, h.ok.out, h.ok.nodup, h.ok.file, h.ok.num, h.ok.lost0, h.ok.armed0, h.ok.keepl⟩⟩
def afterP (st : DS) (f : Int) (keep : List Int) : ByteArray × Int := readP (upS (crashS st keep)) f 0 16777216
set_option maxHeartbeats 8000000 in
set_option maxRecDepth 20000 in
theorem after_any (h : DkOk lm ls st) {f : Int} (hf : i64 f) {keep : List Int} (hkl : keep.length ≤ 1000000) : ObC 23 [.box 1000 0, .d (.int f), .d (keepD keep)] (dsk 1000 1001 1002 1003 k cm cs lm ls st) [] (fun x o => x = .tup [.d (.str (afterP st f keep).1), .d (.bool (decide ((afterP st f keep).2 = 0)))] ∧ o = dsk 1000 1001 1002 1003 k cm cs lm ls st) := by
  refine ob_enter Try.func23 rfl (by decide) _ Try.ntmps23 (le_ok rfl) rfl (fun w Pr β κ hE => ?_)
  dsimp only [slotsV, Nat.zero_add, Nat.reduceAdd]
  repeat' (first | (apply at_call; refine k_ocall [(1000, 1000), (1001, 1001), (1002, 1002), (1003, 1003), (3, 8), (11, 9), (16, 10), (21, 11)] (copy_any h) hE ?_; rintro _ _ ⟨k2, rfl, rfl⟩ <;> (intro _ _ h1 h2; simp only [renEqs, Nat.reduceBEq, renL_app, renL_ds, renL_und] at h1 h2; subst h1 h2)) | (apply at_op (.binOp .eql _ _ _ _); refine al_y (y_boxnil rfl ptrD) (lt_ok rfl) ?_) | (apply at_call; refine k_ocall [(1000, 8), (1001, 9), (1002, 10), (1003, 11), (106, 17)] (crash_any h hkl) hE ?_; rintro _ _ ⟨rfl, s3, k3, cm3, cs3, lm3, ls3, hs3, hD3, rfl⟩ _ _ rfl rfl; refine disk_merge (b := 8) (m := 9) (r := 10) (s := 11) (Y := 17) (X := 106) hs3 (by decide) rfl rfl rfl rfl rfl ?_; simp only [renEqs, Nat.reduceBEq]) | (apply at_call; refine k_ocall [(1000, 8), (1001, 9), (1002, 10), (1003, 11)] (start_any) hE ?_; rintro _ _ ⟨rfl, rfl⟩ <;> (intro _ _ h1 h2; simp only [renEqs, Nat.reduceBEq, renL_app, renL_ds, renL_und] at h1 h2; subst h1 h2)) | (apply at_call; refine k_ocall [(1000, 8), (1001, 9), (1002, 10), (1003, 11)] (readp_any hD3.up hf) hE ?_; rintro _ _ ⟨rfl, rfl⟩ <;> (intro _ _ h1 h2; simp only [renEqs, Nat.reduceBEq, renL_app, renL_ds, renL_und] at h1 h2; subst h1 h2)) | apply aw_seq | apply aw_region | apply al_nil | apply aq_np | apply aq_then | apply aq_then_x | apply aq_then_r | apply aw_skip | apply aw_exit | apply aw_ret | (apply at_op (.move _); refine r_move ?_) | (apply at_op (.assign _); refine r_assign ?_) | (apply at_cond; first | refine c_t ?_ | refine c_f ?_ | (refine aw_cond rfl (fun hb => ?_) (fun hb => ?_) <;> ((first | have hq := of_decide_eq_true hb | have hq := of_decide_eq_false hb | have hq := dNT hb | have hq := dNF hb | skip); (try (exfalso; omega))))) | (apply at_op (.binOp .eql _ _ _ _); refine r_eql ?_) | (apply at_op (.extract _ _); refine r_extract ?_))
  refine oret2 (dsk 1000 1001 1002 1003 k cm cs lm ls st) (by rfl) (by first | exact ResV.x _ _ (ResX.tmp _ _ (by first | exact ToD.d _ | exact ToD.row _ _ _ _ _ rfl | exact ToD.nil _)) | exact ResV.tmp _ _ rfl | exact ResV.x _ _ (ResX.cellA _ _ _ _ _ _ _ rfl rfl rfl (by first | (simp only [normV, normList, normMap]; rfl) | rfl) rfl)) (by first | exact ResV.x _ _ (ResX.tmp _ _ (by first | exact ToD.d _ | exact ToD.row _ _ _ _ _ rfl | exact ToD.nil _)) | exact ResV.tmp _ _ rfl | exact ResV.x _ _ (ResX.cellA _ _ _ _ _ _ _ rfl rfl rfl (by first | (simp only [normV, normList, normMap]; rfl) | rfl) rfl)) (⟨rfl, rfl⟩) (by (repeat (first | exact obs_nil | (apply obs_cons; focus (first | rfl | (simp [find]; done)))))) (by first | (simp [okOut, V.within, V.withinL, O.within, keys, mem, look, nbeq_def, withinL_app, withinL_ds, withinL_und]; done) | rfl)
end
end Go.Proofs.Ytabaflklognhaaa
end
section
set_option linter.unusedSimpArgs false
set_option linter.unusedVariables false
namespace Go.Proofs.Ytabaflklognhaaa
open Go.RowKit Go.ChangeMaps

/-- a slot that holds a row may be read as a list -/
theorem al_list {E : Entry} {sl : Slots} {ob : Objs} {ops : Array Oper} {rest : List Oper} {Q : Exit → Go.Act → World → Prop} (j : Nat) {d : D} (hd : ToD ob (look sl j) d) (h : AL E ops rest Q ((j, .d d) :: sl) ob) : AL E ops rest Q sl ob := ⟨fun a w ⟨Pr, β, κ, hg⟩ => h.run a w ⟨Pr, β, κ, ⟨hg.below, hg.st0, hg.pr0, hg.prn, hg.prl, hg.size, hg.defers, fun q => by
  by_cases hq : q = j
  · subst hq
    rw [look_eq]
    exact .d _ _ (toD_rep hg hd _ (hg.slots q))
  · rw [look_ne hq]
    exact hg.slots q, hg.objs, hg.apart, hg.own, hg.keeps, hg.fresh⟩⟩⟩
/-- A box's cell holds a row that bears another name: it bears the old one, in its next version. -/
theorem Good.rebind {E : Entry} {sl : Slots} {ob : Objs} {a : Go.Act} {w : World} {Pr : Prot} {β : Nat → Value} {κ : Nat → Nat} (h : Good E sl ob a w Pr β κ) {i j r X e s e' s' k kx : Nat} {T : TypeId} {l : List V} {L L' : List (List D)} (hf : find ob i = some (.box T l)) (hj : l[j]? = some (.row X kx)) (hX : find ob X = some (.row e s kx L')) (hr : find ob r = some (.row e' s' k L)) (hne : X ≠ r) :
    Inv E sl ((i, .box T (l.set j (.row r (k + 1)))) :: (r, .row e s (k + 1) L') :: dropK [X] ob) a w := by
  obtain ⟨hκX, xs, hown, hls, hd, hpr⟩ := h.objs X _ hX
  obtain ⟨hκ, _, hownr, _⟩ := h.objs r _ hr
  have hir : i ≠ r := by rintro rfl; rw [hf] at hr; cases hr
  have hiX : i ≠ X := by rintro rfl; rw [hf] at hX; cases hX
  have h0 : Good E sl (dropK [X] ob) a w Pr β κ := ⟨h.below, h.st0, h.pr0, h.prn, h.prl, h.size, h.defers, h.slots, fun m o hm => h.objs m o (find_dropK hm).2, fun m n om on g h1 h2 => h.apart m n om on g (find_dropK h1).2 (find_dropK h2).2, fun m o g hm => h.own m o g (find_dropK hm).2, h.keeps, h.fresh⟩
  have hG := h0.verup (r := r) (k := k) (v' := β X) (o' := .row e s (k + 1) L') hκ (own_slice hownr) (fun g hg => h.own X _ g hX hg) (fun n on g hn hnr hg hgX => by
    obtain ⟨n1, n2⟩ := find_dropK hn
    have := h.apart n X _ _ g n2 hX hg hgX
    exact n1 (by simp [this])) ⟨updN_same _ _ _, xs, by rw [updV_same]; exact hown, hls, hd, fun g hg => by rw [updV_same] at hg; exact hpr g hg⟩
  have hf' : find ((r, O.row e s (k + 1) L') :: dropK [X] ob) i = some (.box T l) := by rw [find_ne hir]; exact find_drop1 hiX hf
  refine ⟨_, _, _, hG.swap hf' ?_⟩
  obtain ⟨g, cs, q1, q2, q3, q4, q5, q6⟩ := hG.objs i _ hf'
  refine ⟨g, cs, q1, q2, q3, by simp [q4], fun n v x hn hx => ?_, q6⟩
  by_cases hnj : j = n
  · subst hnj
    have hlt := (List.getElem?_eq_some_iff.1 hj).1
    rw [List.getElem?_set_self hlt] at hx
    cases hx
    have hv := (q5 j v _ hn hj).row_inv (by rw [updN_other κ r (k + 1) X hne]; exact hκX.symm)
    rw [updV_other β r (β X) X hne] at hv
    exact .row r (k + 1) _ (by rw [hv]; exact own_slice hown) (by rw [updN_same]; exact Nat.le_refl _) (fun _ => by rw [hv, updV_same])
  · rw [List.getElem?_set_ne hnj] at hx
    exact q5 n v x hn hx
theorem aq_rebind {E : Entry} {sl : Slots} {ob : Objs} {x : Exit} {Q : Exit → Go.Act → World → Prop} (i j r X : Nat) {e s e' s' k kx : Nat} {T : TypeId} {l l' : List V} {L L' : List (List D)} (hf : find ob i = some (.box T l)) (hj : l[j]? = some (.row X kx)) (hX : find ob X = some (.row e s kx L')) (hr : find ob r = some (.row e' s' k L)) (hne : X ≠ r) (hl : l.set j (.row r (k + 1)) = l')
    (h : AQ E x Q sl ((i, .box T l') :: (r, .row e s (k + 1) L') :: dropK [X] ob)) : AQ E x Q sl ob := by
  subst hl
  exact ⟨fun a w ⟨_, _, _, hg⟩ => h.run a w (hg.rebind hf hj hX hr hne)⟩
theorem aq_protect {E : Entry} {sl : Slots} {ob : Objs} {x : Exit} {Q : Exit → Go.Act → World → Prop} (r : Nat) {e s k : Nat} {l : List (List D)} (hf : find ob r = some (.vec e s k l)) (h : AQ E x Q sl ((r, .row e s k l) :: ob)) : AQ E x Q sl ob := ⟨fun a w ⟨_, _, _, hg⟩ => h.run a w (hg.protect hf)⟩
/-- A file of the reference. -/
abbrev RFile := Int × Fl
def rfC (x : RFile) : List D := [.int x.1, .str x.2.now, .str x.2.last]
def rget : List RFile → Int → Fl
  | [], _ => nofile
  | x :: l, f => if x.1 = f then x.2 else rget l f
abbrev rskBox (r k : Nat) (fs : List RFile) (st : DS) : O := .box 60 [.d (.list 3 (fs.map rfC)), .row r k, .d (.int st.lost), .d (.bool st.down), .d (.int st.armed), .d (keepD st.keep)]
abbrev rsecRow (k : Nat) (Q : List Sec) : O := .row 78 2 k (Q.map secC)
abbrev rsk (b r k : Nat) (fs : List RFile) (st : DS) : Objs := [(b, rskBox r k fs st), (r, rsecRow k st.Q)]
structure RkOk (fs : List RFile) (st : DS) : Prop where
  get : ∀ f, rget fs f = st.F f
  nodup : (fs.map Prod.fst).Nodup
  num : ∀ x ∈ fs, 0 ≤ x.1 ∧ x.1 < 16
  ok : st.Ok
theorem files_len {fs : List RFile} (h1 : (fs.map Prod.fst).Nodup) (h2 : ∀ x ∈ fs, 0 ≤ x.1 ∧ x.1 < 16) : fs.length ≤ 16 := by
  have h3 : (fs.map fun x => x.1.toNat).Nodup := by
    refine (List.pairwise_map).2 ?_
    refine List.Pairwise.imp_of_mem ?_ (List.pairwise_map.1 h1)
    intro a b ha hb hne e
    have := h2 a ha
    have := h2 b hb
    exact hne (by omega)
  have := nodup_nats 16 _ h3 (fun x hx => by
    obtain ⟨p, hp, rfl⟩ := List.mem_map.1 hx
    have := h2 p hp
    omega)
  simpa using this
theorem RkOk.len {fs : List RFile} {st : DS} (h : RkOk fs st) : fs.length ≤ 16 := files_len h.nodup h.num
theorem DS.new_rk : RkOk [] DS.new := ⟨fun _ => rfl, by simp, by simp, DS.new_ok.ok⟩
set_option maxHeartbeats 4000000 in
set_option maxRecDepth 20000 in
theorem rnew_any : ObC 11 [] [] [2, 1] (fun x o => x = .box 2 0 ∧ o = rsk 2 1 0 [] DS.new) := by
  refine ob_enter Try.func11 rfl (by decide) _ Try.ntmps11 (le_ok rfl) rfl (fun w Pr β κ hE => ?_)
  dsimp only [slotsV, Nat.zero_add, Nat.reduceAdd]
  repeat' (first | (apply at_op (.build _ _); refine al_y (y_buildS rfl (by repeat (first | exact PartsS.nil | (apply PartsS.cons; rfl; constructor; rfl))) rfl rfl) (lt_ok rfl) ?_) | (apply at_op (.box _ _); refine al_step (st_box (ev_agg rfl) nofun (by first | (simp only [normV, normList, normMap]; rfl) | rfl) (lt_ok rfl) rfl rfl) rfl ?_) | apply aw_seq | apply aw_region | apply al_nil | apply aq_np | apply aq_then | apply aq_then_x | apply aq_then_r | apply aw_skip | apply aw_exit | apply aw_ret | (apply at_op (.assign _); refine r_assign ?_) | (apply at_op (.box _ _); refine r_boxed ?_) | (apply at_op (.build _ _); refine r_build ?_))
  refine aq_adoptb 2 1 1 78 2 rfl rfl rfl (lt_ok rfl) rfl rfl ?_
  refine aq_nilcell 2 0 3 rfl rfl rfl ?_
  refine aq_nilcell 2 5 1 rfl rfl rfl ?_
  refine oret1 (rsk 2 1 0 [] DS.new) (by rfl) (by first | exact ResV.x _ _ (ResX.tmp _ _ (by first | exact ToD.d _ | exact ToD.row _ _ _ _ _ rfl | exact ToD.nil _)) | exact ResV.tmp _ _ rfl | exact ResV.x _ _ (ResX.cellA _ _ _ _ _ _ _ rfl rfl rfl (by first | (simp only [normV, normList, normMap]; rfl) | rfl) rfl)) (⟨rfl, rfl⟩) (by (repeat (first | exact obs_nil | (apply obs_cons; focus (first | rfl | (simp [find]; done)))))) (by first | (simp [okOut, V.within, V.withinL, O.within, keys, mem, look, nbeq_def, withinL_app, withinL_ds, withinL_und]; done) | rfl)
section
variable {k : Nat} {fs : List RFile} {st : DS}
set_option maxHeartbeats 4000000 in
set_option maxRecDepth 20000 in
theorem rdown_any : ObC 15 [.box 1000 0] (rsk 1000 1001 k fs st) [] (fun x o => x = .d (.bool st.down) ∧ o = rsk 1000 1001 k fs st) := by
  refine ob_enter Try.func15 rfl (by decide) _ Try.ntmps15 (le_ok rfl) rfl (fun w Pr β κ hE => ?_)
  dsimp only [slotsV, Nat.zero_add, Nat.reduceAdd]
  repeat' (first | apply aw_seq | apply aw_region | apply al_nil | apply aq_np | apply aq_then | apply aq_then_x | apply aq_then_r | apply aw_skip | apply aw_exit | apply aw_ret | (apply at_op (.move _); refine r_move ?_) | (apply at_op (.assign _); refine r_assign ?_) | (apply at_op (.load _ _); refine r_load ?_) | (apply at_op (.fieldAddr _ _ _); refine r_faddr ?_) | (apply at_op (.nilCheck _); refine r_nilck ?_))
  refine oret1 (rsk 1000 1001 k fs st) (by rfl) (by first | exact ResV.x _ _ (ResX.tmp _ _ (by first | exact ToD.d _ | exact ToD.row _ _ _ _ _ rfl | exact ToD.nil _)) | exact ResV.tmp _ _ rfl | exact ResV.x _ _ (ResX.cellA _ _ _ _ _ _ _ rfl rfl rfl (by first | (simp only [normV, normList, normMap]; rfl) | rfl) rfl)) (⟨rfl, rfl⟩) (by (repeat (first | exact obs_nil | (apply obs_cons; focus (first | rfl | (simp [find]; done)))))) (by first | (simp [okOut, V.within, V.withinL, O.within, keys, mem, look, nbeq_def, withinL_app, withinL_ds, withinL_und]; done) | rfl)
set_option maxHeartbeats 4000000 in
set_option maxRecDepth 20000 in
theorem rstart_any : ObC 37 [.box 1000 0] (rsk 1000 1001 k fs st) [] (fun x o => x = .tup [] ∧ o = rsk 1000 1001 k fs { st with down := false }) := by
  refine ob_enter Try.func37 rfl (by decide) _ Try.ntmps37 (le_ok rfl) rfl (fun w Pr β κ hE => ?_)
  dsimp only [slotsV, Nat.zero_add, Nat.reduceAdd]
  repeat' (first | apply aw_seq | apply aw_region | apply al_nil | apply aq_np | apply aq_then | apply aq_then_x | apply aq_then_r | apply aw_skip | apply aw_exit | apply aw_ret | (apply at_op (.move _); refine r_move ?_) | (apply at_op (.fieldAddr _ _ _); refine r_faddr ?_) | (apply at_op (.nilCheck _); refine r_nilck ?_) | (apply at_op (.store _ _ _); refine r_store ?_))
  try refine aq_end ?_
  refine oret0 (rsk 1000 1001 k fs { st with down := false }) (by rfl)  (⟨rfl, rfl⟩) (by (repeat (first | exact obs_nil | (apply obs_cons; focus (first | rfl | (simp [find]; done)))))) (by first | (simp [okOut, V.within, V.withinL, O.within, keys, mem, look, nbeq_def, withinL_app, withinL_ds, withinL_und]; done) | rfl)
set_option maxHeartbeats 4000000 in
set_option maxRecDepth 20000 in
theorem rlose_any (n : Int) : ObC 34 [.box 1000 0, .d (.int n)] (rsk 1000 1001 k fs st) [] (fun x o => x = .tup [] ∧ o = rsk 1000 1001 k fs { st with lost := max n 0 }) := by
  refine ob_enter Try.func34 rfl (by decide) _ Try.ntmps34 (le_ok rfl) rfl (fun w Pr β κ hE => ?_)
  dsimp only [slotsV, Nat.zero_add, Nat.reduceAdd]
  repeat' (first | apply aw_seq | apply aw_region | apply al_nil | apply aq_np | apply aq_then | apply aq_then_x | apply aq_then_r | apply aw_skip | apply aw_exit | apply aw_ret | (apply at_op (.move _); refine r_move ?_) | (apply at_op (.call { callee := .builtin .max, args := _, argTypes := _ }); refine r_max ?_) | (apply at_op (.fieldAddr _ _ _); refine r_faddr ?_) | (apply at_op (.nilCheck _); refine r_nilck ?_) | (apply at_op (.store _ _ _); refine r_store ?_))
  try refine aq_end ?_
  refine oret0 (rsk 1000 1001 k fs { st with lost := max n 0 }) (by rfl)  (⟨rfl, rfl⟩) (by (repeat (first | exact obs_nil | (apply obs_cons; focus (first | rfl | (simp [find]; done)))))) (by first | (simp [okOut, V.within, V.withinL, O.within, keys, mem, look, nbeq_def, withinL_app, withinL_ds, withinL_und]; done) | rfl)
set_option maxHeartbeats 4000000 in
set_option maxRecDepth 20000 in
theorem rmay_any (f : Int) : ObC 46 [.box 1000 0, .d (.int f)] (rsk 1000 1001 k fs st) [] (fun x o => x = .d (.int (mayE st f)) ∧ o = rsk 1000 1001 k fs st) := by
  cases hdn : st.down
  · by_cases h1 : f < 0
    · skip
      refine ob_enter Try.func46 rfl (by decide) _ Try.ntmps46 (le_ok rfl) rfl (fun w Pr β κ hE => ?_)
      dsimp only [slotsV, Nat.zero_add, Nat.reduceAdd]
      repeat' (first | apply aw_seq | apply aw_region | apply al_nil | apply aq_np | apply aq_then | apply aq_then_x | apply aq_then_r | apply aw_skip | apply aw_exit | apply aw_ret | (apply at_op (.move _); refine r_move ?_) | (apply at_op (.assign _); refine r_assign ?_) | (apply at_cond; first | refine c_t ?_ | refine c_f ?_ | (refine aw_cond rfl (fun hb => ?_) (fun hb => ?_) <;> ((first | have hq := of_decide_eq_true hb | have hq := of_decide_eq_false hb | have hq := dNT hb | have hq := dNF hb | skip); (try (exfalso; omega))))) | (apply at_guard; first | refine g_go ?_ | refine g_nt ?_ | refine g_nf ?_ | refine g_nu ?_ | ((first | refine al_split_t rfl rfl (lt_ok rfl) (fun hb => ?_) (fun hb => ?_) | refine al_split_f rfl rfl (lt_ok rfl) (fun hb => ?_) (fun hb => ?_)) <;> ((first | have hq := of_decide_eq_true hb | have hq := of_decide_eq_false hb | have hq := dNT hb | have hq := dNF hb | skip); (try (exfalso; omega))))) | (apply at_op (.pick _ _ _); refine r_pick ?_) | (apply at_op (.binOp .lss _ _ _ _); refine r_lss ?_) | (apply at_op (.binOp .gtr _ _ _ _); refine r_gtr ?_) | (apply at_op (.load _ _); refine r_load ?_) | (apply at_op (.fieldAddr _ _ _); refine r_faddr ?_) | (apply at_op (.nilCheck _); refine r_nilck ?_))
      refine oret1 (rsk 1000 1001 k fs st) (by rfl) (by first | exact ResV.x _ _ (ResX.tmp _ _ (by first | exact ToD.d _ | exact ToD.row _ _ _ _ _ rfl | exact ToD.nil _)) | exact ResV.tmp _ _ rfl | exact ResV.x _ _ (ResX.cellA _ _ _ _ _ _ _ rfl rfl rfl (by first | (simp only [normV, normList, normMap]; rfl) | rfl) rfl)) (⟨by simp [mayE, hdn, h1], rfl⟩) (by (repeat (first | exact obs_nil | (apply obs_cons; focus (first | rfl | (simp [find]; done)))))) (by first | (simp [okOut, V.within, V.withinL, O.within, keys, mem, look, nbeq_def, withinL_app, withinL_ds, withinL_und]; done) | rfl)
    · by_cases h2 : 15 < f
      · have h3 : 16 ≤ f := h2
        refine ob_enter Try.func46 rfl (by decide) _ Try.ntmps46 (le_ok rfl) rfl (fun w Pr β κ hE => ?_)
        dsimp only [slotsV, Nat.zero_add, Nat.reduceAdd]
        repeat' (first | apply aw_seq | apply aw_region | apply al_nil | apply aq_np | apply aq_then | apply aq_then_x | apply aq_then_r | apply aw_skip | apply aw_exit | apply aw_ret | (apply at_op (.move _); refine r_move ?_) | (apply at_op (.assign _); refine r_assign ?_) | (apply at_cond; first | refine c_t ?_ | refine c_f ?_ | (refine aw_cond rfl (fun hb => ?_) (fun hb => ?_) <;> ((first | have hq := of_decide_eq_true hb | have hq := of_decide_eq_false hb | have hq := dNT hb | have hq := dNF hb | skip); (try (exfalso; omega))))) | (apply at_guard; first | refine g_go ?_ | refine g_nt ?_ | refine g_nf ?_ | refine g_nu ?_ | ((first | refine al_split_t rfl rfl (lt_ok rfl) (fun hb => ?_) (fun hb => ?_) | refine al_split_f rfl rfl (lt_ok rfl) (fun hb => ?_) (fun hb => ?_)) <;> ((first | have hq := of_decide_eq_true hb | have hq := of_decide_eq_false hb | have hq := dNT hb | have hq := dNF hb | skip); (try (exfalso; omega))))) | (apply at_op (.pick _ _ _); refine r_pick ?_) | (apply at_op (.binOp .lss _ _ _ _); refine r_lss ?_) | (apply at_op (.binOp .gtr _ _ _ _); refine r_gtr ?_) | (apply at_op (.load _ _); refine r_load ?_) | (apply at_op (.fieldAddr _ _ _); refine r_faddr ?_) | (apply at_op (.nilCheck _); refine r_nilck ?_))
        refine oret1 (rsk 1000 1001 k fs st) (by rfl) (by first | exact ResV.x _ _ (ResX.tmp _ _ (by first | exact ToD.d _ | exact ToD.row _ _ _ _ _ rfl | exact ToD.nil _)) | exact ResV.tmp _ _ rfl | exact ResV.x _ _ (ResX.cellA _ _ _ _ _ _ _ rfl rfl rfl (by first | (simp only [normV, normList, normMap]; rfl) | rfl) rfl)) (⟨by simp [mayE, hdn, h3], rfl⟩) (by (repeat (first | exact obs_nil | (apply obs_cons; focus (first | rfl | (simp [find]; done)))))) (by first | (simp [okOut, V.within, V.withinL, O.within, keys, mem, look, nbeq_def, withinL_app, withinL_ds, withinL_und]; done) | rfl)
      · have h3 : ¬ 16 ≤ f := by omega
        refine ob_enter Try.func46 rfl (by decide) _ Try.ntmps46 (le_ok rfl) rfl (fun w Pr β κ hE => ?_)
        dsimp only [slotsV, Nat.zero_add, Nat.reduceAdd]
        repeat' (first | apply aw_seq | apply aw_region | apply al_nil | apply aq_np | apply aq_then | apply aq_then_x | apply aq_then_r | apply aw_skip | apply aw_exit | apply aw_ret | (apply at_op (.move _); refine r_move ?_) | (apply at_op (.assign _); refine r_assign ?_) | (apply at_cond; first | refine c_t ?_ | refine c_f ?_ | (refine aw_cond rfl (fun hb => ?_) (fun hb => ?_) <;> ((first | have hq := of_decide_eq_true hb | have hq := of_decide_eq_false hb | have hq := dNT hb | have hq := dNF hb | skip); (try (exfalso; omega))))) | (apply at_guard; first | refine g_go ?_ | refine g_nt ?_ | refine g_nf ?_ | refine g_nu ?_ | ((first | refine al_split_t rfl rfl (lt_ok rfl) (fun hb => ?_) (fun hb => ?_) | refine al_split_f rfl rfl (lt_ok rfl) (fun hb => ?_) (fun hb => ?_)) <;> ((first | have hq := of_decide_eq_true hb | have hq := of_decide_eq_false hb | have hq := dNT hb | have hq := dNF hb | skip); (try (exfalso; omega))))) | (apply at_op (.pick _ _ _); refine r_pick ?_) | (apply at_op (.binOp .lss _ _ _ _); refine r_lss ?_) | (apply at_op (.binOp .gtr _ _ _ _); refine r_gtr ?_) | (apply at_op (.load _ _); refine r_load ?_) | (apply at_op (.fieldAddr _ _ _); refine r_faddr ?_) | (apply at_op (.nilCheck _); refine r_nilck ?_))
        refine oret1 (rsk 1000 1001 k fs st) (by rfl) (by first | exact ResV.x _ _ (ResX.tmp _ _ (by first | exact ToD.d _ | exact ToD.row _ _ _ _ _ rfl | exact ToD.nil _)) | exact ResV.tmp _ _ rfl | exact ResV.x _ _ (ResX.cellA _ _ _ _ _ _ _ rfl rfl rfl (by first | (simp only [normV, normList, normMap]; rfl) | rfl) rfl)) (⟨by simp [mayE, hdn, h1, h3], rfl⟩) (by (repeat (first | exact obs_nil | (apply obs_cons; focus (first | rfl | (simp [find]; done)))))) (by first | (simp [okOut, V.within, V.withinL, O.within, keys, mem, look, nbeq_def, withinL_app, withinL_ds, withinL_und]; done) | rfl)
  · skip
    refine ob_enter Try.func46 rfl (by decide) _ Try.ntmps46 (le_ok rfl) rfl (fun w Pr β κ hE => ?_)
    dsimp only [slotsV, Nat.zero_add, Nat.reduceAdd]
    repeat' (first | apply aw_seq | apply aw_region | apply al_nil | apply aq_np | apply aq_then | apply aq_then_x | apply aq_then_r | apply aw_skip | apply aw_exit | apply aw_ret | (apply at_op (.move _); refine r_move ?_) | (apply at_op (.assign _); refine r_assign ?_) | (apply at_cond; first | refine c_t ?_ | refine c_f ?_ | (refine aw_cond rfl (fun hb => ?_) (fun hb => ?_) <;> ((first | have hq := of_decide_eq_true hb | have hq := of_decide_eq_false hb | have hq := dNT hb | have hq := dNF hb | skip); (try (exfalso; omega))))) | (apply at_guard; first | refine g_go ?_ | refine g_nt ?_ | refine g_nf ?_ | refine g_nu ?_ | ((first | refine al_split_t rfl rfl (lt_ok rfl) (fun hb => ?_) (fun hb => ?_) | refine al_split_f rfl rfl (lt_ok rfl) (fun hb => ?_) (fun hb => ?_)) <;> ((first | have hq := of_decide_eq_true hb | have hq := of_decide_eq_false hb | have hq := dNT hb | have hq := dNF hb | skip); (try (exfalso; omega))))) | (apply at_op (.pick _ _ _); refine r_pick ?_) | (apply at_op (.binOp .lss _ _ _ _); refine r_lss ?_) | (apply at_op (.binOp .gtr _ _ _ _); refine r_gtr ?_) | (apply at_op (.load _ _); refine r_load ?_) | (apply at_op (.fieldAddr _ _ _); refine r_faddr ?_) | (apply at_op (.nilCheck _); refine r_nilck ?_))
    refine oret1 (rsk 1000 1001 k fs st) (by rfl) (by first | exact ResV.x _ _ (ResX.tmp _ _ (by first | exact ToD.d _ | exact ToD.row _ _ _ _ _ rfl | exact ToD.nil _)) | exact ResV.tmp _ _ rfl | exact ResV.x _ _ (ResX.cellA _ _ _ _ _ _ _ rfl rfl rfl (by first | (simp only [normV, normList, normMap]; rfl) | rfl) rfl)) (⟨by simp [mayE, hdn], rfl⟩) (by (repeat (first | exact obs_nil | (apply obs_cons; focus (first | rfl | (simp [find]; done)))))) (by first | (simp [okOut, V.within, V.withinL, O.within, keys, mem, look, nbeq_def, withinL_app, withinL_ds, withinL_und]; done) | rfl)
abbrev rfD (f : Int) (x : Fl) : D := .agg [.int f, .str x.now, .str x.last]
set_option maxHeartbeats 8000000 in
set_option maxRecDepth 20000 in
theorem rget_any (h : RkOk fs st) (f : Int) : ObC 39 [.box 1000 0, .d (.int f)] (rsk 1000 1001 k fs st) [] (fun x o => x = .d (rfD f (st.F f)) ∧ o = rsk 1000 1001 k fs st) := by
  have hlen := h.len
  have hg0 := h.get f
  refine ob_enter Try.func39 rfl (by decide) _ Try.ntmps39 (le_ok rfl) rfl (fun w Pr β κ hE => ?_)
  dsimp only [slotsV, Nat.zero_add, Nat.reduceAdd]
  repeat' (first | apply aw_seq | apply aw_region | apply al_nil | apply aq_np | apply aq_then | apply aq_then_x | apply aq_then_r | apply aq_block_x | (apply aq_block_y; decide) | apply aq_block_r | apply aq_block | apply aw_block | apply aw_skip | apply aw_exit | apply aw_ret | (apply at_op (.move _); refine r_move ?_) | (apply at_op (.assign _); refine r_assign ?_) | (apply at_cond; first | refine c_t ?_ | refine c_f ?_ | (refine aw_cond rfl (fun hb => ?_) (fun hb => ?_) <;> ((first | have hq := of_decide_eq_true hb | have hq := of_decide_eq_false hb | have hq := dNT hb | have hq := dNF hb | skip); (try (exfalso; omega))))) | (apply at_op (.binOp .lss _ _ _ _); refine r_lss ?_) | (apply at_op (.binOp .eql _ _ _ _); refine r_eql ?_) | (apply at_op (.binOp .add _ _ _ _); refine r_add ?_) | (apply at_op (.call { callee := .builtin .len, args := _, argTypes := _ }); refine r_len ?_) | (apply at_op (.indexAddr _ _ _); refine r_ix ?_) | (apply at_op (.load _ _); refine r_load ?_) | (apply at_op (.fieldAddr _ _ _); refine r_faddr ?_) | (apply at_op (.nilCheck _); refine r_nilck ?_) | (apply at_op (.alloc _); refine r_alloc ?_) | (apply at_op (.store _ _ _); refine r_store ?_) | (apply at_op (.build _ _); refine r_build ?_))
  refine aw_loop2 (fun N sl ob => ∃ i : Nat, N = fs.length - i ∧ i ≤ fs.length ∧ rget (fs.drop i) f = st.F f ∧ sl = [(5, .d (.int i)), (4, .box 4 0), (0, .box 1000 0), (1, .d (.int f))] ∧ ob = (4, .box 65 [.d (.int 0), .d (.str ⟨#[]⟩), .d (.str ⟨#[]⟩)]) :: rsk 1000 1001 k fs st) (_) _ _ (⟨0, rfl, Nat.zero_le _, hg0, rfl, rfl⟩) ?_ ?_ ?_
  · (repeat (first | exact sub_nil | (apply sub_cons; focus (first | rfl | exact vint (by first | omega) | (simp [look]; done)))))
  · (repeat (first | exact obs_nil | (apply obs_cons; focus (first | rfl | (simp [find]; done)))))
  rintro N sl ob ⟨i, rfl, hi, hg, rfl, rfl⟩
  by_cases hlt : i < fs.length
  · rw [List.drop_eq_getElem_cons hlt] at hg
    have hget : (fs.map rfC)[i]? = some (rfC fs[i]) := get_map hlt
    generalize fs[i] = x at hg hget
    obtain ⟨n, y⟩ := x
    unfold rget at hg
    have hget : (fs.map rfC)[i]? = some [D.int n, .str y.now, .str y.last] := hget
    by_cases hn : n = f
    · subst hn
      rw [if_pos rfl] at hg
      have hg : y = st.F n := hg
      subst hg
      repeat' (first | (apply at_op (.indexAddr _ _ _); refine al_y (y_ix (by first | exact ToD.d _ | exact ToD.row _ _ _ _ _ rfl) rfl rfl (by first | with_reducible rfl | exact lit0 | exact lit1 | exact lit2 | exact lit3 | exact lit4 | exact int_s _ | exact int_p _ _ | exact int_nat _ (by omega)) hget) (lt_ok rfl) ?_) | apply aw_seq | apply aw_region | apply al_nil | apply aq_np | apply aq_then | apply aq_then_x | apply aq_then_r | apply aq_block_x | (apply aq_block_y; decide) | apply aq_block_r | apply aq_block | apply aw_block | apply aw_skip | apply aw_exit | apply aw_ret | (apply at_op (.move _); refine r_move ?_) | (apply at_op (.assign _); refine r_assign ?_) | (apply at_cond; first | refine c_t ?_ | refine c_f ?_ | (refine aw_cond rfl (fun hb => ?_) (fun hb => ?_) <;> ((first | have hq := of_decide_eq_true hb | have hq := of_decide_eq_false hb | have hq := dNT hb | have hq := dNF hb | skip); (try (exfalso; omega))))) | (apply at_op (.binOp .lss _ _ _ _); refine r_lss ?_) | (apply at_op (.binOp .eql _ _ _ _); refine r_eql ?_) | (apply at_op (.binOp .add _ _ _ _); refine r_add ?_) | (apply at_op (.call { callee := .builtin .len, args := _, argTypes := _ }); refine r_len ?_) | (apply at_op (.indexAddr _ _ _); refine r_ix ?_) | (apply at_op (.load _ _); refine r_load ?_) | (apply at_op (.fieldAddr _ _ _); refine r_faddr ?_) | (apply at_op (.nilCheck _); refine r_nilck ?_) | (apply at_op (.alloc _); refine r_alloc ?_) | (apply at_op (.store _ _ _); refine r_store ?_) | (apply at_op (.build _ _); refine r_build ?_))
      refine oret1 (rsk 1000 1001 k fs st) (by rfl) (by first | exact ResV.x _ _ (ResX.tmp _ _ (by first | exact ToD.d _ | exact ToD.row _ _ _ _ _ rfl | exact ToD.nil _)) | exact ResV.tmp _ _ rfl | exact ResV.x _ _ (ResX.cellA _ _ _ _ _ _ _ rfl rfl rfl (by first | (simp only [normV, normList, normMap]; rfl) | rfl) rfl)) (⟨rfl, rfl⟩) (by (repeat (first | exact obs_nil | (apply obs_cons; focus (first | rfl | (simp [find]; done)))))) (by first | (simp [okOut, V.within, V.withinL, O.within, keys, mem, look, nbeq_def, withinL_app, withinL_ds, withinL_und]; done) | rfl)
    · rw [if_neg hn] at hg
      have hq : decide (n = f) = false := decide_eq_false hn
      repeat' (first | (apply at_op (.indexAddr _ _ _); refine al_y (y_ix (by first | exact ToD.d _ | exact ToD.row _ _ _ _ _ rfl) rfl rfl (by first | with_reducible rfl | exact lit0 | exact lit1 | exact lit2 | exact lit3 | exact lit4 | exact int_s _ | exact int_p _ _ | exact int_nat _ (by omega)) hget) (lt_ok rfl) ?_) | apply aw_seq | apply aw_region | apply al_nil | apply aq_np | apply aq_then | apply aq_then_x | apply aq_then_r | apply aq_block_x | (apply aq_block_y; decide) | apply aq_block_r | apply aq_block | apply aw_block | apply aw_skip | apply aw_exit | apply aw_ret | (apply at_op (.move _); refine r_move ?_) | (apply at_op (.assign _); refine r_assign ?_) | (apply at_cond; first | refine c_t ?_ | refine c_f ?_ | (refine aw_cond rfl (fun hb => ?_) (fun hb => ?_) <;> ((first | have hq := of_decide_eq_true hb | have hq := of_decide_eq_false hb | have hq := dNT hb | have hq := dNF hb | skip); (try (exfalso; omega))))) | (apply at_op (.binOp .lss _ _ _ _); refine r_lss ?_) | (apply at_op (.binOp .eql _ _ _ _); refine r_eql ?_) | (apply at_op (.binOp .add _ _ _ _); refine r_add ?_) | (apply at_op (.call { callee := .builtin .len, args := _, argTypes := _ }); refine r_len ?_) | (apply at_op (.indexAddr _ _ _); refine r_ix ?_) | (apply at_op (.load _ _); refine r_load ?_) | (apply at_op (.fieldAddr _ _ _); refine r_faddr ?_) | (apply at_op (.nilCheck _); refine r_nilck ?_) | (apply at_op (.alloc _); refine r_alloc ?_) | (apply at_op (.store _ _ _); refine r_store ?_) | (apply at_op (.build _ _); refine r_build ?_))
      refine aq_round _ _ _ (⟨i + 1, rfl, by omega, hg, rfl, rfl⟩) (by omega) ?_ ?_
      · (repeat (first | exact sub_nil | (apply sub_cons; focus (first | rfl | exact vint (by first | omega) | (simp [look]; done)))))
      · (repeat (first | exact obs_nil | (apply obs_cons; focus (first | rfl | (simp [find]; done)))))
  · rw [List.drop_of_length_le (by omega)] at hg
    have hg : nofile = st.F f := hg
    rw [← hg]
    repeat' (first | apply aw_seq | apply aw_region | apply al_nil | apply aq_np | apply aq_then | apply aq_then_x | apply aq_then_r | apply aq_block_x | (apply aq_block_y; decide) | apply aq_block_r | apply aq_block | apply aw_block | apply aw_skip | apply aw_exit | apply aw_ret | (apply at_op (.move _); refine r_move ?_) | (apply at_op (.assign _); refine r_assign ?_) | (apply at_cond; first | refine c_t ?_ | refine c_f ?_ | (refine aw_cond rfl (fun hb => ?_) (fun hb => ?_) <;> ((first | have hq := of_decide_eq_true hb | have hq := of_decide_eq_false hb | have hq := dNT hb | have hq := dNF hb | skip); (try (exfalso; omega))))) | (apply at_op (.binOp .lss _ _ _ _); refine r_lss ?_) | (apply at_op (.binOp .eql _ _ _ _); refine r_eql ?_) | (apply at_op (.binOp .add _ _ _ _); refine r_add ?_) | (apply at_op (.call { callee := .builtin .len, args := _, argTypes := _ }); refine r_len ?_) | (apply at_op (.indexAddr _ _ _); refine r_ix ?_) | (apply at_op (.load _ _); refine r_load ?_) | (apply at_op (.fieldAddr _ _ _); refine r_faddr ?_) | (apply at_op (.nilCheck _); refine r_nilck ?_) | (apply at_op (.alloc _); refine r_alloc ?_) | (apply at_op (.store _ _ _); refine r_store ?_) | (apply at_op (.build _ _); refine r_build ?_))
    refine oret1 (rsk 1000 1001 k fs st) (by rfl) (by first | exact ResV.x _ _ (ResX.tmp _ _ (by first | exact ToD.d _ | exact ToD.row _ _ _ _ _ rfl | exact ToD.nil _)) | exact ResV.tmp _ _ rfl | exact ResV.x _ _ (ResX.cellA _ _ _ _ _ _ _ rfl rfl rfl (by first | (simp only [normV, normList, normMap]; rfl) | rfl) rfl)) (⟨rfl, rfl⟩) (by (repeat (first | exact obs_nil | (apply obs_cons; focus (first | rfl | (simp [find]; done)))))) (by first | (simp [okOut, V.within, V.withinL, O.within, keys, mem, look, nbeq_def, withinL_app, withinL_ds, withinL_und]; done) | rfl)
set_option maxHeartbeats 4000000 in
set_option maxRecDepth 20000 in
theorem rsize_any (h : RkOk fs st) (f : Int) : ObC 17 [.box 1000 0, .d (.int f)] (rsk 1000 1001 k fs st) [] (fun x o => x = .d (.int (st.F f).now.size) ∧ o = rsk 1000 1001 k fs st) := by
  have hg := rget_any (k := k) h f
  refine ob_enter Try.func17 rfl (by decide) _ Try.ntmps17 (le_ok rfl) rfl (fun w Pr β κ hE => ?_)
  dsimp only [slotsV, Nat.zero_add, Nat.reduceAdd]
  repeat' (first | (apply at_call; refine k_ocall [(1000, 1000), (1001, 1001)] (hg) hE ?_; rintro _ _ ⟨rfl, rfl⟩ <;> (intro _ _ h1 h2; simp only [renEqs, Nat.reduceBEq, renL_app, renL_ds, renL_und] at h1 h2; subst h1 h2)) | apply aw_seq | apply aw_region | apply al_nil | apply aq_np | apply aq_then | apply aq_then_x | apply aq_then_r | apply aw_skip | apply aw_exit | apply aw_ret | (apply at_op (.move _); refine r_move ?_) | (apply at_op (.assign _); refine r_assign ?_) | (apply at_op (.call { callee := .builtin .len, args := _, argTypes := _ }); refine r_len ?_) | (apply at_op (.field _ _ _); refine r_field ?_))
  refine oret1 (rsk 1000 1001 k fs st) (by rfl) (by first | exact ResV.x _ _ (ResX.tmp _ _ (by first | exact ToD.d _ | exact ToD.row _ _ _ _ _ rfl | exact ToD.nil _)) | exact ResV.tmp _ _ rfl | exact ResV.x _ _ (ResX.cellA _ _ _ _ _ _ _ rfl rfl rfl (by first | (simp only [normV, normList, normMap]; rfl) | rfl) rfl)) (⟨rfl, rfl⟩) (by (repeat (first | exact obs_nil | (apply obs_cons; focus (first | rfl | (simp [find]; done)))))) (by first | (simp [okOut, V.within, V.withinL, O.within, keys, mem, look, nbeq_def, withinL_app, withinL_ds, withinL_und]; done) | rfl)
end
end Go.Proofs.Ytabaflklognhaaa
end
