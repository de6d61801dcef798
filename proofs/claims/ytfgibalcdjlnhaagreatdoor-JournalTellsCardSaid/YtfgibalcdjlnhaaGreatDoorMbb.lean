/-
  The journal's laws: lists of texts that are the same; bounds; examples. Conditions: none.
  The journal's contracts with given results, whatever happens; what the law calls. Conditions: none.
  The journal's laws: the documentation's examples. Conditions: none.
  The reference's journal beside the program's: contracts with given results. Conditions: none.
  The plain law of the journal: records whose forms have lost bytes, or have zeros in their place. Conditions: none.
  Bytes of strings that are put and cut. Conditions: none.
  Bytes behind the end of a file. Conditions: none.
  The journal's laws: opening a file on a disk without faults. Conditions: none.
  The package's variables, as the rows list them. Conditions: none.
  What comes in: lists of numbers, of texts, of operations. Conditions: none.
-/
import Derived.Test.YtfgibalcdjlnhaaGreatDoorRows
import Derived.LaidLaws
import Derived.Handed
import Derived.Lib.LaidTab
import Derived.Stop.LaidErr
import Derived.Test.YtfgibalcdjlnhaaGreatDoorMba
section
set_option linter.unusedSimpArgs false
set_option linter.unusedVariables false
namespace Go.Proofs.YtfgibalcdjlnhaaGreatDoor
open Go.RowKit Go.ChangeMaps

set_option maxRecDepth 20000 in
theorem sametexts_any (a b : List ByteArray) (ha : a.length ≤ 1000000000) : PureC 24 [.list 1 (a.map fun n => [.str n]), .list 1 (b.map fun n => [.str n])] (· = .bool (decide (a = b))) := by
  refine pure_enter Tryz.func24 rfl (by decide) _ Tryz.ntmps24 (le_ok rfl) (fun w Pr hE => ?_)
  dsimp only [slotsOf, Nat.zero_add, Nat.reduceAdd]
  by_cases hl : a.length = b.length
  · have h1 : (!decide ((a.length : Int) = b.length)) = false := by simp [hl]
    repeat' (first | refine nx ?_ | (apply aq_block_y; decide) | (apply qr_move; refine r_move ?_) | (apply qr_assign; refine r_assign ?_) | (apply at_cond; first | refine c_t ?_ | refine c_f ?_ | (refine aw_cond rfl (fun hb => ?_) (fun hb => ?_) <;> ((try have hq := dX hb); (try (exfalso; omega))))) | (apply qr_lss; refine r_lss ?_) | (apply qr_neq; refine r_neq ?_) | (apply qr_add; refine r_add ?_) | (apply qr_len; refine r_len ?_) | (apply qr_ix; refine r_ix ?_) | (apply qr_load; refine r_load ?_))
    refine aw_lp (fun n sl ob => ∃ k : Nat, n = a.length - k ∧ k ≤ a.length ∧ (∀ j, j < k → a[j]? = b[j]?) ∧ sl = [(5, .d (.int k)), (4, .d (.bool false)), (0, .d (.list 1 (a.map fun n => [D.str n]))), (1, .d (.list 1 (b.map fun n => [D.str n])))] ∧ ob = []) (⟨0, rfl, by omega, by simp, rfl, rfl⟩) ?_
    rintro n sl ob ⟨k, rfl, hk, hp, rfl, rfl⟩
    by_cases hlt : k < a.length
    · have hlt2 : k < b.length := by omega
      by_cases he : a[k] = b[k]
      · have e1 : (!decide (a[k] = b[k])) = false := by simp [he]
        repeat' (first | refine nx ?_ | (apply aq_block_y; decide) | (apply qr_move; refine r_move ?_) | (apply qr_assign; refine r_assign ?_) | (apply at_cond; first | refine c_t ?_ | refine c_f ?_ | (refine aw_cond rfl (fun hb => ?_) (fun hb => ?_) <;> ((try have hq := dX hb); (try (exfalso; omega))))) | (apply qr_lss; refine r_lss ?_) | (apply qr_neq; refine r_neq ?_) | (apply qr_add; refine r_add ?_) | (apply qr_len; refine r_len ?_) | (apply qr_ix; refine r_ix ?_) | (apply qr_load; refine r_load ?_))
        refine aw_mix [(0, true), (1, true), (2, true), (3, true), (4, true), (5, true), (6, true), (7, true), (8, true)] [] (by kernel_rfl) (by kernel_rfl) (by kernel_rfl) (by decide) ?_
        simp only [planned, tailed, List.filterMap_cons, List.filterMap_nil, List.getElem?_cons_zero, List.getElem?_cons_succ, Option.map_some]
        repeat' (first | apply am_nil | refine m_skip ?_ | refine n_skip ?_ | (apply qm_move; refine m_move ?_) | (apply qm_neq; refine m_neq ?_) | (apply qm_ix; refine m_ix ?_) | (apply qm_load; refine m_load ?_) | (refine am_split rfl rfl (fun hb => ?_) (fun hb => ?_) <;> ((try have hq := dX hb); (try (exfalso; omega)))))
        repeat' (first | refine nx ?_ | (apply aq_block_y; decide) | (apply qr_move; refine r_move ?_) | (apply qr_assign; refine r_assign ?_) | (apply at_cond; first | refine c_t ?_ | refine c_f ?_ | (refine aw_cond rfl (fun hb => ?_) (fun hb => ?_) <;> ((try have hq := dX hb); (try (exfalso; omega))))) | (apply qr_lss; refine r_lss ?_) | (apply qr_neq; refine r_neq ?_) | (apply qr_add; refine r_add ?_) | (apply qr_len; refine r_len ?_) | (apply qr_ix; refine r_ix ?_) | (apply qr_load; refine r_load ?_))
        refine aq_rd (⟨k + 1, rfl, by omega, fun j hj => (Nat.lt_succ_iff_lt_or_eq.1 hj).elim (hp j) (fun e => by subst e; simp [hlt, hlt2, he]), rfl, rfl⟩) (by omega)
      · have e1 : (!decide (a[k] = b[k])) = true := by simp [he]
        have hne : ¬ a = b := by rintro rfl; exact he rfl
        repeat' (first | refine nx ?_ | (apply aq_block_y; decide) | (apply qr_move; refine r_move ?_) | (apply qr_assign; refine r_assign ?_) | (apply at_cond; first | refine c_t ?_ | refine c_f ?_ | (refine aw_cond rfl (fun hb => ?_) (fun hb => ?_) <;> ((try have hq := dX hb); (try (exfalso; omega))))) | (apply qr_lss; refine r_lss ?_) | (apply qr_neq; refine r_neq ?_) | (apply qr_add; refine r_add ?_) | (apply qr_len; refine r_len ?_) | (apply qr_ix; refine r_ix ?_) | (apply qr_load; refine r_load ?_))
        refine aw_mix [(0, true), (1, true), (2, true), (3, true), (4, true), (5, true), (6, true), (7, true), (8, true)] [] (by kernel_rfl) (by kernel_rfl) (by kernel_rfl) (by decide) ?_
        simp only [planned, tailed, List.filterMap_cons, List.filterMap_nil, List.getElem?_cons_zero, List.getElem?_cons_succ, Option.map_some]
        repeat' (first | apply am_nil | refine m_skip ?_ | refine n_skip ?_ | (apply qm_move; refine m_move ?_) | (apply qm_neq; refine m_neq ?_) | (apply qm_ix; refine m_ix ?_) | (apply qm_load; refine m_load ?_) | (refine am_split rfl rfl (fun hb => ?_) (fun hb => ?_) <;> ((try have hq := dX hb); (try (exfalso; omega)))))
        repeat' (first | refine nx ?_ | (apply aq_block_y; decide) | (apply qr_move; refine r_move ?_) | (apply qr_assign; refine r_assign ?_) | (apply at_cond; first | refine c_t ?_ | refine c_f ?_ | (refine aw_cond rfl (fun hb => ?_) (fun hb => ?_) <;> ((try have hq := dX hb); (try (exfalso; omega))))) | (apply qr_lss; refine r_lss ?_) | (apply qr_neq; refine r_neq ?_) | (apply qr_add; refine r_add ?_) | (apply qr_len; refine r_len ?_) | (apply qr_ix; refine r_ix ?_) | (apply qr_load; refine r_load ?_))
        refine ret_one (by rfl) (by first | exact ToD.d _ | exact ToD.row _ _ _ _ _ rfl) ?_
        simp [hne]
    · have hab : a = b := by
        apply List.ext_getElem?
        intro j
        by_cases hj : j < k
        · exact hp j hj
        · rw [List.getElem?_eq_none (by omega), List.getElem?_eq_none (by omega)]
      repeat' (first | refine nx ?_ | (apply aq_block_y; decide) | (apply qr_move; refine r_move ?_) | (apply qr_assign; refine r_assign ?_) | (apply at_cond; first | refine c_t ?_ | refine c_f ?_ | (refine aw_cond rfl (fun hb => ?_) (fun hb => ?_) <;> ((try have hq := dX hb); (try (exfalso; omega))))) | (apply qr_lss; refine r_lss ?_) | (apply qr_neq; refine r_neq ?_) | (apply qr_add; refine r_add ?_) | (apply qr_len; refine r_len ?_) | (apply qr_ix; refine r_ix ?_) | (apply qr_load; refine r_load ?_))
      refine ret_one (by rfl) (by first | exact ToD.d _ | exact ToD.row _ _ _ _ _ rfl) ?_
      simp [hab]
  · have h1 : (!decide ((a.length : Int) = b.length)) = true := by
      have : ¬ (a.length : Int) = b.length := by omega
      simp [this]
    have hne : ¬ a = b := by rintro rfl; exact hl rfl
    repeat' (first | refine nx ?_ | (apply aq_block_y; decide) | (apply qr_move; refine r_move ?_) | (apply qr_assign; refine r_assign ?_) | (apply at_cond; first | refine c_t ?_ | refine c_f ?_ | (refine aw_cond rfl (fun hb => ?_) (fun hb => ?_) <;> ((try have hq := dX hb); (try (exfalso; omega))))) | (apply qr_lss; refine r_lss ?_) | (apply qr_neq; refine r_neq ?_) | (apply qr_add; refine r_add ?_) | (apply qr_len; refine r_len ?_) | (apply qr_ix; refine r_ix ?_) | (apply qr_load; refine r_load ?_))
    refine ret_one (by rfl) (by first | exact ToD.d _ | exact ToD.row _ _ _ _ _ rfl) ?_
    simp [hne]
/-- an operation of the laws -/
structure Opn where
  kind : Int
  s : ByteArray
  n : Int
  keep : List Int
def Opn.cells (o : Opn) : List D := [.int o.kind, .str o.s, .int o.n, keepD o.keep]
structure Opn.Small (o : Opn) : Prop where
  s : o.s.size ≤ 200
  keep : o.keep.length ≤ 50
theorem take_all2 {α : Type} {P : α → Prop} {l : List α} {i : Nat} (hlt : i < l.length) (hs : ∀ e ∈ l.take i, P e) (h : P l[i]) : ∀ e ∈ l.take (i + 1), P e := fun e he => by
  rw [List.take_succ_eq_append_getElem hlt] at he
  rcases List.mem_append.1 he with he | he
  · exact hs e he
  · simp at he
    subst he
    exact h
set_option maxHeartbeats 8000000 in
set_option maxRecDepth 20000 in
theorem jfew_any (l : List Opn) (hl : l.length ≤ 9223372036854775807) (hi : ∀ a ∈ l, a.s.size ≤ 9223372036854775807 ∧ a.keep.length ≤ 9223372036854775807) : PureC 5 [.list 4 (l.map Opn.cells)] (fun d => ∃ b, d = .bool b ∧ (b = true → l.length ≤ 25 ∧ ∀ a ∈ l, a.Small)) := by
  refine pure_enter Tryz.func5 rfl (by decide) _ Tryz.ntmps5 (le_ok rfl) (fun w Pr hE => ?_)
  dsimp only [slotsOf, Nat.zero_add, Nat.reduceAdd]
  repeat' (first | refine nx ?_ | (apply aq_block_y; decide) | (apply qr_move; refine r_move ?_) | (apply qr_assign; refine r_assign ?_) | (apply at_cond; first | refine c_t ?_ | refine c_f ?_ | (refine aw_cond rfl (fun hb => ?_) (fun hb => ?_) <;> ((try have hq := dX hb); (try (exfalso; omega))))) | (apply at_guard; first | refine g_go ?_ | refine g_nt ?_ | refine g_nf ?_ | refine g_nu ?_ | ((first | refine al_split_t rfl rfl (lt_ok rfl) (fun hb => ?_) (fun hb => ?_) | refine al_split_f rfl rfl (lt_ok rfl) (fun hb => ?_) (fun hb => ?_)) <;> ((try have hq := dX hb); (try (exfalso; omega))))) | (apply qr_pick; refine r_pick ?_) | (apply qr_lss; refine r_lss ?_) | (apply qr_leq; refine r_leq ?_) | (apply qr_gtr; refine r_gtr ?_) | (apply qr_add; refine r_add ?_) | (apply qr_len; refine r_len ?_) | (apply qr_ix; refine r_ix ?_) | (apply qr_load; refine r_load ?_) | (apply qr_faddr; refine r_faddr ?_))
  refine aw_lp (fun N sl ob => ∃ i : Nat, N = l.length - i ∧ i ≤ l.length ∧ (∀ e ∈ l.take i, e.Small) ∧ sl = [(3, .d (.int i)), (2, .d (.bool false)), (0, .d (.list 4 (l.map Opn.cells)))] ∧ ob = []) (⟨0, rfl, Nat.zero_le _, by simp, rfl, rfl⟩) ?_
  rintro N sl ob ⟨i, rfl, hi1, hs, rfl, rfl⟩
  by_cases hlt : i < l.length
  · have hin := hi _ (List.getElem_mem hlt)
    have hstep := fun h => take_all2 (P := Opn.Small) hlt hs h
    generalize hw : l[i] = a at hin hstep
    have hget : (l.map Opn.cells)[i]? = some [.int a.kind, .str a.s, .int a.n, keepD a.keep] := by rw [get_map hlt, hw]; rfl
    by_cases h1 : 200 < a.s.size
    · skip
      repeat' (first | (apply at_op (.indexAddr _ _ _); refine al_y (y_ix (by first | exact ToD.d _ | exact ToD.row _ _ _ _ _ rfl) rfl rfl (by first | with_reducible rfl | exact lit0 | exact lit1 | exact lit2 | exact lit3 | exact lit4 | exact int_s _ | exact int_p _ _ | exact int_nat _ (by omega)) hget) (lt_ok rfl) ?_) | refine nx ?_ | (apply aq_block_y; decide) | (apply qr_move; refine r_move ?_) | (apply qr_assign; refine r_assign ?_) | (apply at_cond; first | refine c_t ?_ | refine c_f ?_ | (refine aw_cond rfl (fun hb => ?_) (fun hb => ?_) <;> ((try have hq := dX hb); (try (exfalso; omega))))) | (apply at_guard; first | refine g_go ?_ | refine g_nt ?_ | refine g_nf ?_ | refine g_nu ?_ | ((first | refine al_split_t rfl rfl (lt_ok rfl) (fun hb => ?_) (fun hb => ?_) | refine al_split_f rfl rfl (lt_ok rfl) (fun hb => ?_) (fun hb => ?_)) <;> ((try have hq := dX hb); (try (exfalso; omega))))) | (apply qr_pick; refine r_pick ?_) | (apply qr_lss; refine r_lss ?_) | (apply qr_leq; refine r_leq ?_) | (apply qr_gtr; refine r_gtr ?_) | (apply qr_add; refine r_add ?_) | (apply qr_len; refine r_len ?_) | (apply qr_ix; refine r_ix ?_) | (apply qr_load; refine r_load ?_) | (apply qr_faddr; refine r_faddr ?_))
      refine ret_one (by rfl) (by first | exact ToD.d _ | exact ToD.row _ _ _ _ _ rfl) ?_
      exact ⟨_, rfl, fun h => by cases h⟩
    · by_cases h2 : 50 < a.keep.length
      · skip
        repeat' (first | (apply at_op (.indexAddr _ _ _); refine al_y (y_ix (by first | exact ToD.d _ | exact ToD.row _ _ _ _ _ rfl) rfl rfl (by first | with_reducible rfl | exact lit0 | exact lit1 | exact lit2 | exact lit3 | exact lit4 | exact int_s _ | exact int_p _ _ | exact int_nat _ (by omega)) hget) (lt_ok rfl) ?_) | refine nx ?_ | (apply aq_block_y; decide) | (apply qr_move; refine r_move ?_) | (apply qr_assign; refine r_assign ?_) | (apply at_cond; first | refine c_t ?_ | refine c_f ?_ | (refine aw_cond rfl (fun hb => ?_) (fun hb => ?_) <;> ((try have hq := dX hb); (try (exfalso; omega))))) | (apply at_guard; first | refine g_go ?_ | refine g_nt ?_ | refine g_nf ?_ | refine g_nu ?_ | ((first | refine al_split_t rfl rfl (lt_ok rfl) (fun hb => ?_) (fun hb => ?_) | refine al_split_f rfl rfl (lt_ok rfl) (fun hb => ?_) (fun hb => ?_)) <;> ((try have hq := dX hb); (try (exfalso; omega))))) | (apply qr_pick; refine r_pick ?_) | (apply qr_lss; refine r_lss ?_) | (apply qr_leq; refine r_leq ?_) | (apply qr_gtr; refine r_gtr ?_) | (apply qr_add; refine r_add ?_) | (apply qr_len; refine r_len ?_) | (apply qr_ix; refine r_ix ?_) | (apply qr_load; refine r_load ?_) | (apply qr_faddr; refine r_faddr ?_))
        refine ret_one (by rfl) (by first | exact ToD.d _ | exact ToD.row _ _ _ _ _ rfl) ?_
        exact ⟨_, rfl, fun h => by cases h⟩
      · skip
        repeat' (first | (apply at_op (.indexAddr _ _ _); refine al_y (y_ix (by first | exact ToD.d _ | exact ToD.row _ _ _ _ _ rfl) rfl rfl (by first | with_reducible rfl | exact lit0 | exact lit1 | exact lit2 | exact lit3 | exact lit4 | exact int_s _ | exact int_p _ _ | exact int_nat _ (by omega)) hget) (lt_ok rfl) ?_) | refine nx ?_ | (apply aq_block_y; decide) | (apply qr_move; refine r_move ?_) | (apply qr_assign; refine r_assign ?_) | (apply at_cond; first | refine c_t ?_ | refine c_f ?_ | (refine aw_cond rfl (fun hb => ?_) (fun hb => ?_) <;> ((try have hq := dX hb); (try (exfalso; omega))))) | (apply at_guard; first | refine g_go ?_ | refine g_nt ?_ | refine g_nf ?_ | refine g_nu ?_ | ((first | refine al_split_t rfl rfl (lt_ok rfl) (fun hb => ?_) (fun hb => ?_) | refine al_split_f rfl rfl (lt_ok rfl) (fun hb => ?_) (fun hb => ?_)) <;> ((try have hq := dX hb); (try (exfalso; omega))))) | (apply qr_pick; refine r_pick ?_) | (apply qr_lss; refine r_lss ?_) | (apply qr_leq; refine r_leq ?_) | (apply qr_gtr; refine r_gtr ?_) | (apply qr_add; refine r_add ?_) | (apply qr_len; refine r_len ?_) | (apply qr_ix; refine r_ix ?_) | (apply qr_load; refine r_load ?_) | (apply qr_faddr; refine r_faddr ?_))
        refine aq_rd (⟨i + 1, rfl, by omega, hstep ⟨by omega, by omega⟩, rfl, rfl⟩) (by omega)
  · skip
    repeat' (first | refine nx ?_ | (apply aq_block_y; decide) | (apply qr_move; refine r_move ?_) | (apply qr_assign; refine r_assign ?_) | (apply at_cond; first | refine c_t ?_ | refine c_f ?_ | (refine aw_cond rfl (fun hb => ?_) (fun hb => ?_) <;> ((try have hq := dX hb); (try (exfalso; omega))))) | (apply at_guard; first | refine g_go ?_ | refine g_nt ?_ | refine g_nf ?_ | refine g_nu ?_ | ((first | refine al_split_t rfl rfl (lt_ok rfl) (fun hb => ?_) (fun hb => ?_) | refine al_split_f rfl rfl (lt_ok rfl) (fun hb => ?_) (fun hb => ?_)) <;> ((try have hq := dX hb); (try (exfalso; omega))))) | (apply qr_pick; refine r_pick ?_) | (apply qr_lss; refine r_lss ?_) | (apply qr_leq; refine r_leq ?_) | (apply qr_gtr; refine r_gtr ?_) | (apply qr_add; refine r_add ?_) | (apply qr_len; refine r_len ?_) | (apply qr_ix; refine r_ix ?_) | (apply qr_load; refine r_load ?_) | (apply qr_faddr; refine r_faddr ?_))
    refine ret_one (by rfl) (by first | exact ToD.d _ | exact ToD.row _ _ _ _ _ rfl) ?_
    exact ⟨_, rfl, fun h => ⟨by simp at h; omega, fun e he => hs e (by rw [List.take_of_length_le (by omega)]; exact he)⟩⟩
end Go.Proofs.YtfgibalcdjlnhaaGreatDoor
end
section
namespace Go.Proofs.YtfgibalcdjlnhaaGreatDoor
open Go.RowKit Go.ChangeMaps

/-- An object bears one of two names: it bears the first one from now on. -/
theorem merge_at {E : Entry} {ops : Array Oper} {rest : List Oper} {Q : Exit → Go.Act → World → Prop} {sl : Slots} {ob obA obB obC : Objs} {i j : Nat} (hs : ob = obA ∨ ob = obB) (hA : obA = obC) (h0 : find E.ob0 j = none) (hno : noneOf j sl obB = true) (hr : renS [(i, j)] sl = sl) (hB : renO [(i, j)] (dropK [j] obB) = obC) (h : AL E ops rest Q sl obC) : AL E ops rest Q sl ob := by
  rcases hs with rfl | rfl
  · rw [hA]
    exact h
  · refine al_ren i j h0 hno ?_
    rw [hr, hB]
    exact h
section
variable {kk k cm cs : Nat} {lm ls : List ME} {st su : DS} {js ju : JS}
theorem jsync_res {e : Int} (h : js.Ok) (hD : DkOk lm ls st) (hq : syncJ js st = (e, ju, su)) : ObC 14 [.box 1004 0] (jrn 1004 1005 kk js 1000 1001 1002 1003 k cm cs lm ls st) [22] (fun x o => x = .d (.int e) ∧ JOutN 22 ju su o) :=
  (jsync_any h hD).mono fun x o h => by
    rw [hq] at h
    exact h
theorem jappend_res {e : Int} {s : ByteArray} (h : js.Ok) (hD : DkOk lm ls st) (hs : s.size ≤ 1000000000) (hq : appJ js st s = (e, ju, su)) : ObC 12 [.box 1004 0, .d (.str s)] (jrn 1004 1005 kk js 1000 1001 1002 1003 k cm cs lm ls st) [60] (fun x o => x = .d (.int e) ∧ JOutN 60 ju su o) :=
  (jappend_any h hD s hs).mono fun x o h => by
    rw [hq] at h
    exact h
theorem jopen_yes {f : Int} (hD : DkOk lm ls st) (hq : openJ st f = (0, some js, su)) : ObC 8 [.box 1000 0, .d (.int f)] (dsk 1000 1001 1002 1003 k cm cs lm ls st) [57, 9, 20] (fun x o => x = .tup [.box 57 0, .d (.int 0)] ∧ js.Ok ∧ ∃ (s3 kk k cm cs : Nat) (lm ls : List ME), (s3 = 1003 ∨ s3 = 20) ∧ DkOk lm ls su ∧ o = jrn 57 9 kk js 1000 1001 1002 s3 k cm cs lm ls su) :=
  (jopen_any hD f).mono fun x o h => by
    rw [hq] at h
    obtain ⟨s3, kk, k, cm, cs, lm, ls, h1, h2, ⟨h3, _⟩ | ⟨js', h3, h4, h5, h6⟩⟩ := h
    · cases h3
    · cases h3
      exact ⟨h5, h4, s3, kk, k, cm, cs, lm, ls, h1, h2, h6⟩
theorem jopen_no {f e : Int} (hD : DkOk lm ls st) (hq : openJ st f = (e, none, su)) : ObC 8 [.box 1000 0, .d (.int f)] (dsk 1000 1001 1002 1003 k cm cs lm ls st) [57, 9, 20] (fun x o => x = .tup [.d (.val (.pointer none)), .d (.int e)] ∧ ∃ (s3 k cm cs : Nat) (lm ls : List ME), (s3 = 1003 ∨ s3 = 20) ∧ DkOk lm ls su ∧ o = dsk 1000 1001 1002 s3 k cm cs lm ls su) :=
  (jopen_any hD f).mono fun x o h => by
    rw [hq] at h
    obtain ⟨s3, kk, k, cm, cs, lm, ls, h1, h2, ⟨_, h3, h4⟩ | ⟨js', h3, _⟩⟩ := h
    · exact ⟨h3, s3, k, cm, cs, lm, ls, h1, h2, h4⟩
    · cases h3
end
end Go.Proofs.YtfgibalcdjlnhaaGreatDoor
end
section
set_option linter.unusedSimpArgs false
set_option linter.unusedVariables false
namespace Go.Proofs.YtfgibalcdjlnhaaGreatDoor
open Go.RowKit Go.ChangeMaps

theorem openJ_is {st su : DS} {f : Int} {s : ByteArray} {rs : List ByteArray} (hf : 0 ≤ f ∧ f ≤ 15) (h1 : (syncR st f).1 = 0) (h2 : (syncR st f).2 = su) (h3 : (su.F f).now = s) (h4 : Recs (L s) rs) :
    openJ st f = if (forms rs).length < s.size then if (truncR su f (forms rs).length).1 ≠ 0 then ((truncR su f (forms rs).length).1, none, (truncR su f (forms rs).length).2) else (0, some ⟨f, rs, false⟩, (truncR su f (forms rs).length).2) else (0, some ⟨f, rs, false⟩, su) := by
  have e : openJ st f = _ := if_neg (by omega : ¬ (f < 0 ∨ 15 < f))
  rw [e, if_neg (by simp [h1]), h2, h3, h4.eq]
abbrev jfAB : ByteArray := ⟨#[50, 58, 97, 98, 44, 50, 57, 51, 59]⟩
abbrev jfE : ByteArray := ⟨#[48, 58, 44, 48, 59]⟩
abbrev jsX : ByteArray := ⟨#[50, 58, 97, 98, 44, 50, 57, 51, 59, 49, 58, 97, 44, 57, 56, 59]⟩
theorem dec_small {u : Nat} (h : u < 10) : Lib.decDigits u = [UInt8.ofNat (48 + u)] := by rw [Lib.decDigits, dif_pos h]
theorem dec_big {u : Nat} (h : ¬ u < 10) : Lib.decDigits u = Lib.decDigits (u / 10) ++ [UInt8.ofNat (48 + u % 10)] := by rw [Lib.decDigits, dif_neg h]
theorem itoa_nat (u : Nat) : Lib.itoa (u : Int) = Lib.decDigits u := by
  unfold Lib.itoa
  rw [if_neg (by omega)]
  rfl
theorem form_of {s : ByteArray} {n m : Nat} (hn : s.size = n) (hm : sumB s = m) : L (formB s) = Lib.decDigits n ++ 58 :: (L s ++ [44]) ++ (Lib.decDigits m ++ [59]) := by
  rw [formB_L, textW_L, intW_L, hn, hm, itoa_nat, itoa_nat]
theorem form_AB : formB ⟨#[97, 98]⟩ = jfAB := by
  apply ba_ext
  show L (formB ⟨#[97, 98]⟩) = _
  rw [form_of (n := 2) (m := 293) rfl (by decide), dec_small (by decide : 2 < 10), dec_big (by decide : ¬ 293 < 10), dec_big (by decide : ¬ 293 / 10 < 10), dec_small (by decide : 293 / 10 / 10 < 10)]
  decide
theorem form_E : formB ⟨#[]⟩ = jfE := by
  apply ba_ext
  show L (formB ⟨#[]⟩) = _
  rw [form_of (n := 0) (m := 0) rfl (by decide), dec_small (by decide : 0 < 10)]
  decide
theorem noform_98 : NoForm [49, 58, 97, 44, 57, 56, 59] := by
  intro t ht hp
  obtain ⟨p, hp⟩ := hp
  have h1 := (form_read (by omega) hp.symm).1
  have h2 : L (textW ⟨#[97]⟩) = [49, 58, 97, 44] := by
    rw [textW_L, show (ByteArray.size ⟨#[97]⟩ : Int) = ((1 : Nat) : Int) from rfl, itoa_nat, dec_small (by decide : 1 < 10)]
    decide
  have h3 := text_of (s := ⟨#[97]⟩) (r := B [49, 58, 97, 44, 57, 56, 59]) (t := [57, 56, 59]) (by rw [h2]; rfl) (by decide)
  rw [h3] at h1
  have e : t = ⟨#[97]⟩ := by injection h1 with h1; exact h1.symm
  subst e
  rw [form_of (n := 1) (m := 97) rfl (by decide), dec_small (by decide : 1 < 10), dec_big (by decide : ¬ 97 < 10), dec_small (by decide : 97 / 10 < 10)] at hp
  have h97 : L ⟨#[97]⟩ = [97] := rfl
  rw [h97] at hp
  simp at hp
theorem recs_X : Recs (L jsX) [⟨#[97, 98]⟩] := by
  refine ⟨by intro t ht; simp at ht; subst ht; decide, [49, 58, 97, 44, 57, 56, 59], ?_, noform_98⟩
  simp only [forms, form_AB]
  rfl
def jm1 : DS := (syncR DS.new 3).2
def jm2 : DS := (writeR jm1 3 0 jfAB).2
def jm3 : DS := (writeR jm2 3 9 jfE).2
def jm4 : DS := (writeR jm3 4 0 jsX).2
def jm5 : DS := (syncR jm4 4).2
def jm6 : DS := (truncR jm5 4 9).2
theorem jm_facts : ((syncR DS.new 3).1 = 0 ∧ (jm1.F 3).now = ⟨#[]⟩ ∧ (writeR jm1 3 0 jfAB).1 = 0 ∧ (writeR jm2 3 9 jfE).1 = 0 ∧ readP jm3 3 0 99 = (⟨#[50, 58, 97, 98, 44, 50, 57, 51, 59, 48, 58, 44, 48, 59]⟩, 0) ∧ (writeR jm3 4 0 jsX).1 = 0) ∧ (syncR jm4 4).1 = 0 ∧ (jm5.F 4).now = jsX ∧ (truncR jm5 4 9).1 = 0 ∧ (jm6.F 4).now.size = 9 := by
  decide +kernel
theorem jopen_some {k cm cs : Nat} {lm ls : List ME} {st su : DS} {f : Int} {js : JS} (hD : DkOk lm ls st) (hu : Up st) (hq : openJ st f = (0, some js, su)) : ObC 8 [.box 1000 0, .d (.int f)] (dsk 1000 1001 1002 1003 k cm cs lm ls st) [57, 9] (fun x o => ∃ (kk k cm cs : Nat) (lm ls : List ME), DkOk lm ls su ∧ js.Ok ∧ x = .tup [.box 57 0, .d (.int 0)] ∧ o = jrn 57 9 kk js 1000 1001 1002 1003 k cm cs lm ls su) :=
  (jopen_up hD hu f).mono fun x o h => by
    rw [hq] at h
    obtain ⟨kk, k, cm, cs, lm, ls, h1, h2 | ⟨js', h2, h3, h4, h5⟩⟩ := h
    · cases h2.1
    · cases h2
      exact ⟨kk, k, cm, cs, lm, ls, h1, h3, h4, h5⟩
theorem jappend_is {kk k cm cs : Nat} {lm ls : List ME} {st su : DS} {js ju : JS} {e : Int} {s : ByteArray} (h : js.Ok) (hD : DkOk lm ls st) (hu : Up st) (hs : s.size ≤ 1000000000) (hq : appJ js st s = (e, ju, su)) : ObC 12 [.box 1004 0, .d (.str s)] (jrn 1004 1005 kk js 1000 1001 1002 1003 k cm cs lm ls st) [] (fun x o => x = .d (.int e) ∧ JOut ju su o) :=
  (jappend_up h hD hu.ends.1 s hs).mono fun x o h => by
    rw [hq] at h
    exact h
theorem appJ_ok {js : JS} {st su : DS} {s f : ByteArray} {n : Nat} (hb : js.bad = false) (hs : s.size ≤ 20000) (hf : formB s = f) (hn : (forms js.rs).length = n) (h : n + f.size ≤ 1048576) (hw : (writeR st js.f n f).1 = 0) (hu : (writeR st js.f n f).2 = su) : appJ js st s = (0, { js with rs := js.rs ++ [s] }, su) := by
  unfold appJ
  rw [if_neg (by rw [hb]; decide), if_neg (by omega), hf, hn, if_neg (by omega), if_neg (by simp [hw]), hu]
theorem JS.Ok.add {js : JS} (h : js.Ok) {s : ByteArray} (hs : s.size ≤ 20000) (hl : (forms js.rs).length + (formB s).size ≤ 16777216) : JS.Ok { js with rs := js.rs ++ [s] } := by
  refine ⟨h.f, fun t ht => ?_, ?_⟩
  · rcases List.mem_append.1 ht with ht | ht
    · exact h.small t ht
    · simp at ht
      subst ht
      exact hs
  · show (forms (js.rs ++ [s])).length ≤ _
    rw [forms_app, List.length_append]
    simp [forms]
    omega
theorem ptrD : Tryz.prog.underlying 25 = some (.pointer 60) := Tryz.underlying25
theorem ptrJ : Tryz.prog.underlying 29 = some (.pointer 70) := Tryz.underlying29
theorem Write_is {k cm cs : Nat} {lm ls : List ME} {st su : DS} {f at_ e : Int} {s : ByteArray} (h : DkOk lm ls st) (hu : Up st) (h1 : (writeR st f at_ s).1 = e) (h2 : (writeR st f at_ s).2 = su) : ObC 30 [.box 1000 0, .d (.int f), .d (.int at_), .d (.str s)] (dsk 1000 1001 1002 1003 k cm cs lm ls st) [] (fun x o => x = .d (.int e) ∧ Out su o) := h1 ▸ h2 ▸ Write_up h hu.ends.1 f at_ s
theorem sm_1 : sumB ⟨#[]⟩ = 0 := by decide
theorem sm_2 : sumB ⟨#[97]⟩ = 97 := by decide
theorem sm_3 : sumB ⟨#[97, 98]⟩ = 293 := by decide
attribute [local irreducible] jm1 jm2 jm3 jm4 jm5 jm6 readP writeR syncR truncR crashS upS formB sumB recsOf openJ appJ
set_option maxHeartbeats 16000000 in
set_option maxRecDepth 20000 in
theorem small3_any : PureC 4 [] (· = .bool true) := by
  obtain ⟨⟨f1, f2, f3, f4, f5, f6⟩, f7, f8, f9, f10⟩ := jm_facts
  have d1 : (syncR DS.new 3).2 = jm1 := by unfold jm1; rfl
  have d2 : (writeR jm1 3 0 jfAB).2 = jm2 := by unfold jm2; rfl
  have d3 : (writeR jm2 3 9 jfE).2 = jm3 := by unfold jm3; rfl
  have d4 : (writeR jm3 4 0 jsX).2 = jm4 := by unfold jm4; rfl
  have d5 : (syncR jm4 4).2 = jm5 := by unfold jm5; rfl
  have d6 : (truncR jm5 4 9).2 = jm6 := by unfold jm6; rfl
  have u0 : Up DS.new := ⟨rfl, rfl⟩
  have u1 : Up jm1 := by rw [← d1]; exact u0.sync 3
  have u2 : Up jm2 := by rw [← d2]; exact u1.write 3 0 jfAB
  have u3 : Up jm3 := by rw [← d3]; exact u2.write 3 9 jfE
  have u4 : Up jm4 := by rw [← d4]; exact u3.write 4 0 jsX
  have o1 : openJ DS.new 3 = (0, some ⟨3, [], false⟩, jm1) := by
    rw [openJ_is (s := ⟨#[]⟩) (rs := []) (by decide) f1 d1 f2 ⟨by simp, [], rfl, noform_nil⟩]
    rfl
  have hfx : (forms [⟨#[97, 98]⟩]).length = 9 := by simp only [forms, form_AB]; rfl
  have o2 : openJ jm4 4 = (0, some ⟨4, [⟨#[97, 98]⟩], false⟩, jm6) := by
    rw [openJ_is (by decide) f7 d5 f8 recs_X, if_pos (by rw [hfx]; decide), hfx]
    rw [if_neg (by simpa using f9)]
    show (0, _, (truncR jm5 4 9).2) = _
    rw [d6]
  have a1 : appJ ⟨3, [], false⟩ jm1 ⟨#[97, 98]⟩ = (0, ⟨3, [⟨#[97, 98]⟩], false⟩, jm2) := appJ_ok (n := 0) rfl (by decide) form_AB rfl (by decide) f3 d2
  have a2 : appJ ⟨3, [⟨#[97, 98]⟩], false⟩ jm2 ⟨#[]⟩ = (0, ⟨3, [⟨#[97, 98]⟩, ⟨#[]⟩], false⟩, jm3) := appJ_ok (n := 9) rfl (by decide) form_E hfx (by decide) f4 d3
  have k1 : JS.Ok ⟨3, [⟨#[97, 98]⟩], false⟩ := ⟨by decide, by intro t ht; simp at ht; subst ht; decide, by show (forms [⟨#[97, 98]⟩]).length ≤ _; rw [hfx]; decide⟩
  have k2 : JS.Ok ⟨3, [⟨#[97, 98]⟩, ⟨#[]⟩], false⟩ := k1.add (s := ⟨#[]⟩) (by decide) (by show (forms [⟨#[97, 98]⟩]).length + _ ≤ _; rw [hfx, form_E]; decide)
  have c1 := sum_any ⟨#[]⟩ (by decide)
  have c2 := sum_any ⟨#[97]⟩ (by decide)
  have c3 := sum_any ⟨#[97, 98]⟩ (by decide)
  rw [sm_1] at c1
  rw [sm_2] at c2
  rw [sm_3] at c3
  have z4 : i64 4 := by unfold i64; omega
  have hst := sametexts_any [⟨#[97, 98]⟩] [⟨#[97, 98]⟩] (by decide)
  rw [show decide ([(⟨#[97, 98]⟩ : ByteArray)] = [⟨#[97, 98]⟩]) = true by decide] at hst
  have g1 : decide ((⟨#[50, 58, 97, 98, 44, 50, 57, 51, 59, 48, 58, 44, 48, 59]⟩ : ByteArray) = ⟨#[50, 58, 97, 98, 44, 50, 57, 51, 59, 48, 58, 44, 48, 59]⟩) = true := by decide
  have g2 : getJ [⟨#[97, 98]⟩, ⟨#[]⟩] 0 = ⟨#[97, 98]⟩ := rfl
  have g3 : decide ((⟨#[97, 98]⟩ : ByteArray) = ⟨#[97, 98]⟩) = true := by decide
  have hget := fun {kk k cm cs : Nat} {lm ls : List ME} {st : DS} => jget_any (kk := kk) (k := k) (cm := cm) (cs := cs) (lm := lm) (ls := ls) (st := st) k2 0
  rw [g2] at hget
  refine pure_enter Tryz.func4 rfl (by decide) _ Tryz.ntmps4 (le_ok rfl) (fun w Pr hE => ?_)
  dsimp only [slotsOf, Nat.zero_add, Nat.reduceAdd]
  repeat' (first | (apply at_call; refine k_ocall [(4, 40), (1, 41), (3, 42), (2, 43)] (new_any) hE ?_; rintro _ _ ⟨rfl, rfl⟩ <;> (intro _ _ h1 h2; simp only [renEqs, Nat.reduceBEq, renL_app, renL_ds, renL_und] at h1 h2; subst h1 h2)) | (apply at_op (.binOp .eql _ _ _ _); first | refine al_y (y_boxnil rfl ptrD) (lt_ok rfl) ?_ | refine al_y (y_boxnil rfl ptrJ) (lt_ok rfl) ?_) | (apply at_call; refine k_ocall [(1000, 40), (1001, 41), (1002, 42), (1003, 43), (57, 50), (9, 51)] (jopen_some DS.new_ok u0 o1) hE ?_; rintro _ _ ⟨kk1, k1', cm1, cs1, lm1, ls1, hD1, hj1, rfl, rfl⟩ <;> (intro _ _ h1 h2; simp only [renEqs, Nat.reduceBEq, renL_app, renL_ds, renL_und] at h1 h2; subst h1 h2)) | (apply at_call; refine k_ocall [(1000, 40), (1001, 41), (1002, 42), (1003, 43), (1004, 50), (1005, 51)] (jappend_is hj1 hD1 u1 (by decide) a1) hE ?_; rintro _ _ ⟨rfl, kk2, k2', cm2, cs2, lm2, ls2, hD2, rfl⟩ <;> (intro _ _ h1 h2; simp only [renEqs, Nat.reduceBEq, renL_app, renL_ds, renL_und] at h1 h2; subst h1 h2)) | (apply at_call; refine k_ocall [(1000, 40), (1001, 41), (1002, 42), (1003, 43), (1004, 50), (1005, 51)] (jappend_is k1 hD2 u2 (by decide) a2) hE ?_; rintro _ _ ⟨rfl, kk3, k3', cm3, cs3, lm3, ls3, hD3, rfl⟩ <;> (intro _ _ h1 h2; simp only [renEqs, Nat.reduceBEq, renL_app, renL_ds, renL_und] at h1 h2; subst h1 h2)) | (apply at_call; refine k_ocall [(1000, 40), (1001, 41), (1002, 42), (1003, 43)] (smR hD3 (by unfold i64; omega) f5) hE ?_; rintro _ _ ⟨rfl, rfl⟩ <;> (intro _ _ h1 h2; simp only [renEqs, Nat.reduceBEq, renL_app, renL_ds, renL_und] at h1 h2; subst h1 h2)) | refine nx ?_ | (apply qr_move; refine r_move ?_) | (apply qr_assign; refine r_assign ?_) | (apply at_cond; first | refine c_t ?_ | refine c_f ?_ | (refine aw_cond rfl (fun hb => ?_) (fun hb => ?_) <;> ((try have hq := dX hb); (try (exfalso; omega))))) | (apply qr_eql; refine r_eql ?_) | (apply qr_extract; refine r_extract ?_))
  repeat' (first | (apply at_op (.binOp .eql _ _ _ _); first | refine al_y (y_boxnil rfl ptrD) (lt_ok rfl) ?_ | refine al_y (y_boxnil rfl ptrJ) (lt_ok rfl) ?_) | (apply at_call; refine k_ocall [(1000, 40), (1001, 41), (1002, 42), (1003, 43)] (Write_is hD3 u3 f6 d4) hE ?_; rintro _ _ ⟨rfl, k4', cm4, cs4, lm4, ls4, hD4, rfl⟩ <;> (intro _ _ h1 h2; simp only [renEqs, Nat.reduceBEq, renL_app, renL_ds, renL_und] at h1 h2; subst h1 h2)) | (apply at_call; refine k_ocall [(1000, 40), (1001, 41), (1002, 42), (1003, 43), (57, 52), (9, 53)] (jopen_some hD4 u4 o2) hE ?_; rintro _ _ ⟨kk5, k5', cm5, cs5, lm5, ls5, hD5, hj5, rfl, rfl⟩ <;> (intro _ _ h1 h2; simp only [renEqs, Nat.reduceBEq, renL_app, renL_ds, renL_und] at h1 h2; subst h1 h2)) | refine nx ?_ | (apply qr_move; refine r_move ?_) | (apply qr_assign; refine r_assign ?_) | (apply at_cond; first | refine c_t ?_ | refine c_f ?_ | (refine aw_cond rfl (fun hb => ?_) (fun hb => ?_) <;> ((try have hq := dX hb); (try (exfalso; omega))))) | (apply qr_eql; refine r_eql ?_) | (apply qr_extract; refine r_extract ?_))
  have hsz := size_any (k := k5') (cm := cm5) (cs := cs5) hD5 z4
  rw [f10] at hsz
  have done0 := True.intro
  repeat' (first | (have _ := done2; apply at_call; refine k_call c3 hE ?_; rintro _ rfl) | (have _ := done1; apply at_call; refine k_call c2 hE ?_; rintro _ rfl; clear done1; have done2 := True.intro) | (have _ := done0; apply at_call; refine k_call c1 hE ?_; rintro _ rfl; clear done0; have done1 := True.intro) | (apply at_call; refine k_ocall [(1000, 40), (1001, 41), (1002, 42), (1003, 43), (1004, 50), (1005, 51)] (jlen_any k2) hE ?_; rintro _ _ ⟨rfl, rfl⟩ <;> (intro _ _ h1 h2; simp only [renEqs, Nat.reduceBEq, renL_app, renL_ds, renL_und] at h1 h2; subst h1 h2)) | (apply at_call; refine k_ocall [(1000, 40), (1001, 41), (1002, 42), (1003, 43), (1004, 50), (1005, 51)] (hget) hE ?_; rintro _ _ ⟨rfl, rfl⟩ <;> (intro _ _ h1 h2; simp only [renEqs, Nat.reduceBEq, renL_app, renL_ds, renL_und] at h1 h2; subst h1 h2)) | (apply at_call; refine k_ocall [(1000, 40), (1001, 41), (1002, 42), (1003, 43), (1004, 52), (1005, 53), (9, 80)] (jall_any hj5) hE ?_; rintro _ _ ⟨rfl, rfl⟩ <;> (intro _ _ h1 h2; simp only [renEqs, Nat.reduceBEq, renL_app, renL_ds, renL_und] at h1 h2; subst h1 h2)) | (apply at_call; refine k_call (hst) hE ?_; rintro _ rfl) | (apply at_call; refine k_ocall [(1000, 40), (1001, 41), (1002, 42), (1003, 43)] (hsz) hE ?_; rintro _ _ ⟨rfl, rfl⟩ <;> (intro _ _ h1 h2; simp only [renEqs, Nat.reduceBEq, renL_app, renL_ds, renL_und] at h1 h2; subst h1 h2)) | refine nx ?_ | (apply qr_move; refine r_move ?_) | (apply qr_assign; refine r_assign ?_) | (apply at_cond; first | refine c_t ?_ | refine c_f ?_ | (refine aw_cond rfl (fun hb => ?_) (fun hb => ?_) <;> ((try have hq := dX hb); (try (exfalso; omega))))) | (apply at_guard; first | refine g_go ?_ | refine g_nt ?_ | refine g_nf ?_ | refine g_nu ?_ | ((first | refine al_split_t rfl rfl (lt_ok rfl) (fun hb => ?_) (fun hb => ?_) | refine al_split_f rfl rfl (lt_ok rfl) (fun hb => ?_) (fun hb => ?_)) <;> ((try have hq := dX hb); (try (exfalso; omega))))) | (apply qr_pick; refine r_pick ?_) | (apply qr_eql; refine r_eql ?_) | (apply qr_lits; refine r_lits ?_))
  refine ret_one (by rfl) (by first | exact ToD.d _ | exact ToD.row _ _ _ _ _ rfl) ?_
  rfl
end Go.Proofs.YtfgibalcdjlnhaaGreatDoor
end
section
namespace Go.Proofs.YtfgibalcdjlnhaaGreatDoor
open Go.RowKit Go.ChangeMaps

theorem JS.Ok.bad {js : JS} (h : js.Ok) (b : Bool) : JS.Ok { js with bad := b } := ⟨h.f, h.small, h.len⟩
theorem JS.Ok.app {js ju : JS} {st su : DS} {e : Int} {s : ByteArray} (h : js.Ok) (hq : appJ js st s = (e, ju, su)) : ju.Ok := by
  unfold appJ at hq
  split at hq
  · cases hq
    exact h
  · split at hq
    · cases hq
      exact h
    · split at hq
      · cases hq
        exact h
      · split at hq
        · cases hq
          exact h.bad true
        · cases hq
          exact h.add (by omega) (by omega)
theorem JS.Ok.sync {js ju : JS} {st su : DS} {e : Int} (h : js.Ok) (hq : syncJ js st = (e, ju, su)) : ju.Ok := by
  unfold syncJ at hq
  split at hq
  · cases hq
    exact h
  · cases hq
    exact h.bad _
theorem openJ_zero {st su : DS} {f e : Int} {js : JS} (hq : openJ st f = (e, some js, su)) : e = 0 := by
  unfold openJ at hq
  split at hq
  · cases hq
  · split at hq
    · cases hq
    · split at hq
      · split at hq
        · cases hq
        · cases hq
          rfl
      · cases hq
        rfl
theorem openJ_jok {lm ls : List ME} {st su : DS} {f e : Int} {js : JS} (h : DkOk lm ls st) (hq : openJ st f = (e, some js, su)) : js.Ok := by
  have hok := h.ok
  by_cases hf0 : f < 0 ∨ 15 < f
  · rw [show openJ st f = (1, none, st) from if_pos hf0] at hq
    cases hq
  · have hfr : 0 ≤ f ∧ f ≤ 15 := by omega
    have hO : openJ st f = _ := if_neg hf0
    by_cases he : (syncR st f).1 = 0
    · obtain ⟨_, _, hnow⟩ := sync_read hok he
      rw [if_neg (by simp [he])] at hO
      have hR := recsOf_is (L ((syncR st f).2.F f).now)
      have hle := hR.le
      rw [L_len] at hle
      generalize recsOf (L ((syncR st f).2.F f).now) = rs at hO hR hle
      have hjs : JS.Ok ⟨f, rs, false⟩ := ⟨hfr, hR.small, by show (forms rs).length ≤ _; omega⟩
      rw [hO] at hq
      split at hq
      · split at hq
        · cases hq
        · cases hq
          exact hjs
      · cases hq
        exact hjs
    · rw [if_pos he] at hO
      rw [hO] at hq
      cases hq
section
variable {k : Nat} {fs : List RFile} {st su : DS} {js ju : JS}
theorem rjsync_res {e : Int} (h : js.Ok) (hR : RkOk fs st) (hq : syncJ js st = (e, ju, su)) : ObC 15 [.box 1002 0] (rjrn 1002 1000 1001 k fs js st) [] (fun x o => x = .d (.int e) ∧ RJOut ju su o) :=
  (rjsync_any h hR).mono fun x o h => by
    rw [hq] at h
    exact h
theorem rjappend_res {e : Int} {s : ByteArray} (h : js.Ok) (hR : RkOk fs st) (hs : s.size ≤ 1000000000) (hq : appJ js st s = (e, ju, su)) : ObC 13 [.box 1002 0, .d (.str s)] (rjrn 1002 1000 1001 k fs js st) [] (fun x o => x = .d (.int e) ∧ RJOut ju su o) :=
  (rjappend_any h hR s hs).mono fun x o h => by
    rw [hq] at h
    exact h
theorem rjopen_yes {f : Int} (hR : RkOk fs st) (hq : openJ st f = (0, some js, su)) : ObC 9 [.box 1000 0, .d (.int f)] (rsk 1000 1001 k fs st) [39] (fun x o => x = .tup [.box 39 0, .d (.int 0)] ∧ ∃ (k : Nat) (fs : List RFile), RkOk fs su ∧ o = rjrn 39 1000 1001 k fs js su) :=
  (rjopen_any hR f).mono fun x o h => by
    rw [hq] at h
    obtain ⟨k, fs, h1, ⟨h2, _⟩ | ⟨js', h2, h3, h4, h5⟩⟩ := h
    · cases h2
    · cases h2
      exact ⟨h4, k, fs, h1, h5⟩
theorem rjopen_no {f e : Int} (hR : RkOk fs st) (hq : openJ st f = (e, none, su)) : ObC 9 [.box 1000 0, .d (.int f)] (rsk 1000 1001 k fs st) [39] (fun x o => x = .tup [.d (.val (.pointer none)), .d (.int e)] ∧ ∃ (k : Nat) (fs : List RFile), RkOk fs su ∧ o = rsk 1000 1001 k fs su) :=
  (rjopen_any hR f).mono fun x o h => by
    rw [hq] at h
    obtain ⟨k, fs, h1, ⟨_, h2, h3⟩ | ⟨js', h2, _⟩⟩ := h
    · exact ⟨h2, k, fs, h1, h3⟩
    · cases h2
theorem RkOk.up (h : RkOk fs st) : RkOk fs (upS st) := ⟨h.get, h.nodup, h.num, ⟨h.ok.now, h.ok.last, h.ok.out, h.ok.nodup, h.ok.file, h.ok.num, h.ok.lost0, h.ok.armed0, h.ok.keepl⟩⟩
theorem RkOk.arm (h : RkOk fs st) {n : Int} {l : List Int} (hn : i64 n) (hl : l.length ≤ 50) : RkOk fs { st with armed := max n 0, keep := l } := ⟨h.get, h.nodup, h.num, ⟨h.ok.now, h.ok.last, h.ok.out, h.ok.nodup, h.ok.file, h.ok.num, h.ok.lost0, (by show 0 ≤ max n 0 ∧ max n 0 ≤ _; unfold i64 at hn; omega), (by show l.length ≤ _; omega)⟩⟩
theorem RkOk.losen (h : RkOk fs st) {n : Int} (hn : i64 n) : RkOk fs { st with lost := max n 0 } := h.lose (by unfold i64 at hn; omega)
theorem DkOk.losen {lm ls : List ME} (h : DkOk lm ls st) {n : Int} (hn : i64 n) : DkOk lm ls { st with lost := max n 0 } := ⟨h.f, h.s, ⟨h.ok.now, h.ok.last, h.ok.out, h.ok.nodup, h.ok.file, h.ok.num, (by show 0 ≤ max n 0 ∧ max n 0 ≤ _; unfold i64 at hn; omega), h.ok.armed0, h.ok.keepl⟩⟩
theorem DkOk.armn {lm ls : List ME} (h : DkOk lm ls st) {n : Int} {l : List Int} (hn : i64 n) (hl : l.length ≤ 50) : DkOk lm ls { st with armed := max n 0, keep := l } := ⟨h.f, h.s, ⟨h.ok.now, h.ok.last, h.ok.out, h.ok.nodup, h.ok.file, h.ok.num, h.ok.lost0, (by show 0 ≤ max n 0 ∧ max n 0 ≤ _; unfold i64 at hn; omega), (by show l.length ≤ _; omega)⟩⟩
theorem rstart_is (h : RkOk fs st) (hs : upS st = su) : ObC 23 [.box 1000 0] (rsk 1000 1001 k fs st) [] (fun x o => x = .tup [] ∧ o = rsk 1000 1001 k fs su) := by
  have _ := h
  exact hs ▸ rstart_any
theorem rread_is {f at_ size e : Int} {s : ByteArray} (h : RkOk fs st) (hz : size ≤ 9223372036854775807) (hr : readP st f at_ size = (s, e)) : ObC 28 [.box 1000 0, .d (.int f), .d (.int at_), .d (.int size)] (rsk 1000 1001 k fs st) [] (fun x o => x = .tup [.d (.str s), .d (.int e)] ∧ o = rsk 1000 1001 k fs st) := by
  have := rread_any (k := k) (f := f) (at_ := at_) h hz
  rwa [hr] at this
end
end Go.Proofs.YtfgibalcdjlnhaaGreatDoor
end
section
namespace Go.Proofs.YtfgibalcdjlnhaaGreatDoor
open Go.RowKit

/-- some bytes are 0 now, or missing at the end -/
def Zd (c l : List UInt8) : Prop := c.length ≤ l.length ∧ ∀ (i : Nat) (x : UInt8), c[i]? = some x → l[i]? = some x ∨ x = 0
theorem Zd.refl (l : List UInt8) : Zd l l := ⟨Nat.le_refl _, fun _ _ h => .inl h⟩
theorem Zd.drop {a b c l : List UInt8} (h : Zd (a ++ c) (b ++ l)) (hab : a.length = b.length) : Zd c l := by
  refine ⟨?_, fun i x hx => ?_⟩
  · have := h.1
    simp only [List.length_append] at this
    omega
  · have := h.2 (a.length + i) x (by rw [List.getElem?_append_right (by omega)]; simpa using hx)
    rw [List.getElem?_append_right (by omega), ← hab] at this
    simpa using this
theorem Zd.left {a b c l : List UInt8} (h : Zd (a ++ c) (b ++ l)) (hab : a.length = b.length) : Zd a b := by
  refine ⟨by omega, fun i x hx => ?_⟩
  have hi : i < a.length := (List.getElem?_eq_some_iff.1 hx).1
  have := h.2 i x (by rw [List.getElem?_append_left hi]; exact hx)
  rw [List.getElem?_append_left (by omega)] at this
  exact this
/-- what has no 0 stands there still -/
theorem Zd.same {a c l : List UInt8} (h : Zd (a ++ c) l) (ha : ∀ x ∈ a, x ≠ 0) : a <+: l := by
  rw [List.prefix_iff_getElem?]
  intro i hi
  have := h.2 i a[i] (by rw [List.getElem?_append_left hi, List.getElem?_eq_getElem hi])
  exact this.resolve_right (ha _ (List.getElem_mem hi))
/-- the sum without its modulus -/
def rawS : List UInt8 → Nat → Nat
  | [], _ => 0
  | c :: r, i => c.toNat * (i + 1) + rawS r (i + 1)
theorem recs_forms {l : List ByteArray} (hl : ∀ t ∈ l, t.size ≤ 20000) : Recs (forms l) l := ⟨hl, [], by simp, noform_nil⟩
end Go.Proofs.YtfgibalcdjlnhaaGreatDoor
end
section
namespace Go.Proofs.YtfgibalcdjlnhaaGreatDoor
open Go.RowKit Go.ChangeMaps

def bt (s : ByteArray) (i : Nat) : UInt8 := (s.data.toList[i]?).getD 0
end Go.Proofs.YtfgibalcdjlnhaaGreatDoor
end
section
namespace Go.Proofs.YtfgibalcdjlnhaaGreatDoor
open Go.RowKit

theorem upd_F {st : DS} (f : Int) (s : ByteArray) : (settleS st f s).F f = ⟨s, s⟩ := by
  unfold settleS
  simp only [upd_same]
theorem settle_pend (st : DS) (f : Int) (s : ByteArray) : ∀ p ∈ (settleS st f s).Q, p.1 ≠ f := by
  intro p hp
  have := (List.mem_filter.1 hp).2
  simpa using this
end Go.Proofs.YtfgibalcdjlnhaaGreatDoor
end
section
namespace Go.Proofs.YtfgibalcdjlnhaaGreatDoor
open Go.RowKit

theorem sync_plain {st : DS} {f : Int} (hu : Up st) (hl : st.lost = 0) (hf : 0 ≤ f ∧ f ≤ 15) : syncR st f = (0, settleS st f (st.F f).now) := by
  unfold syncR
  rw [hu.ends.1, hu.ends.2, if_neg (by decide), if_neg (by simp [hu.may hf]), if_neg (by omega)]
theorem trunc_plain {st : DS} {f n : Int} (hu : Up st) (hf : 0 ≤ f ∧ f ≤ 15) (h : 0 ≤ n ∧ n ≤ (st.F f).now.size) : truncR st f n = (0, settleS st f ((st.F f).now.extract 0 n.toNat)) := by
  unfold truncR
  rw [hu.ends.1, hu.ends.2, if_neg (by decide), if_neg (by simp [hu.may hf]), if_neg (by omega)]
theorem settle_other {st : DS} {f g : Int} (h : g ≠ f) (s : ByteArray) : (settleS st f s).F g = st.F g := by
  unfold settleS
  exact upd_ne _ _ h
/-- Open, where nothing fails -/
theorem open_plain {st : DS} {f : Int} (hu : Up st) (hl : st.lost = 0) (hf : 0 ≤ f ∧ f ≤ 15) :
    ∃ su, openJ st f = (0, some ⟨f, recsOf (L (st.F f).now), false⟩, su) ∧ L (su.F f).now = forms (recsOf (L (st.F f).now)) ∧ (su.F f).last = (su.F f).now ∧ Up su ∧ su.lost = 0 ∧ (∀ g, g ≠ f → su.F g = st.F g) ∧ ∀ p ∈ su.Q, p.1 ≠ f := by
  have hs := sync_plain hu hl hf
  have hR := recsOf_is (L (st.F f).now)
  have hle := hR.le
  rw [L_len] at hle
  have hF : (settleS st f (st.F f).now).F f = ⟨(st.F f).now, (st.F f).now⟩ := upd_F f _
  have h2 : (syncR st f).2 = settleS st f (st.F f).now := by rw [hs]
  have hO := openJ_is (rs := recsOf (L (st.F f).now)) hf (by rw [hs]) h2 (by rw [hF]) hR
  generalize recsOf (L (st.F f).now) = rs at hR hle hO ⊢
  by_cases hlt : (forms rs).length < (st.F f).now.size
  · have ht := trunc_plain (st := settleS st f (st.F f).now) (n := (forms rs).length) ⟨hu.1, hu.2⟩ hf (by rw [hF]; show 0 ≤ ((forms rs).length : Int) ∧ ((forms rs).length : Int) ≤ (st.F f).now.size; omega)
    rw [if_pos hlt, ht, if_neg (by simp)] at hO
    refine ⟨_, hO, ?_, by rw [upd_F], ⟨hu.1, hu.2⟩, hl, fun g hg => by rw [settle_other hg, settle_other hg], settle_pend _ _ _⟩
    rw [upd_F, hF]
    show L ((st.F f).now.extract 0 ((forms rs).length : Int).toNat) = _
    rw [Int.toNat_natCast]
    have : L ((st.F f).now.extract 0 (forms rs).length) = (L (st.F f).now).take (forms rs).length := ext_list _ _
    obtain ⟨q, h1, _⟩ := hR.rest
    rw [this, h1, List.take_left' rfl]
  · rw [if_neg hlt] at hO
    refine ⟨_, hO, ?_, by rw [upd_F], ⟨hu.1, hu.2⟩, hl, fun g hg => settle_other hg _, settle_pend _ _ _⟩
    rw [upd_F]
    obtain ⟨q, h1, _⟩ := hR.rest
    have h3 : q.length = 0 := by
      have := congrArg List.length h1
      rw [L_len, List.length_append] at this
      omega
    show L (st.F f).now = _
    rw [h1, List.eq_nil_of_length_eq_zero h3, List.append_nil]
end Go.Proofs.YtfgibalcdjlnhaaGreatDoor
end
section
namespace Go.Proofs.YtfgibalcdjlnhaaGreatDoor
open Go.ChangeShapes Go.WideShapes Go.ChangeAt Go.RowKit Go.Deep Go.Joins

abbrev laidL : List (String × DataW Unit) := [("math/bits.deBruijn32tab", Rows.laid_math_bits_deBruijn32tab), ("math/bits.deBruijn64tab", Rows.laid_math_bits_deBruijn64tab), ("internal/strconv.uint64pow10", Rows.laid_internal_strconv_uint64pow10), ("strconv.ErrRange", Rows.laid_strconv_ErrRange), ("strconv.ErrSyntax", Rows.laid_strconv_ErrSyntax)]
theorem gP : Tryz.prog.globalNamed "internal/strconv.uint64pow10" = some 3 := by kernel_rfl
theorem gR : Tryz.prog.globalNamed "strconv.ErrRange" = some 2 := by kernel_rfl
theorem gS : Tryz.prog.globalNamed "strconv.ErrSyntax" = some 1 := by kernel_rfl
theorem rowE : ∀ u, Tryz.prog.typeName? 3 u = some "*errors.errorString" → u = 149 := fun u h => by
  have star : "*" ++ "errors.errorString" = "*errors.errorString" := by decide
  exact typeName_ptr_named (nm := "errors.errorString") (by rw [star]; kernel_rfl) (by kernel_rfl) (by decide) u (by rw [star]; exact h)
theorem pow_data : (Rows.laid_internal_strconv_uint64pow10 : DataW Unit) = Lib.tabData .u64 Lib.pow10Tab := by
  unfold Rows.laid_internal_strconv_uint64pow10 Lib.tabData
  kernel_rfl
theorem env_cells {W : World} {Pr : Prot} {name : String} {g : Nat} {vs : List Value} {ds : List D} (hg : Tryz.prog.globalNamed name = some g) (hv : W.var? Tryz.prog name = some vs.toArray) (hP : ∀ o, Pr g o) (hl : vs.length = ds.length) (hr : ∀ (i : Nat) (v : Value) (d : D), vs[i]? = some v → ds[i]? = some d → RepD W Pr v d) :
    (∀ (j : Nat) (d : D), ds[j]? = some d → ∃ u, W.cell? ⟨g, j, none⟩ = some u ∧ Pr g j ∧ RepD W Pr u d) ∧ ∀ j, ds[j]? = none → W.cell? ⟨g, j, none⟩ = none ∧ Pr g j := by
  refine ⟨fun j d hd => ?_, fun j hd => ?_⟩
  · have hj : j < vs.length := by rw [hl]; exact (List.getElem?_eq_some_iff.1 hd).1
    refine ⟨vs[j], (World.var?_cell hg hv j).trans (by simp [hj]), hP j, hr j _ d (List.getElem?_eq_getElem hj) hd⟩
  · have hj : ds.length ≤ j := List.getElem?_eq_none_iff.1 hd
    exact ⟨(World.var?_cell hg hv j).trans (by simp; omega), hP j⟩
theorem reps_cons' {w : World} {Pr : Prot} {v : Value} {d : D} (h : RepD w Pr v d) : ∀ (i : Nat) (u : Value) (e : D), [v][i]? = some u → [d][i]? = some e → RepD w Pr u e
  | 0, _, _, h1, h2 => by cases h1; cases h2; exact h
  | i + 1, _, _, h1, _ => by simp at h1
theorem var_lt {W : World} {name : String} {g : Nat} {cs : Array Value} (hg : Tryz.prog.globalNamed name = some g) (hv : W.var? Tryz.prog name = some cs) : g < W.heap.size := by
  simp only [World.var?, hg, Option.bind_some] at hv
  cases hh : W.heap[g]? with
  | none => rw [hh] at hv; cases hv
  | some o => exact (Array.getElem?_eq_some_iff.1 hh).1
theorem env_of_laid {W : World} (h : laidMet Tryz.prog laidL W) : EnvOk W (fun b _ => b < W.heap.size) := by
  have h2 := h.tail.tail
  have hp := Lib.tabIs_of_head (t := 141) (e := 129) (n := 20) gP (by kernel_rfl) (by kernel_rfl) (by kernel_rfl) (by kernel_rfl) (by kernel_rfl) (pow_data ▸ h2)
  obtain ⟨a0, s0, hv0, -, -, -⟩ := laid_sentinel h2.tail gR (ti := 112) (by kernel_rfl) Tryz.underlying112 rowE Tryz.underlying149 Tryz.underlying151 rfl rfl Tryz.underlying9 (by kernel_rfl) (by kernel_rfl)
  obtain ⟨a1, s1, hv1, -, -, -⟩ := laid_sentinel h2.tail.tail gS (ti := 112) (by kernel_rfl) Tryz.underlying112 rowE Tryz.underlying149 Tryz.underlying151 rfl rfl Tryz.underlying9 (by kernel_rfl) (by kernel_rfl)
  intro g l hm
  unfold laidG at hm
  rcases List.mem_cons.1 hm with e | hm
  · cases e
    refine env_cells (Pr := fun b _ => b < W.heap.size) gP hp (fun _ => var_lt gP hp) (by simp) (fun i v d h1 h2 => ?_)
    rw [List.getElem?_map, h1] at h2
    cases h2
    exact .val _
  rcases List.mem_cons.1 hm with e | hm
  · cases e
    refine env_cells (Pr := fun b _ => b < W.heap.size) (vs := [_]) gS hv1 (fun _ => var_lt gS hv1) rfl (reps_cons' (.err _ _))
  rcases List.mem_cons.1 hm with e | hm
  · cases e
    refine env_cells (Pr := fun b _ => b < W.heap.size) (vs := [_]) gR hv0 (fun _ => var_lt gR hv0) rfl (reps_cons' (.err _ _))
  · cases hm
def dataVals : DataW Unit → List Value
  | .agg l => l.map fun
    | .lit (.int k z) => .int k z
    | _ => .nilFunc
  | _ => []
abbrev synS : ByteArray := { data := #[105, 110, 118, 97, 108, 105, 100, 32, 115, 121, 110, 116, 97, 120] }
abbrev rngS : ByteArray := { data := #[118, 97, 108, 117, 101, 32, 111, 117, 116, 32, 111, 102, 32, 114, 97, 110, 103, 101] }
/-- So many blocks has the settled world. -/
noncomputable def low : Nat := (World.holding Tryz.prog default ⟨#[], #[], []⟩).heap.size
def setVar (h : Array Obj) (g : Nat) (vs : List Value) : Array Obj := h.modify g fun
  | .cells _ t frozen => .cells vs.toArray t frozen
  | o => o
/-- The settled world, with the variables as they are listed. -/
noncomputable def laidWorld (os : Os) : World :=
  let w0 := World.holding Tryz.prog os ⟨#[.cells #[.string rngS] 151, .cells #[.string synS] 151], #[], []⟩
  { w0 with heap := setVar (setVar (setVar (setVar (setVar w0.heap 4 (dataVals Rows.laid_math_bits_deBruijn32tab)) 5 (dataVals Rows.laid_math_bits_deBruijn64tab)) 3 (dataVals Rows.laid_internal_strconv_uint64pow10))
      2 [.iface 149 (.pointer (some ⟨low, 0, none⟩))]) 1 [.iface 149 (.pointer (some ⟨low + 1, 0, none⟩))] }
theorem laid_met (os : Os) (args : Array Value) : laidMet Tryz.prog laidL ((laidWorld os).forCall (fun _ _ => 0) ⟨#[], args, []⟩).memory :=
  laidMet_of_run (ps := (List.range 32).map (MemPlace.cell 4) ++ (List.range 64).map (MemPlace.cell 5) ++ (List.range 20).map (MemPlace.cell 3) ++ [.cell 2 0, .cell low 0, .cell 1 0, .cell (low + 1) 0]) 8 (by kernel_rfl) (by kernel_rfl) (by kernel_rfl)
/-- What a walk of a law over abstract values says of a call. -/
theorem law_call {f : FuncId} {ds : List D} {w : World} {vs : List Value} (h : PureC f ds (· = .bool true)) (hL : laidMet Tryz.prog laidL w) (hl : vs.length = ds.length)
    (hr : ∀ (i : Nat) (v : Value) (d : D), vs[i]? = some v → ds[i]? = some d → RepD w (fun b _ => b < w.heap.size) v d) :
    Calls Tryz.prog f vs.toArray w fun e w' => e = .returned (.bool true) ∧ Below w.heap.size w w' := by
  refine (h.2 w (fun b _ => b < w.heap.size) vs (fun _ _ h => h) (env_of_laid hL) hl hr).mono fun e w' ⟨v, r, he, hp, hrep, hb⟩ => ?_
  subst hp
  cases hrep
  exact ⟨he, hb⟩
end Go.Proofs.YtfgibalcdjlnhaaGreatDoor
end
section
namespace Go.Proofs.YtfgibalcdjlnhaaGreatDoor
open Go.ChangeShapes Go.WideShapes Go.ChangeAt Go.RowKit Go.Deep Go.Joins

theorem i64_of {n : Int} (h : IntKind.i64.min ≤ n ∧ n ≤ IntKind.i64.max) : i64 n := by simpa [i64, IntKind.min, IntKind.max, IntKind.signed, IntKind.bits] using h
theorem max_of {n : Nat} (h : n ≤ maxLen) : n ≤ 9223372036854775807 := by unfold maxLen at h; omega
section
variable {H : Type} {enc : TypeId × Value → H} {w : World} {base : Nat}
theorem show_ints : Show enc Tryz.prog w base 36 1 (fun l : List Int => [.list 1 (l.map fun n => [.int n])]) (fun l => l.length ≤ maxLen ∧ ∀ e ∈ l, IntKind.i64.min ≤ e ∧ e ≤ IntKind.i64.max) :=
  show_list Tryz.underlying36 (by kernel_rfl) (by decide) (show_int Tryz.underlying3)
/-- what comes in as an operation -/
structure Opn.In (o : Opn) : Prop where
  kind : i64 o.kind
  s : o.s.size ≤ 9223372036854775807
  n : i64 o.n
  keep : o.keep.length ≤ 9223372036854775807
theorem show_op : Show enc Tryz.prog w base 38 4 Opn.cells Opn.In :=
  (show_struct Tryz.underlying38 (by kernel_rfl) (shows_cons (show_int Tryz.underlying3) rfl (by kernel_rfl) (shows_cons (show_string Tryz.underlying9) rfl (by kernel_rfl) (shows_cons (show_int Tryz.underlying3) rfl (by kernel_rfl) (shows_cons show_ints rfl (by kernel_rfl) shows_nil))))).as Opn.cells _
    (fun x => ⟨x.1, x.2.1, x.2.2.1, x.2.2.2.1⟩) (fun _ => rfl) (fun x h => ⟨i64_of h.1, max_of h.2.1, i64_of h.2.2.1, max_of h.2.2.2.1.1⟩)
theorem show_ops : Show enc Tryz.prog w base 22 1 (fun l : List Opn => [.list 4 (l.map Opn.cells)]) (fun l => l.length ≤ maxLen ∧ ∀ e ∈ l, e.In) :=
  show_list Tryz.underlying22 (by kernel_rfl) (by decide) show_op
end
end Go.Proofs.YtfgibalcdjlnhaaGreatDoor
end
