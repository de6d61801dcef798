/-
  Conditions: none.
-/
import Derived.Test.YtgiacdhffklenaaMao
set_option maxHeartbeats 16000000
set_option maxRecDepth 20000
section
set_option linter.unusedSimpArgs false
set_option linter.unusedVariables false
namespace Go.Proofs.Ytgiacdhffklenaa
open Go.RowKit
theorem scoped_names (ls : List (ByteArray × Ex)) : (scopedU ls).map (·.1) = ls.map (·.1) := by
 have key : ∀ (sc : List (ByteArray × Int)), (ls.foldl (fun sc q => sc ++ [(q.1, (q.2.unitU sc).un)]) sc).map (·.1) = sc.map (·.1) ++ ls.map (·.1) := by
  induction ls with
  | nil => intro sc; simp
  | cons q r ih =>
   intro sc
   rw [List.foldl_cons, ih]
   simp
 have := key []
 simpa [scopedU] using this
theorem scoped_ok {ls : List (ByteArray × Ex)} (h : ls.length ≤ 1000) : ScOk ls (scopedU ls) := ⟨(scoped_names ls).symm, h⟩
theorem bad_code {sc : List (ByteArray × Int)} {e : Ex} {p : List Int} {c : Int} (h : e.right 12 = true) (hb : e.unitU sc = .bad p c) : c = 13 ∨ c = 14 := by
 obtain ⟨part, _, hp⟩ := placed_at p sc e c (placed 12 sc e p c h hb).1
 exact hp.2.2.2
theorem tod_two {ob : Objs} {i k j m e s f t : Nat} {l r : List (List D)} (h1 : find ob i = some (.row e s k l)) (h2 : find ob j = some (.row f t m r)) : ToD ob (.agg [.row i k, .row j m]) (.agg [.list s l, .list t r]) :=
 .agg _ _ rfl fun n v d k1 k2 => by
  match n with
  | 0 => cases k1; cases k2; exact .row _ _ _ _ _ h1
  | 1 => cases k1; cases k2; exact .row _ _ _ _ _ h2
  | n + 2 => simp at k1
theorem one_letc (q : ByteArray × Ex) : ∀ x ∈ [letC q], ∀ z ∈ x, D.one z = true := by
 intro x hx z hz
 simp only [List.mem_singleton] at hx
 subst hx
 simp only [letC, List.mem_cons, List.not_mem_nil, or_false] at hz
 rcases hz with rfl | rfl | rfl | rfl | rfl | rfl <;> rfl
theorem scoped_any (ls : List (ByteArray × Ex)) (hl : ls.length ≤ 100) (hr : ∀ q ∈ ls, Ex.right q.2 12 = true) (ht : ∀ q ∈ ls, Ex.tame q.2) : PureC 32 [letsD ls] (· = scD ls (scopedU ls)) := by
 have hlen : (ls.map letC).length = ls.length := List.length_map ..
 refine pure_enter Try.func32 rfl (by decide) _ Try.ntmps32 (le_ok rfl) (fun w Pr hE => ?_)
 dsimp only [slotsOf, Nat.zero_add, Nat.reduceAdd]
 repeat' (first | refine nx ?_ | (apply aq_block_y; decide) | (apply qr_move; refine r_move ?_) | (apply at_cond; first | refine c_t ?_ | refine c_f ?_ | (refine aw_cond rfl (fun hb => ?_) (fun hb => ?_) <;> ((try have hq := dX hb); (try (exfalso; omega))))) | (apply qr_len; refine r_len ?_) | (apply qr_alloc; refine r_alloc ?_))
 refine aw_adoptb 3 0 30 46 6 rfl rfl rfl (lt_ok rfl) rfl rfl ?_
 refine aw_adoptb 3 1 31 3 1 rfl rfl rfl (lt_ok rfl) rfl rfl ?_
 refine aw_lp (fun N sl ob => ∃ i k m : Nat, N = ls.length - i ∧ i ≤ ls.length ∧ sl = [(10, .d (.int i)), (9, .d (.int ls.length)), (8, .d (letsD ls)), (3, .box 3 0), (2, .box 2 0)] ∧ ob = [(3, .box 61 [.row 30 k, .row 31 m]), (2, .box 61 [.d (.val (.slice none 0 0)), .d (.val (.slice none 0 0))]), (30, .row 46 6 k ((ls.take i).map letC)), (31, .row 3 1 m (((scopedU (ls.take i)).map (·.2)).map fun n => [D.int n]))]) (⟨0, 0, 0, rfl, Nat.zero_le _, rfl, rfl⟩) ?_
 rintro N sl ob ⟨i, k, m, rfl, hi, rfl, rfl⟩
 by_cases hlt : i < ls.length
 ·have hg : (ls.map letC)[i]? = some (letC ls[i]) := by rw [get_map hlt]
  have hqr := hr ls[i] (List.getElem_mem hlt)
  have hun := unit_any (scoped_ok (ls := ls.take i) (by rw [List.length_take]; omega)) ls[i].2 hqr (tame_wide (ht ls[i] (List.getElem_mem hlt)))
  have hsn := scoped_snoc (ls.take i) ls[i]
  have hL2 : (ls.take i).map letC ++ [letC ls[i]] = (ls.take (i + 1)).map letC := by rw [List.take_succ_eq_append_getElem hlt, List.map_append]; rfl
  rw [← List.take_succ_eq_append_getElem hlt] at hsn
  have hU0 : ((scopedU (ls.take i)).map (·.2)).map (fun n => [D.int n]) ++ [[D.int (ls[i].2.unitU (scopedU (ls.take i))).un]] = ((scopedU (ls.take (i + 1))).map (·.2)).map (fun n => [D.int n]) := by rw [hsn]; simp
  have hll : ((ls.take i).map letC).length ≤ 100 := by simp; omega
  have hml : (((scopedU (ls.take i)).map (·.2)).map (fun n => [D.int n])).length ≤ 100 := by simp [scoped_len]; omega
  generalize ls[i] = q at hg hqr hun hsn hL2 hU0
  cases hx : q.2.unitU (scopedU (ls.take i)) with
  | ok u =>
   rw [hx] at hun hU0
   have hU := hU0
   simp only [UR.un] at hU
   clear hU0 hx
   repeat' (first | (apply at_op (.indexAddr _ _ _); refine al_ixq hg ?_) | (apply at_op (.load _ (.tmp 3)); refine al_y (y_bloadV rfl rfl rfl rfl rfl (by decide)) (lt_ok rfl) ?_; refine al_told 15 (tod_two rfl rfl) ?_) | (apply at_call; refine k_call (hun) hE ?_; rintro _ rfl) | refine nx ?_ | (apply aq_block_y; decide) | (apply qr_move; refine r_move ?_) | (apply qr_assign; refine r_assign ?_) | (apply at_cond; first | refine c_t ?_ | refine c_f ?_ | (refine aw_cond rfl (fun hb => ?_) (fun hb => ?_) <;> ((try have hq := dX hb); (try (exfalso; omega))))) | (apply qr_lss; refine r_lss ?_) | (apply qr_neq; refine r_neq ?_) | (apply qr_extract; refine r_extract ?_) | (apply qr_ix; refine r_ix ?_) | (apply qr_load; refine r_load ?_) | (apply qr_faddr; refine r_faddr ?_) | (apply qr_alloc; refine r_alloc ?_) | (apply qr_store; refine r_store ?_))
   generalize (ls.take i).map letC = L at *
   generalize ((scopedU (ls.take i)).map (·.2)).map (fun n => [D.int n]) = M at *
   clear hun hsn
   refine aw_tree ((.free 0 (.free 2 (.free 5 (.free 7 (.fork (.alt 1 (.fork (.alt 3 (.fork (.alt 4 (.fork (.alt 6 (.free 10 (.only 8 (.only 9 (.only 11 .tail)))) (.alt 8 (.only 6 (.free 10 (.only 9 (.only 11 .tail)))) .stop))) (.alt 6 (.fork (.alt 4 (.free 10 (.only 8 (.only 9 (.only 11 .tail)))) (.alt 8 (.only 4 (.free 10 (.only 9 (.only 11 .tail)))) .stop))) (.alt 8 (.fork (.alt 4 (.only 6 (.free 10 (.only 9 (.only 11 .tail)))) (.alt 6 (.only 4 (.free 10 (.only 9 (.only 11 .tail)))) .stop))) .stop)))) (.alt 6 (.fork (.alt 3 (.fork (.alt 4 (.free 10 (.only 8 (.only 9 (.only 11 .tail)))) (.alt 8 (.only 4 (.free 10 (.only 9 (.only 11 .tail)))) .stop))) (.alt 8 (.only 3 (.only 4 (.free 10 (.only 9 (.only 11 .tail))))) .stop))) (.alt 8 (.fork (.alt 3 (.fork (.alt 4 (.only 6 (.free 10 (.only 9 (.only 11 .tail)))) (.alt 6 (.only 4 (.free 10 (.only 9 (.only 11 .tail)))) .stop))) (.alt 6 (.only 3 (.only 4 (.free 10 (.only 9 (.only 11 .tail))))) .stop))) .stop)))) (.alt 3 (.fork (.alt 1 (.fork (.alt 4 (.fork (.alt 6 (.free 10 (.only 8 (.only 9 (.only 11 .tail)))) (.alt 8 (.only 6 (.free 10 (.only 9 (.only 11 .tail)))) .stop))) (.alt 6 (.fork (.alt 4 (.free 10 (.only 8 (.only 9 (.only 11 .tail)))) (.alt 8 (.only 4 (.free 10 (.only 9 (.only 11 .tail)))) .stop))) (.alt 8 (.fork (.alt 4 (.only 6 (.free 10 (.only 9 (.only 11 .tail)))) (.alt 6 (.only 4 (.free 10 (.only 9 (.only 11 .tail)))) .stop))) .stop)))) (.alt 6 (.fork (.alt 1 (.fork (.alt 4 (.free 10 (.only 8 (.only 9 (.only 11 .tail)))) (.alt 8 (.only 4 (.free 10 (.only 9 (.only 11 .tail)))) .stop))) (.alt 8 (.only 1 (.only 4 (.free 10 (.only 9 (.only 11 .tail))))) .stop))) (.alt 8 (.fork (.alt 1 (.fork (.alt 4 (.only 6 (.free 10 (.only 9 (.only 11 .tail)))) (.alt 6 (.only 4 (.free 10 (.only 9 (.only 11 .tail)))) .stop))) (.alt 6 (.only 1 (.only 4 (.free 10 (.only 9 (.only 11 .tail))))) .stop))) .stop)))) (.alt 6 (.fork (.alt 1 (.fork (.alt 3 (.fork (.alt 4 (.free 10 (.only 8 (.only 9 (.only 11 .tail)))) (.alt 8 (.only 4 (.free 10 (.only 9 (.only 11 .tail)))) .stop))) (.alt 8 (.only 3 (.only 4 (.free 10 (.only 9 (.only 11 .tail))))) .stop))) (.alt 3 (.fork (.alt 1 (.fork (.alt 4 (.free 10 (.only 8 (.only 9 (.only 11 .tail)))) (.alt 8 (.only 4 (.free 10 (.only 9 (.only 11 .tail)))) .stop))) (.alt 8 (.only 1 (.only 4 (.free 10 (.only 9 (.only 11 .tail))))) .stop))) (.alt 8 (.fork (.alt 1 (.only 3 (.only 4 (.free 10 (.only 9 (.only 11 .tail))))) (.alt 3 (.only 1 (.only 4 (.free 10 (.only 9 (.only 11 .tail))))) .stop))) .stop)))) (.alt 8 (.fork (.alt 1 (.fork (.alt 3 (.fork (.alt 4 (.only 6 (.free 10 (.only 9 (.only 11 .tail)))) (.alt 6 (.only 4 (.free 10 (.only 9 (.only 11 .tail)))) .stop))) (.alt 6 (.only 3 (.only 4 (.free 10 (.only 9 (.only 11 .tail))))) .stop))) (.alt 3 (.fork (.alt 1 (.fork (.alt 4 (.only 6 (.free 10 (.only 9 (.only 11 .tail)))) (.alt 6 (.only 4 (.free 10 (.only 9 (.only 11 .tail)))) .stop))) (.alt 6 (.only 1 (.only 4 (.free 10 (.only 9 (.only 11 .tail))))) .stop))) (.alt 6 (.fork (.alt 1 (.only 3 (.only 4 (.free 10 (.only 9 (.only 11 .tail))))) (.alt 3 (.only 1 (.only 4 (.free 10 (.only 9 (.only 11 .tail))))) .stop))) .stop)))) .stop)))))))))) [12, 13] ([(5, .box 46 ((letC q).map V.d)), (2, .box 61 [.d (.val (.slice none 0 0)), .d (.val (.slice none 0 0))])]) ([(33, .row 31 (m + 1)), (10, .d (.int i)), (9, .d (.int ls.length)), (8, .d (letsD ls)), (3, .box 3 0), (2, .box 2 0)]) ([(3, .box 61 [.row 30 (k + 1), .row 31 m]), (30, .row 46 6 (k + 1) (L ++ [letC q])), (31, .row 3 1 (m + 1) (M ++ [[D.int (u)]])), (2, .box 61 [.d (.val (.slice none 0 0)), .d (.val (.slice none 0 0))])]) (by kernel_rfl) (by kernel_rfl) (by kernel_rfl) rfl (by decide) (by (repeat (first | exact obs_nil | (apply obs_cons; focus (first | rfl | (simp [find]; done)))))) (fun hrest => ?_) ?_
   ·simp only [tailed, List.filterMap_cons, List.filterMap_nil, List.getElem?_cons_zero, List.getElem?_cons_succ] at hrest
    repeat' (first | apply am_fork | apply am_alt | exact am_stop | refine am_free rfl ?_ | refine am_only rfl ?_ | refine am_leaf hrest (by (repeat (first | exact sub_nil | (apply sub_cons; focus (first | rfl | exact vint (by first | omega) | (simp [look]; done)))))) (by (repeat (first | exact obs_nil | (apply obs_cons; focus (first | rfl | (simp [find]; done)))))) | refine m_skip ?_ | refine n_skip ?_ | (apply at_am (.load _ _); refine am_nowd (by first | exact want_none | exact want_yes rfl rfl (by assumption) | exact want_yes rfl rfl (by with_reducible rfl)) (y_bload1 rfl rfl rfl rfl) (lt_ok rfl) ?_; dsimp only [flatV, flat, D.plain, D.plainL]) | (apply at_am (.call { callee := .builtin .append, args := _, argTypes := _ }); first | refine am_append (by first | exact want_none | exact want_yes rfl rfl (by assumption) | exact want_yes rfl rfl (by with_reducible rfl)) rfl rfl rfl (by first | exact ToD.d _ | exact ToD.row _ _ _ _ _ rfl) rfl rfl (one_letc q) (by decide) (by simp only [List.length_cons, List.length_nil]; omega) (by simp only [List.length_cons, List.length_nil]; omega) (lt_ok rfl) ?_ | refine am_append (by first | exact want_none | exact want_yes rfl rfl (by assumption) | exact want_yes rfl rfl (by with_reducible rfl)) rfl rfl rfl (by first | exact ToD.d _ | exact ToD.row _ _ _ _ _ rfl) rfl rfl (by simp [D.one, Value.oneCell']) (by decide) (by simp only [List.length_cons, List.length_nil]; omega) (by simp only [List.length_cons, List.length_nil]; omega) (lt_ok rfl) ?_) | (apply at_am (.store _ _ _); refine am_store (by first | exact want_none | exact want_yes rfl rfl (by assumption) | exact want_yes rfl rfl (by with_reducible rfl)) rfl rfl rfl (ev_row rfl) nofun (by first | (simp only [normV, normList, normMap]; rfl) | rfl) (by simp [V.one, Value.oneCell']) (.inl ⟨rfl, rfl⟩) rfl (le_ok rfl) (by first | (simp only [normV, normList, normMap]; rfl) | rfl) ?_) | (apply qm_move; refine m_move ?_) | (apply qm_load; refine m_load ?_) | (apply qn_load; refine n_load ?_) | (apply qm_faddr; refine m_faddr ?_) | (apply at_am (.buildSlice _ _ _); first | refine am_lit1 (by first | exact want_none | exact want_yes rfl rfl (by assumption) | exact want_yes rfl rfl (by with_reducible rfl)) rfl (by first | exact ToD.d _ | exact ToD.row _ _ _ _ _ rfl) (by first | (simp only [normV, normList, normMap]; rfl) | rfl) rfl (le_ok rfl) (lt_ok rfl) ?_ | refine am_lit (by first | exact want_none | exact want_yes rfl rfl (by assumption) | exact want_yes rfl rfl (by with_reducible rfl)) rfl (by repeat (first | exact PartsD.nil | (apply PartsD.cons; first | exact ToD.d _ | exact ToD.row _ _ _ _ _ rfl))) (by simp [dfill, putD, cellsD, zerosD, Value.cells]; rfl) (by first | (simp only [normV, normList, normMap]; rfl) | rfl) (by decide) (by decide) (lt_ok rfl) ?_) | (apply at_am (.alloc _); refine am_alloc (by first | exact want_none | exact want_yes rfl rfl (by assumption) | exact want_yes rfl rfl (by with_reducible rfl)) rfl (by first | (simp only [normV, normList, normMap]; rfl) | rfl) rfl (lt_ok rfl) rfl rfl rfl ?_) | (apply at_am (.store _ _ _); first | refine am_store (by first | exact want_none | exact want_yes rfl rfl (by assumption) | exact want_yes rfl rfl (by with_reducible rfl)) rfl rfl rfl (ev_d rfl) nofun (by first | (simp only [normV, normList, normMap]; rfl) | rfl) (by simp [V.one, Value.oneCell']) (.inl ⟨rfl, rfl⟩) rfl (le_ok rfl) (by first | (simp only [normV, normList, normMap]; rfl) | rfl) ?_ | refine am_store (by first | exact want_none | exact want_yes rfl rfl (by assumption) | exact want_yes rfl rfl (by with_reducible rfl)) rfl rfl rfl (ev_d rfl) nofun (by first | (simp only [normV, normList, normMap]; rfl) | rfl) (by simp [V.one, Value.oneCell']) (.inr rfl) rfl (le_ok rfl) (by first | (simp only [normV, normList, normMap]; rfl) | rfl) ?_) | (refine am_split rfl rfl (fun hb => ?_) (fun hb => ?_) <;> ((try have hq := dX hb); (try (exfalso; omega)))))
   simp only [tailed, List.filterMap_cons, List.filterMap_nil, List.getElem?_cons_zero, List.getElem?_cons_succ]
   repeat' (first | (apply at_op (.store _ _ _); refine al_step (st_store rfl rfl (ev_row rfl) nofun (by first | (simp only [normV, normList, normMap]; rfl) | rfl) (by simp [V.one, Value.oneCell']) (.inl ⟨rfl, rfl⟩) rfl (le_ok rfl) (by first | (simp only [normV, normList, normMap]; rfl) | rfl)) rfl ?_) | refine nx ?_ | (apply aq_block_y; decide) | (apply qr_move; refine r_move ?_) | (apply at_cond; first | refine c_t ?_ | refine c_f ?_ | (refine aw_cond rfl (fun hb => ?_) (fun hb => ?_) <;> ((try have hq := dX hb); (try (exfalso; omega))))) | (apply qr_load; refine r_load ?_) | (apply qr_faddr; refine r_faddr ?_) | (apply qr_store; refine r_store ?_) | (apply qr_lits; refine r_lits ?_) | (apply qr_appd; refine r_appd ?_))
   rw [hL2, hU]
   repeat' (first | refine nx ?_ | (apply aq_block_y; decide) | (apply qr_move; refine r_move ?_) | (apply at_cond; first | refine c_t ?_ | refine c_f ?_ | (refine aw_cond rfl (fun hb => ?_) (fun hb => ?_) <;> ((try have hq := dX hb); (try (exfalso; omega))))) | (apply qr_add; refine r_add ?_))
   refine aq_rd (⟨i + 1, k + 1, m + 1, rfl, by omega, rfl, rfl⟩) (by omega)
  | bad p c =>
   have hc := bad_code hqr hx
   rw [hx] at hun hU0
   have hU := hU0
   simp only [UR.un] at hU
   have q6 : (!decide (c = 0)) = true := by
    rw [decide_eq_false (by omega)]
    rfl
   clear hU0 hx hc
   repeat' (first | (apply at_op (.indexAddr _ _ _); refine al_ixq hg ?_) | (apply at_op (.load _ (.tmp 3)); refine al_y (y_bloadV rfl rfl rfl rfl rfl (by decide)) (lt_ok rfl) ?_; refine al_told 15 (tod_two rfl rfl) ?_) | (apply at_call; refine k_call (hun) hE ?_; rintro _ rfl) | refine nx ?_ | (apply aq_block_y; decide) | (apply qr_move; refine r_move ?_) | (apply qr_assign; refine r_assign ?_) | (apply at_cond; first | refine c_t ?_ | refine c_f ?_ | (refine aw_cond rfl (fun hb => ?_) (fun hb => ?_) <;> ((try have hq := dX hb); (try (exfalso; omega))))) | (apply qr_lss; refine r_lss ?_) | (apply qr_neq; refine r_neq ?_) | (apply qr_extract; refine r_extract ?_) | (apply qr_ix; refine r_ix ?_) | (apply qr_load; refine r_load ?_) | (apply qr_faddr; refine r_faddr ?_) | (apply qr_alloc; refine r_alloc ?_) | (apply qr_store; refine r_store ?_))
   generalize (ls.take i).map letC = L at *
   generalize ((scopedU (ls.take i)).map (·.2)).map (fun n => [D.int n]) = M at *
   clear hun hsn
   refine aw_tree ((.free 0 (.free 2 (.free 5 (.free 7 (.fork (.alt 1 (.fork (.alt 3 (.fork (.alt 4 (.fork (.alt 6 (.free 10 (.only 8 (.only 9 (.only 11 .tail)))) (.alt 8 (.only 6 (.free 10 (.only 9 (.only 11 .tail)))) .stop))) (.alt 6 (.fork (.alt 4 (.free 10 (.only 8 (.only 9 (.only 11 .tail)))) (.alt 8 (.only 4 (.free 10 (.only 9 (.only 11 .tail)))) .stop))) (.alt 8 (.fork (.alt 4 (.only 6 (.free 10 (.only 9 (.only 11 .tail)))) (.alt 6 (.only 4 (.free 10 (.only 9 (.only 11 .tail)))) .stop))) .stop)))) (.alt 6 (.fork (.alt 3 (.fork (.alt 4 (.free 10 (.only 8 (.only 9 (.only 11 .tail)))) (.alt 8 (.only 4 (.free 10 (.only 9 (.only 11 .tail)))) .stop))) (.alt 8 (.only 3 (.only 4 (.free 10 (.only 9 (.only 11 .tail))))) .stop))) (.alt 8 (.fork (.alt 3 (.fork (.alt 4 (.only 6 (.free 10 (.only 9 (.only 11 .tail)))) (.alt 6 (.only 4 (.free 10 (.only 9 (.only 11 .tail)))) .stop))) (.alt 6 (.only 3 (.only 4 (.free 10 (.only 9 (.only 11 .tail))))) .stop))) .stop)))) (.alt 3 (.fork (.alt 1 (.fork (.alt 4 (.fork (.alt 6 (.free 10 (.only 8 (.only 9 (.only 11 .tail)))) (.alt 8 (.only 6 (.free 10 (.only 9 (.only 11 .tail)))) .stop))) (.alt 6 (.fork (.alt 4 (.free 10 (.only 8 (.only 9 (.only 11 .tail)))) (.alt 8 (.only 4 (.free 10 (.only 9 (.only 11 .tail)))) .stop))) (.alt 8 (.fork (.alt 4 (.only 6 (.free 10 (.only 9 (.only 11 .tail)))) (.alt 6 (.only 4 (.free 10 (.only 9 (.only 11 .tail)))) .stop))) .stop)))) (.alt 6 (.fork (.alt 1 (.fork (.alt 4 (.free 10 (.only 8 (.only 9 (.only 11 .tail)))) (.alt 8 (.only 4 (.free 10 (.only 9 (.only 11 .tail)))) .stop))) (.alt 8 (.only 1 (.only 4 (.free 10 (.only 9 (.only 11 .tail))))) .stop))) (.alt 8 (.fork (.alt 1 (.fork (.alt 4 (.only 6 (.free 10 (.only 9 (.only 11 .tail)))) (.alt 6 (.only 4 (.free 10 (.only 9 (.only 11 .tail)))) .stop))) (.alt 6 (.only 1 (.only 4 (.free 10 (.only 9 (.only 11 .tail))))) .stop))) .stop)))) (.alt 6 (.fork (.alt 1 (.fork (.alt 3 (.fork (.alt 4 (.free 10 (.only 8 (.only 9 (.only 11 .tail)))) (.alt 8 (.only 4 (.free 10 (.only 9 (.only 11 .tail)))) .stop))) (.alt 8 (.only 3 (.only 4 (.free 10 (.only 9 (.only 11 .tail))))) .stop))) (.alt 3 (.fork (.alt 1 (.fork (.alt 4 (.free 10 (.only 8 (.only 9 (.only 11 .tail)))) (.alt 8 (.only 4 (.free 10 (.only 9 (.only 11 .tail)))) .stop))) (.alt 8 (.only 1 (.only 4 (.free 10 (.only 9 (.only 11 .tail))))) .stop))) (.alt 8 (.fork (.alt 1 (.only 3 (.only 4 (.free 10 (.only 9 (.only 11 .tail))))) (.alt 3 (.only 1 (.only 4 (.free 10 (.only 9 (.only 11 .tail))))) .stop))) .stop)))) (.alt 8 (.fork (.alt 1 (.fork (.alt 3 (.fork (.alt 4 (.only 6 (.free 10 (.only 9 (.only 11 .tail)))) (.alt 6 (.only 4 (.free 10 (.only 9 (.only 11 .tail)))) .stop))) (.alt 6 (.only 3 (.only 4 (.free 10 (.only 9 (.only 11 .tail))))) .stop))) (.alt 3 (.fork (.alt 1 (.fork (.alt 4 (.only 6 (.free 10 (.only 9 (.only 11 .tail)))) (.alt 6 (.only 4 (.free 10 (.only 9 (.only 11 .tail)))) .stop))) (.alt 6 (.only 1 (.only 4 (.free 10 (.only 9 (.only 11 .tail))))) .stop))) (.alt 6 (.fork (.alt 1 (.only 3 (.only 4 (.free 10 (.only 9 (.only 11 .tail))))) (.alt 3 (.only 1 (.only 4 (.free 10 (.only 9 (.only 11 .tail))))) .stop))) .stop)))) .stop)))))))))) [12, 13] ([(5, .box 46 ((letC q).map V.d)), (2, .box 61 [.d (.val (.slice none 0 0)), .d (.val (.slice none 0 0))])]) ([(33, .row 31 (m + 1)), (10, .d (.int i)), (9, .d (.int ls.length)), (8, .d (letsD ls)), (3, .box 3 0), (2, .box 2 0)]) ([(3, .box 61 [.row 30 (k + 1), .row 31 m]), (30, .row 46 6 (k + 1) (L ++ [letC q])), (31, .row 3 1 (m + 1) (M ++ [[D.int (-1)]])), (2, .box 61 [.d (.val (.slice none 0 0)), .d (.val (.slice none 0 0))])]) (by kernel_rfl) (by kernel_rfl) (by kernel_rfl) rfl (by decide) (by (repeat (first | exact obs_nil | (apply obs_cons; focus (first | rfl | (simp [find]; done)))))) (fun hrest => ?_) ?_
   ·simp only [tailed, List.filterMap_cons, List.filterMap_nil, List.getElem?_cons_zero, List.getElem?_cons_succ] at hrest
    repeat' (first | apply am_fork | apply am_alt | exact am_stop | refine am_free rfl ?_ | refine am_only rfl ?_ | refine am_leaf hrest (by (repeat (first | exact sub_nil | (apply sub_cons; focus (first | rfl | exact vint (by first | omega) | (simp [look]; done)))))) (by (repeat (first | exact obs_nil | (apply obs_cons; focus (first | rfl | (simp [find]; done)))))) | refine m_skip ?_ | refine n_skip ?_ | (apply at_am (.load _ _); refine am_nowd (by first | exact want_none | exact want_yes rfl rfl (by assumption) | exact want_yes rfl rfl (by with_reducible rfl)) (y_bload1 rfl rfl rfl rfl) (lt_ok rfl) ?_; dsimp only [flatV, flat, D.plain, D.plainL]) | (apply at_am (.call { callee := .builtin .append, args := _, argTypes := _ }); first | refine am_append (by first | exact want_none | exact want_yes rfl rfl (by assumption) | exact want_yes rfl rfl (by with_reducible rfl)) rfl rfl rfl (by first | exact ToD.d _ | exact ToD.row _ _ _ _ _ rfl) rfl rfl (one_letc q) (by decide) (by simp only [List.length_cons, List.length_nil]; omega) (by simp only [List.length_cons, List.length_nil]; omega) (lt_ok rfl) ?_ | refine am_append (by first | exact want_none | exact want_yes rfl rfl (by assumption) | exact want_yes rfl rfl (by with_reducible rfl)) rfl rfl rfl (by first | exact ToD.d _ | exact ToD.row _ _ _ _ _ rfl) rfl rfl (by simp [D.one, Value.oneCell']) (by decide) (by simp only [List.length_cons, List.length_nil]; omega) (by simp only [List.length_cons, List.length_nil]; omega) (lt_ok rfl) ?_) | (apply at_am (.store _ _ _); refine am_store (by first | exact want_none | exact want_yes rfl rfl (by assumption) | exact want_yes rfl rfl (by with_reducible rfl)) rfl rfl rfl (ev_row rfl) nofun (by first | (simp only [normV, normList, normMap]; rfl) | rfl) (by simp [V.one, Value.oneCell']) (.inl ⟨rfl, rfl⟩) rfl (le_ok rfl) (by first | (simp only [normV, normList, normMap]; rfl) | rfl) ?_) | (apply qm_move; refine m_move ?_) | (apply qm_load; refine m_load ?_) | (apply qn_load; refine n_load ?_) | (apply qm_faddr; refine m_faddr ?_) | (apply at_am (.buildSlice _ _ _); first | refine am_lit1 (by first | exact want_none | exact want_yes rfl rfl (by assumption) | exact want_yes rfl rfl (by with_reducible rfl)) rfl (by first | exact ToD.d _ | exact ToD.row _ _ _ _ _ rfl) (by first | (simp only [normV, normList, normMap]; rfl) | rfl) rfl (le_ok rfl) (lt_ok rfl) ?_ | refine am_lit (by first | exact want_none | exact want_yes rfl rfl (by assumption) | exact want_yes rfl rfl (by with_reducible rfl)) rfl (by repeat (first | exact PartsD.nil | (apply PartsD.cons; first | exact ToD.d _ | exact ToD.row _ _ _ _ _ rfl))) (by simp [dfill, putD, cellsD, zerosD, Value.cells]; rfl) (by first | (simp only [normV, normList, normMap]; rfl) | rfl) (by decide) (by decide) (lt_ok rfl) ?_) | (apply at_am (.alloc _); refine am_alloc (by first | exact want_none | exact want_yes rfl rfl (by assumption) | exact want_yes rfl rfl (by with_reducible rfl)) rfl (by first | (simp only [normV, normList, normMap]; rfl) | rfl) rfl (lt_ok rfl) rfl rfl rfl ?_) | (apply at_am (.store _ _ _); first | refine am_store (by first | exact want_none | exact want_yes rfl rfl (by assumption) | exact want_yes rfl rfl (by with_reducible rfl)) rfl rfl rfl (ev_d rfl) nofun (by first | (simp only [normV, normList, normMap]; rfl) | rfl) (by simp [V.one, Value.oneCell']) (.inl ⟨rfl, rfl⟩) rfl (le_ok rfl) (by first | (simp only [normV, normList, normMap]; rfl) | rfl) ?_ | refine am_store (by first | exact want_none | exact want_yes rfl rfl (by assumption) | exact want_yes rfl rfl (by with_reducible rfl)) rfl rfl rfl (ev_d rfl) nofun (by first | (simp only [normV, normList, normMap]; rfl) | rfl) (by simp [V.one, Value.oneCell']) (.inr rfl) rfl (le_ok rfl) (by first | (simp only [normV, normList, normMap]; rfl) | rfl) ?_) | (refine am_split rfl rfl (fun hb => ?_) (fun hb => ?_) <;> ((try have hq := dX hb); (try (exfalso; omega)))))
   simp only [tailed, List.filterMap_cons, List.filterMap_nil, List.getElem?_cons_zero, List.getElem?_cons_succ]
   repeat' (first | (apply at_op (.store _ _ _); refine al_step (st_store rfl rfl (ev_row rfl) nofun (by first | (simp only [normV, normList, normMap]; rfl) | rfl) (by simp [V.one, Value.oneCell']) (.inl ⟨rfl, rfl⟩) rfl (le_ok rfl) (by first | (simp only [normV, normList, normMap]; rfl) | rfl)) rfl ?_) | refine nx ?_ | (apply aq_block_y; decide) | (apply qr_move; refine r_move ?_) | (apply at_cond; first | refine c_t ?_ | refine c_f ?_ | (refine aw_cond rfl (fun hb => ?_) (fun hb => ?_) <;> ((try have hq := dX hb); (try (exfalso; omega))))) | (apply qr_load; refine r_load ?_) | (apply qr_faddr; refine r_faddr ?_) | (apply qr_store; refine r_store ?_) | (apply qr_lits; refine r_lits ?_) | (apply qr_appd; refine r_appd ?_))
   rw [hL2, hU]
   repeat' (first | refine nx ?_ | (apply aq_block_y; decide) | (apply qr_move; refine r_move ?_) | (apply at_cond; first | refine c_t ?_ | refine c_f ?_ | (refine aw_cond rfl (fun hb => ?_) (fun hb => ?_) <;> ((try have hq := dX hb); (try (exfalso; omega))))) | (apply qr_add; refine r_add ?_))
   refine aq_rd (⟨i + 1, k + 1, m + 1, rfl, by omega, rfl, rfl⟩) (by omega)
 ·obtain rfl : i = ls.length := by omega
  rw [List.take_length]
  repeat' (first | (apply at_op (.load _ (.tmp 3)); refine al_y (y_bloadV rfl rfl rfl rfl rfl (by decide)) (lt_ok rfl) ?_; refine al_told 37 (tod_two rfl rfl) ?_) | refine nx ?_ | (apply aq_block_y; decide) | (apply at_cond; first | refine c_t ?_ | refine c_f ?_ | (refine aw_cond rfl (fun hb => ?_) (fun hb => ?_) <;> ((try have hq := dX hb); (try (exfalso; omega))))) | (apply qr_lss; refine r_lss ?_) | (apply qr_load; refine r_load ?_) | (apply qr_store; refine r_store ?_))
  refine ret1x (by rfl) (by first | exact ResX.tmp _ _ (by first | exact ToD.d _ | exact ToD.row _ _ _ _ _ rfl) | exact ResX.cellA _ _ _ _ _ _ _ rfl rfl rfl (by first | (simp only [normV, normList, normMap]; rfl) | rfl) rfl | exact ResX.cell1 _ _ _ _ _ _ rfl rfl rfl (by first | exact ToD.d _ | exact ToD.row _ _ _ _ _ rfl)) ?_
  rfl
end Go.Proofs.Ytgiacdhffklenaa
end
section
set_option linter.unusedSimpArgs false
set_option linter.unusedVariables false
namespace Go.Proofs.Ytgiacdhffklenaa
open Go.RowKit
theorem wrong1_any (q : ByteArray × Ex) (ht : q.2.tame) : PureC 30 [.agg (letC q)] (· = .bool (!q.2.right 12)) := by
 have hc := rightExp_any q.2 ht
 refine pure_enter Try.func30 rfl (by decide) _ Try.ntmps30 (le_ok rfl) (fun w Pr hE => ?_)
 dsimp only [slotsOf, Nat.zero_add, Nat.reduceAdd]
 repeat' (first | (apply at_call; refine k_call (hc) hE ?_; rintro _ rfl) | refine nx ?_ | (apply qr_assign; refine r_assign ?_) | (apply qr_not; refine r_not ?_) | (apply qr_load; refine r_load ?_) | (apply qr_faddr; refine r_faddr ?_) | (apply qr_boxed; refine r_boxed ?_))
 refine rt1 ?_
 rfl
theorem windex (ls : List (ByteArray × Ex)) (hl : ls.length ≤ 100000) (ht : ∀ q ∈ ls, Ex.tame q.2) : PureC 41 [letsD ls, .val (.func (.func 30) #[] #[])] (fun r => ∃ i : Int, r = .int i ∧ decide (0 ≤ i) = wrongL ls) := by
 have hlen : (ls.map letC).length = ls.length := List.length_map ..
 refine pure_enter Try.func41 rfl (by decide) _ Try.ntmps41 (le_ok rfl) (fun w Pr hE => ?_)
 dsimp only [slotsOf, Nat.zero_add, Nat.reduceAdd]
 repeat' (first | refine nx ?_ | (apply aq_block_y; decide) | (apply qr_move; refine r_move ?_) | (apply qr_assign; refine r_assign ?_) | (apply at_cond; first | refine c_t ?_ | refine c_f ?_ | (refine aw_cond rfl (fun hb => ?_) (fun hb => ?_) <;> ((try have hq := dX hb); (try (exfalso; omega))))) | (apply qr_lss; refine r_lss ?_) | (apply qr_add; refine r_add ?_) | (apply qr_len; refine r_len ?_) | (apply qr_ix; refine r_ix ?_) | (apply qr_load; refine r_load ?_))
 refine aw_lp (fun N sl ob => ∃ i : Nat, N = ls.length - i ∧ i ≤ ls.length ∧ wrongL (ls.take i) = false ∧ sl = [(8, .d (.int i)), (7, .d (.int ls.length)), (1, .d (.val (.func (.func 30) #[] #[]))), (0, .d (letsD ls))] ∧ ob = []) (⟨0, rfl, Nat.zero_le _, rfl, rfl, rfl⟩) ?_
 rintro N sl ob ⟨i, rfl, hi, hs, rfl, rfl⟩
 by_cases hlt : i < ls.length
 ·have hg : (ls.map letC)[i]? = some (letC ls[i]) := by rw [get_map hlt]
  have hnext := any_take (fun q : ByteArray × Ex => !q.2.right 12) hlt
  unfold wrongL at hs
  rw [hs, Bool.false_or] at hnext
  have hc := wrong1_any ls[i] (ht _ (List.getElem_mem hlt))
  cases hT : (!ls[i].2.right 12)
  ·rw [hT] at hc hnext
   generalize ls[i] = z at hg hc
   repeat' (first | (apply at_op (.indexAddr _ _ _); refine al_ixq hg ?_) | (apply at_call; refine k_call (hc) hE ?_; rintro _ rfl) | refine nx ?_ | (apply aq_block_y; decide) | (apply qr_move; refine r_move ?_) | (apply qr_assign; refine r_assign ?_) | (apply at_cond; first | refine c_t ?_ | refine c_f ?_ | (refine aw_cond rfl (fun hb => ?_) (fun hb => ?_) <;> ((try have hq := dX hb); (try (exfalso; omega))))) | (apply qr_lss; refine r_lss ?_) | (apply qr_add; refine r_add ?_) | (apply qr_len; refine r_len ?_) | (apply qr_ix; refine r_ix ?_) | (apply qr_load; refine r_load ?_))
   refine aq_rd (⟨i + 1, rfl, by omega, hnext, rfl, rfl⟩) (by omega)
  ·rw [hT] at hc
   have hany : wrongL ls = true := List.any_eq_true.2 ⟨ls[i], List.getElem_mem hlt, hT⟩
   generalize ls[i] = z at hg hc
   repeat' (first | (apply at_op (.indexAddr _ _ _); refine al_ixq hg ?_) | (apply at_call; refine k_call (hc) hE ?_; rintro _ rfl) | refine nx ?_ | (apply aq_block_y; decide) | (apply qr_move; refine r_move ?_) | (apply qr_assign; refine r_assign ?_) | (apply at_cond; first | refine c_t ?_ | refine c_f ?_ | (refine aw_cond rfl (fun hb => ?_) (fun hb => ?_) <;> ((try have hq := dX hb); (try (exfalso; omega))))) | (apply qr_lss; refine r_lss ?_) | (apply qr_add; refine r_add ?_) | (apply qr_len; refine r_len ?_) | (apply qr_ix; refine r_ix ?_) | (apply qr_load; refine r_load ?_))
   refine rt1 ?_
   exact ⟨i, rfl, by rw [hany]; exact decide_eq_true (by omega)⟩
 ·rw [List.take_of_length_le (by omega)] at hs
  repeat' (first | refine nx ?_ | (apply aq_block_y; decide) | (apply qr_move; refine r_move ?_) | (apply qr_assign; refine r_assign ?_) | (apply at_cond; first | refine c_t ?_ | refine c_f ?_ | (refine aw_cond rfl (fun hb => ?_) (fun hb => ?_) <;> ((try have hq := dX hb); (try (exfalso; omega))))) | (apply qr_lss; refine r_lss ?_) | (apply qr_add; refine r_add ?_) | (apply qr_len; refine r_len ?_) | (apply qr_ix; refine r_ix ?_) | (apply qr_load; refine r_load ?_))
  refine rt1 ?_
  exact ⟨-1, rfl, by rw [hs]; rfl⟩
theorem wcontains (ls : List (ByteArray × Ex)) (hl : ls.length ≤ 100000) (ht : ∀ q ∈ ls, Ex.tame q.2) : PureC 31 [letsD ls, .val (.func (.func 30) #[] #[])] (· = .bool (wrongL ls)) := by
 have hc := windex ls hl ht
 refine pure_enter Try.func31 rfl (by decide) _ Try.ntmps31 (le_ok rfl) (fun w Pr hE => ?_)
 dsimp only [slotsOf, Nat.zero_add, Nat.reduceAdd]
 repeat' (first | (apply at_call; refine k_call (hc) hE ?_; rintro _ ⟨i, rfl, hi⟩) | refine nx ?_ | (apply qr_move; refine r_move ?_) | (apply qr_assign; refine r_assign ?_) | (apply qr_geq; refine r_geq ?_))
 refine rt1 ?_
 rw [hi]
def ofD (r : Int × List Int × Int) : D := .tup [.int r.1, intsD r.2.1, .int r.2.2]
theorem uofW_any (ls : List (ByteArray × Ex)) (e : Ex) (hl : ls.length ≤ 100) (ht : ∀ q ∈ ls, Ex.tame q.2) (he : e.wide) : PureC 10 [letsD ls, .agg (exC e)] (· = ofD (ofU ls e)) := by
 have hlen : (ls.map letC).length = ls.length := List.length_map ..
 have c1 := rightExpW_any e he
 have c2 := wcontains ls (by omega) ht
 cases hr : e.right 12
 ·rw [hr] at c1
  have hres : ofU ls e = (0, [], 1) := by simp [ofU, hr]
  refine pure_enter Try.func10 rfl (by decide) _ Try.ntmps10 (le_ok rfl) (fun w Pr hE => ?_)
  dsimp only [slotsOf, Nat.zero_add, Nat.reduceAdd]
  repeat' (first | (apply at_call; refine k_call (c1) hE ?_; rintro _ rfl) | (apply at_call; refine k_call (c2) hE ?_; rintro _ rfl) | refine nx ?_ | (apply qr_move; refine r_move ?_) | (apply qr_assign; refine r_assign ?_) | (apply at_cond; first | refine c_t ?_ | refine c_f ?_ | (refine aw_cond rfl (fun hb => ?_) (fun hb => ?_) <;> ((try have hq := dX hb); (try (exfalso; omega))))) | (apply at_guard; first | refine g_go ?_ | refine g_nt ?_ | refine g_nf ?_ | refine g_nu ?_ | ((first | refine al_split_t rfl rfl (lt_ok rfl) (fun hb => ?_) (fun hb => ?_) | refine al_split_f rfl rfl (lt_ok rfl) (fun hb => ?_) (fun hb => ?_)) <;> ((try have hq := dX hb); (try (exfalso; omega))))) | (apply qr_pick; refine r_pick ?_) | (apply qr_gtr; refine r_gtr ?_) | (apply qr_not; refine r_not ?_) | (apply qr_len; refine r_len ?_) | (apply qr_extract; refine r_extract ?_) | (apply qr_load; refine r_load ?_) | (apply qr_faddr; refine r_faddr ?_) | (apply qr_alloc; refine r_alloc ?_) | (apply qr_boxed; refine r_boxed ?_) | (apply qr_store; refine r_store ?_))
  refine ret_three (by rfl) (ToD.d _) (ToD.nil 1) (ToD.d _) ?_
  rw [hres]
  rfl
 rw [hr] at c1
 by_cases h20 : 20 < ls.length
 ·have q1 : decide ((20 : Int) < (ls.length : Int)) = true := decide_eq_true (by omega)
  have hres : ofU ls e = (0, [], 1) := by
   unfold ofU
   rw [hr, q1]
   rfl
  refine pure_enter Try.func10 rfl (by decide) _ Try.ntmps10 (le_ok rfl) (fun w Pr hE => ?_)
  dsimp only [slotsOf, Nat.zero_add, Nat.reduceAdd]
  repeat' (first | (apply at_call; refine k_call (c1) hE ?_; rintro _ rfl) | (apply at_call; refine k_call (c2) hE ?_; rintro _ rfl) | refine nx ?_ | (apply qr_move; refine r_move ?_) | (apply qr_assign; refine r_assign ?_) | (apply at_cond; first | refine c_t ?_ | refine c_f ?_ | (refine aw_cond rfl (fun hb => ?_) (fun hb => ?_) <;> ((try have hq := dX hb); (try (exfalso; omega))))) | (apply at_guard; first | refine g_go ?_ | refine g_nt ?_ | refine g_nf ?_ | refine g_nu ?_ | ((first | refine al_split_t rfl rfl (lt_ok rfl) (fun hb => ?_) (fun hb => ?_) | refine al_split_f rfl rfl (lt_ok rfl) (fun hb => ?_) (fun hb => ?_)) <;> ((try have hq := dX hb); (try (exfalso; omega))))) | (apply qr_pick; refine r_pick ?_) | (apply qr_gtr; refine r_gtr ?_) | (apply qr_not; refine r_not ?_) | (apply qr_len; refine r_len ?_) | (apply qr_extract; refine r_extract ?_) | (apply qr_load; refine r_load ?_) | (apply qr_faddr; refine r_faddr ?_) | (apply qr_alloc; refine r_alloc ?_) | (apply qr_boxed; refine r_boxed ?_) | (apply qr_store; refine r_store ?_))
  refine ret_three (by rfl) (ToD.d _) (ToD.nil 1) (ToD.d _) ?_
  rw [hres]
  rfl
 have q1 : decide ((20 : Int) < (ls.length : Int)) = false := decide_eq_false (by omega)
 cases hw : wrongL ls
 rotate_left 1
 ·rw [hw] at c2
  have hres : ofU ls e = (0, [], 1) := by
   unfold ofU
   rw [hr, q1, hw]
   rfl
  refine pure_enter Try.func10 rfl (by decide) _ Try.ntmps10 (le_ok rfl) (fun w Pr hE => ?_)
  dsimp only [slotsOf, Nat.zero_add, Nat.reduceAdd]
  repeat' (first | (apply at_call; refine k_call (c1) hE ?_; rintro _ rfl) | (apply at_call; refine k_call (c2) hE ?_; rintro _ rfl) | refine nx ?_ | (apply qr_move; refine r_move ?_) | (apply qr_assign; refine r_assign ?_) | (apply at_cond; first | refine c_t ?_ | refine c_f ?_ | (refine aw_cond rfl (fun hb => ?_) (fun hb => ?_) <;> ((try have hq := dX hb); (try (exfalso; omega))))) | (apply at_guard; first | refine g_go ?_ | refine g_nt ?_ | refine g_nf ?_ | refine g_nu ?_ | ((first | refine al_split_t rfl rfl (lt_ok rfl) (fun hb => ?_) (fun hb => ?_) | refine al_split_f rfl rfl (lt_ok rfl) (fun hb => ?_) (fun hb => ?_)) <;> ((try have hq := dX hb); (try (exfalso; omega))))) | (apply qr_pick; refine r_pick ?_) | (apply qr_gtr; refine r_gtr ?_) | (apply qr_not; refine r_not ?_) | (apply qr_len; refine r_len ?_) | (apply qr_extract; refine r_extract ?_) | (apply qr_load; refine r_load ?_) | (apply qr_faddr; refine r_faddr ?_) | (apply qr_alloc; refine r_alloc ?_) | (apply qr_boxed; refine r_boxed ?_) | (apply qr_store; refine r_store ?_))
  refine ret_three (by rfl) (ToD.d _) (ToD.nil 1) (ToD.d _) ?_
  rw [hres]
  rfl
 rw [hw] at c2
 have hall : ∀ q ∈ ls, Ex.right q.2 12 = true := fun q hq => by
  unfold wrongL at hw
  rw [List.any_eq_false] at hw
  simpa using hw q hq
 have c3 := scoped_any ls hl hall ht
 have c4 := unit_any (scoped_ok (ls := ls) (by omega)) e hr he
 have hres : ofU ls e = (match e.unitU (scopedU ls) with | .ok u => (u, [], 0) | .bad p c => (0, p, c)) := by
  unfold ofU
  rw [hr, q1, hw]
  rfl
 generalize scopedU ls = sc at c3 c4 hres
 cases hx : e.unitU sc with
 | ok u =>
  have h1 : ofU ls e = (u, [], 0) := by
   rw [hres, hx]
  rw [h1]
  rw [hx] at c4
  simp only [unitD] at c4
  clear hres h1 hx
  refine pure_enter Try.func10 rfl (by decide) _ Try.ntmps10 (le_ok rfl) (fun w Pr hE => ?_)
  dsimp only [slotsOf, Nat.zero_add, Nat.reduceAdd]
  repeat' (first | (apply at_call; refine k_call (c1) hE ?_; rintro _ rfl) | (apply at_call; refine k_call (c2) hE ?_; rintro _ rfl) | refine nx ?_ | (apply qr_move; refine r_move ?_) | (apply qr_assign; refine r_assign ?_) | (apply at_cond; first | refine c_t ?_ | refine c_f ?_ | (refine aw_cond rfl (fun hb => ?_) (fun hb => ?_) <;> ((try have hq := dX hb); (try (exfalso; omega))))) | (apply at_guard; first | refine g_go ?_ | refine g_nt ?_ | refine g_nf ?_ | refine g_nu ?_ | ((first | refine al_split_t rfl rfl (lt_ok rfl) (fun hb => ?_) (fun hb => ?_) | refine al_split_f rfl rfl (lt_ok rfl) (fun hb => ?_) (fun hb => ?_)) <;> ((try have hq := dX hb); (try (exfalso; omega))))) | (apply qr_pick; refine r_pick ?_) | (apply qr_gtr; refine r_gtr ?_) | (apply qr_not; refine r_not ?_) | (apply qr_len; refine r_len ?_) | (apply qr_load; refine r_load ?_) | (apply qr_boxed; refine r_boxed ?_))
  refine aw_tree ((.free 0 (.free 2 (.fork (.alt 1 (.fork (.alt 3 (.fork (.alt 4 (.fork (.alt 5 (.fork (.alt 6 (.only 7 (.free 8 .tail)) (.alt 7 (.free 8 (.only 6 .tail)) .stop))) (.alt 6 (.fork (.alt 5 (.only 7 (.free 8 .tail)) (.alt 7 (.only 5 (.free 8 .tail)) .stop))) (.alt 7 (.fork (.alt 5 (.free 8 (.only 6 .tail)) (.alt 6 (.only 5 (.free 8 .tail)) .stop))) .stop)))) (.alt 7 (.only 4 (.fork (.alt 5 (.free 8 (.only 6 .tail)) (.alt 6 (.only 5 (.free 8 .tail)) .stop)))) .stop))) (.alt 7 (.only 3 (.only 4 (.fork (.alt 5 (.free 8 (.only 6 .tail)) (.alt 6 (.only 5 (.free 8 .tail)) .stop))))) .stop))) (.alt 7 (.only 1 (.only 3 (.only 4 (.fork (.alt 5 (.free 8 (.only 6 .tail)) (.alt 6 (.only 5 (.free 8 .tail)) .stop)))))) .stop)))))) [9] ([(3, exO' e)]) ([(29, .d (reasD [] 0)), (9, .box 9 0), (8, .d (.int u))]) ([(9, whyZ)]) (by kernel_rfl) (by kernel_rfl) (by kernel_rfl) rfl (by decide) (by (repeat (first | exact obs_nil | (apply obs_cons; focus (first | rfl | (simp [find]; done)))))) (fun hrest => ?_) ?_
  ·simp only [tailed, List.filterMap_cons, List.filterMap_nil, List.getElem?_cons_zero, List.getElem?_cons_succ] at hrest
   repeat' (first | apply am_fork | apply am_alt | exact am_stop | refine am_free rfl ?_ | refine am_only rfl ?_ | refine am_leaf hrest (by (repeat (first | exact sub_nil | (apply sub_cons; focus (first | rfl | exact vint (by first | omega) | (simp [look]; done)))))) (by (repeat (first | exact obs_nil | (apply obs_cons; focus (first | rfl | (simp [find]; done)))))) | refine m_skip ?_ | refine n_skip ?_ | (apply at_mcall; refine m_call (c3) hE ?_; rintro _ rfl; (try dsimp only [flat, D.plain, D.plainL])) | (apply at_mcall; refine m_call (c4) hE ?_; rintro _ rfl; (try dsimp only [flat, D.plain, D.plainL])) | (apply at_am (.move _); refine am_nowd (by first | exact want_none | exact want_yes rfl rfl (by assumption) | exact want_yes rfl rfl (by with_reducible rfl)) (y_move rfl) (lt_ok rfl) ?_; dsimp only [flatV, flat, D.plain, D.plainL]) | (apply at_am (.extract _ _); refine am_nowd (by first | exact want_none | exact want_yes rfl rfl (by assumption) | exact want_yes rfl rfl (by with_reducible rfl)) (y_extract rfl rfl) (lt_ok rfl) ?_; dsimp only [flatV, flat, D.plain, D.plainL]) | (apply qm_move; refine m_move ?_) | (apply qn_move; refine n_move ?_) | (apply qm_assign; refine m_assign ?_) | (apply qn_extract; refine n_extract ?_) | (apply qm_load; refine m_load ?_) | (apply at_am (.alloc _); refine am_alloc (by first | exact want_none | exact want_yes rfl rfl (by assumption) | exact want_yes rfl rfl (by with_reducible rfl)) rfl (by first | (simp only [normV, normList, normMap]; rfl) | rfl) rfl (lt_ok rfl) rfl rfl rfl ?_) | (apply at_am (.store _ _ _); first | refine am_store (by first | exact want_none | exact want_yes rfl rfl (by assumption) | exact want_yes rfl rfl (by with_reducible rfl)) rfl rfl rfl (ev_d rfl) nofun (by first | (simp only [normV, normList, normMap]; rfl) | rfl) (by simp [V.one, Value.oneCell']) (.inl ⟨rfl, rfl⟩) rfl (le_ok rfl) (by first | (simp only [normV, normList, normMap]; rfl) | rfl) ?_ | refine am_store (by first | exact want_none | exact want_yes rfl rfl (by assumption) | exact want_yes rfl rfl (by with_reducible rfl)) rfl rfl rfl (ev_d rfl) nofun (by first | (simp only [normV, normList, normMap]; rfl) | rfl) (by simp [V.one, Value.oneCell']) (.inr rfl) rfl (le_ok rfl) (by first | (simp only [normV, normList, normMap]; rfl) | rfl) ?_) | (refine am_split rfl rfl (fun hb => ?_) (fun hb => ?_) <;> ((try have hq := dX hb); (try (exfalso; omega)))))
  simp only [tailed, List.filterMap_cons, List.filterMap_nil, List.getElem?_cons_zero, List.getElem?_cons_succ]
  repeat' (first | refine nx ?_ | (apply qr_move; refine r_move ?_) | (apply qr_assign; refine r_assign ?_) | (apply at_cond; first | refine c_t ?_ | refine c_f ?_ | (refine aw_cond rfl (fun hb => ?_) (fun hb => ?_) <;> ((try have hq := dX hb); (try (exfalso; omega))))) | (apply qr_extract; refine r_extract ?_) | (apply qr_load; refine r_load ?_) | (apply qr_alloc; refine r_alloc ?_) | (apply qr_store; refine r_store ?_))
  refine aw_mixo ([(9, whyB [] 0)]) [(0, true), (1, true), (2, true), (3, true), (4, true), (5, true), (6, true)] [7] (by kernel_rfl) (by kernel_rfl) (by kernel_rfl) (by decide) (by (repeat (first | exact obs_nil | (apply obs_cons; focus (first | rfl | (simp [find]; done)))))) ?_
  simp only [planned, tailed, List.filterMap_cons, List.filterMap_nil, List.getElem?_cons_zero, List.getElem?_cons_succ, Option.map_some]
  repeat' (first | apply am_nil | refine m_skip ?_ | refine n_skip ?_ | (apply qm_move; refine m_move ?_) | (apply qm_assign; refine m_assign ?_) | (apply qm_load; refine m_load ?_) | (apply qm_faddr; refine m_faddr ?_) | (refine am_split rfl rfl (fun hb => ?_) (fun hb => ?_) <;> ((try have hq := dX hb); (try (exfalso; omega)))))
  repeat' (first | refine nx ?_ | (apply qr_move; refine r_move ?_) | (apply qr_assign; refine r_assign ?_) | (apply at_cond; first | refine c_t ?_ | refine c_f ?_ | (refine aw_cond rfl (fun hb => ?_) (fun hb => ?_) <;> ((try have hq := dX hb); (try (exfalso; omega))))) | (apply qr_load; refine r_load ?_) | (apply qr_faddr; refine r_faddr ?_))
  refine ret_three (by rfl) (by first | exact ToD.d _ | exact ToD.row _ _ _ _ _ rfl) (by first | exact ToD.d _ | exact ToD.row _ _ _ _ _ rfl) (by first | exact ToD.d _ | exact ToD.row _ _ _ _ _ rfl) ?_
  rfl
 | bad p c =>
  have h1 : ofU ls e = (0, p, c) := by
   rw [hres, hx]
  rw [h1]
  rw [hx] at c4
  simp only [unitD] at c4
  clear hres h1 hx
  refine pure_enter Try.func10 rfl (by decide) _ Try.ntmps10 (le_ok rfl) (fun w Pr hE => ?_)
  dsimp only [slotsOf, Nat.zero_add, Nat.reduceAdd]
  repeat' (first | (apply at_call; refine k_call (c1) hE ?_; rintro _ rfl) | (apply at_call; refine k_call (c2) hE ?_; rintro _ rfl) | refine nx ?_ | (apply qr_move; refine r_move ?_) | (apply qr_assign; refine r_assign ?_) | (apply at_cond; first | refine c_t ?_ | refine c_f ?_ | (refine aw_cond rfl (fun hb => ?_) (fun hb => ?_) <;> ((try have hq := dX hb); (try (exfalso; omega))))) | (apply at_guard; first | refine g_go ?_ | refine g_nt ?_ | refine g_nf ?_ | refine g_nu ?_ | ((first | refine al_split_t rfl rfl (lt_ok rfl) (fun hb => ?_) (fun hb => ?_) | refine al_split_f rfl rfl (lt_ok rfl) (fun hb => ?_) (fun hb => ?_)) <;> ((try have hq := dX hb); (try (exfalso; omega))))) | (apply qr_pick; refine r_pick ?_) | (apply qr_gtr; refine r_gtr ?_) | (apply qr_not; refine r_not ?_) | (apply qr_len; refine r_len ?_) | (apply qr_load; refine r_load ?_) | (apply qr_boxed; refine r_boxed ?_))
  refine aw_tree ((.free 0 (.free 2 (.fork (.alt 1 (.fork (.alt 3 (.fork (.alt 4 (.fork (.alt 5 (.fork (.alt 6 (.only 7 (.free 8 .tail)) (.alt 7 (.free 8 (.only 6 .tail)) .stop))) (.alt 6 (.fork (.alt 5 (.only 7 (.free 8 .tail)) (.alt 7 (.only 5 (.free 8 .tail)) .stop))) (.alt 7 (.fork (.alt 5 (.free 8 (.only 6 .tail)) (.alt 6 (.only 5 (.free 8 .tail)) .stop))) .stop)))) (.alt 7 (.only 4 (.fork (.alt 5 (.free 8 (.only 6 .tail)) (.alt 6 (.only 5 (.free 8 .tail)) .stop)))) .stop))) (.alt 7 (.only 3 (.only 4 (.fork (.alt 5 (.free 8 (.only 6 .tail)) (.alt 6 (.only 5 (.free 8 .tail)) .stop))))) .stop))) (.alt 7 (.only 1 (.only 3 (.only 4 (.fork (.alt 5 (.free 8 (.only 6 .tail)) (.alt 6 (.only 5 (.free 8 .tail)) .stop)))))) .stop)))))) [9] ([(3, exO' e)]) ([(29, .d (reasD p c)), (9, .box 9 0), (8, .d (.int 0))]) ([(9, whyZ)]) (by kernel_rfl) (by kernel_rfl) (by kernel_rfl) rfl (by decide) (by (repeat (first | exact obs_nil | (apply obs_cons; focus (first | rfl | (simp [find]; done)))))) (fun hrest => ?_) ?_
  ·simp only [tailed, List.filterMap_cons, List.filterMap_nil, List.getElem?_cons_zero, List.getElem?_cons_succ] at hrest
   repeat' (first | apply am_fork | apply am_alt | exact am_stop | refine am_free rfl ?_ | refine am_only rfl ?_ | refine am_leaf hrest (by (repeat (first | exact sub_nil | (apply sub_cons; focus (first | rfl | exact vint (by first | omega) | (simp [look]; done)))))) (by (repeat (first | exact obs_nil | (apply obs_cons; focus (first | rfl | (simp [find]; done)))))) | refine m_skip ?_ | refine n_skip ?_ | (apply at_mcall; refine m_call (c3) hE ?_; rintro _ rfl; (try dsimp only [flat, D.plain, D.plainL])) | (apply at_mcall; refine m_call (c4) hE ?_; rintro _ rfl; (try dsimp only [flat, D.plain, D.plainL])) | (apply at_am (.move _); refine am_nowd (by first | exact want_none | exact want_yes rfl rfl (by assumption) | exact want_yes rfl rfl (by with_reducible rfl)) (y_move rfl) (lt_ok rfl) ?_; dsimp only [flatV, flat, D.plain, D.plainL]) | (apply at_am (.extract _ _); refine am_nowd (by first | exact want_none | exact want_yes rfl rfl (by assumption) | exact want_yes rfl rfl (by with_reducible rfl)) (y_extract rfl rfl) (lt_ok rfl) ?_; dsimp only [flatV, flat, D.plain, D.plainL]) | (apply qm_move; refine m_move ?_) | (apply qn_move; refine n_move ?_) | (apply qm_assign; refine m_assign ?_) | (apply qn_extract; refine n_extract ?_) | (apply qm_load; refine m_load ?_) | (apply at_am (.alloc _); refine am_alloc (by first | exact want_none | exact want_yes rfl rfl (by assumption) | exact want_yes rfl rfl (by with_reducible rfl)) rfl (by first | (simp only [normV, normList, normMap]; rfl) | rfl) rfl (lt_ok rfl) rfl rfl rfl ?_) | (apply at_am (.store _ _ _); first | refine am_store (by first | exact want_none | exact want_yes rfl rfl (by assumption) | exact want_yes rfl rfl (by with_reducible rfl)) rfl rfl rfl (ev_d rfl) nofun (by first | (simp only [normV, normList, normMap]; rfl) | rfl) (by simp [V.one, Value.oneCell']) (.inl ⟨rfl, rfl⟩) rfl (le_ok rfl) (by first | (simp only [normV, normList, normMap]; rfl) | rfl) ?_ | refine am_store (by first | exact want_none | exact want_yes rfl rfl (by assumption) | exact want_yes rfl rfl (by with_reducible rfl)) rfl rfl rfl (ev_d rfl) nofun (by first | (simp only [normV, normList, normMap]; rfl) | rfl) (by simp [V.one, Value.oneCell']) (.inr rfl) rfl (le_ok rfl) (by first | (simp only [normV, normList, normMap]; rfl) | rfl) ?_) | (refine am_split rfl rfl (fun hb => ?_) (fun hb => ?_) <;> ((try have hq := dX hb); (try (exfalso; omega)))))
  simp only [tailed, List.filterMap_cons, List.filterMap_nil, List.getElem?_cons_zero, List.getElem?_cons_succ]
  repeat' (first | refine nx ?_ | (apply qr_move; refine r_move ?_) | (apply qr_assign; refine r_assign ?_) | (apply at_cond; first | refine c_t ?_ | refine c_f ?_ | (refine aw_cond rfl (fun hb => ?_) (fun hb => ?_) <;> ((try have hq := dX hb); (try (exfalso; omega))))) | (apply qr_extract; refine r_extract ?_) | (apply qr_load; refine r_load ?_) | (apply qr_alloc; refine r_alloc ?_) | (apply qr_store; refine r_store ?_))
  refine aw_mixo ([(9, whyB p c)]) [(0, true), (1, true), (2, true), (3, true), (4, true), (5, true), (6, true)] [7] (by kernel_rfl) (by kernel_rfl) (by kernel_rfl) (by decide) (by (repeat (first | exact obs_nil | (apply obs_cons; focus (first | rfl | (simp [find]; done)))))) ?_
  simp only [planned, tailed, List.filterMap_cons, List.filterMap_nil, List.getElem?_cons_zero, List.getElem?_cons_succ, Option.map_some]
  repeat' (first | apply am_nil | refine m_skip ?_ | refine n_skip ?_ | (apply qm_move; refine m_move ?_) | (apply qm_assign; refine m_assign ?_) | (apply qm_load; refine m_load ?_) | (apply qm_faddr; refine m_faddr ?_) | (refine am_split rfl rfl (fun hb => ?_) (fun hb => ?_) <;> ((try have hq := dX hb); (try (exfalso; omega)))))
  repeat' (first | refine nx ?_ | (apply qr_move; refine r_move ?_) | (apply qr_assign; refine r_assign ?_) | (apply at_cond; first | refine c_t ?_ | refine c_f ?_ | (refine aw_cond rfl (fun hb => ?_) (fun hb => ?_) <;> ((try have hq := dX hb); (try (exfalso; omega))))) | (apply qr_load; refine r_load ?_) | (apply qr_faddr; refine r_faddr ?_))
  refine ret_three (by rfl) (by first | exact ToD.d _ | exact ToD.row _ _ _ _ _ rfl) (by first | exact ToD.d _ | exact ToD.row _ _ _ _ _ rfl) (by first | exact ToD.d _ | exact ToD.row _ _ _ _ _ rfl) ?_
  rfl
theorem uof_any (ls : List (ByteArray × Ex)) (e : Ex) (hl : ls.length ≤ 100) (ht : ∀ q ∈ ls, Ex.tame q.2) (he : e.tame) : PureC 10 [letsD ls, .agg (exC e)] (· = ofD (ofU ls e)) := uofW_any ls e hl ht (tame_wide he)
end Go.Proofs.Ytgiacdhffklenaa
end
