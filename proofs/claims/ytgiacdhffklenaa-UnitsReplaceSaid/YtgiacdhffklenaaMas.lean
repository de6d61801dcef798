/-
  Conditions: none.
-/
import Derived.Test.YtgiacdhffklenaaMar
set_option maxHeartbeats 16000000
set_option maxRecDepth 20000
section
set_option linter.unusedSimpArgs false
set_option linter.unusedVariables false
namespace Go.Proofs.Ytgiacdhffklenaa
open Go.RowKit
abbrev b_seats : ByteArray := ⟨#[115, 101, 97, 116, 115]⟩
abbrev b_color : ByteArray := ⟨#[99, 111, 108, 111, 114]⟩
abbrev b_coop : ByteArray := ⟨#[99, 111, 111, 112]⟩
abbrev s_base : Ex := namedE 1 b_base
abbrev s_bal : Ex := namedE 3 u_balance
abbrev s_del : Ex := two 10 (namedE 2 u_delay) (litE 10 2)
abbrev s_sho : Ex := two 10 (namedE 3 u_noshows) (litE 3 0)
abbrev s_col : Ex := two 8 (namedE 2 b_seats) (namedE 2 b_color)
abbrev x_law : By := ⟨b_coop, lets0, litE 1 3, s_base, litE 0 1, litE 0 1, 4, 100, 667⟩
abbrev x_bad : By := ⟨b_coop, lets0, litE 1 3, two 4 s_base (litE 1 0), litE 0 1, litE 0 1, 4, 100, 667⟩
theorem u_one : ofU lets0 (two 4 s_base s_bal) = (1, [], 0) := by kernel_rfl
theorem u_two : ofU lets0 (two 13 s_del s_sho) = (3, [], 0) := by kernel_rfl
theorem u_three : ofU lets0 (two 10 s_bal (litE 4 0)) = (0, [], 13) := by kernel_rfl
theorem u_four : ofU lets0 (two 4 (litE 1 0) s_col) = (0, [1, 1], 14) := by kernel_rfl
theorem u_law : checkU x_law = 0 := by kernel_rfl
theorem u_bad : checkU x_bad = 13 := by kernel_rfl
theorem u_zero : checkU By.zero = 1 := by kernel_rfl
theorem tm_one : (two 4 s_base s_bal).tame := by
 simp only [two, Ex.tame, Ex.tameL]
 repeat' apply And.intro
 all_goals first | trivial | decide
theorem tm_two : (two 13 s_del s_sho).tame := by
 simp only [two, Ex.tame, Ex.tameL]
 repeat' apply And.intro
 all_goals first | trivial | decide
theorem tm_three : (two 10 s_bal (litE 4 0)).tame := by
 simp only [two, Ex.tame, Ex.tameL]
 repeat' apply And.intro
 all_goals first | trivial | decide
theorem tm_four : (two 4 (litE 1 0) s_col).tame := by
 simp only [two, Ex.tame, Ex.tameL]
 repeat' apply And.intro
 all_goals first | trivial | decide
theorem tm_lit (n u : Int) : (litE n u).tame := by
 simp only [Ex.tame, Ex.tameL]
 repeat' apply And.intro
 all_goals first | trivial | decide
theorem tm_base : s_base.tame := by
 simp only [Ex.tame, Ex.tameL]
 repeat' apply And.intro
 all_goals first | trivial | decide
theorem tm_five : (two 4 s_base (litE 1 0)).tame := by
 simp only [two, Ex.tame, Ex.tameL]
 repeat' apply And.intro
 all_goals first | trivial | decide
theorem tm_lets : ∀ q ∈ lets0, letTame q := fun q hq => ⟨by simp only [lets0, List.mem_singleton] at hq; subst hq; decide, tame_lets0 q hq⟩
theorem tm_law : x_law.tame := ⟨by decide, by decide, tm_lets, tm_lit _ _, tm_base, tm_lit _ _, tm_lit _ _⟩
theorem tm_bad : x_bad.tame := ⟨by decide, by decide, tm_lets, tm_lit _ _, tm_five, tm_lit _ _, tm_lit _ _⟩
theorem usmall_any : PureC 7 [] (· = .bool true) := by
 have n1 : PureC 24 [.int 1, .str b_base] (· = .agg (exC s_base)) := named_any 1 b_base
 have n2 : PureC 24 [.int 3, .str u_balance] (· = .agg (exC s_bal)) := named_any 3 u_balance
 have n3 := named_any 2 u_delay
 have n4 := named_any 3 u_noshows
 have n5 := named_any 2 b_seats
 have n6 := named_any 2 b_color
 have l1 := num_any 10 2
 have l2 := num_any 3 0
 have l3 := num_any 4 0
 have l4 := num_any 1 0
 have l5 := num_any 1 3
 have l6 := num_any 0 1
 have t1 : PureC 25 [.int 10, .agg (exC (namedE 2 u_delay)), .agg (exC (litE 10 2))] (· = .agg (exC s_del)) := two_any 10 (namedE 2 u_delay) (litE 10 2)
 have t2 : PureC 25 [.int 10, .agg (exC (namedE 3 u_noshows)), .agg (exC (litE 3 0))] (· = .agg (exC s_sho)) := two_any 10 (namedE 3 u_noshows) (litE 3 0)
 have t3 := two_any 4 s_base s_bal
 have t4 := two_any 13 s_del s_sho
 have t5 := two_any 10 s_bal (litE 4 0)
 have t6 : PureC 25 [.int 8, .agg (exC (namedE 2 b_seats)), .agg (exC (namedE 2 b_color))] (· = .agg (exC s_col)) := two_any 8 (namedE 2 b_seats) (namedE 2 b_color)
 have t7 := two_any 4 (litE 1 0) s_col
 have t8 := two_any 4 s_base (litE 1 0)
 have i1 := is_any (two 4 s_base s_bal) 1 tm_one u_one
 have i2 := is_any (two 13 s_del s_sho) 3 tm_two u_two
 have f1 : PureC 28 [.agg (exC (two 10 s_bal (litE 4 0))), nilL, .int 13] (· = .bool true) := (fails_any (two 10 s_bal (litE 4 0)) [] 13 tm_three (by decide) u_three).wkl (wk_cons (.same _) (wk_cons (.nil 1) (wk_cons (.same _) wk_nil)))
 have f2 := fails_any (two 4 (litE 1 0) s_col) [1, 1] 14 tm_four (by decide) u_four
 have k1 := check_any x_law tm_law (by decide)
 have k2 := check_any x_bad tm_bad (by decide)
 have k3 := (check_any By.zero tame_z (by decide)).wk (wk_agg z_wk)
 have ll := lets_any
 rw [u_law] at k1
 rw [u_bad] at k2
 rw [u_zero] at k3
 unfold x_law at k1
 unfold x_bad at k2
 generalize two 4 s_base s_bal = A3 at t3 i1
 generalize two 13 s_del s_sho = A4 at t4 i2
 generalize two 10 s_bal (litE 4 0) = A5 at t5 f1
 generalize two 4 (litE 1 0) s_col = A7 at t7 f2
 generalize two 4 s_base (litE 1 0) = A8 at t8 k2
 generalize s_del = B1 at t1 t4
 generalize s_sho = B2 at t2 t4
 generalize s_col = B3 at t6 t7
 generalize s_base = Nb at n1 t3 t8 k1 k2
 generalize s_bal = Nl at n2 t3 t5
 generalize namedE 2 u_delay = Nd at n3 t1
 generalize namedE 3 u_noshows = Nn at n4 t2
 generalize namedE 2 b_seats = Ns at n5 t6
 generalize namedE 2 b_color = Nc at n6 t6
 generalize litE 10 2 = L1 at l1 t1
 generalize litE 3 0 = L2 at l2 t2
 generalize litE 4 0 = L3 at l3 t5
 generalize litE 1 0 = L4 at l4 t7 t8
 generalize litE 1 3 = L5 at l5 k1 k2
 generalize litE 0 1 = L6 at l6 k1 k2
 generalize lets0 = LS at ll k1 k2
 refine pure_enter Try.func7 rfl (by decide) _ Try.ntmps7 (le_ok rfl) (fun w Pr hE => ?_)
 dsimp only [slotsOf, Nat.zero_add, Nat.reduceAdd]
 repeat' (first | (apply at_call; refine k_call (n1) hE ?_; rintro _ rfl; clear n1) | (apply at_call; refine k_call (n2) hE ?_; rintro _ rfl; clear n2) | (apply at_call; refine k_call (n3) hE ?_; rintro _ rfl; clear n3) | (apply at_call; refine k_call (l1) hE ?_; rintro _ rfl; clear l1) | (apply at_call; refine k_call (t1) hE ?_; rintro _ rfl; clear t1) | (apply at_call; refine k_call (n4) hE ?_; rintro _ rfl; clear n4) | (apply at_call; refine k_call (l2) hE ?_; rintro _ rfl; clear l2) | (apply at_call; refine k_call (t2) hE ?_; rintro _ rfl) | refine nx ?_ | (apply qr_assign; refine r_assign ?_) | (apply qr_alloc; refine r_alloc ?_) | (apply qr_store; refine r_store ?_))
 refine aw_mixo ([(1, exO' Nb), (2, exO' Nl), (3, exO' B1), (4, exO' B2)]) [(0, true), (1, true), (2, false), (3, false), (4, true), (5, true), (6, true), (7, false), (8, false), (9, true), (10, true), (11, true), (12, false), (13, false), (14, false), (15, true)] [16] (by kernel_rfl) (by kernel_rfl) (by kernel_rfl) (by decide) (by (repeat (first | exact obs_nil | (apply obs_cons; focus (first | rfl | (simp [find]; done)))))) ?_
 simp only [planned, tailed, List.filterMap_cons, List.filterMap_nil, List.getElem?_cons_zero, List.getElem?_cons_succ, Option.map_some]
 repeat' (first | apply am_nil | refine m_skip ?_ | refine n_skip ?_ | (apply at_mcall; refine m_call (t3) hE ?_; rintro _ rfl; clear t3; (try dsimp only [flat, D.plain, D.plainL])) | (apply at_mcall; refine m_call (i1) hE ?_; rintro _ rfl; clear i1; (try dsimp only [flat, D.plain, D.plainL])) | (apply at_mcall; refine m_call (t4) hE ?_; rintro _ rfl; clear t4; (try dsimp only [flat, D.plain, D.plainL])) | (apply at_mcall; refine m_call (i2) hE ?_; rintro _ rfl; clear i2; (try dsimp only [flat, D.plain, D.plainL])) | (apply at_mcall; refine m_call (l3) hE ?_; rintro _ rfl; clear l3; (try dsimp only [flat, D.plain, D.plainL])) | (apply at_mcall; refine m_call (t5) hE ?_; rintro _ rfl; clear t5; (try dsimp only [flat, D.plain, D.plainL])) | (apply at_mcall; refine m_call (f1) hE ?_; rintro _ rfl; (try dsimp only [flat, D.plain, D.plainL])) | (apply qm_move; refine m_move ?_) | (apply qm_pick; refine m_pick ?_) | (apply qm_load; refine m_load ?_) | (refine am_split rfl rfl (fun hb => ?_) (fun hb => ?_) <;> ((try have hq := dX hb); (try (exfalso; omega)))))
 repeat' (first | (apply at_call; refine k_call (l4) hE ?_; rintro _ rfl) | (apply at_call; refine k_call (n5) hE ?_; rintro _ rfl; clear n5) | (apply at_call; refine k_call (n6) hE ?_; rintro _ rfl; clear n6) | (apply at_call; refine k_call (t6) hE ?_; rintro _ rfl; clear t6) | (apply at_call; refine k_call (t7) hE ?_; rintro _ rfl; clear t7) | (apply at_call; refine k_call (f2) hE ?_; rintro _ rfl) | refine nx ?_ | (apply qr_move; refine r_move ?_) | (apply qr_assign; refine r_assign ?_) | (apply at_guard; first | refine g_go ?_ | refine g_nt ?_ | refine g_nf ?_ | refine g_nu ?_ | ((first | refine al_split_t rfl rfl (lt_ok rfl) (fun hb => ?_) (fun hb => ?_) | refine al_split_f rfl rfl (lt_ok rfl) (fun hb => ?_) (fun hb => ?_)) <;> ((try have hq := dX hb); (try (exfalso; omega))))) | (apply qr_pick; refine r_pick ?_) | (apply qr_load; refine r_load ?_) | (apply qr_lits; refine r_lits ?_))
 refine aw_tree ((.free 2 (.fork (.alt 0 (.fork (.alt 1 (.fork (.alt 3 (.fork (.alt 4 (.fork (.alt 5 (.only 6 .tail) (.alt 6 (.only 5 .tail) .stop))) (.alt 6 (.only 4 (.only 5 .tail)) .stop))) (.alt 6 (.only 3 (.only 4 (.only 5 .tail))) .stop))) (.alt 6 (.only 1 (.only 3 (.only 4 (.only 5 .tail)))) .stop))) (.alt 6 (.only 0 (.only 1 (.only 3 (.only 4 (.only 5 .tail))))) .stop))))) [7] ([(1, exO' Nb)]) ([(45, .d (.agg (byC ⟨b_coop, LS, L5, Nb, L6, L6, 4, 100, 667⟩))), (7, .box 7 0), (6, .d (.bool true)), (5, .d (.bool true)), (1, .box 1 0)]) ([(7, .box 27 (zA.map V.d)), (1, exO' Nb)]) (by kernel_rfl) (by kernel_rfl) (by kernel_rfl) rfl (by decide) (by (repeat (first | exact obs_nil | (apply obs_cons; focus (first | rfl | (simp [find]; done)))))) (fun hrest => ?_) ?_
 ·simp only [tailed, List.filterMap_cons, List.filterMap_nil, List.getElem?_cons_zero, List.getElem?_cons_succ] at hrest
  repeat' (first | apply am_fork | apply am_alt | exact am_stop | refine am_free rfl ?_ | refine am_only rfl ?_ | refine am_leaf hrest (by (repeat (first | exact sub_nil | (apply sub_cons; focus (first | rfl | exact vint (by first | omega) | (simp [look]; done)))))) (by (repeat (first | exact obs_nil | (apply obs_cons; focus (first | rfl | (simp [find]; done)))))) | refine m_skip ?_ | refine n_skip ?_ | (apply at_mcall; refine m_call (ll) hE ?_; rintro _ rfl; (try dsimp only [flat, D.plain, D.plainL])) | (apply at_mcall; refine m_call (l5) hE ?_; rintro _ rfl; clear l5; (try dsimp only [flat, D.plain, D.plainL])) | (apply at_mcall; refine m_call (l6) hE ?_; rintro _ rfl; (try dsimp only [flat, D.plain, D.plainL])) | (apply at_am (.build _ _); refine am_nowd (by first | exact want_none | exact want_yes rfl rfl (by assumption) | exact want_yes rfl rfl (by with_reducible rfl)) (y_build rfl (by repeat (first | exact PartsD.nil | (apply PartsD.cons; first | exact ToD.d _ | exact ToD.row _ _ _ _ _ rfl))) (by first | (simp only [dfill, normV, normList, normMap]; rfl) | (simp [dfill, putD, cellsD, zerosD, Value.cells]; rfl))) (lt_ok rfl) ?_; dsimp only [flatV, flat, D.plain, D.plainL]) | (apply qm_load; refine m_load ?_) | (apply qn_build; refine n_build ?_) | (apply at_am (.alloc _); refine am_alloc (by first | exact want_none | exact want_yes rfl rfl (by assumption) | exact want_yes rfl rfl (by with_reducible rfl)) rfl (by first | (simp only [normV, normList, normMap]; rfl) | rfl) rfl (lt_ok rfl) rfl rfl rfl ?_) | (apply at_am (.store _ _ _); first | refine am_store (by first | exact want_none | exact want_yes rfl rfl (by assumption) | exact want_yes rfl rfl (by with_reducible rfl)) rfl rfl rfl (ev_d rfl) nofun (by first | (simp only [normV, normList, normMap]; rfl) | rfl) (by simp [V.one, Value.oneCell']) (.inl ⟨rfl, rfl⟩) rfl (le_ok rfl) (by first | (simp only [normV, normList, normMap]; rfl) | rfl) ?_ | refine am_store (by first | exact want_none | exact want_yes rfl rfl (by assumption) | exact want_yes rfl rfl (by with_reducible rfl)) rfl rfl rfl (ev_d rfl) nofun (by first | (simp only [normV, normList, normMap]; rfl) | rfl) (by simp [V.one, Value.oneCell']) (.inr rfl) rfl (le_ok rfl) (by first | (simp only [normV, normList, normMap]; rfl) | rfl) ?_) | (refine am_split rfl rfl (fun hb => ?_) (fun hb => ?_) <;> ((try have hq := dX hb); (try (exfalso; omega)))))
 simp only [tailed, List.filterMap_cons, List.filterMap_nil, List.getElem?_cons_zero, List.getElem?_cons_succ]
 clear ll l6
 repeat' (first | refine nx ?_ | (apply qr_load; refine r_load ?_) | (apply qr_alloc; refine r_alloc ?_) | (apply qr_store; refine r_store ?_) | (apply qr_build; refine r_build ?_))
 refine aw_mixo ([(1, exO' Nb), (8, byO' ⟨b_coop, LS, L5, Nb, L6, L6, 4, 100, 667⟩)]) [(0, true), (1, false)] [2, 3, 4] (by kernel_rfl) (by kernel_rfl) (by kernel_rfl) (by decide) (by (repeat (first | exact obs_nil | (apply obs_cons; focus (first | rfl | (simp [find]; done)))))) ?_
 simp only [planned, tailed, List.filterMap_cons, List.filterMap_nil, List.getElem?_cons_zero, List.getElem?_cons_succ, Option.map_some]
 repeat' (first | apply am_nil | refine m_skip ?_ | refine n_skip ?_ | (apply at_mcall; refine m_call (l4) hE ?_; rintro _ rfl; (try dsimp only [flat, D.plain, D.plainL])) | (apply qm_load; refine m_load ?_) | (refine am_split rfl rfl (fun hb => ?_) (fun hb => ?_) <;> ((try have hq := dX hb); (try (exfalso; omega)))))
 clear l4
 repeat' (first | (apply at_call; refine k_call (t8) hE ?_; rintro _ rfl; clear t8) | (apply at_call; refine k_call (k1) hE ?_; rintro _ rfl; clear k1) | (apply at_call; refine k_call (k2) hE ?_; rintro _ rfl; clear k2) | (apply at_call; refine k_call (k3) hE ?_; rintro _ rfl) | refine nx ?_ | (apply qr_move; refine r_move ?_) | (apply qr_assign; refine r_assign ?_) | (apply at_guard; first | refine g_go ?_ | refine g_nt ?_ | refine g_nf ?_ | refine g_nu ?_ | ((first | refine al_split_t rfl rfl (lt_ok rfl) (fun hb => ?_) (fun hb => ?_) | refine al_split_f rfl rfl (lt_ok rfl) (fun hb => ?_) (fun hb => ?_)) <;> ((try have hq := dX hb); (try (exfalso; omega))))) | (apply qr_pick; refine r_pick ?_) | (apply qr_eql; refine r_eql ?_) | (apply qr_load; refine r_load ?_) | (apply qr_faddr; refine r_faddr ?_) | (apply qr_store; refine r_store ?_) | (apply qr_build; refine r_build ?_))
 refine rt1 ?_
 rfl
end Go.Proofs.Ytgiacdhffklenaa
end
section
set_option linter.unusedSimpArgs false
set_option linter.unusedVariables false
namespace Go.Proofs.Ytgiacdhffklenaa
open Go.RowKit
def FewU (ls : List (ByteArray × Ex)) (e : Ex) (r : D) : Prop := ∃ b : Bool, r = .bool b ∧ (b = true → ls.length ≤ 20 ∧ (∀ q ∈ ls, Ex.tame q.2) ∧ e.tame)
theorem ufew_any (ls : List (ByteArray × Ex)) (e : Ex) (hl : ls.length ≤ 9223372036854775807) (hc : ∀ q ∈ ls, Ex.came q.2) (he : e.came) : PureC 8 [letsD ls, .agg (exC e)] (FewU ls e) := by
 have hml : (ls.map letC).length = ls.length := List.length_map ..
 have k0 := fewE_any e he
 refine pure_enter Try.func8 rfl (by decide) _ Try.ntmps8 (le_ok rfl) (fun w Pr hE => ?_)
 dsimp only [slotsOf, Nat.zero_add, Nat.reduceAdd]
 repeat' (first | refine nx ?_ | (apply aq_block_y; decide) | (apply qr_assign; refine r_assign ?_) | (apply at_cond; first | refine c_t ?_ | refine c_f ?_ | (refine aw_cond rfl (fun hb => ?_) (fun hb => ?_) <;> ((try have hq := dX hb); (try (exfalso; omega))))) | (apply qr_boxed; refine r_boxed ?_))
 refine aw_lp (fun N sl ob => ∃ i : Nat, N = ls.length - i ∧ i ≤ ls.length ∧ i ≤ 21 ∧ (∀ q ∈ ls.take i, Ex.tame q.2) ∧ sl = [(5, .d (.int i)), (4, .d (.bool false)), (3, .box 3 0), (0, .d (letsD ls))] ∧ ob = [(3, exO' e)]) (⟨0, rfl, Nat.zero_le _, by omega, fun q hq => by simp at hq, rfl, rfl⟩) ?_
 rintro N sl ob ⟨i, rfl, hi, hi2, hs, rfl, rfl⟩
 by_cases hlt : i < ls.length ∧ i ≤ 20
 ·obtain ⟨hlt, h20⟩ := hlt
  have hg : (ls.map letC)[i]? = some (letC ls[i]) := by rw [get_map hlt]
  have k1 := fewE_any ls[i].2 (hc _ (List.getElem_mem hlt))
  have hn : Ex.tame ls[i].2 → ∀ q ∈ ls.take (i + 1), Ex.tame q.2 := fun ht q hq => by
   rw [List.take_succ_eq_append_getElem hlt, List.mem_append, List.mem_singleton] at hq
   rcases hq with hq | rfl
   ·exact hs q hq
   ·exact ht
  have q1 : decide ((i : Int) < ls.length) = true := decide_eq_true (by omega)
  have q2 : decide ((i : Int) ≤ 20) = true := decide_eq_true (by omega)
  generalize ls[i] = z at *
  repeat' (first | (apply at_op (.indexAddr _ _ _); refine al_ixq hg ?_) | (apply at_call; refine k_call (k1) hE ?_; rintro _ ⟨b1, rfl, t1⟩; cases b1) | refine nx ?_ | (apply aq_block_y; decide) | (apply qr_move; refine r_move ?_) | (apply at_cond; first | refine c_t ?_ | refine c_f ?_ | (refine aw_cond rfl (fun hb => ?_) (fun hb => ?_) <;> ((try have hq := dX hb); (try (exfalso; omega))))) | (apply at_guard; first | refine g_go ?_ | refine g_nt ?_ | refine g_nf ?_ | refine g_nu ?_ | ((first | refine al_split_t rfl rfl (lt_ok rfl) (fun hb => ?_) (fun hb => ?_) | refine al_split_f rfl rfl (lt_ok rfl) (fun hb => ?_) (fun hb => ?_)) <;> ((try have hq := dX hb); (try (exfalso; omega))))) | (apply qr_pick; refine r_pick ?_) | (apply qr_lss; refine r_lss ?_) | (apply qr_leq; refine r_leq ?_) | (apply qr_not; refine r_not ?_) | (apply qr_len; refine r_len ?_) | (apply qr_ix; refine r_ix ?_) | (apply qr_load; refine r_load ?_) | (apply qr_faddr; refine r_faddr ?_))
  ·skip
   repeat' (first | refine nx ?_ | (apply aq_block_y; decide) | (apply qr_move; refine r_move ?_) | (apply qr_assign; refine r_assign ?_) | (apply at_cond; first | refine c_t ?_ | refine c_f ?_ | (refine aw_cond rfl (fun hb => ?_) (fun hb => ?_) <;> ((try have hq := dX hb); (try (exfalso; omega))))) | (apply qr_not; refine r_not ?_) | (apply qr_ix; refine r_ix ?_) | (apply qr_load; refine r_load ?_) | (apply qr_faddr; refine r_faddr ?_))
   refine rt1 ?_
   exact ⟨false, rfl, fun h => by cases h⟩
  ·skip
   repeat' (first | refine nx ?_ | (apply aq_block_y; decide) | (apply qr_move; refine r_move ?_) | (apply qr_assign; refine r_assign ?_) | (apply at_cond; first | refine c_t ?_ | refine c_f ?_ | (refine aw_cond rfl (fun hb => ?_) (fun hb => ?_) <;> ((try have hq := dX hb); (try (exfalso; omega))))) | (apply qr_add; refine r_add ?_) | (apply qr_not; refine r_not ?_) | (apply qr_ix; refine r_ix ?_) | (apply qr_load; refine r_load ?_) | (apply qr_faddr; refine r_faddr ?_))
   refine aq_rd (⟨i + 1, rfl, by omega, by omega, hn (t1 rfl), rfl, rfl⟩) (by omega)
 ·by_cases hle : ls.length ≤ 20
  ·have q0 : decide ((ls.length : Int) ≤ 20) = true := decide_eq_true (by omega)
   have q1 : decide ((i : Int) < ls.length) = false := decide_eq_false (by omega)
   obtain rfl : i = ls.length := by omega
   rw [List.take_length] at hs
   repeat' (first | (apply at_call; refine k_call (k0) hE ?_; rintro _ ⟨b1, rfl, t1⟩) | refine nx ?_ | (apply aq_block_y; decide) | (apply qr_move; refine r_move ?_) | (apply qr_assign; refine r_assign ?_) | (apply at_cond; first | refine c_t ?_ | refine c_f ?_ | (refine aw_cond rfl (fun hb => ?_) (fun hb => ?_) <;> ((try have hq := dX hb); (try (exfalso; omega))))) | (apply at_guard; first | refine g_go ?_ | refine g_nt ?_ | refine g_nf ?_ | refine g_nu ?_ | ((first | refine al_split_t rfl rfl (lt_ok rfl) (fun hb => ?_) (fun hb => ?_) | refine al_split_f rfl rfl (lt_ok rfl) (fun hb => ?_) (fun hb => ?_)) <;> ((try have hq := dX hb); (try (exfalso; omega))))) | (apply qr_pick; refine r_pick ?_) | (apply qr_lss; refine r_lss ?_) | (apply qr_leq; refine r_leq ?_) | (apply qr_len; refine r_len ?_) | (apply qr_load; refine r_load ?_))
   refine rt1 ?_
   exact ⟨b1, by simp, fun h => ⟨hle, hs, t1 h⟩⟩
  ·have q0 : decide ((ls.length : Int) ≤ 20) = false := decide_eq_false (by omega)
   by_cases hli : i < ls.length
   ·have q1 : decide ((i : Int) < ls.length) = true := decide_eq_true (by omega)
    have q2 : decide ((i : Int) ≤ 20) = false := decide_eq_false (by omega)
    repeat' (first | refine nx ?_ | (apply aq_block_y; decide) | (apply qr_move; refine r_move ?_) | (apply qr_assign; refine r_assign ?_) | (apply at_cond; first | refine c_t ?_ | refine c_f ?_ | (refine aw_cond rfl (fun hb => ?_) (fun hb => ?_) <;> ((try have hq := dX hb); (try (exfalso; omega))))) | (apply at_guard; first | refine g_go ?_ | refine g_nt ?_ | refine g_nf ?_ | refine g_nu ?_ | ((first | refine al_split_t rfl rfl (lt_ok rfl) (fun hb => ?_) (fun hb => ?_) | refine al_split_f rfl rfl (lt_ok rfl) (fun hb => ?_) (fun hb => ?_)) <;> ((try have hq := dX hb); (try (exfalso; omega))))) | (apply qr_pick; refine r_pick ?_) | (apply qr_lss; refine r_lss ?_) | (apply qr_leq; refine r_leq ?_) | (apply qr_len; refine r_len ?_) | (apply qr_load; refine r_load ?_))
    refine rt1 ?_
    exact ⟨false, by simp, fun h => by cases h⟩
   ·have q1 : decide ((i : Int) < ls.length) = false := decide_eq_false (by omega)
    repeat' (first | refine nx ?_ | (apply aq_block_y; decide) | (apply qr_move; refine r_move ?_) | (apply qr_assign; refine r_assign ?_) | (apply at_cond; first | refine c_t ?_ | refine c_f ?_ | (refine aw_cond rfl (fun hb => ?_) (fun hb => ?_) <;> ((try have hq := dX hb); (try (exfalso; omega))))) | (apply at_guard; first | refine g_go ?_ | refine g_nt ?_ | refine g_nf ?_ | refine g_nu ?_ | ((first | refine al_split_t rfl rfl (lt_ok rfl) (fun hb => ?_) (fun hb => ?_) | refine al_split_f rfl rfl (lt_ok rfl) (fun hb => ?_) (fun hb => ?_)) <;> ((try have hq := dX hb); (try (exfalso; omega))))) | (apply qr_pick; refine r_pick ?_) | (apply qr_lss; refine r_lss ?_) | (apply qr_leq; refine r_leq ?_) | (apply qr_len; refine r_len ?_) | (apply qr_load; refine r_load ?_))
    refine rt1 ?_
    exact ⟨false, by simp, fun h => by cases h⟩
def Before (ls : List (ByteArray × Ex)) : Ex → List Int → Prop
 | _, [] => True
 | e, i :: p => ∃ (k : Nat) (h : k < e.args.length), i = k ∧ (∀ (j : Nat) (hj : j < e.args.length), j < k → (ofU ls e.args[j]).2.2 = 0) ∧ Before ls e.args[k] p
end Go.Proofs.Ytgiacdhffklenaa
end
section
namespace Go.Proofs.Ytgiacdhffklenaa
open Go.RowKit
theorem of_zero {ls : List (ByteArray × Ex)} {e : Ex} {u : Int} {p : List Int} (h : ofU ls e = (u, p, 0)) : e.right 12 = true ∧ ls.length ≤ 20 ∧ wrongL ls = false ∧ e.unitU (scopedU ls) = .ok u ∧ p = [] := by
 unfold ofU at h
 split at h
 ·cases h
 ·rename_i hc
  simp only [Bool.or_eq_true, Bool.not_eq_true', decide_eq_true_eq, not_or, Bool.not_eq_false, Bool.not_eq_true] at hc
  obtain ⟨h1, h2, h3⟩ := hc
  refine ⟨h1, by omega, h3, ?_⟩
  cases hx : e.unitU (scopedU ls) with
  | ok v =>
   rw [hx] at h
   simp only [Prod.mk.injEq] at h
   obtain ⟨rfl, rfl, _⟩ := h
   exact ⟨rfl, rfl⟩
  | bad q c =>
   rw [hx] at h
   simp only [Prod.mk.injEq] at h
   obtain ⟨_, _, rfl⟩ := h
   have := bad_code h1 hx
   omega
theorem of_pre {ls : List (ByteArray × Ex)} {k : Nat} {e : Ex} {u : Int} {p : List Int} (h : ofU (ls.take k) e = (u, p, 0)) : e.unitU (scopedU ls) = .ok u := by
 have h1 := (of_zero h).2.2.2.1
 obtain ⟨m, hm⟩ := scoped_app (ls.take k) (ls.drop k)
 rw [List.take_append_drop] at hm
 rw [hm]
 exact unit_ext _ m e u h1
theorem of_eq {ls : List (ByteArray × Ex)} {e x : Ex} (he : e.right 12 = true) (hx : x.right 12 = true) (h : x.unitU (scopedU ls) = e.unitU (scopedU ls)) : ofU ls x = ofU ls e := by
 unfold ofU
 rw [he, hx, h]
theorem tameL_of' {a : List Ex} (h : ∀ x ∈ a, Ex.tame x) : Ex.tameL a := by
 induction a with
 | nil => trivial
 | cons x r ih => exact ⟨h x (by simp), ih fun y hy => h y (by simp [hy])⟩
theorem tame_mem {e x : Ex} (h : e.tame) (hx : x ∈ e.args) : x.tame := by
 obtain ⟨i, hi, rfl⟩ := List.getElem_of_mem hx
 exact tame_get h hi
theorem with_tame : ∀ (p : List Int) (e x : Ex), e.tame → x.tame → (withP e p x).tame
 | [], e, x, _, hx => hx
 | i :: p, e, x, he, hx => by
  simp only [withP]
  split
  ·exact he
  ·rename_i hi
   have hk : i.toNat < e.args.length := by omega
   rw [getD_arg hk]
   have ih := with_tame p e.args[i.toNat] x (tame_get he hk) hx
   refine ⟨tame_str he, by rw [List.length_set]; exact tame_len he, tameL_of' fun y hy => ?_⟩
   rcases List.mem_or_eq_of_mem_set hy with h | rfl
   ·exact tame_mem he h
   ·exact ih
theorem at_tame : ∀ (p : List Int) (e x : Ex), e.tame → atP e p = some x → x.tame
 | [], e, x, he, h => by cases h; exact he
 | i :: p, e, x, he, h => by
  simp only [atP] at h
  split at h
  ·cases h
  ·rename_i hi
   have hk : i.toNat < e.args.length := by omega
   rw [getD_arg hk] at h
   exact at_tame p _ x (tame_get he hk) h
theorem of_len (ls : List (ByteArray × Ex)) (e : Ex) : (ofU ls e).2.1.length ≤ 12 := by
 unfold ofU
 split
 ·simp
 ·rename_i hc
  simp only [Bool.or_eq_true, Bool.not_eq_true', not_or, Bool.not_eq_false] at hc
  cases hx : e.unitU (scopedU ls) with
  | ok v => simp
  | bad q c =>
   have := (placed 12 _ e q c hc.1 hx).2
   simp only
   omega
theorem replace_unit {ls : List (ByteArray × Ex)} {e part y : Ex} {p : List Int} {u : Int} (he : e.right 12 = true) (hx : (withP e p y).right 12 = true) (hp : atP e p = some part) (h0 : part.unitU (scopedU ls) = .ok u) (h1 : y.unitU (scopedU ls) = .ok u) : ofU ls (withP e p y) = ofU ls e :=
 of_eq he hx (with_unit _ p e part y hp (h0.trans h1.symm))
mutual
theorem tame_came : ∀ e : Ex, e.tame → e.came
 | .mk _ _ _ s a, ⟨h1, h2, h3⟩ => ⟨by omega, by omega, tame_cameL a h3⟩
theorem tame_cameL : ∀ a : List Ex, Ex.tameL a → Ex.cameL a
 | [], _ => trivial
 | x :: r, ⟨h1, h2⟩ => ⟨tame_came x h1, tame_cameL r h2⟩
end
end Go.Proofs.Ytgiacdhffklenaa
end
