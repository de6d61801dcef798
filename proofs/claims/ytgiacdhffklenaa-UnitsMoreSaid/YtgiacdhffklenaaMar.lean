/-
  Conditions: none.
-/
import Derived.Test.YtgiacdhffklenaaMaq
set_option maxHeartbeats 16000000
set_option maxRecDepth 20000
section
set_option linter.unusedSimpArgs false
set_option linter.unusedVariables false
namespace Go.Proofs.Ytgiacdhffklenaa
open Go.RowKit
abbrev b_seats : ByteArray := ⟨#[115, 101, 97, 116, 115]⟩
abbrev b_color : ByteArray := ⟨#[99, 111, 108, 111, 114]⟩
abbrev b_coop : ByteArray := ⟨#[99, 111, 111, 112]⟩
abbrev s_base : Ex := namedE 1 b_base
abbrev s_bal : Ex := namedE 3 u_balance
abbrev s_del : Ex := two 10 (namedE 2 u_delay) (litE 10 2)
abbrev s_sho : Ex := two 10 (namedE 3 u_noshows) (litE 3 0)
abbrev s_col : Ex := two 8 (namedE 2 b_seats) (namedE 2 b_color)
abbrev x_law : By := ⟨b_coop, lets0, litE 1 3, s_base, litE 0 1, litE 0 1, 4, 100, 667⟩
abbrev x_bad : By := ⟨b_coop, lets0, litE 1 3, two 4 s_base (litE 1 0), litE 0 1, litE 0 1, 4, 100, 667⟩
theorem u_one : ofU lets0 (two 4 s_base s_bal) = (1, [], 0) := by kernel_rfl
theorem u_two : ofU lets0 (two 13 s_del s_sho) = (3, [], 0) := by kernel_rfl
theorem u_three : ofU lets0 (two 10 s_bal (litE 4 0)) = (0, [], 13) := by kernel_rfl
theorem u_four : ofU lets0 (two 4 (litE 1 0) s_col) = (0, [1, 1], 14) := by kernel_rfl
theorem u_law : checkU x_law = 0 := by kernel_rfl
theorem u_bad : checkU x_bad = 13 := by kernel_rfl
theorem u_zero : checkU By.zero = 1 := by kernel_rfl
theorem tm_one : (two 4 s_base s_bal).tame := by
 simp only [two, Ex.tame, Ex.tameL]
 repeat' apply And.intro
 all_goals first | trivial | decide
theorem tm_two : (two 13 s_del s_sho).tame := by
 simp only [two, Ex.tame, Ex.tameL]
 repeat' apply And.intro
 all_goals first | trivial | decide
theorem tm_three : (two 10 s_bal (litE 4 0)).tame := by
 simp only [two, Ex.tame, Ex.tameL]
 repeat' apply And.intro
 all_goals first | trivial | decide
theorem tm_four : (two 4 (litE 1 0) s_col).tame := by
 simp only [two, Ex.tame, Ex.tameL]
 repeat' apply And.intro
 all_goals first | trivial | decide
theorem tm_lit (n u : Int) : (litE n u).tame := by
 simp only [Ex.tame, Ex.tameL]
 repeat' apply And.intro
 all_goals first | trivial | decide
theorem tm_base : s_base.tame := by
 simp only [Ex.tame, Ex.tameL]
 repeat' apply And.intro
 all_goals first | trivial | decide
theorem tm_five : (two 4 s_base (litE 1 0)).tame := by
 simp only [two, Ex.tame, Ex.tameL]
 repeat' apply And.intro
 all_goals first | trivial | decide
theorem tm_lets : ∀ q ∈ lets0, letTame q := fun q hq => ⟨by simp only [lets0, List.mem_singleton] at hq; subst hq; decide, tame_lets0 q hq⟩
theorem tm_law : x_law.tame := ⟨by decide, by decide, tm_lets, tm_lit _ _, tm_base, tm_lit _ _, tm_lit _ _⟩
theorem tm_bad : x_bad.tame := ⟨by decide, by decide, tm_lets, tm_lit _ _, tm_five, tm_lit _ _, tm_lit _ _⟩
theorem usmall_any : PureC 7 [] (· = .bool true) := by
 have n1 : PureC 24 [.int 1, .str b_base] (· = .agg (exC s_base)) := named_any 1 b_base
 have n2 : PureC 24 [.int 3, .str u_balance] (· = .agg (exC s_bal)) := named_any 3 u_balance
 have n3 := named_any 2 u_delay
 have n4 := named_any 3 u_noshows
 have n5 := named_any 2 b_seats
 have n6 := named_any 2 b_color
 have l1 := num_any 10 2
 have l2 := num_any 3 0
 have l3 := num_any 4 0
 have l4 := num_any 1 0
 have l5 := num_any 1 3
 have l6 := num_any 0 1
 have t1 : PureC 25 [.int 10, .agg (exC (namedE 2 u_delay)), .agg (exC (litE 10 2))] (· = .agg (exC s_del)) := two_any 10 (namedE 2 u_delay) (litE 10 2)
 have t2 : PureC 25 [.int 10, .agg (exC (namedE 3 u_noshows)), .agg (exC (litE 3 0))] (· = .agg (exC s_sho)) := two_any 10 (namedE 3 u_noshows) (litE 3 0)
 have t3 := two_any 4 s_base s_bal
 have t4 := two_any 13 s_del s_sho
 have t5 := two_any 10 s_bal (litE 4 0)
 have t6 : PureC 25 [.int 8, .agg (exC (namedE 2 b_seats)), .agg (exC (namedE 2 b_color))] (· = .agg (exC s_col)) := two_any 8 (namedE 2 b_seats) (namedE 2 b_color)
 have t7 := two_any 4 (litE 1 0) s_col
 have t8 := two_any 4 s_base (litE 1 0)
 have i1 := is_any (two 4 s_base s_bal) 1 tm_one u_one
 have i2 := is_any (two 13 s_del s_sho) 3 tm_two u_two
 have f1 : PureC 28 [.agg (exC (two 10 s_bal (litE 4 0))), nilL, .int 13] (· = .bool true) := (fails_any (two 10 s_bal (litE 4 0)) [] 13 tm_three (by decide) u_three).wkl (wk_cons (.same _) (wk_cons (.nil 1) (wk_cons (.same _) wk_nil)))
 have f2 := fails_any (two 4 (litE 1 0) s_col) [1, 1] 14 tm_four (by decide) u_four
 have k1 := check_any x_law tm_law (by decide)
 have k2 := check_any x_bad tm_bad (by decide)
 have k3 := (check_any By.zero tame_z (by decide)).wk (wk_agg z_wk)
 have ll := lets_any
 rw [u_law] at k1
 rw [u_bad] at k2
 rw [u_zero] at k3
 unfold x_law at k1
 unfold x_bad at k2
 generalize two 4 s_base s_bal = A3 at t3 i1
 generalize two 13 s_del s_sho = A4 at t4 i2
 generalize two 10 s_bal (litE 4 0) = A5 at t5 f1
 generalize two 4 (litE 1 0) s_col = A7 at t7 f2
 generalize two 4 s_base (litE 1 0) = A8 at t8 k2
 generalize s_del = B1 at t1 t4
 generalize s_sho = B2 at t2 t4
 generalize s_col = B3 at t6 t7
 generalize s_base = Nb at n1 t3 t8 k1 k2
 generalize s_bal = Nl at n2 t3 t5
 generalize namedE 2 u_delay = Nd at n3 t1
 generalize namedE 3 u_noshows = Nn at n4 t2
 generalize namedE 2 b_seats = Ns at n5 t6
 generalize namedE 2 b_color = Nc at n6 t6
 generalize litE 10 2 = L1 at l1 t1
 generalize litE 3 0 = L2 at l2 t2
 generalize litE 4 0 = L3 at l3 t5
 generalize litE 1 0 = L4 at l4 t7 t8
 generalize litE 1 3 = L5 at l5 k1 k2
 generalize litE 0 1 = L6 at l6 k1 k2
 generalize lets0 = LS at ll k1 k2
 refine pure_enter Try.func7 rfl (by decide) _ Try.ntmps7 (le_ok rfl) (fun w Pr hE => ?_)
 dsimp only [slotsOf, Nat.zero_add, Nat.reduceAdd]
 repeat' (first | (apply at_call; refine k_call (n1) hE ?_; rintro _ rfl; clear n1) | (apply at_call; refine k_call (n2) hE ?_; rintro _ rfl; clear n2) | (apply at_call; refine k_call (n3) hE ?_; rintro _ rfl; clear n3) | (apply at_call; refine k_call (l1) hE ?_; rintro _ rfl; clear l1) | (apply at_call; refine k_call (t1) hE ?_; rintro _ rfl; clear t1) | (apply at_call; refine k_call (n4) hE ?_; rintro _ rfl; clear n4) | (apply at_call; refine k_call (l2) hE ?_; rintro _ rfl; clear l2) | (apply at_call; refine k_call (t2) hE ?_; rintro _ rfl) | refine nx ?_ | (apply qr_assign; refine r_assign ?_) | (apply qr_alloc; refine r_alloc ?_) | (apply qr_store; refine r_store ?_))
 refine aw_mixo ([(1, exO' Nb), (2, exO' Nl), (3, exO' B1), (4, exO' B2)]) [(0, true), (1, true), (2, false), (3, false), (4, true), (5, true), (6, true), (7, false), (8, false), (9, true), (10, true), (11, true), (12, false), (13, false), (14, false), (15, true)] [16] (by kernel_rfl) (by kernel_rfl) (by kernel_rfl) (by decide) (by (repeat (first | exact obs_nil | (apply obs_cons; focus (first | rfl | (simp [find]; done)))))) ?_
 simp only [planned, tailed, List.filterMap_cons, List.filterMap_nil, List.getElem?_cons_zero, List.getElem?_cons_succ, Option.map_some]
 repeat' (first | apply am_nil | refine m_skip ?_ | refine n_skip ?_ | (apply at_mcall; refine m_call (t3) hE ?_; rintro _ rfl; clear t3; (try dsimp only [flat, D.plain, D.plainL])) | (apply at_mcall; refine m_call (i1) hE ?_; rintro _ rfl; clear i1; (try dsimp only [flat, D.plain, D.plainL])) | (apply at_mcall; refine m_call (t4) hE ?_; rintro _ rfl; clear t4; (try dsimp only [flat, D.plain, D.plainL])) | (apply at_mcall; refine m_call (i2) hE ?_; rintro _ rfl; clear i2; (try dsimp only [flat, D.plain, D.plainL])) | (apply at_mcall; refine m_call (l3) hE ?_; rintro _ rfl; clear l3; (try dsimp only [flat, D.plain, D.plainL])) | (apply at_mcall; refine m_call (t5) hE ?_; rintro _ rfl; clear t5; (try dsimp only [flat, D.plain, D.plainL])) | (apply at_mcall; refine m_call (f1) hE ?_; rintro _ rfl; (try dsimp only [flat, D.plain, D.plainL])) | (apply qm_move; refine m_move ?_) | (apply qm_pick; refine m_pick ?_) | (apply qm_load; refine m_load ?_) | (refine am_split rfl rfl (fun hb => ?_) (fun hb => ?_) <;> ((try have hq := dX hb); (try (exfalso; omega)))))
 repeat' (first | (apply at_call; refine k_call (l4) hE ?_; rintro _ rfl) | (apply at_call; refine k_call (n5) hE ?_; rintro _ rfl; clear n5) | (apply at_call; refine k_call (n6) hE ?_; rintro _ rfl; clear n6) | (apply at_call; refine k_call (t6) hE ?_; rintro _ rfl; clear t6) | (apply at_call; refine k_call (t7) hE ?_; rintro _ rfl; clear t7) | (apply at_call; refine k_call (f2) hE ?_; rintro _ rfl) | refine nx ?_ | (apply qr_move; refine r_move ?_) | (apply qr_assign; refine r_assign ?_) | (apply at_guard; first | refine g_go ?_ | refine g_nt ?_ | refine g_nf ?_ | refine g_nu ?_ | ((first | refine al_split_t rfl rfl (lt_ok rfl) (fun hb => ?_) (fun hb => ?_) | refine al_split_f rfl rfl (lt_ok rfl) (fun hb => ?_) (fun hb => ?_)) <;> ((try have hq := dX hb); (try (exfalso; omega))))) | (apply qr_pick; refine r_pick ?_) | (apply qr_load; refine r_load ?_) | (apply qr_lits; refine r_lits ?_))
 refine aw_tree ((.free 2 (.fork (.alt 0 (.fork (.alt 1 (.fork (.alt 3 (.fork (.alt 4 (.fork (.alt 5 (.only 6 .tail) (.alt 6 (.only 5 .tail) .stop))) (.alt 6 (.only 4 (.only 5 .tail)) .stop))) (.alt 6 (.only 3 (.only 4 (.only 5 .tail))) .stop))) (.alt 6 (.only 1 (.only 3 (.only 4 (.only 5 .tail)))) .stop))) (.alt 6 (.only 0 (.only 1 (.only 3 (.only 4 (.only 5 .tail))))) .stop))))) [7] ([(1, exO' Nb)]) ([(45, .d (.agg (byC ⟨b_coop, LS, L5, Nb, L6, L6, 4, 100, 667⟩))), (7, .box 7 0), (6, .d (.bool true)), (5, .d (.bool true)), (1, .box 1 0)]) ([(7, .box 27 (zA.map V.d)), (1, exO' Nb)]) (by kernel_rfl) (by kernel_rfl) (by kernel_rfl) rfl (by decide) (by (repeat (first | exact obs_nil | (apply obs_cons; focus (first | rfl | (simp [find]; done)))))) (fun hrest => ?_) ?_
 ·simp only [tailed, List.filterMap_cons, List.filterMap_nil, List.getElem?_cons_zero, List.getElem?_cons_succ] at hrest
  repeat' (first | apply am_fork | apply am_alt | exact am_stop | refine am_free rfl ?_ | refine am_only rfl ?_ | refine am_leaf hrest (by (repeat (first | exact sub_nil | (apply sub_cons; focus (first | rfl | exact vint (by first | omega) | (simp [look]; done)))))) (by (repeat (first | exact obs_nil | (apply obs_cons; focus (first | rfl | (simp [find]; done)))))) | refine m_skip ?_ | refine n_skip ?_ | (apply at_mcall; refine m_call (ll) hE ?_; rintro _ rfl; (try dsimp only [flat, D.plain, D.plainL])) | (apply at_mcall; refine m_call (l5) hE ?_; rintro _ rfl; clear l5; (try dsimp only [flat, D.plain, D.plainL])) | (apply at_mcall; refine m_call (l6) hE ?_; rintro _ rfl; (try dsimp only [flat, D.plain, D.plainL])) | (apply at_am (.build _ _); refine am_nowd (by first | exact want_none | exact want_yes rfl rfl (by assumption) | exact want_yes rfl rfl (by with_reducible rfl)) (y_build rfl (by repeat (first | exact PartsD.nil | (apply PartsD.cons; first | exact ToD.d _ | exact ToD.row _ _ _ _ _ rfl))) (by first | (simp only [dfill, normV, normList, normMap]; rfl) | (simp [dfill, putD, cellsD, zerosD, Value.cells]; rfl))) (lt_ok rfl) ?_; dsimp only [flatV, flat, D.plain, D.plainL]) | (apply qm_load; refine m_load ?_) | (apply qn_build; refine n_build ?_) | (apply at_am (.alloc _); refine am_alloc (by first | exact want_none | exact want_yes rfl rfl (by assumption) | exact want_yes rfl rfl (by with_reducible rfl)) rfl (by first | (simp only [normV, normList, normMap]; rfl) | rfl) rfl (lt_ok rfl) rfl rfl rfl ?_) | (apply at_am (.store _ _ _); first | refine am_store (by first | exact want_none | exact want_yes rfl rfl (by assumption) | exact want_yes rfl rfl (by with_reducible rfl)) rfl rfl rfl (ev_d rfl) nofun (by first | (simp only [normV, normList, normMap]; rfl) | rfl) (by simp [V.one, Value.oneCell']) (.inl ⟨rfl, rfl⟩) rfl (le_ok rfl) (by first | (simp only [normV, normList, normMap]; rfl) | rfl) ?_ | refine am_store (by first | exact want_none | exact want_yes rfl rfl (by assumption) | exact want_yes rfl rfl (by with_reducible rfl)) rfl rfl rfl (ev_d rfl) nofun (by first | (simp only [normV, normList, normMap]; rfl) | rfl) (by simp [V.one, Value.oneCell']) (.inr rfl) rfl (le_ok rfl) (by first | (simp only [normV, normList, normMap]; rfl) | rfl) ?_) | (refine am_split rfl rfl (fun hb => ?_) (fun hb => ?_) <;> ((try have hq := dX hb); (try (exfalso; omega)))))
 simp only [tailed, List.filterMap_cons, List.filterMap_nil, List.getElem?_cons_zero, List.getElem?_cons_succ]
 clear ll l6
 repeat' (first | refine nx ?_ | (apply qr_load; refine r_load ?_) | (apply qr_alloc; refine r_alloc ?_) | (apply qr_store; refine r_store ?_) | (apply qr_build; refine r_build ?_))
 refine aw_mixo ([(1, exO' Nb), (8, byO' ⟨b_coop, LS, L5, Nb, L6, L6, 4, 100, 667⟩)]) [(0, true), (1, false)] [2, 3, 4] (by kernel_rfl) (by kernel_rfl) (by kernel_rfl) (by decide) (by (repeat (first | exact obs_nil | (apply obs_cons; focus (first | rfl | (simp [find]; done)))))) ?_
 simp only [planned, tailed, List.filterMap_cons, List.filterMap_nil, List.getElem?_cons_zero, List.getElem?_cons_succ, Option.map_some]
 repeat' (first | apply am_nil | refine m_skip ?_ | refine n_skip ?_ | (apply at_mcall; refine m_call (l4) hE ?_; rintro _ rfl; (try dsimp only [flat, D.plain, D.plainL])) | (apply qm_load; refine m_load ?_) | (refine am_split rfl rfl (fun hb => ?_) (fun hb => ?_) <;> ((try have hq := dX hb); (try (exfalso; omega)))))
 clear l4
 repeat' (first | (apply at_call; refine k_call (t8) hE ?_; rintro _ rfl; clear t8) | (apply at_call; refine k_call (k1) hE ?_; rintro _ rfl; clear k1) | (apply at_call; refine k_call (k2) hE ?_; rintro _ rfl; clear k2) | (apply at_call; refine k_call (k3) hE ?_; rintro _ rfl) | refine nx ?_ | (apply qr_move; refine r_move ?_) | (apply qr_assign; refine r_assign ?_) | (apply at_guard; first | refine g_go ?_ | refine g_nt ?_ | refine g_nf ?_ | refine g_nu ?_ | ((first | refine al_split_t rfl rfl (lt_ok rfl) (fun hb => ?_) (fun hb => ?_) | refine al_split_f rfl rfl (lt_ok rfl) (fun hb => ?_) (fun hb => ?_)) <;> ((try have hq := dX hb); (try (exfalso; omega))))) | (apply qr_pick; refine r_pick ?_) | (apply qr_eql; refine r_eql ?_) | (apply qr_load; refine r_load ?_) | (apply qr_faddr; refine r_faddr ?_) | (apply qr_store; refine r_store ?_) | (apply qr_build; refine r_build ?_))
 refine rt1 ?_
 rfl
end Go.Proofs.Ytgiacdhffklenaa
end
section
set_option linter.unusedSimpArgs false
set_option linter.unusedVariables false
namespace Go.Proofs.Ytgiacdhffklenaa
open Go.RowKit
def FewU (ls : List (ByteArray × Ex)) (e : Ex) (r : D) : Prop := ∃ b : Bool, r = .bool b ∧ (b = true → ls.length ≤ 20 ∧ (∀ q ∈ ls, Ex.tame q.2) ∧ e.tame)
theorem ufew_any (ls : List (ByteArray × Ex)) (e : Ex) (hl : ls.length ≤ 9223372036854775807) (hc : ∀ q ∈ ls, Ex.came q.2) (he : e.came) : PureC 8 [letsD ls, .agg (exC e)] (FewU ls e) := by
 have hml : (ls.map letC).length = ls.length := List.length_map ..
 have k0 := fewE_any e he
 refine pure_enter Try.func8 rfl (by decide) _ Try.ntmps8 (le_ok rfl) (fun w Pr hE => ?_)
 dsimp only [slotsOf, Nat.zero_add, Nat.reduceAdd]
 repeat' (first | refine nx ?_ | (apply aq_block_y; decide) | (apply qr_assign; refine r_assign ?_) | (apply at_cond; first | refine c_t ?_ | refine c_f ?_ | (refine aw_cond rfl (fun hb => ?_) (fun hb => ?_) <;> ((try have hq := dX hb); (try (exfalso; omega))))) | (apply qr_boxed; refine r_boxed ?_))
 refine aw_lp (fun N sl ob => ∃ i : Nat, N = ls.length - i ∧ i ≤ ls.length ∧ i ≤ 21 ∧ (∀ q ∈ ls.take i, Ex.tame q.2) ∧ sl = [(5, .d (.int i)), (4, .d (.bool false)), (3, .box 3 0), (0, .d (letsD ls))] ∧ ob = [(3, exO' e)]) (⟨0, rfl, Nat.zero_le _, by omega, fun q hq => by simp at hq, rfl, rfl⟩) ?_
 rintro N sl ob ⟨i, rfl, hi, hi2, hs, rfl, rfl⟩
 by_cases hlt : i < ls.length ∧ i ≤ 20
 ·obtain ⟨hlt, h20⟩ := hlt
  have hg : (ls.map letC)[i]? = some (letC ls[i]) := by rw [get_map hlt]
  have k1 := fewE_any ls[i].2 (hc _ (List.getElem_mem hlt))
  have hn : Ex.tame ls[i].2 → ∀ q ∈ ls.take (i + 1), Ex.tame q.2 := fun ht q hq => by
   rw [List.take_succ_eq_append_getElem hlt, List.mem_append, List.mem_singleton] at hq
   rcases hq with hq | rfl
   ·exact hs q hq
   ·exact ht
  have q1 : decide ((i : Int) < ls.length) = true := decide_eq_true (by omega)
  have q2 : decide ((i : Int) ≤ 20) = true := decide_eq_true (by omega)
  generalize ls[i] = z at *
  repeat' (first | (apply at_op (.indexAddr _ _ _); refine al_ixq hg ?_) | (apply at_call; refine k_call (k1) hE ?_; rintro _ ⟨b1, rfl, t1⟩; cases b1) | refine nx ?_ | (apply aq_block_y; decide) | (apply qr_move; refine r_move ?_) | (apply at_cond; first | refine c_t ?_ | refine c_f ?_ | (refine aw_cond rfl (fun hb => ?_) (fun hb => ?_) <;> ((try have hq := dX hb); (try (exfalso; omega))))) | (apply at_guard; first | refine g_go ?_ | refine g_nt ?_ | refine g_nf ?_ | refine g_nu ?_ | ((first | refine al_split_t rfl rfl (lt_ok rfl) (fun hb => ?_) (fun hb => ?_) | refine al_split_f rfl rfl (lt_ok rfl) (fun hb => ?_) (fun hb => ?_)) <;> ((try have hq := dX hb); (try (exfalso; omega))))) | (apply qr_pick; refine r_pick ?_) | (apply qr_lss; refine r_lss ?_) | (apply qr_leq; refine r_leq ?_) | (apply qr_not; refine r_not ?_) | (apply qr_len; refine r_len ?_) | (apply qr_ix; refine r_ix ?_) | (apply qr_load; refine r_load ?_) | (apply qr_faddr; refine r_faddr ?_))
  ·skip
   repeat' (first | refine nx ?_ | (apply aq_block_y; decide) | (apply qr_move; refine r_move ?_) | (apply qr_assign; refine r_assign ?_) | (apply at_cond; first | refine c_t ?_ | refine c_f ?_ | (refine aw_cond rfl (fun hb => ?_) (fun hb => ?_) <;> ((try have hq := dX hb); (try (exfalso; omega))))) | (apply qr_not; refine r_not ?_) | (apply qr_ix; refine r_ix ?_) | (apply qr_load; refine r_load ?_) | (apply qr_faddr; refine r_faddr ?_))
   refine rt1 ?_
   exact ⟨false, rfl, fun h => by cases h⟩
  ·skip
   repeat' (first | refine nx ?_ | (apply aq_block_y; decide) | (apply qr_move; refine r_move ?_) | (apply qr_assign; refine r_assign ?_) | (apply at_cond; first | refine c_t ?_ | refine c_f ?_ | (refine aw_cond rfl (fun hb => ?_) (fun hb => ?_) <;> ((try have hq := dX hb); (try (exfalso; omega))))) | (apply qr_add; refine r_add ?_) | (apply qr_not; refine r_not ?_) | (apply qr_ix; refine r_ix ?_) | (apply qr_load; refine r_load ?_) | (apply qr_faddr; refine r_faddr ?_))
   refine aq_rd (⟨i + 1, rfl, by omega, by omega, hn (t1 rfl), rfl, rfl⟩) (by omega)
 ·by_cases hle : ls.length ≤ 20
  ·have q0 : decide ((ls.length : Int) ≤ 20) = true := decide_eq_true (by omega)
   have q1 : decide ((i : Int) < ls.length) = false := decide_eq_false (by omega)
   obtain rfl : i = ls.length := by omega
   rw [List.take_length] at hs
   repeat' (first | (apply at_call; refine k_call (k0) hE ?_; rintro _ ⟨b1, rfl, t1⟩) | refine nx ?_ | (apply aq_block_y; decide) | (apply qr_move; refine r_move ?_) | (apply qr_assign; refine r_assign ?_) | (apply at_cond; first | refine c_t ?_ | refine c_f ?_ | (refine aw_cond rfl (fun hb => ?_) (fun hb => ?_) <;> ((try have hq := dX hb); (try (exfalso; omega))))) | (apply at_guard; first | refine g_go ?_ | refine g_nt ?_ | refine g_nf ?_ | refine g_nu ?_ | ((first | refine al_split_t rfl rfl (lt_ok rfl) (fun hb => ?_) (fun hb => ?_) | refine al_split_f rfl rfl (lt_ok rfl) (fun hb => ?_) (fun hb => ?_)) <;> ((try have hq := dX hb); (try (exfalso; omega))))) | (apply qr_pick; refine r_pick ?_) | (apply qr_lss; refine r_lss ?_) | (apply qr_leq; refine r_leq ?_) | (apply qr_len; refine r_len ?_) | (apply qr_load; refine r_load ?_))
   refine rt1 ?_
   exact ⟨b1, by simp, fun h => ⟨hle, hs, t1 h⟩⟩
  ·have q0 : decide ((ls.length : Int) ≤ 20) = false := decide_eq_false (by omega)
   by_cases hli : i < ls.length
   ·have q1 : decide ((i : Int) < ls.length) = true := decide_eq_true (by omega)
    have q2 : decide ((i : Int) ≤ 20) = false := decide_eq_false (by omega)
    repeat' (first | refine nx ?_ | (apply aq_block_y; decide) | (apply qr_move; refine r_move ?_) | (apply qr_assign; refine r_assign ?_) | (apply at_cond; first | refine c_t ?_ | refine c_f ?_ | (refine aw_cond rfl (fun hb => ?_) (fun hb => ?_) <;> ((try have hq := dX hb); (try (exfalso; omega))))) | (apply at_guard; first | refine g_go ?_ | refine g_nt ?_ | refine g_nf ?_ | refine g_nu ?_ | ((first | refine al_split_t rfl rfl (lt_ok rfl) (fun hb => ?_) (fun hb => ?_) | refine al_split_f rfl rfl (lt_ok rfl) (fun hb => ?_) (fun hb => ?_)) <;> ((try have hq := dX hb); (try (exfalso; omega))))) | (apply qr_pick; refine r_pick ?_) | (apply qr_lss; refine r_lss ?_) | (apply qr_leq; refine r_leq ?_) | (apply qr_len; refine r_len ?_) | (apply qr_load; refine r_load ?_))
    refine rt1 ?_
    exact ⟨false, by simp, fun h => by cases h⟩
   ·have q1 : decide ((i : Int) < ls.length) = false := decide_eq_false (by omega)
    repeat' (first | refine nx ?_ | (apply aq_block_y; decide) | (apply qr_move; refine r_move ?_) | (apply qr_assign; refine r_assign ?_) | (apply at_cond; first | refine c_t ?_ | refine c_f ?_ | (refine aw_cond rfl (fun hb => ?_) (fun hb => ?_) <;> ((try have hq := dX hb); (try (exfalso; omega))))) | (apply at_guard; first | refine g_go ?_ | refine g_nt ?_ | refine g_nf ?_ | refine g_nu ?_ | ((first | refine al_split_t rfl rfl (lt_ok rfl) (fun hb => ?_) (fun hb => ?_) | refine al_split_f rfl rfl (lt_ok rfl) (fun hb => ?_) (fun hb => ?_)) <;> ((try have hq := dX hb); (try (exfalso; omega))))) | (apply qr_pick; refine r_pick ?_) | (apply qr_lss; refine r_lss ?_) | (apply qr_leq; refine r_leq ?_) | (apply qr_len; refine r_len ?_) | (apply qr_load; refine r_load ?_))
    refine rt1 ?_
    exact ⟨false, by simp, fun h => by cases h⟩
def Before (ls : List (ByteArray × Ex)) : Ex → List Int → Prop
 | _, [] => True
 | e, i :: p => ∃ (k : Nat) (h : k < e.args.length), i = k ∧ (∀ (j : Nat) (hj : j < e.args.length), j < k → (ofU ls e.args[j]).2.2 = 0) ∧ Before ls e.args[k] p
end Go.Proofs.Ytgiacdhffklenaa
end
section
namespace Go.Proofs.Ytgiacdhffklenaa
open Go.RowKit
end Go.Proofs.Ytgiacdhffklenaa
end
section
set_option linter.unusedSimpArgs false
set_option linter.unusedVariables false
namespace Go.Proofs.Ytgiacdhffklenaa
open Go.RowKit
theorem wrong_more {ls : List (ByteArray × Ex)} {q : ByteArray × Ex} (hq : q.2.right 12 = true) : wrongL (ls ++ [q]) = wrongL ls := by
 unfold wrongL
 rw [List.any_append]
 simp [hq]
theorem more_eq {ls : List (ByteArray × Ex)} {q : ByteArray × Ex} {e : Ex} {u u' c c' : Int} {p p' : List Int} (hl : (ls ++ [q]).length ≤ 20) (hq : q.2.right 12 = true) (h : ofU ls e = (u, p, c)) (h' : ofU (ls ++ [q]) e = (u', p', c')) (hc : c = 1 ∨ c = 0) : c' = c ∧ u = u' := by
 have hl2 : ls.length + 1 ≤ 20 := by simpa using hl
 unfold ofU at h h'
 rw [wrong_more hq, show decide (20 < ((ls ++ [q]).length : Int)) = decide (20 < (ls.length : Int)) by rw [decide_eq_false (by omega), decide_eq_false (by omega)]] at h'
 split at h
 ·rename_i hcc
  rw [if_pos hcc] at h'
  cases h
  cases h'
  exact ⟨rfl, rfl⟩
 ·rename_i hcc
  rw [if_neg hcc] at h'
  have h1 : e.right 12 = true := by
   simp only [Bool.or_eq_true, Bool.not_eq_true', not_or, Bool.not_eq_false] at hcc
   exact hcc.1
  cases hx : e.unitU (scopedU ls) with
  | ok v =>
   rw [scoped_snoc, unit_ext _ _ _ _ hx] at h'
   rw [hx] at h
   cases h
   cases h'
   exact ⟨rfl, rfl⟩
  | bad r d =>
   have := bad_code h1 hx
   rw [hx] at h
   simp only [Prod.mk.injEq] at h
   omega
theorem scopeU_no {sc : List (ByteArray × Int)} {s : ByteArray} (h : ∀ q ∈ sc, q.1 ≠ s) : scopeU sc s = -1 := by
 unfold scopeU
 rw [List.find?_eq_none.2 fun q hq => by simpa using h q hq]
theorem more_new {ls : List (ByteArray × Ex)} {s : ByteArray} {u c : Int} {p : List Int} (h : ofU ls (namedE 1 s) = (u, p, c)) (hn : ∀ q ∈ ls, q.1 ≠ s) : c = 1 ∨ (c = 14 ∧ p = []) := by
 unfold ofU at h
 split at h
 ·cases h
  exact .inl rfl
 ·have hs : scopeU (scopedU ls) s = -1 := scopeU_no fun q hq => by
   have hm : q.1 ∈ (scopedU ls).map (·.1) := List.mem_map_of_mem hq
   rw [scoped_names] at hm
   obtain ⟨r, hr, he⟩ := List.mem_map.1 hm
   exact he ▸ hn r hr
  have hx : (namedE 1 s).unitU (scopedU ls) = .bad [] 14 := by
   rw [unit_mk, if_neg (by decide), if_neg (by decide), if_neg (by decide), if_pos rfl, hs]
   rfl
  rw [hx] at h
  cases h
  exact .inr ⟨rfl, rfl⟩
abbrev letB (q : ByteArray × Ex) : O := .box 46 [.d (.str q.1), .d (.int q.2.op), .d (.int q.2.num), .d (.int q.2.unit), .d (.str q.2.str), .d (.list 5 (Ex.rows q.2.args))]
theorem one_lets (l : List (ByteArray × Ex)) : ∀ x ∈ l.map letC, ∀ z ∈ x, D.one z = true := by
 intro x hx z hz
 obtain ⟨q, _, rfl⟩ := List.mem_map.1 hx
 simp only [letC, List.mem_cons, List.not_mem_nil, or_false] at hz
 rcases hz with rfl | rfl | rfl | rfl | rfl | rfl <;> rfl
theorem unew_take {ls : List (ByteArray × Ex)} {i : Nat} {s : ByteArray} {b : Bool} (h : i < ls.length) (hb : b = true → ∀ q ∈ ls.take i, q.1 ≠ s) : (b && !decide (ls[i].1 = s)) = true → ∀ q ∈ ls.take (i + 1), q.1 ≠ s := by
 intro h1 q hq
 rw [Bool.and_eq_true] at h1
 rw [List.take_succ_eq_append_getElem h, List.mem_append, List.mem_singleton] at hq
 rcases hq with hq | rfl
 ·exact hb h1.1 q hq
 ·simpa using h1.2
theorem umore_any (ls : List (ByteArray × Ex)) (e : Ex) (q : ByteArray × Ex) (hl : ls.length * 80 ≤ 140737488351232) (hc : ∀ q ∈ ls, Ex.came q.2) (ce : e.came) (cs : q.1.size ≤ 9223372036854775807) (cq : q.2.came) : PureC 6 [letsD ls, .agg (exC e), .agg (letC q)] (· = .bool true) := by
 have hml : (ls.map letC).length = ls.length := List.length_map ..
 have hmt : ls.map letC ++ [letC q] = (ls ++ [q]).map letC := by simp
 have k1 := usmall_any
 have k2 := ufew_any ls e (by omega) hc ce
 have k3 := ufew_any (ls ++ [q]) e (by simp; omega) (fun r hr => by
  rcases List.mem_append.1 hr with h | h
  ·exact hc r h
  ·rw [List.mem_singleton.1 h]; exact cq) ce
 refine pure_enter Try.func6 rfl (by decide) _ Try.ntmps6 (le_ok rfl) (fun w Pr hE => ?_)
 dsimp only [slotsOf, Nat.zero_add, Nat.reduceAdd]
 repeat' (first | (apply at_call; refine k_call (k1) hE ?_; rintro _ rfl) | refine nx ?_ | (apply aq_block_y; decide) | (apply qr_assign; refine r_assign ?_) | (apply at_cond; first | refine c_t ?_ | refine c_f ?_ | (refine aw_cond rfl (fun hb => ?_) (fun hb => ?_) <;> ((try have hq := dX hb); (try (exfalso; omega))))) | (apply qr_boxed; refine r_boxed ?_))
 refine aw_tree ((.free 1 (.free 3 (.fork (.alt 0 (.fork (.alt 2 (.only 4 (.only 5 .tail)) (.alt 4 (.only 2 (.only 5 .tail)) .stop))) (.alt 4 (.only 0 (.only 2 (.only 5 .tail))) .stop)))))) [6] ([(5, letB q)]) ([(26, .row 21 2), (7, .d (.bool true)), (5, .box 5 0), (4, .box 4 0), (0, .d (letsD ls))]) ([(21, .row 46 6 2 (ls.map letC ++ [letC q])), (5, letB q), (4, exO' e)]) (by kernel_rfl) (by kernel_rfl) (by kernel_rfl) rfl (by decide) (by (repeat (first | exact obs_nil | (apply obs_cons; focus (first | rfl | (simp [find]; done)))))) (fun hrest => ?_) ?_
 ·simp only [tailed, List.filterMap_cons, List.filterMap_nil, List.getElem?_cons_zero, List.getElem?_cons_succ] at hrest
  repeat' (first | apply am_fork | apply am_alt | exact am_stop | refine am_free rfl ?_ | refine am_only rfl ?_ | refine am_leaf hrest (by (repeat (first | exact sub_nil | (apply sub_cons; focus (first | rfl | exact vint (by first | omega) | (simp [look]; done)))))) (by (repeat (first | exact obs_nil | (apply obs_cons; focus (first | rfl | (simp [find]; done)))))) | refine m_skip ?_ | refine n_skip ?_ | (apply at_am (.buildSlice _ 0 _); refine am_litR (parts := []) (dp := []) (l := []) (n := 0) (l2 := []) (by first | exact want_none | exact want_yes rfl rfl (by assumption) | exact want_yes rfl rfl (by with_reducible rfl)) rfl .nil (by simp [dfill, zerosD]) rfl (by simp) (by simp) (lt_ok rfl) rfl rfl rfl ?_) | (apply at_am (.call { callee := .builtin .append, args := _, argTypes := _ }); first | refine am_append (by first | exact want_none | exact want_yes rfl rfl (by assumption) | exact want_yes rfl rfl (by with_reducible rfl)) rfl rfl rfl (by first | exact ToD.d _ | exact ToD.row _ _ _ _ _ rfl) rfl rfl (one_lets ls) (by decide) (by first | (simp only [List.length_map, List.length_append, List.length_cons, List.length_nil]; omega) | omega) (by first | (simp only [List.length_map, List.length_append, List.length_cons, List.length_nil]; omega) | omega) (lt_ok rfl) ?_ | refine am_append (by first | exact want_none | exact want_yes rfl rfl (by assumption) | exact want_yes rfl rfl (by with_reducible rfl)) rfl rfl rfl (by first | exact ToD.d _ | exact ToD.row _ _ _ _ _ rfl) rfl rfl (one_letc q) (by decide) (by simp only [List.length_cons, List.length_nil, List.nil_append]; omega) (by simp only [List.length_cons, List.length_nil, List.nil_append]; omega) (lt_ok rfl) ?_) | (apply qm_move; refine m_move ?_) | (apply qm_load; refine m_load ?_) | (apply at_am (.buildSlice _ _ _); first | refine am_lit1 (by first | exact want_none | exact want_yes rfl rfl (by assumption) | exact want_yes rfl rfl (by with_reducible rfl)) rfl (by first | exact ToD.d _ | exact ToD.row _ _ _ _ _ rfl) (by first | (simp only [normV, normList, normMap]; rfl) | rfl) rfl (le_ok rfl) (lt_ok rfl) ?_ | refine am_lit (by first | exact want_none | exact want_yes rfl rfl (by assumption) | exact want_yes rfl rfl (by with_reducible rfl)) rfl (by repeat (first | exact PartsD.nil | (apply PartsD.cons; first | exact ToD.d _ | exact ToD.row _ _ _ _ _ rfl))) (by simp [dfill, putD, cellsD, zerosD, Value.cells]; rfl) (by first | (simp only [normV, normList, normMap]; rfl) | rfl) (by decide) (by decide) (lt_ok rfl) ?_) | (apply at_am (.alloc _); refine am_alloc (by first | exact want_none | exact want_yes rfl rfl (by assumption) | exact want_yes rfl rfl (by with_reducible rfl)) rfl (by first | (simp only [normV, normList, normMap]; rfl) | rfl) rfl (lt_ok rfl) rfl rfl rfl ?_) | (apply at_am (.store _ _ _); first | refine am_store (by first | exact want_none | exact want_yes rfl rfl (by assumption) | exact want_yes rfl rfl (by with_reducible rfl)) rfl rfl rfl (ev_d rfl) nofun (by first | (simp only [normV, normList, normMap]; rfl) | rfl) (by simp [V.one, Value.oneCell']) (.inl ⟨rfl, rfl⟩) rfl (le_ok rfl) (by first | (simp only [normV, normList, normMap]; rfl) | rfl) ?_ | refine am_store (by first | exact want_none | exact want_yes rfl rfl (by assumption) | exact want_yes rfl rfl (by with_reducible rfl)) rfl rfl rfl (ev_d rfl) nofun (by first | (simp only [normV, normList, normMap]; rfl) | rfl) (by simp [V.one, Value.oneCell']) (.inr rfl) rfl (le_ok rfl) (by first | (simp only [normV, normList, normMap]; rfl) | rfl) ?_) | (refine am_split rfl rfl (fun hb => ?_) (fun hb => ?_) <;> ((try have hq := dX hb); (try (exfalso; omega)))))
 simp only [tailed, List.filterMap_cons, List.filterMap_nil, List.getElem?_cons_zero, List.getElem?_cons_succ]
 repeat' (first | refine nx ?_ | (apply aq_block_y; decide) | (apply qr_move; refine r_move ?_) | (apply qr_assign; refine r_assign ?_) | (apply at_cond; first | refine c_t ?_ | refine c_f ?_ | (refine aw_cond rfl (fun hb => ?_) (fun hb => ?_) <;> ((try have hq := dX hb); (try (exfalso; omega))))) | (apply qr_load; refine r_load ?_) | (apply qr_lits; refine r_lits ?_) | (apply qr_appd; refine r_appd ?_))
 first | refine al_told 8 (.row _ _ _ _ _ rfl) ?_ | refine aw_told 8 (.row _ _ _ _ _ rfl) ?_
 rw [hmt]
 have hml2 : ((ls ++ [q]).map letC).length = ls.length + 1 := by simp
 repeat' (first | (apply at_call; refine k_call (k2) hE ?_; (rintro _ ⟨b1, rfl, t1⟩; clear k2; cases b1)) | (apply at_call; refine k_call (k3) hE ?_; (rintro _ ⟨b2, rfl, t2⟩; clear k3; cases b2)) | refine nx ?_ | (apply aq_block_y; decide) | (apply qr_move; refine r_move ?_) | (apply qr_assign; refine r_assign ?_) | (apply at_cond; first | refine c_t ?_ | refine c_f ?_ | (refine aw_cond rfl (fun hb => ?_) (fun hb => ?_) <;> ((try have hq := dX hb); (try (exfalso; omega))))) | (apply at_guard; first | refine g_go ?_ | refine g_nt ?_ | refine g_nf ?_ | refine g_nu ?_ | ((first | refine al_split_t rfl rfl (lt_ok rfl) (fun hb => ?_) (fun hb => ?_) | refine al_split_f rfl rfl (lt_ok rfl) (fun hb => ?_) (fun hb => ?_)) <;> ((try have hq := dX hb); (try (exfalso; omega))))) | (apply qr_pick; refine r_pick ?_) | (apply qr_not; refine r_not ?_) | (apply qr_load; refine r_load ?_) | (apply qr_faddr; refine r_faddr ?_) | (apply qr_lits; refine r_lits ?_) | (apply qr_appd; refine r_appd ?_))
 ·skip
  repeat' (first | refine nx ?_ | (apply aq_block_y; decide) | (apply qr_move; refine r_move ?_) | (apply qr_assign; refine r_assign ?_) | (apply at_cond; first | refine c_t ?_ | refine c_f ?_ | (refine aw_cond rfl (fun hb => ?_) (fun hb => ?_) <;> ((try have hq := dX hb); (try (exfalso; omega))))) | (apply at_guard; first | refine g_go ?_ | refine g_nt ?_ | refine g_nf ?_ | refine g_nu ?_ | ((first | refine al_split_t rfl rfl (lt_ok rfl) (fun hb => ?_) (fun hb => ?_) | refine al_split_f rfl rfl (lt_ok rfl) (fun hb => ?_) (fun hb => ?_)) <;> ((try have hq := dX hb); (try (exfalso; omega))))) | (apply qr_pick; refine r_pick ?_) | (apply qr_not; refine r_not ?_) | (apply qr_load; refine r_load ?_) | (apply qr_faddr; refine r_faddr ?_))
  refine rt1 ?_
  rfl
 ·skip
  repeat' (first | refine nx ?_ | (apply aq_block_y; decide) | (apply qr_move; refine r_move ?_) | (apply qr_assign; refine r_assign ?_) | (apply at_cond; first | refine c_t ?_ | refine c_f ?_ | (refine aw_cond rfl (fun hb => ?_) (fun hb => ?_) <;> ((try have hq := dX hb); (try (exfalso; omega))))) | (apply at_guard; first | refine g_go ?_ | refine g_nt ?_ | refine g_nf ?_ | refine g_nu ?_ | ((first | refine al_split_t rfl rfl (lt_ok rfl) (fun hb => ?_) (fun hb => ?_) | refine al_split_f rfl rfl (lt_ok rfl) (fun hb => ?_) (fun hb => ?_)) <;> ((try have hq := dX hb); (try (exfalso; omega))))) | (apply qr_pick; refine r_pick ?_) | (apply qr_not; refine r_not ?_) | (apply qr_load; refine r_load ?_) | (apply qr_faddr; refine r_faddr ?_))
  refine rt1 ?_
  rfl
 obtain ⟨hl20, hls, te⟩ := t1 rfl
 obtain ⟨hl21, hls2, _⟩ := t2 rfl
 have tq : q.2.tame := hls2 q (by simp)
 clear t1 t2 k1
 have hl100 : ls.length ≤ 100 := by omega
 have rq := rightExp_any q.2 tq
 cases hq12 : q.2.right 12
 ·rw [hq12] at rq
  repeat' (first | (apply at_call; refine k_call (rq) hE ?_; rintro _ rfl) | refine nx ?_ | (apply aq_block_y; decide) | (apply qr_move; refine r_move ?_) | (apply qr_assign; refine r_assign ?_) | (apply at_cond; first | refine c_t ?_ | refine c_f ?_ | (refine aw_cond rfl (fun hb => ?_) (fun hb => ?_) <;> ((try have hq := dX hb); (try (exfalso; omega))))) | (apply at_guard; first | refine g_go ?_ | refine g_nt ?_ | refine g_nf ?_ | refine g_nu ?_ | ((first | refine al_split_t rfl rfl (lt_ok rfl) (fun hb => ?_) (fun hb => ?_) | refine al_split_f rfl rfl (lt_ok rfl) (fun hb => ?_) (fun hb => ?_)) <;> ((try have hq := dX hb); (try (exfalso; omega))))) | (apply qr_pick; refine r_pick ?_) | (apply qr_not; refine r_not ?_) | (apply qr_load; refine r_load ?_) | (apply qr_faddr; refine r_faddr ?_))
  refine rt1 ?_
  rfl
 rw [hq12] at rq
 have g1 := uof_any ls e hl100 hls te
 have g2 := uof_any (ls ++ [q]) e (by omega) hls2 te
 generalize hr1 : ofU ls e = r1 at g1
 generalize hr2 : ofU (ls ++ [q]) e = r2 at g2
 obtain ⟨u, p, c⟩ := r1
 obtain ⟨u', p', c'⟩ := r2
 have hm := more_eq hl21 hq12 hr1 hr2
 unfold ofD at g1 g2
 dsimp only at g1 g2
 clear hr1 hr2
 repeat' (first | (apply at_call; refine k_call (rq) hE ?_; rintro _ rfl) | (apply at_call; refine k_call (g1) hE ?_; rintro _ rfl; clear g1) | (apply at_call; refine k_call (g2) hE ?_; rintro _ rfl) | refine nx ?_ | (apply aq_block_y; decide) | (apply qr_move; refine r_move ?_) | (apply qr_assign; refine r_assign ?_) | (apply at_cond; first | refine c_t ?_ | refine c_f ?_ | (refine aw_cond rfl (fun hb => ?_) (fun hb => ?_) <;> ((try have hq := dX hb); (try (exfalso; omega))))) | (apply at_guard; first | refine g_go ?_ | refine g_nt ?_ | refine g_nf ?_ | refine g_nu ?_ | ((first | refine al_split_t rfl rfl (lt_ok rfl) (fun hb => ?_) (fun hb => ?_) | refine al_split_f rfl rfl (lt_ok rfl) (fun hb => ?_) (fun hb => ?_)) <;> ((try have hq := dX hb); (try (exfalso; omega))))) | (apply qr_pick; refine r_pick ?_) | (apply qr_not; refine r_not ?_) | (apply qr_extract; refine r_extract ?_) | (apply qr_load; refine r_load ?_) | (apply qr_faddr; refine r_faddr ?_))
 clear g2 rq
 by_cases hc1 : c = 1
 ·obtain ⟨rfl, rfl⟩ := hm (.inl hc1)
  subst hc1
  have q2 : decide (u = u) = true := decide_eq_true rfl
  repeat' (first | refine nx ?_ | (apply aq_block_y; decide) | (apply qr_move; refine r_move ?_) | (apply qr_assign; refine r_assign ?_) | (apply at_cond; first | refine c_t ?_ | refine c_f ?_ | (refine aw_cond rfl (fun hb => ?_) (fun hb => ?_) <;> ((try have hq := dX hb); (try (exfalso; omega))))) | (apply at_guard; first | refine g_go ?_ | refine g_nt ?_ | refine g_nf ?_ | refine g_nu ?_ | ((first | refine al_split_t rfl rfl (lt_ok rfl) (fun hb => ?_) (fun hb => ?_) | refine al_split_f rfl rfl (lt_ok rfl) (fun hb => ?_) (fun hb => ?_)) <;> ((try have hq := dX hb); (try (exfalso; omega))))) | (apply qr_pick; refine r_pick ?_) | (apply qr_eql; refine r_eql ?_))
  refine rt1 ?_
  simp
 have q1 : decide (c = 1) = false := decide_eq_false hc1
 by_cases hc0 : c = 0
 ·obtain ⟨rfl, rfl⟩ := hm (.inr hc0)
  subst hc0
  have q2 : decide (u = u) = true := decide_eq_true rfl
  repeat' (first | refine nx ?_ | (apply aq_block_y; decide) | (apply qr_move; refine r_move ?_) | (apply qr_assign; refine r_assign ?_) | (apply at_cond; first | refine c_t ?_ | refine c_f ?_ | (refine aw_cond rfl (fun hb => ?_) (fun hb => ?_) <;> ((try have hq := dX hb); (try (exfalso; omega))))) | (apply at_guard; first | refine g_go ?_ | refine g_nt ?_ | refine g_nf ?_ | refine g_nu ?_ | ((first | refine al_split_t rfl rfl (lt_ok rfl) (fun hb => ?_) (fun hb => ?_) | refine al_split_f rfl rfl (lt_ok rfl) (fun hb => ?_) (fun hb => ?_)) <;> ((try have hq := dX hb); (try (exfalso; omega))))) | (apply qr_pick; refine r_pick ?_) | (apply qr_eql; refine r_eql ?_))
  refine rt1 ?_
  simp
 have q2 : decide (c = 0) = false := decide_eq_false hc0
 repeat' (first | refine nx ?_ | (apply aq_block_y; decide) | (apply qr_move; refine r_move ?_) | (apply qr_assign; refine r_assign ?_) | (apply at_cond; first | refine c_t ?_ | refine c_f ?_ | (refine aw_cond rfl (fun hb => ?_) (fun hb => ?_) <;> ((try have hq := dX hb); (try (exfalso; omega))))) | (apply at_guard; first | refine g_go ?_ | refine g_nt ?_ | refine g_nf ?_ | refine g_nu ?_ | ((first | refine al_split_t rfl rfl (lt_ok rfl) (fun hb => ?_) (fun hb => ?_) | refine al_split_f rfl rfl (lt_ok rfl) (fun hb => ?_) (fun hb => ?_)) <;> ((try have hq := dX hb); (try (exfalso; omega))))) | (apply qr_pick; refine r_pick ?_) | (apply qr_eql; refine r_eql ?_))
 clear q1 q2 hm hml2 hmt
 refine aw_lp (fun N sl ob => ∃ (i : Nat) (b : Bool), N = ls.length - i ∧ i ≤ ls.length ∧ (b = true → ∀ r ∈ ls.take i, r.1 ≠ q.1) ∧ sl = [(16, .d (.int i)), (15, .d (.bool b)), (7, .d (.bool true)), (5, .box 5 0), (0, .d (letsD ls))] ∧ ob = [(5, letB q)]) (⟨0, true, rfl, Nat.zero_le _, fun _ r hr => by simp at hr, rfl, rfl⟩) ?_
 rintro N sl ob ⟨i, b, rfl, hi, hb9, rfl, rfl⟩
 by_cases hlt : i < ls.length
 ·have hg : (ls.map letC)[i]? = some (letC ls[i]) := by rw [get_map hlt]
  have hn := unew_take hlt hb9
  generalize ls[i] = z at *
  clear hb9
  repeat' (first | refine nx ?_ | (apply aq_block_y; decide) | (apply qr_move; refine r_move ?_) | (apply at_cond; first | refine c_t ?_ | refine c_f ?_ | (refine aw_cond rfl (fun hb => ?_) (fun hb => ?_) <;> ((try have hq := dX hb); (try (exfalso; omega))))) | (apply qr_lss; refine r_lss ?_) | (apply qr_len; refine r_len ?_))
  cases b
  ·skip
   refine aw_mixo ([(5, letB q)]) [(0, true), (1, true), (2, true), (3, true), (4, true), (5, true), (6, true), (7, true), (8, true), (9, true), (10, true)] [11] (by kernel_rfl) (by kernel_rfl) (by kernel_rfl) (by decide) (by (repeat (first | exact obs_nil | (apply obs_cons; focus (first | rfl | (simp [find]; done)))))) ?_
   simp only [planned, tailed, List.filterMap_cons, List.filterMap_nil, List.getElem?_cons_zero, List.getElem?_cons_succ, Option.map_some]
   repeat' (first | apply am_nil | refine m_skip ?_ | refine n_skip ?_ | (apply at_am (.indexAddr _ _ _); refine am_y (by first | exact want_none | exact want_yes rfl rfl (by assumption) | exact want_yes rfl rfl (by with_reducible rfl)) (y_ix (by first | exact ToD.d _ | exact ToD.row _ _ _ _ _ rfl) rfl rfl (by first | with_reducible rfl | exact lit0 | exact lit1 | exact lit2 | exact lit3 | exact lit4 | exact int_s _ | exact int_p _ _ | exact int_nat _ (by omega)) hg) (lt_ok rfl) ?_) | (apply qm_move; refine m_move ?_) | (apply qm_pick; refine m_pick ?_) | (apply qm_neq; refine m_neq ?_) | (apply qm_ix; refine m_ix ?_) | (apply qm_load; refine m_load ?_) | (apply qm_faddr; refine m_faddr ?_) | (refine am_split rfl rfl (fun hb => ?_) (fun hb => ?_) <;> ((try have hq := dX hb); (try (exfalso; omega)))))
   repeat' (first | refine nx ?_ | (apply aq_block_y; decide) | (apply qr_move; refine r_move ?_) | (apply qr_assign; refine r_assign ?_) | (apply at_cond; first | refine c_t ?_ | refine c_f ?_ | (refine aw_cond rfl (fun hb => ?_) (fun hb => ?_) <;> ((try have hq := dX hb); (try (exfalso; omega))))) | (apply at_guard; first | refine g_go ?_ | refine g_nt ?_ | refine g_nf ?_ | refine g_nu ?_ | ((first | refine al_split_t rfl rfl (lt_ok rfl) (fun hb => ?_) (fun hb => ?_) | refine al_split_f rfl rfl (lt_ok rfl) (fun hb => ?_) (fun hb => ?_)) <;> ((try have hq := dX hb); (try (exfalso; omega))))) | (apply qr_pick; refine r_pick ?_) | (apply qr_neq; refine r_neq ?_) | (apply qr_add; refine r_add ?_) | (apply qr_ix; refine r_ix ?_) | (apply qr_load; refine r_load ?_) | (apply qr_faddr; refine r_faddr ?_))
   refine aq_rd (⟨i + 1, _, rfl, by omega, hn, rfl, rfl⟩) (by omega)
  ·skip
   refine aw_mixo ([(5, letB q)]) [(0, true), (1, true), (2, true), (3, true), (4, true), (5, true), (6, true), (7, true), (8, true), (9, true), (10, true)] [11] (by kernel_rfl) (by kernel_rfl) (by kernel_rfl) (by decide) (by (repeat (first | exact obs_nil | (apply obs_cons; focus (first | rfl | (simp [find]; done)))))) ?_
   simp only [planned, tailed, List.filterMap_cons, List.filterMap_nil, List.getElem?_cons_zero, List.getElem?_cons_succ, Option.map_some]
   repeat' (first | apply am_nil | refine m_skip ?_ | refine n_skip ?_ | (apply at_am (.indexAddr _ _ _); refine am_y (by first | exact want_none | exact want_yes rfl rfl (by assumption) | exact want_yes rfl rfl (by with_reducible rfl)) (y_ix (by first | exact ToD.d _ | exact ToD.row _ _ _ _ _ rfl) rfl rfl (by first | with_reducible rfl | exact lit0 | exact lit1 | exact lit2 | exact lit3 | exact lit4 | exact int_s _ | exact int_p _ _ | exact int_nat _ (by omega)) hg) (lt_ok rfl) ?_) | (apply qm_move; refine m_move ?_) | (apply qm_pick; refine m_pick ?_) | (apply qm_neq; refine m_neq ?_) | (apply qm_ix; refine m_ix ?_) | (apply qm_load; refine m_load ?_) | (apply qm_faddr; refine m_faddr ?_) | (refine am_split rfl rfl (fun hb => ?_) (fun hb => ?_) <;> ((try have hq := dX hb); (try (exfalso; omega)))))
   repeat' (first | refine nx ?_ | (apply aq_block_y; decide) | (apply qr_move; refine r_move ?_) | (apply qr_assign; refine r_assign ?_) | (apply at_cond; first | refine c_t ?_ | refine c_f ?_ | (refine aw_cond rfl (fun hb => ?_) (fun hb => ?_) <;> ((try have hq := dX hb); (try (exfalso; omega))))) | (apply at_guard; first | refine g_go ?_ | refine g_nt ?_ | refine g_nf ?_ | refine g_nu ?_ | ((first | refine al_split_t rfl rfl (lt_ok rfl) (fun hb => ?_) (fun hb => ?_) | refine al_split_f rfl rfl (lt_ok rfl) (fun hb => ?_) (fun hb => ?_)) <;> ((try have hq := dX hb); (try (exfalso; omega))))) | (apply qr_pick; refine r_pick ?_) | (apply qr_neq; refine r_neq ?_) | (apply qr_add; refine r_add ?_) | (apply qr_ix; refine r_ix ?_) | (apply qr_load; refine r_load ?_) | (apply qr_faddr; refine r_faddr ?_))
   refine aq_rd (⟨i + 1, _, rfl, by omega, hn, rfl, rfl⟩) (by omega)
 ·obtain rfl : i = ls.length := by omega
  rw [List.take_length] at hb9
  have n1 := named_any 1 q.1
  have g3 := uofW_any ls (namedE 1 q.1) hl100 hls ⟨cs, by simp, trivial⟩
  generalize hr3 : ofU ls (namedE 1 q.1) = r3 at g3
  obtain ⟨u3, p3, c3⟩ := r3
  have hm := more_new hr3
  unfold ofD at g3
  dsimp only at g3
  clear hr3
  generalize namedE 1 q.1 = E1 at n1 g3
  cases b
  ·clear hm
   repeat' (first | (apply at_call; refine k_call (n1) hE ?_; rintro _ rfl) | (apply at_call; refine k_call (g3) hE ?_; rintro _ rfl) | refine nx ?_ | (apply aq_block_y; decide) | (apply qr_move; refine r_move ?_) | (apply qr_assign; refine r_assign ?_) | (apply at_cond; first | refine c_t ?_ | refine c_f ?_ | (refine aw_cond rfl (fun hb => ?_) (fun hb => ?_) <;> ((try have hq := dX hb); (try (exfalso; omega))))) | (apply at_guard; first | refine g_go ?_ | refine g_nt ?_ | refine g_nf ?_ | refine g_nu ?_ | ((first | refine al_split_t rfl rfl (lt_ok rfl) (fun hb => ?_) (fun hb => ?_) | refine al_split_f rfl rfl (lt_ok rfl) (fun hb => ?_) (fun hb => ?_)) <;> ((try have hq := dX hb); (try (exfalso; omega))))) | (apply qr_pick; refine r_pick ?_) | (apply qr_lss; refine r_lss ?_) | (apply qr_eql; refine r_eql ?_) | (apply qr_not; refine r_not ?_) | (apply qr_len; refine r_len ?_) | (apply qr_extract; refine r_extract ?_) | (apply qr_load; refine r_load ?_) | (apply qr_faddr; refine r_faddr ?_))
   refine rt1 ?_
   rfl
  ·rcases hm (hb9 rfl) with h | ⟨h, h'⟩
   ·subst h
    clear hm
    repeat' (first | (apply at_call; refine k_call (n1) hE ?_; rintro _ rfl) | (apply at_call; refine k_call (g3) hE ?_; rintro _ rfl) | refine nx ?_ | (apply aq_block_y; decide) | (apply qr_move; refine r_move ?_) | (apply qr_assign; refine r_assign ?_) | (apply at_cond; first | refine c_t ?_ | refine c_f ?_ | (refine aw_cond rfl (fun hb => ?_) (fun hb => ?_) <;> ((try have hq := dX hb); (try (exfalso; omega))))) | (apply at_guard; first | refine g_go ?_ | refine g_nt ?_ | refine g_nf ?_ | refine g_nu ?_ | ((first | refine al_split_t rfl rfl (lt_ok rfl) (fun hb => ?_) (fun hb => ?_) | refine al_split_f rfl rfl (lt_ok rfl) (fun hb => ?_) (fun hb => ?_)) <;> ((try have hq := dX hb); (try (exfalso; omega))))) | (apply qr_pick; refine r_pick ?_) | (apply qr_lss; refine r_lss ?_) | (apply qr_eql; refine r_eql ?_) | (apply qr_not; refine r_not ?_) | (apply qr_len; refine r_len ?_) | (apply qr_extract; refine r_extract ?_) | (apply qr_load; refine r_load ?_) | (apply qr_faddr; refine r_faddr ?_))
    refine rt1 ?_
    rfl
   ·subst h
    subst h'
    clear hm
    repeat' (first | (apply at_call; refine k_call (n1) hE ?_; rintro _ rfl) | (apply at_call; refine k_call (g3) hE ?_; rintro _ rfl) | refine nx ?_ | (apply aq_block_y; decide) | (apply qr_move; refine r_move ?_) | (apply qr_assign; refine r_assign ?_) | (apply at_cond; first | refine c_t ?_ | refine c_f ?_ | (refine aw_cond rfl (fun hb => ?_) (fun hb => ?_) <;> ((try have hq := dX hb); (try (exfalso; omega))))) | (apply at_guard; first | refine g_go ?_ | refine g_nt ?_ | refine g_nf ?_ | refine g_nu ?_ | ((first | refine al_split_t rfl rfl (lt_ok rfl) (fun hb => ?_) (fun hb => ?_) | refine al_split_f rfl rfl (lt_ok rfl) (fun hb => ?_) (fun hb => ?_)) <;> ((try have hq := dX hb); (try (exfalso; omega))))) | (apply qr_pick; refine r_pick ?_) | (apply qr_lss; refine r_lss ?_) | (apply qr_eql; refine r_eql ?_) | (apply qr_not; refine r_not ?_) | (apply qr_len; refine r_len ?_) | (apply qr_extract; refine r_extract ?_) | (apply qr_load; refine r_load ?_) | (apply qr_faddr; refine r_faddr ?_))
    refine rt1 ?_
    rfl
end Go.Proofs.Ytgiacdhffklenaa
end
section
namespace Go.Proofs.Ytgiacdhffklenaa
open Go.ChangeShapes Go.WideShapes Go.ChangeAt Go.RowKit Go.Deep Go.Joins
section
variable {H : Type} {enc : TypeId × Value → H} {w : World} {base : Nat}
theorem cameL_of {a : List Ex} (h : ∀ x ∈ a, Ex.came x) : Ex.cameL a := by
 induction a with
 | nil => trivial
 | cons x r ih => exact ⟨h x (by simp), ih fun y hy => h y (by simp [hy])⟩
theorem maxLen_le {n : Nat} (h : n ≤ maxLen) : n ≤ 9223372036854775807 := by
 unfold maxLen at h
 omega
theorem showB_exp : ∀ N : Nat, ShowB N enc Try.prog w base 25 5 (fun e : Ex => exC e) Ex.came
 | 0 => fun fuel cs x hN _ => by
  have := data_pos x.1
  omega
 | N + 1 => by
  have ih := showB_exp N
  have hl := showB_list (t := 23) Try.underlying23 (by kernel_rfl) (by decide) ih
  exact (showB_struct Try.underlying25 (by kernel_rfl) (showsB_cons ((show_int Try.underlying3).b N) rfl (by kernel_rfl) (showsB_cons ((show_int Try.underlying3).b N) rfl (by kernel_rfl)
   (showsB_cons ((show_int Try.underlying3).b N) rfl (by kernel_rfl) (showsB_cons ((show_string Try.underlying9).b N) rfl (by kernel_rfl) (showsB_cons hl rfl (by kernel_rfl) showsB_nil)))))).as (fun e : Ex => exC e) _
   (fun x => .mk x.1 x.2.1 x.2.2.1 x.2.2.2.1 x.2.2.2.2.1) (fun a => congrArg (fun r => [D.int a.1, D.int a.2.1, D.int a.2.2.1, D.str a.2.2.2.1, D.list 5 r]) (rows_map a.2.2.2.2.1)) (fun x ⟨_, _, _, h4, h5, _⟩ => ⟨maxLen_le h4, maxLen_le h5.1, cameL_of h5.2⟩)
theorem show_exp : Show enc Try.prog w base 25 5 (fun e : Ex => exC e) Ex.came := ShowB.all showB_exp
theorem show_let : Show enc Try.prog w base 46 6 (fun q : ByteArray × Ex => letC q) (fun q => q.1.size ≤ 9223372036854775807 ∧ q.2.came) :=
 (show_struct Try.underlying46 (by kernel_rfl) (shows_cons (show_string Try.underlying9) rfl (by kernel_rfl) (shows_cons show_exp rfl (by kernel_rfl) shows_nil))).as (fun q : ByteArray × Ex => letC q) _
  (fun x => (x.1, x.2.1)) (fun _ => rfl) (fun x ⟨h1, h2, _⟩ => ⟨maxLen_le h1, h2⟩)
theorem show_lets : Show enc Try.prog w base 22 1 (fun l : List (ByteArray × Ex) => [.list 6 (l.map letC)]) (fun l => l.length ≤ maxLen ∧ ∀ q ∈ l, q.1.size ≤ 9223372036854775807 ∧ q.2.came) :=
 show_list Try.underlying22 (by kernel_rfl) (by decide) show_let
end
end Go.Proofs.Ytgiacdhffklenaa
end
section
namespace Go.Proofs.Ytgiacdhffklenaa
open Go.ChangeShapes Go.WideShapes Go.ChangeAt Go.RowKit Go.Deep Go.Joins
section
variable {H : Type} {enc : TypeId × Value → H} {w : World} {base : Nat}
theorem open_sized {α : Type} {t e : TypeId} {s : Nat} {f : α → List D} {Q : List α → Prop} {v : Value} {d : DataW H} {ps : List MemPlace} (ht : Try.prog.underlying t = some (.slice e)) (h : Show enc Try.prog w base t 1 (fun l : List α => [.list s (l.map f)]) Q) (hv : v.cells = #[v]) (hd : DataW.Trod enc Try.prog w base (fun _ => true) true t v d ps) :
  ∃ l, Q l ∧ RepD w (fun b _ => b < w.heap.size) v (.list s (l.map f)) ∧ ∀ b : Nat, (∀ elems rest, d = .slice elems rest → (elems.length + rest.length) * b ≤ reachBytes) → l.length * b ≤ reachBytes := by
 obtain ⟨fuel, hf⟩ := hd
 rw [hv] at hf
 obtain ⟨_, l, h1, _, h2⟩ := h _ _ _ hf
 have hrep := h2 0 v (.list s (l.map f)) rfl rfl
 refine ⟨l, h1, hrep, fun b hb => ?_⟩
 obtain ⟨A, c, hv2, _⟩ := list_form hrep
 rw [List.length_map] at hv2
 rcases DataW.trod_slice ht hf with ⟨h3, _⟩ | ⟨a, len, cap, elems, rest, n, _, h3, h4, _, _, _, h5, _⟩
 ·rw [hv2] at h3
  simp only [List.cons.injEq, Value.slice.injEq, and_true] at h3
  rw [h3.2.1]
  simp
 ·rw [hv2] at h3
  simp only [List.cons.injEq, Value.slice.injEq, and_true] at h3
  have h6 := hb _ _ (congrArg Prod.fst h4)
  rw [List.length_map, h5, ← h3.2.1] at h6
  exact Nat.le_trans (Nat.mul_le_mul_right _ (Nat.le_add_right _ _)) h6
end
theorem law_call0 {f : FuncId} {ds : List D} {w : World} {vs : List Value} (hG : laidG = []) (h : PureC f ds (· = .bool true)) (hl : vs.length = ds.length)
  (hr : ∀ (i : Nat) (v : Value) (d : D), vs[i]? = some v → ds[i]? = some d → RepD w (fun b _ => b < w.heap.size) v d) :
  Calls Try.prog f vs.toArray w fun e w' => e = .returned (.bool true) ∧ Below w.heap.size w w' := by
 refine (h.2 w (fun b _ => b < w.heap.size) vs (fun _ _ h => h) (fun g l hm => by rw [hG] at hm; cases hm) hl hr).mono fun e w' ⟨v, r, he, hp, hrep, hb⟩ => ?_
 subst hp
 cases hrep
 exact ⟨he, hb⟩
end Go.Proofs.Ytgiacdhffklenaa
end
