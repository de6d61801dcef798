/-
  Conditions: none.
-/
import Derived.Test.YtgiacdhffklenaaMaq
set_option maxHeartbeats 16000000
set_option maxRecDepth 20000
section
set_option linter.unusedSimpArgs false
set_option linter.unusedVariables false
namespace Go.Proofs.Ytgiacdhffklenaa
open Go.RowKit
theorem PureC.wkl {f : FuncId} {xs ys : List D} {Post : D → Prop} (h : PureC f ys Post) (hw : WkL xs ys) : PureC f xs Post :=
 ⟨h.1, fun w Pr vs h1 h2 h3 h4 => h.2 w Pr vs h1 h2 (h3.trans hw.1) fun i v d hv hd => by
  obtain ⟨x, hx⟩ := get_some (l := xs) (i := i) (by rw [hw.1]; exact get_lt hd)
  exact (hw.2 i x d hx hd).rep v (h4 i v x hv hx)⟩
theorem PureC.wkr {f : FuncId} {xs : List D} {x y : D} (h : PureC f xs (· = x)) (hw : Wk x y) : PureC f xs (· = y) :=
 ⟨h.1, fun w Pr vs h1 h2 h3 h4 => (h.2 w Pr vs h1 h2 h3 h4).mono fun _ _ ⟨v, r, e1, e2, e3, e4⟩ => ⟨v, y, e1, rfl, hw.rep v (e2 ▸ e3), e4⟩⟩
abbrev nilL : D := .val (.slice none 0 0)
abbrev namedE (k : Int) (s : ByteArray) : Ex := .mk k 0 0 s []
abbrev litE (n u : Int) : Ex := .mk 0 n u ⟨#[]⟩ []
theorem named_any (k : Int) (s : ByteArray) : PureC 24 [.int k, .str s] (· = .agg (exC (namedE k s))) := by
 refine PureC.wkr (x := .agg [.int k, .int 0, .int 0, .str s, nilL]) ?_ (wk_agg (wkl_args (.nil 5)))
 refine pure_enter Try.func24 rfl (by decide) _ Try.ntmps24 (le_ok rfl) (fun w Pr hE => ?_)
 dsimp only [slotsOf, Nat.zero_add, Nat.reduceAdd]
 repeat' (first | refine nx ?_ | (apply qr_move; refine r_move ?_) | (apply qr_alloc; refine r_alloc ?_) | (apply qr_store; refine r_store ?_) | (apply qr_build; refine r_build ?_))
 refine ret1x (by rfl) (by first | exact ResX.tmp _ _ (by first | exact ToD.d _ | exact ToD.row _ _ _ _ _ rfl) | exact ResX.cellA _ _ _ _ _ _ _ rfl rfl rfl (by first | (simp only [normV, normList, normMap]; rfl) | rfl) rfl | exact ResX.cell1 _ _ _ _ _ _ rfl rfl rfl (by first | exact ToD.d _ | exact ToD.row _ _ _ _ _ rfl)) ?_
 rfl
theorem num_any (n u : Int) : PureC 26 [.int n, .int u] (· = .agg (exC (litE n u))) := by
 refine PureC.wkr (x := .agg [.int 0, .int n, .int u, .str ⟨#[]⟩, nilL]) ?_ (wk_agg (wkl_args (.nil 5)))
 refine pure_enter Try.func26 rfl (by decide) _ Try.ntmps26 (le_ok rfl) (fun w Pr hE => ?_)
 dsimp only [slotsOf, Nat.zero_add, Nat.reduceAdd]
 repeat' (first | refine nx ?_ | (apply qr_move; refine r_move ?_) | (apply qr_alloc; refine r_alloc ?_) | (apply qr_store; refine r_store ?_) | (apply qr_build; refine r_build ?_))
 refine ret1x (by rfl) (by first | exact ResX.tmp _ _ (by first | exact ToD.d _ | exact ToD.row _ _ _ _ _ rfl) | exact ResX.cellA _ _ _ _ _ _ _ rfl rfl rfl (by first | (simp only [normV, normList, normMap]; rfl) | rfl) rfl | exact ResX.cell1 _ _ _ _ _ _ rfl rfl rfl (by first | exact ToD.d _ | exact ToD.row _ _ _ _ _ rfl)) ?_
 rfl
theorem two_cells (op : Int) (a b : Ex) : exC (two op a b) = [.int op, .int 0, .int 0, .str ⟨#[]⟩, .list 5 [exC a, exC b]] := by
 show [D.int op, .int 0, .int 0, .str ⟨#[]⟩, .list 5 (Ex.rows [a, b])] = _
 rw [rows_map]
 rfl
theorem two_any (op : Int) (a b : Ex) : PureC 25 [.int op, .agg (exC a), .agg (exC b)] (· = .agg (exC (two op a b))) := by
 rw [two_cells]
 refine pure_enter Try.func25 rfl (by decide) _ Try.ntmps25 (le_ok rfl) (fun w Pr hE => ?_)
 dsimp only [slotsOf, Nat.zero_add, Nat.reduceAdd]
 repeat' (first | refine nx ?_ | (apply qr_move; refine r_move ?_) | (apply qr_load; refine r_load ?_) | (apply qr_alloc; refine r_alloc ?_) | (apply qr_boxed; refine r_boxed ?_) | (apply qr_store; refine r_store ?_) | (apply qr_build; refine r_build ?_) | (apply qr_lits; refine r_lits ?_))
 refine ret1x (by rfl) (by first | exact ResX.tmp _ _ (by first | exact ToD.d _ | exact ToD.row _ _ _ _ _ rfl) | exact ResX.cellA _ _ _ _ _ _ _ rfl rfl rfl (by first | (simp only [normV, normList, normMap]; rfl) | rfl) rfl | exact ResX.cell1 _ _ _ _ _ _ rfl rfl rfl (by first | exact ToD.d _ | exact ToD.row _ _ _ _ _ rfl)) ?_
 rfl
abbrev b_base : ByteArray := ⟨#[98, 97, 115, 101]⟩
abbrev e_base : Ex := two 6 (litE 3 1) (two 7 (namedE 2 u_direct) (litE 1 2))
abbrev lets0 : List (ByteArray × Ex) := [(b_base, e_base)]
theorem lets_any : PureC 29 [] (· = letsD lets0) := by
 have c1 := num_any 3 1
 have c2 := named_any 2 u_direct
 have c3 := num_any 1 2
 have c4 := two_any 7 (namedE 2 u_direct) (litE 1 2)
 have c5 := two_any 6 (litE 3 1) (two 7 (namedE 2 u_direct) (litE 1 2))
 generalize hW1 : two 7 (namedE 2 u_direct) (litE 1 2) = E1 at *
 generalize hW2 : two 6 (litE 3 1) E1 = E2 at *
 refine pure_enter Try.func29 rfl (by decide) _ Try.ntmps29 (le_ok rfl) (fun w Pr hE => ?_)
 dsimp only [slotsOf, Nat.zero_add, Nat.reduceAdd]
 repeat' (first | (apply at_call; refine k_call (c1) hE ?_; rintro _ rfl; clear c1) | (apply at_call; refine k_call (c2) hE ?_; rintro _ rfl) | (apply at_call; refine k_call (c3) hE ?_; rintro _ rfl) | (apply at_call; refine k_call (c4) hE ?_; rintro _ rfl; clear c4) | (apply at_call; refine k_call (c5) hE ?_; rintro _ rfl) | refine nx ?_ | (apply qr_assign; refine r_assign ?_) | (apply qr_build; refine r_build ?_) | (apply qr_lits; refine r_lits ?_))
 refine rt1 ?_
 subst hW2
 subst hW1
 rfl
theorem tame_lets0 : ∀ q ∈ lets0, Ex.tame q.2 := by
 intro q hq
 simp only [lets0, List.mem_singleton] at hq
 subst hq
 simp only [e_base, two, Ex.tame, Ex.tameL]
 repeat' apply And.intro
 all_goals first | trivial | decide
theorem is_any (e : Ex) (u : Int) (he : e.tame) (h : ofU lets0 e = (u, [], 0)) : PureC 27 [.agg (exC e), .int u] (· = .bool true) := by
 have c1 := lets_any
 have c2 := uof_any lets0 e (by decide) tame_lets0 he
 rw [h] at c2
 unfold ofD at c2
 dsimp only at c2
 clear h
 generalize lets0 = ls at *
 have q0 : decide (u = u) = true := decide_eq_true rfl
 refine pure_enter Try.func27 rfl (by decide) _ Try.ntmps27 (le_ok rfl) (fun w Pr hE => ?_)
 dsimp only [slotsOf, Nat.zero_add, Nat.reduceAdd]
 repeat' (first | refine nx ?_ | (apply qr_assign; refine r_assign ?_) | (apply qr_boxed; refine r_boxed ?_))
 refine aw_tree ((.free 1 (.only 0 (.only 2 (.only 3 (.fork (.alt 4 (.fork (.alt 5 (.fork (.alt 6 (.only 7 (.only 8 .tail)) (.alt 7 (.fork (.alt 6 (.only 8 .tail) (.alt 8 (.only 6 .tail) .stop))) .stop))) (.alt 6 (.fork (.alt 5 (.only 7 (.only 8 .tail)) (.alt 7 (.only 5 (.only 8 .tail)) .stop))) (.alt 7 (.fork (.alt 5 (.fork (.alt 6 (.only 8 .tail) (.alt 8 (.only 6 .tail) .stop))) (.alt 6 (.only 5 (.only 8 .tail)) .stop))) .stop)))) (.alt 5 (.fork (.alt 4 (.fork (.alt 6 (.only 7 (.only 8 .tail)) (.alt 7 (.fork (.alt 6 (.only 8 .tail) (.alt 8 (.only 6 .tail) .stop))) .stop))) (.alt 6 (.only 4 (.only 7 (.only 8 .tail))) .stop))) (.alt 6 (.fork (.alt 4 (.fork (.alt 5 (.only 7 (.only 8 .tail)) (.alt 7 (.only 5 (.only 8 .tail)) .stop))) (.alt 5 (.only 4 (.only 7 (.only 8 .tail))) .stop))) .stop))))))))) [9] ([(2, exO' e)]) ([(14, .d (.int 0)), (6, .d (intsD [])), (5, .d (.int u)), (1, .d (.int u))]) ([]) (by kernel_rfl) (by kernel_rfl) (by kernel_rfl) rfl (by decide) (by (repeat (first | exact obs_nil | (apply obs_cons; focus (first | rfl | (simp [find]; done)))))) (fun hrest => ?_) ?_
 ·simp only [tailed, List.filterMap_cons, List.filterMap_nil, List.getElem?_cons_zero, List.getElem?_cons_succ] at hrest
  repeat' (first | apply am_fork | apply am_alt | exact am_stop | refine am_free rfl ?_ | refine am_only rfl ?_ | refine am_leaf hrest (by (repeat (first | exact sub_nil | (apply sub_cons; focus (first | rfl | exact vint (by first | omega) | (simp [look]; done)))))) (by (repeat (first | exact obs_nil | (apply obs_cons; focus (first | rfl | (simp [find]; done)))))) | refine m_skip ?_ | refine n_skip ?_ | (apply at_mcall; refine m_call (c1) hE ?_; rintro _ rfl; (try dsimp only [flat, D.plain, D.plainL])) | (apply at_mcall; refine m_call (c2) hE ?_; rintro _ rfl; (try dsimp only [flat, D.plain, D.plainL])) | (apply at_am (.move _); refine am_nowd (by first | exact want_none | exact want_yes rfl rfl (by assumption) | exact want_yes rfl rfl (by with_reducible rfl)) (y_move rfl) (lt_ok rfl) ?_; dsimp only [flatV, flat, D.plain, D.plainL]) | (apply at_am (.assign _); refine am_nowd (by first | exact want_none | exact want_yes rfl rfl (by assumption) | exact want_yes rfl rfl (by with_reducible rfl)) (y_assign rfl) (lt_ok rfl) ?_; dsimp only [flatV, flat, D.plain, D.plainL]) | (apply at_am (.extract _ _); refine am_nowd (by first | exact want_none | exact want_yes rfl rfl (by assumption) | exact want_yes rfl rfl (by with_reducible rfl)) (y_extract rfl rfl) (lt_ok rfl) ?_; dsimp only [flatV, flat, D.plain, D.plainL]) | (apply qn_move; refine n_move ?_) | (apply qn_assign; refine n_assign ?_) | (apply qn_extract; refine n_extract ?_) | (apply qm_load; refine m_load ?_) | (apply at_am (.alloc _); refine am_alloc (by first | exact want_none | exact want_yes rfl rfl (by assumption) | exact want_yes rfl rfl (by with_reducible rfl)) rfl (by first | (simp only [normV, normList, normMap]; rfl) | rfl) rfl (lt_ok rfl) rfl rfl rfl ?_) | (apply at_am (.store _ _ _); first | refine am_store (by first | exact want_none | exact want_yes rfl rfl (by assumption) | exact want_yes rfl rfl (by with_reducible rfl)) rfl rfl rfl (ev_d rfl) nofun (by first | (simp only [normV, normList, normMap]; rfl) | rfl) (by simp [V.one, Value.oneCell']) (.inl ⟨rfl, rfl⟩) rfl (le_ok rfl) (by first | (simp only [normV, normList, normMap]; rfl) | rfl) ?_ | refine am_store (by first | exact want_none | exact want_yes rfl rfl (by assumption) | exact want_yes rfl rfl (by with_reducible rfl)) rfl rfl rfl (ev_d rfl) nofun (by first | (simp only [normV, normList, normMap]; rfl) | rfl) (by simp [V.one, Value.oneCell']) (.inr rfl) rfl (le_ok rfl) (by first | (simp only [normV, normList, normMap]; rfl) | rfl) ?_) | (refine am_split rfl rfl (fun hb => ?_) (fun hb => ?_) <;> ((try have hq := dX hb); (try (exfalso; omega)))))
 simp only [tailed, List.filterMap_cons, List.filterMap_nil, List.getElem?_cons_zero, List.getElem?_cons_succ]
 repeat' (first | refine nx ?_ | (apply qr_move; refine r_move ?_) | (apply qr_assign; refine r_assign ?_) | (apply at_guard; first | refine g_go ?_ | refine g_nt ?_ | refine g_nf ?_ | refine g_nu ?_ | ((first | refine al_split_t rfl rfl (lt_ok rfl) (fun hb => ?_) (fun hb => ?_) | refine al_split_f rfl rfl (lt_ok rfl) (fun hb => ?_) (fun hb => ?_)) <;> ((try have hq := dX hb); (try (exfalso; omega))))) | (apply qr_pick; refine r_pick ?_) | (apply qr_eql; refine r_eql ?_) | (apply qr_len; refine r_len ?_) | (apply qr_extract; refine r_extract ?_) | (apply qr_load; refine r_load ?_))
 refine rt1 ?_
 simp
theorem fails_any (e : Ex) (p : List Int) (c : Int) (he : e.tame) (hp : p.length ≤ 1000) (h : ofU lets0 e = (0, p, c)) : PureC 28 [.agg (exC e), intsD p, .int c] (· = .bool true) := by
 have c1 := lets_any
 have c2 := uof_any lets0 e (by decide) tame_lets0 he
 have c3 := ints_any p p (by omega)
 rw [h] at c2
 rw [decide_eq_true rfl] at c3
 unfold ofD at c2
 dsimp only at c2
 clear h
 generalize lets0 = ls at *
 have q0 : decide (c = c) = true := decide_eq_true rfl
 refine pure_enter Try.func28 rfl (by decide) _ Try.ntmps28 (le_ok rfl) (fun w Pr hE => ?_)
 dsimp only [slotsOf, Nat.zero_add, Nat.reduceAdd]
 repeat' (first | refine nx ?_ | (apply qr_assign; refine r_assign ?_) | (apply qr_boxed; refine r_boxed ?_))
 refine aw_tree ((.free 1 (.only 0 (.only 2 (.only 3 (.fork (.alt 4 (.fork (.alt 5 (.fork (.alt 6 (.only 7 (.only 8 .tail)) (.alt 7 (.fork (.alt 6 (.only 8 .tail) (.alt 8 (.only 6 .tail) .stop))) .stop))) (.alt 6 (.fork (.alt 5 (.only 7 (.only 8 .tail)) (.alt 7 (.only 5 (.only 8 .tail)) .stop))) (.alt 7 (.fork (.alt 5 (.fork (.alt 6 (.only 8 .tail) (.alt 8 (.only 6 .tail) .stop))) (.alt 6 (.only 5 (.only 8 .tail)) .stop))) .stop)))) (.alt 5 (.fork (.alt 4 (.fork (.alt 6 (.only 7 (.only 8 .tail)) (.alt 7 (.fork (.alt 6 (.only 8 .tail) (.alt 8 (.only 6 .tail) .stop))) .stop))) (.alt 6 (.only 4 (.only 7 (.only 8 .tail))) .stop))) (.alt 6 (.fork (.alt 4 (.fork (.alt 5 (.only 7 (.only 8 .tail)) (.alt 7 (.only 5 (.only 8 .tail)) .stop))) (.alt 5 (.only 4 (.only 7 (.only 8 .tail))) .stop))) .stop))))))))) [9] ([(3, exO' e)]) ([(16, .d (.int c)), (8, .d (intsD p)), (7, .d (.int 0)), (1, .d (intsD p)), (2, .d (.int c))]) ([]) (by kernel_rfl) (by kernel_rfl) (by kernel_rfl) rfl (by decide) (by (repeat (first | exact obs_nil | (apply obs_cons; focus (first | rfl | (simp [find]; done)))))) (fun hrest => ?_) ?_
 ·simp only [tailed, List.filterMap_cons, List.filterMap_nil, List.getElem?_cons_zero, List.getElem?_cons_succ] at hrest
  repeat' (first | apply am_fork | apply am_alt | exact am_stop | refine am_free rfl ?_ | refine am_only rfl ?_ | refine am_leaf hrest (by (repeat (first | exact sub_nil | (apply sub_cons; focus (first | rfl | exact vint (by first | omega) | (simp [look]; done)))))) (by (repeat (first | exact obs_nil | (apply obs_cons; focus (first | rfl | (simp [find]; done)))))) | refine m_skip ?_ | refine n_skip ?_ | (apply at_mcall; refine m_call (c1) hE ?_; rintro _ rfl; (try dsimp only [flat, D.plain, D.plainL])) | (apply at_mcall; refine m_call (c2) hE ?_; rintro _ rfl; (try dsimp only [flat, D.plain, D.plainL])) | (apply at_am (.move _); refine am_nowd (by first | exact want_none | exact want_yes rfl rfl (by assumption) | exact want_yes rfl rfl (by with_reducible rfl)) (y_move rfl) (lt_ok rfl) ?_; dsimp only [flatV, flat, D.plain, D.plainL]) | (apply at_am (.assign _); refine am_nowd (by first | exact want_none | exact want_yes rfl rfl (by assumption) | exact want_yes rfl rfl (by with_reducible rfl)) (y_assign rfl) (lt_ok rfl) ?_; dsimp only [flatV, flat, D.plain, D.plainL]) | (apply at_am (.extract _ _); refine am_nowd (by first | exact want_none | exact want_yes rfl rfl (by assumption) | exact want_yes rfl rfl (by with_reducible rfl)) (y_extract rfl rfl) (lt_ok rfl) ?_; dsimp only [flatV, flat, D.plain, D.plainL]) | (apply qn_move; refine n_move ?_) | (apply qn_assign; refine n_assign ?_) | (apply qn_extract; refine n_extract ?_) | (apply qm_load; refine m_load ?_) | (apply at_am (.alloc _); refine am_alloc (by first | exact want_none | exact want_yes rfl rfl (by assumption) | exact want_yes rfl rfl (by with_reducible rfl)) rfl (by first | (simp only [normV, normList, normMap]; rfl) | rfl) rfl (lt_ok rfl) rfl rfl rfl ?_) | (apply at_am (.store _ _ _); first | refine am_store (by first | exact want_none | exact want_yes rfl rfl (by assumption) | exact want_yes rfl rfl (by with_reducible rfl)) rfl rfl rfl (ev_d rfl) nofun (by first | (simp only [normV, normList, normMap]; rfl) | rfl) (by simp [V.one, Value.oneCell']) (.inl ⟨rfl, rfl⟩) rfl (le_ok rfl) (by first | (simp only [normV, normList, normMap]; rfl) | rfl) ?_ | refine am_store (by first | exact want_none | exact want_yes rfl rfl (by assumption) | exact want_yes rfl rfl (by with_reducible rfl)) rfl rfl rfl (ev_d rfl) nofun (by first | (simp only [normV, normList, normMap]; rfl) | rfl) (by simp [V.one, Value.oneCell']) (.inr rfl) rfl (le_ok rfl) (by first | (simp only [normV, normList, normMap]; rfl) | rfl) ?_) | (refine am_split rfl rfl (fun hb => ?_) (fun hb => ?_) <;> ((try have hq := dX hb); (try (exfalso; omega)))))
 simp only [tailed, List.filterMap_cons, List.filterMap_nil, List.getElem?_cons_zero, List.getElem?_cons_succ]
 repeat' (first | (apply at_call; refine k_call (c3) hE ?_; rintro _ rfl) | refine nx ?_ | (apply qr_move; refine r_move ?_) | (apply qr_assign; refine r_assign ?_) | (apply at_guard; first | refine g_go ?_ | refine g_nt ?_ | refine g_nf ?_ | refine g_nu ?_ | ((first | refine al_split_t rfl rfl (lt_ok rfl) (fun hb => ?_) (fun hb => ?_) | refine al_split_f rfl rfl (lt_ok rfl) (fun hb => ?_) (fun hb => ?_)) <;> ((try have hq := dX hb); (try (exfalso; omega))))) | (apply qr_pick; refine r_pick ?_) | (apply qr_eql; refine r_eql ?_) | (apply qr_extract; refine r_extract ?_) | (apply qr_load; refine r_load ?_))
 refine rt1 ?_
 simp
end Go.Proofs.Ytgiacdhffklenaa
end
section
namespace Go.Proofs.Ytgiacdhffklenaa
open Go.RowKit
abbrev nilD : D := .val (.slice none 0 0)
abbrev w_ride : ByteArray := ⟨#[114, 105, 100, 101]⟩
abbrev sumA : List D := [.int 4, .int 0, .int 0, .str ⟨#[]⟩, .list 5 [[.int 2, .int 0, .int 0, .str w_ride, nilD], [.int 0, .int 5, .int 2, .str ⟨#[]⟩, nilD]]]
abbrev mulA : List D := [.int 6, .int 0, .int 0, .str ⟨#[]⟩, .list 5 [[.int 0, .int 3, .int 0, .str ⟨#[]⟩, nilD], sumA]]
theorem tame_zero : Ex.zero.tame := by
 simp only [Ex.zero, Ex.tame, Ex.tameL]
 repeat' apply And.intro
 all_goals first | trivial | decide
theorem tame_z : By.zero.tame := ⟨by decide, by decide, fun q hq => by simp [By.zero] at hq, tame_zero, tame_zero, tame_zero, tame_zero⟩
abbrev zA : List D := [.str ⟨#[]⟩, nilD, .int 0, .int 0, .int 0, .str ⟨#[]⟩, nilD, .int 0, .int 0, .int 0, .str ⟨#[]⟩, nilD, .int 0, .int 0, .int 0, .str ⟨#[]⟩, nilD, .int 0, .int 0, .int 0, .str ⟨#[]⟩, nilD, .int 0, .int 0, .int 0]
theorem z_wk : WkL zA (byC By.zero) :=
 wk_cons (.same _) (wk_cons (.nil 6) (wk_cons (.same _) (wk_cons (.same _) (wk_cons (.same _) (wk_cons (.same _) (wk_cons (.nil 5) (wk_cons (.same _) (wk_cons (.same _) (wk_cons (.same _) (wk_cons (.same _) (wk_cons (.nil 5) (wk_cons (.same _) (wk_cons (.same _) (wk_cons (.same _) (wk_cons (.same _) (wk_cons (.nil 5) (wk_cons (.same _) (wk_cons (.same _) (wk_cons (.same _) (wk_cons (.same _) (wk_cons (.nil 5) (wk_cons (.same _) (wk_cons (.same _) (wk_cons (.same _) wk_nil))))))))))))))))))))))))
end Go.Proofs.Ytgiacdhffklenaa
end
section
set_option linter.unusedSimpArgs false
set_option linter.unusedVariables false
namespace Go.Proofs.Ytgiacdhffklenaa
open Go.RowKit
abbrev b_seats : ByteArray := ⟨#[115, 101, 97, 116, 115]⟩
abbrev b_color : ByteArray := ⟨#[99, 111, 108, 111, 114]⟩
abbrev b_coop : ByteArray := ⟨#[99, 111, 111, 112]⟩
abbrev s_base : Ex := namedE 1 b_base
abbrev s_bal : Ex := namedE 3 u_balance
abbrev s_del : Ex := two 10 (namedE 2 u_delay) (litE 10 2)
abbrev s_sho : Ex := two 10 (namedE 3 u_noshows) (litE 3 0)
abbrev s_col : Ex := two 8 (namedE 2 b_seats) (namedE 2 b_color)
abbrev x_law : By := ⟨b_coop, lets0, litE 1 3, s_base, litE 0 1, litE 0 1, 4, 100, 667⟩
abbrev x_bad : By := ⟨b_coop, lets0, litE 1 3, two 4 s_base (litE 1 0), litE 0 1, litE 0 1, 4, 100, 667⟩
theorem u_one : ofU lets0 (two 4 s_base s_bal) = (1, [], 0) := by kernel_rfl
theorem u_two : ofU lets0 (two 13 s_del s_sho) = (3, [], 0) := by kernel_rfl
theorem u_three : ofU lets0 (two 10 s_bal (litE 4 0)) = (0, [], 13) := by kernel_rfl
theorem u_four : ofU lets0 (two 4 (litE 1 0) s_col) = (0, [1, 1], 14) := by kernel_rfl
theorem u_law : checkU x_law = 0 := by kernel_rfl
theorem u_bad : checkU x_bad = 13 := by kernel_rfl
theorem u_zero : checkU By.zero = 1 := by kernel_rfl
theorem tm_one : (two 4 s_base s_bal).tame := by
 simp only [two, Ex.tame, Ex.tameL]
 repeat' apply And.intro
 all_goals first | trivial | decide
theorem tm_two : (two 13 s_del s_sho).tame := by
 simp only [two, Ex.tame, Ex.tameL]
 repeat' apply And.intro
 all_goals first | trivial | decide
theorem tm_three : (two 10 s_bal (litE 4 0)).tame := by
 simp only [two, Ex.tame, Ex.tameL]
 repeat' apply And.intro
 all_goals first | trivial | decide
theorem tm_four : (two 4 (litE 1 0) s_col).tame := by
 simp only [two, Ex.tame, Ex.tameL]
 repeat' apply And.intro
 all_goals first | trivial | decide
theorem tm_lit (n u : Int) : (litE n u).tame := by
 simp only [Ex.tame, Ex.tameL]
 repeat' apply And.intro
 all_goals first | trivial | decide
theorem tm_base : s_base.tame := by
 simp only [Ex.tame, Ex.tameL]
 repeat' apply And.intro
 all_goals first | trivial | decide
theorem tm_five : (two 4 s_base (litE 1 0)).tame := by
 simp only [two, Ex.tame, Ex.tameL]
 repeat' apply And.intro
 all_goals first | trivial | decide
theorem tm_lets : ∀ q ∈ lets0, letTame q := fun q hq => ⟨by simp only [lets0, List.mem_singleton] at hq; subst hq; decide, tame_lets0 q hq⟩
theorem tm_law : x_law.tame := ⟨by decide, by decide, tm_lets, tm_lit _ _, tm_base, tm_lit _ _, tm_lit _ _⟩
theorem tm_bad : x_bad.tame := ⟨by decide, by decide, tm_lets, tm_lit _ _, tm_five, tm_lit _ _, tm_lit _ _⟩
theorem usmall_any : PureC 7 [] (· = .bool true) := by
 have n1 : PureC 24 [.int 1, .str b_base] (· = .agg (exC s_base)) := named_any 1 b_base
 have n2 : PureC 24 [.int 3, .str u_balance] (· = .agg (exC s_bal)) := named_any 3 u_balance
 have n3 := named_any 2 u_delay
 have n4 := named_any 3 u_noshows
 have n5 := named_any 2 b_seats
 have n6 := named_any 2 b_color
 have l1 := num_any 10 2
 have l2 := num_any 3 0
 have l3 := num_any 4 0
 have l4 := num_any 1 0
 have l5 := num_any 1 3
 have l6 := num_any 0 1
 have t1 : PureC 25 [.int 10, .agg (exC (namedE 2 u_delay)), .agg (exC (litE 10 2))] (· = .agg (exC s_del)) := two_any 10 (namedE 2 u_delay) (litE 10 2)
 have t2 : PureC 25 [.int 10, .agg (exC (namedE 3 u_noshows)), .agg (exC (litE 3 0))] (· = .agg (exC s_sho)) := two_any 10 (namedE 3 u_noshows) (litE 3 0)
 have t3 := two_any 4 s_base s_bal
 have t4 := two_any 13 s_del s_sho
 have t5 := two_any 10 s_bal (litE 4 0)
 have t6 : PureC 25 [.int 8, .agg (exC (namedE 2 b_seats)), .agg (exC (namedE 2 b_color))] (· = .agg (exC s_col)) := two_any 8 (namedE 2 b_seats) (namedE 2 b_color)
 have t7 := two_any 4 (litE 1 0) s_col
 have t8 := two_any 4 s_base (litE 1 0)
 have i1 := is_any (two 4 s_base s_bal) 1 tm_one u_one
 have i2 := is_any (two 13 s_del s_sho) 3 tm_two u_two
 have f1 : PureC 28 [.agg (exC (two 10 s_bal (litE 4 0))), nilL, .int 13] (· = .bool true) := (fails_any (two 10 s_bal (litE 4 0)) [] 13 tm_three (by decide) u_three).wkl (wk_cons (.same _) (wk_cons (.nil 1) (wk_cons (.same _) wk_nil)))
 have f2 := fails_any (two 4 (litE 1 0) s_col) [1, 1] 14 tm_four (by decide) u_four
 have k1 := check_any x_law tm_law (by decide)
 have k2 := check_any x_bad tm_bad (by decide)
 have k3 := (check_any By.zero tame_z (by decide)).wk (wk_agg z_wk)
 have ll := lets_any
 rw [u_law] at k1
 rw [u_bad] at k2
 rw [u_zero] at k3
 unfold x_law at k1
 unfold x_bad at k2
 generalize two 4 s_base s_bal = A3 at t3 i1
 generalize two 13 s_del s_sho = A4 at t4 i2
 generalize two 10 s_bal (litE 4 0) = A5 at t5 f1
 generalize two 4 (litE 1 0) s_col = A7 at t7 f2
 generalize two 4 s_base (litE 1 0) = A8 at t8 k2
 generalize s_del = B1 at t1 t4
 generalize s_sho = B2 at t2 t4
 generalize s_col = B3 at t6 t7
 generalize s_base = Nb at n1 t3 t8 k1 k2
 generalize s_bal = Nl at n2 t3 t5
 generalize namedE 2 u_delay = Nd at n3 t1
 generalize namedE 3 u_noshows = Nn at n4 t2
 generalize namedE 2 b_seats = Ns at n5 t6
 generalize namedE 2 b_color = Nc at n6 t6
 generalize litE 10 2 = L1 at l1 t1
 generalize litE 3 0 = L2 at l2 t2
 generalize litE 4 0 = L3 at l3 t5
 generalize litE 1 0 = L4 at l4 t7 t8
 generalize litE 1 3 = L5 at l5 k1 k2
 generalize litE 0 1 = L6 at l6 k1 k2
 generalize lets0 = LS at ll k1 k2
 refine pure_enter Try.func7 rfl (by decide) _ Try.ntmps7 (le_ok rfl) (fun w Pr hE => ?_)
 dsimp only [slotsOf, Nat.zero_add, Nat.reduceAdd]
 repeat' (first | (apply at_call; refine k_call (n1) hE ?_; rintro _ rfl; clear n1) | (apply at_call; refine k_call (n2) hE ?_; rintro _ rfl; clear n2) | (apply at_call; refine k_call (n3) hE ?_; rintro _ rfl; clear n3) | (apply at_call; refine k_call (l1) hE ?_; rintro _ rfl; clear l1) | (apply at_call; refine k_call (t1) hE ?_; rintro _ rfl; clear t1) | (apply at_call; refine k_call (n4) hE ?_; rintro _ rfl; clear n4) | (apply at_call; refine k_call (l2) hE ?_; rintro _ rfl; clear l2) | (apply at_call; refine k_call (t2) hE ?_; rintro _ rfl) | refine nx ?_ | (apply qr_assign; refine r_assign ?_) | (apply qr_alloc; refine r_alloc ?_) | (apply qr_store; refine r_store ?_))
 refine aw_mixo ([(1, exO' Nb), (2, exO' Nl), (3, exO' B1), (4, exO' B2)]) [(0, true), (1, true), (2, false), (3, false), (4, true), (5, true), (6, true), (7, false), (8, false), (9, true), (10, true), (11, true), (12, false), (13, false), (14, false), (15, true)] [16] (by kernel_rfl) (by kernel_rfl) (by kernel_rfl) (by decide) (by (repeat (first | exact obs_nil | (apply obs_cons; focus (first | rfl | (simp [find]; done)))))) ?_
 simp only [planned, tailed, List.filterMap_cons, List.filterMap_nil, List.getElem?_cons_zero, List.getElem?_cons_succ, Option.map_some]
 repeat' (first | apply am_nil | refine m_skip ?_ | refine n_skip ?_ | (apply at_mcall; refine m_call (t3) hE ?_; rintro _ rfl; clear t3; (try dsimp only [flat, D.plain, D.plainL])) | (apply at_mcall; refine m_call (i1) hE ?_; rintro _ rfl; clear i1; (try dsimp only [flat, D.plain, D.plainL])) | (apply at_mcall; refine m_call (t4) hE ?_; rintro _ rfl; clear t4; (try dsimp only [flat, D.plain, D.plainL])) | (apply at_mcall; refine m_call (i2) hE ?_; rintro _ rfl; clear i2; (try dsimp only [flat, D.plain, D.plainL])) | (apply at_mcall; refine m_call (l3) hE ?_; rintro _ rfl; clear l3; (try dsimp only [flat, D.plain, D.plainL])) | (apply at_mcall; refine m_call (t5) hE ?_; rintro _ rfl; clear t5; (try dsimp only [flat, D.plain, D.plainL])) | (apply at_mcall; refine m_call (f1) hE ?_; rintro _ rfl; (try dsimp only [flat, D.plain, D.plainL])) | (apply qm_move; refine m_move ?_) | (apply qm_pick; refine m_pick ?_) | (apply qm_load; refine m_load ?_) | (refine am_split rfl rfl (fun hb => ?_) (fun hb => ?_) <;> ((try have hq := dX hb); (try (exfalso; omega)))))
 repeat' (first | (apply at_call; refine k_call (l4) hE ?_; rintro _ rfl) | (apply at_call; refine k_call (n5) hE ?_; rintro _ rfl; clear n5) | (apply at_call; refine k_call (n6) hE ?_; rintro _ rfl; clear n6) | (apply at_call; refine k_call (t6) hE ?_; rintro _ rfl; clear t6) | (apply at_call; refine k_call (t7) hE ?_; rintro _ rfl; clear t7) | (apply at_call; refine k_call (f2) hE ?_; rintro _ rfl) | refine nx ?_ | (apply qr_move; refine r_move ?_) | (apply qr_assign; refine r_assign ?_) | (apply at_guard; first | refine g_go ?_ | refine g_nt ?_ | refine g_nf ?_ | refine g_nu ?_ | ((first | refine al_split_t rfl rfl (lt_ok rfl) (fun hb => ?_) (fun hb => ?_) | refine al_split_f rfl rfl (lt_ok rfl) (fun hb => ?_) (fun hb => ?_)) <;> ((try have hq := dX hb); (try (exfalso; omega))))) | (apply qr_pick; refine r_pick ?_) | (apply qr_load; refine r_load ?_) | (apply qr_lits; refine r_lits ?_))
 refine aw_tree ((.free 2 (.fork (.alt 0 (.fork (.alt 1 (.fork (.alt 3 (.fork (.alt 4 (.fork (.alt 5 (.only 6 .tail) (.alt 6 (.only 5 .tail) .stop))) (.alt 6 (.only 4 (.only 5 .tail)) .stop))) (.alt 6 (.only 3 (.only 4 (.only 5 .tail))) .stop))) (.alt 6 (.only 1 (.only 3 (.only 4 (.only 5 .tail)))) .stop))) (.alt 6 (.only 0 (.only 1 (.only 3 (.only 4 (.only 5 .tail))))) .stop))))) [7] ([(1, exO' Nb)]) ([(45, .d (.agg (byC ⟨b_coop, LS, L5, Nb, L6, L6, 4, 100, 667⟩))), (7, .box 7 0), (6, .d (.bool true)), (5, .d (.bool true)), (1, .box 1 0)]) ([(7, .box 27 (zA.map V.d)), (1, exO' Nb)]) (by kernel_rfl) (by kernel_rfl) (by kernel_rfl) rfl (by decide) (by (repeat (first | exact obs_nil | (apply obs_cons; focus (first | rfl | (simp [find]; done)))))) (fun hrest => ?_) ?_
 ·simp only [tailed, List.filterMap_cons, List.filterMap_nil, List.getElem?_cons_zero, List.getElem?_cons_succ] at hrest
  repeat' (first | apply am_fork | apply am_alt | exact am_stop | refine am_free rfl ?_ | refine am_only rfl ?_ | refine am_leaf hrest (by (repeat (first | exact sub_nil | (apply sub_cons; focus (first | rfl | exact vint (by first | omega) | (simp [look]; done)))))) (by (repeat (first | exact obs_nil | (apply obs_cons; focus (first | rfl | (simp [find]; done)))))) | refine m_skip ?_ | refine n_skip ?_ | (apply at_mcall; refine m_call (ll) hE ?_; rintro _ rfl; (try dsimp only [flat, D.plain, D.plainL])) | (apply at_mcall; refine m_call (l5) hE ?_; rintro _ rfl; clear l5; (try dsimp only [flat, D.plain, D.plainL])) | (apply at_mcall; refine m_call (l6) hE ?_; rintro _ rfl; (try dsimp only [flat, D.plain, D.plainL])) | (apply at_am (.build _ _); refine am_nowd (by first | exact want_none | exact want_yes rfl rfl (by assumption) | exact want_yes rfl rfl (by with_reducible rfl)) (y_build rfl (by repeat (first | exact PartsD.nil | (apply PartsD.cons; first | exact ToD.d _ | exact ToD.row _ _ _ _ _ rfl))) (by first | (simp only [dfill, normV, normList, normMap]; rfl) | (simp [dfill, putD, cellsD, zerosD, Value.cells]; rfl))) (lt_ok rfl) ?_; dsimp only [flatV, flat, D.plain, D.plainL]) | (apply qm_load; refine m_load ?_) | (apply qn_build; refine n_build ?_) | (apply at_am (.alloc _); refine am_alloc (by first | exact want_none | exact want_yes rfl rfl (by assumption) | exact want_yes rfl rfl (by with_reducible rfl)) rfl (by first | (simp only [normV, normList, normMap]; rfl) | rfl) rfl (lt_ok rfl) rfl rfl rfl ?_) | (apply at_am (.store _ _ _); first | refine am_store (by first | exact want_none | exact want_yes rfl rfl (by assumption) | exact want_yes rfl rfl (by with_reducible rfl)) rfl rfl rfl (ev_d rfl) nofun (by first | (simp only [normV, normList, normMap]; rfl) | rfl) (by simp [V.one, Value.oneCell']) (.inl ⟨rfl, rfl⟩) rfl (le_ok rfl) (by first | (simp only [normV, normList, normMap]; rfl) | rfl) ?_ | refine am_store (by first | exact want_none | exact want_yes rfl rfl (by assumption) | exact want_yes rfl rfl (by with_reducible rfl)) rfl rfl rfl (ev_d rfl) nofun (by first | (simp only [normV, normList, normMap]; rfl) | rfl) (by simp [V.one, Value.oneCell']) (.inr rfl) rfl (le_ok rfl) (by first | (simp only [normV, normList, normMap]; rfl) | rfl) ?_) | (refine am_split rfl rfl (fun hb => ?_) (fun hb => ?_) <;> ((try have hq := dX hb); (try (exfalso; omega)))))
 simp only [tailed, List.filterMap_cons, List.filterMap_nil, List.getElem?_cons_zero, List.getElem?_cons_succ]
 clear ll l6
 repeat' (first | refine nx ?_ | (apply qr_load; refine r_load ?_) | (apply qr_alloc; refine r_alloc ?_) | (apply qr_store; refine r_store ?_) | (apply qr_build; refine r_build ?_))
 refine aw_mixo ([(1, exO' Nb), (8, byO' ⟨b_coop, LS, L5, Nb, L6, L6, 4, 100, 667⟩)]) [(0, true), (1, false)] [2, 3, 4] (by kernel_rfl) (by kernel_rfl) (by kernel_rfl) (by decide) (by (repeat (first | exact obs_nil | (apply obs_cons; focus (first | rfl | (simp [find]; done)))))) ?_
 simp only [planned, tailed, List.filterMap_cons, List.filterMap_nil, List.getElem?_cons_zero, List.getElem?_cons_succ, Option.map_some]
 repeat' (first | apply am_nil | refine m_skip ?_ | refine n_skip ?_ | (apply at_mcall; refine m_call (l4) hE ?_; rintro _ rfl; (try dsimp only [flat, D.plain, D.plainL])) | (apply qm_load; refine m_load ?_) | (refine am_split rfl rfl (fun hb => ?_) (fun hb => ?_) <;> ((try have hq := dX hb); (try (exfalso; omega)))))
 clear l4
 repeat' (first | (apply at_call; refine k_call (t8) hE ?_; rintro _ rfl; clear t8) | (apply at_call; refine k_call (k1) hE ?_; rintro _ rfl; clear k1) | (apply at_call; refine k_call (k2) hE ?_; rintro _ rfl; clear k2) | (apply at_call; refine k_call (k3) hE ?_; rintro _ rfl) | refine nx ?_ | (apply qr_move; refine r_move ?_) | (apply qr_assign; refine r_assign ?_) | (apply at_guard; first | refine g_go ?_ | refine g_nt ?_ | refine g_nf ?_ | refine g_nu ?_ | ((first | refine al_split_t rfl rfl (lt_ok rfl) (fun hb => ?_) (fun hb => ?_) | refine al_split_f rfl rfl (lt_ok rfl) (fun hb => ?_) (fun hb => ?_)) <;> ((try have hq := dX hb); (try (exfalso; omega))))) | (apply qr_pick; refine r_pick ?_) | (apply qr_eql; refine r_eql ?_) | (apply qr_load; refine r_load ?_) | (apply qr_faddr; refine r_faddr ?_) | (apply qr_store; refine r_store ?_) | (apply qr_build; refine r_build ?_))
 refine rt1 ?_
 rfl
end Go.Proofs.Ytgiacdhffklenaa
end
section
set_option linter.unusedSimpArgs false
set_option linter.unusedVariables false
namespace Go.Proofs.Ytgiacdhffklenaa
open Go.RowKit
def FewU (ls : List (ByteArray × Ex)) (e : Ex) (r : D) : Prop := ∃ b : Bool, r = .bool b ∧ (b = true → ls.length ≤ 20 ∧ (∀ q ∈ ls, Ex.tame q.2) ∧ e.tame)
theorem ufew_any (ls : List (ByteArray × Ex)) (e : Ex) (hl : ls.length ≤ 9223372036854775807) (hc : ∀ q ∈ ls, Ex.came q.2) (he : e.came) : PureC 8 [letsD ls, .agg (exC e)] (FewU ls e) := by
 have hml : (ls.map letC).length = ls.length := List.length_map ..
 have k0 := fewE_any e he
 refine pure_enter Try.func8 rfl (by decide) _ Try.ntmps8 (le_ok rfl) (fun w Pr hE => ?_)
 dsimp only [slotsOf, Nat.zero_add, Nat.reduceAdd]
 repeat' (first | refine nx ?_ | (apply aq_block_y; decide) | (apply qr_assign; refine r_assign ?_) | (apply at_cond; first | refine c_t ?_ | refine c_f ?_ | (refine aw_cond rfl (fun hb => ?_) (fun hb => ?_) <;> ((try have hq := dX hb); (try (exfalso; omega))))) | (apply qr_boxed; refine r_boxed ?_))
 refine aw_lp (fun N sl ob => ∃ i : Nat, N = ls.length - i ∧ i ≤ ls.length ∧ i ≤ 21 ∧ (∀ q ∈ ls.take i, Ex.tame q.2) ∧ sl = [(5, .d (.int i)), (4, .d (.bool false)), (3, .box 3 0), (0, .d (letsD ls))] ∧ ob = [(3, exO' e)]) (⟨0, rfl, Nat.zero_le _, by omega, fun q hq => by simp at hq, rfl, rfl⟩) ?_
 rintro N sl ob ⟨i, rfl, hi, hi2, hs, rfl, rfl⟩
 by_cases hlt : i < ls.length ∧ i ≤ 20
 ·obtain ⟨hlt, h20⟩ := hlt
  have hg : (ls.map letC)[i]? = some (letC ls[i]) := by rw [get_map hlt]
  have k1 := fewE_any ls[i].2 (hc _ (List.getElem_mem hlt))
  have hn : Ex.tame ls[i].2 → ∀ q ∈ ls.take (i + 1), Ex.tame q.2 := fun ht q hq => by
   rw [List.take_succ_eq_append_getElem hlt, List.mem_append, List.mem_singleton] at hq
   rcases hq with hq | rfl
   ·exact hs q hq
   ·exact ht
  have q1 : decide ((i : Int) < ls.length) = true := decide_eq_true (by omega)
  have q2 : decide ((i : Int) ≤ 20) = true := decide_eq_true (by omega)
  generalize ls[i] = z at *
  repeat' (first | (apply at_op (.indexAddr _ _ _); refine al_ixq hg ?_) | (apply at_call; refine k_call (k1) hE ?_; rintro _ ⟨b1, rfl, t1⟩; cases b1) | refine nx ?_ | (apply aq_block_y; decide) | (apply qr_move; refine r_move ?_) | (apply at_cond; first | refine c_t ?_ | refine c_f ?_ | (refine aw_cond rfl (fun hb => ?_) (fun hb => ?_) <;> ((try have hq := dX hb); (try (exfalso; omega))))) | (apply at_guard; first | refine g_go ?_ | refine g_nt ?_ | refine g_nf ?_ | refine g_nu ?_ | ((first | refine al_split_t rfl rfl (lt_ok rfl) (fun hb => ?_) (fun hb => ?_) | refine al_split_f rfl rfl (lt_ok rfl) (fun hb => ?_) (fun hb => ?_)) <;> ((try have hq := dX hb); (try (exfalso; omega))))) | (apply qr_pick; refine r_pick ?_) | (apply qr_lss; refine r_lss ?_) | (apply qr_leq; refine r_leq ?_) | (apply qr_not; refine r_not ?_) | (apply qr_len; refine r_len ?_) | (apply qr_ix; refine r_ix ?_) | (apply qr_load; refine r_load ?_) | (apply qr_faddr; refine r_faddr ?_))
  ·skip
   repeat' (first | refine nx ?_ | (apply aq_block_y; decide) | (apply qr_move; refine r_move ?_) | (apply qr_assign; refine r_assign ?_) | (apply at_cond; first | refine c_t ?_ | refine c_f ?_ | (refine aw_cond rfl (fun hb => ?_) (fun hb => ?_) <;> ((try have hq := dX hb); (try (exfalso; omega))))) | (apply qr_not; refine r_not ?_) | (apply qr_ix; refine r_ix ?_) | (apply qr_load; refine r_load ?_) | (apply qr_faddr; refine r_faddr ?_))
   refine rt1 ?_
   exact ⟨false, rfl, fun h => by cases h⟩
  ·skip
   repeat' (first | refine nx ?_ | (apply aq_block_y; decide) | (apply qr_move; refine r_move ?_) | (apply qr_assign; refine r_assign ?_) | (apply at_cond; first | refine c_t ?_ | refine c_f ?_ | (refine aw_cond rfl (fun hb => ?_) (fun hb => ?_) <;> ((try have hq := dX hb); (try (exfalso; omega))))) | (apply qr_add; refine r_add ?_) | (apply qr_not; refine r_not ?_) | (apply qr_ix; refine r_ix ?_) | (apply qr_load; refine r_load ?_) | (apply qr_faddr; refine r_faddr ?_))
   refine aq_rd (⟨i + 1, rfl, by omega, by omega, hn (t1 rfl), rfl, rfl⟩) (by omega)
 ·by_cases hle : ls.length ≤ 20
  ·have q0 : decide ((ls.length : Int) ≤ 20) = true := decide_eq_true (by omega)
   have q1 : decide ((i : Int) < ls.length) = false := decide_eq_false (by omega)
   obtain rfl : i = ls.length := by omega
   rw [List.take_length] at hs
   repeat' (first | (apply at_call; refine k_call (k0) hE ?_; rintro _ ⟨b1, rfl, t1⟩) | refine nx ?_ | (apply aq_block_y; decide) | (apply qr_move; refine r_move ?_) | (apply qr_assign; refine r_assign ?_) | (apply at_cond; first | refine c_t ?_ | refine c_f ?_ | (refine aw_cond rfl (fun hb => ?_) (fun hb => ?_) <;> ((try have hq := dX hb); (try (exfalso; omega))))) | (apply at_guard; first | refine g_go ?_ | refine g_nt ?_ | refine g_nf ?_ | refine g_nu ?_ | ((first | refine al_split_t rfl rfl (lt_ok rfl) (fun hb => ?_) (fun hb => ?_) | refine al_split_f rfl rfl (lt_ok rfl) (fun hb => ?_) (fun hb => ?_)) <;> ((try have hq := dX hb); (try (exfalso; omega))))) | (apply qr_pick; refine r_pick ?_) | (apply qr_lss; refine r_lss ?_) | (apply qr_leq; refine r_leq ?_) | (apply qr_len; refine r_len ?_) | (apply qr_load; refine r_load ?_))
   refine rt1 ?_
   exact ⟨b1, by simp, fun h => ⟨hle, hs, t1 h⟩⟩
  ·have q0 : decide ((ls.length : Int) ≤ 20) = false := decide_eq_false (by omega)
   by_cases hli : i < ls.length
   ·have q1 : decide ((i : Int) < ls.length) = true := decide_eq_true (by omega)
    have q2 : decide ((i : Int) ≤ 20) = false := decide_eq_false (by omega)
    repeat' (first | refine nx ?_ | (apply aq_block_y; decide) | (apply qr_move; refine r_move ?_) | (apply qr_assign; refine r_assign ?_) | (apply at_cond; first | refine c_t ?_ | refine c_f ?_ | (refine aw_cond rfl (fun hb => ?_) (fun hb => ?_) <;> ((try have hq := dX hb); (try (exfalso; omega))))) | (apply at_guard; first | refine g_go ?_ | refine g_nt ?_ | refine g_nf ?_ | refine g_nu ?_ | ((first | refine al_split_t rfl rfl (lt_ok rfl) (fun hb => ?_) (fun hb => ?_) | refine al_split_f rfl rfl (lt_ok rfl) (fun hb => ?_) (fun hb => ?_)) <;> ((try have hq := dX hb); (try (exfalso; omega))))) | (apply qr_pick; refine r_pick ?_) | (apply qr_lss; refine r_lss ?_) | (apply qr_leq; refine r_leq ?_) | (apply qr_len; refine r_len ?_) | (apply qr_load; refine r_load ?_))
    refine rt1 ?_
    exact ⟨false, by simp, fun h => by cases h⟩
   ·have q1 : decide ((i : Int) < ls.length) = false := decide_eq_false (by omega)
    repeat' (first | refine nx ?_ | (apply aq_block_y; decide) | (apply qr_move; refine r_move ?_) | (apply qr_assign; refine r_assign ?_) | (apply at_cond; first | refine c_t ?_ | refine c_f ?_ | (refine aw_cond rfl (fun hb => ?_) (fun hb => ?_) <;> ((try have hq := dX hb); (try (exfalso; omega))))) | (apply at_guard; first | refine g_go ?_ | refine g_nt ?_ | refine g_nf ?_ | refine g_nu ?_ | ((first | refine al_split_t rfl rfl (lt_ok rfl) (fun hb => ?_) (fun hb => ?_) | refine al_split_f rfl rfl (lt_ok rfl) (fun hb => ?_) (fun hb => ?_)) <;> ((try have hq := dX hb); (try (exfalso; omega))))) | (apply qr_pick; refine r_pick ?_) | (apply qr_lss; refine r_lss ?_) | (apply qr_leq; refine r_leq ?_) | (apply qr_len; refine r_len ?_) | (apply qr_load; refine r_load ?_))
    refine rt1 ?_
    exact ⟨false, by simp, fun h => by cases h⟩
def Before (ls : List (ByteArray × Ex)) : Ex → List Int → Prop
 | _, [] => True
 | e, i :: p => ∃ (k : Nat) (h : k < e.args.length), i = k ∧ (∀ (j : Nat) (hj : j < e.args.length), j < k → (ofU ls e.args[j]).2.2 = 0) ∧ Before ls e.args[k] p
theorem before_any (ls : List (ByteArray × Ex)) (e : Ex) (p : List Int) (hl : ls.length ≤ 100) (ht : ∀ q ∈ ls, Ex.tame q.2) (he : e.tame) (hp : p.length ≤ 100000) (hb : Before ls e p) : PureC 20 [letsD ls, .agg (exC e), intsD p] (· = .bool true) := by
 have hlp : (p.map fun n => [D.int n]).length = p.length := List.length_map ..
 refine pure_enter Try.func20 rfl (by decide) _ Try.ntmps20 (le_ok rfl) (fun w Pr hE => ?_)
 dsimp only [slotsOf, Nat.zero_add, Nat.reduceAdd]
 repeat' (first | refine nx ?_ | (apply aq_block_y; decide) | (apply qr_assign; refine r_assign ?_) | (apply at_cond; first | refine c_t ?_ | refine c_f ?_ | (refine aw_cond rfl (fun hb => ?_) (fun hb => ?_) <;> ((try have hq := dX hb); (try (exfalso; omega))))) | (apply qr_boxed; refine r_boxed ?_))
 refine aw_lp (fun N sl ob => ∃ (i : Nat) (x : Ex), N = p.length - i ∧ i ≤ p.length ∧ x.tame ∧ Before ls x (p.drop i) ∧ sl = [(7, .d (.int i)), (4, .box 4 0), (2, .d (intsD p)), (0, .d (letsD ls))] ∧ ob = [(4, exO' x)]) (⟨0, e, rfl, Nat.zero_le _, he, hb, rfl, rfl⟩) ?_
 clear hb he
 rintro N sl ob ⟨i, x, rfl, hi, hx, hs, rfl, rfl⟩
 by_cases hlt : i < p.length
 ·have hg1 := dints_get hlt
  have hd : p.drop i = p[i] :: p.drop (i + 1) := List.drop_eq_getElem_cons hlt
  rw [hd] at hs
  obtain ⟨k, hk, hik, ha, hs⟩ := hs
  rw [hik] at hg1
  have hla := rows_len x.args
  have hll := at_len hx
  have q1 : decide ((k : Int) < 0) = false := decide_eq_false (by omega)
  have q2 : decide (((Ex.rows x.args).length : Int) ≤ k) = false := decide_eq_false (by omega)
  clear hik hd
  repeat' (first | refine nx ?_ | (apply aq_block_y; decide) | (apply qr_move; refine r_move ?_) | (apply at_cond; first | refine c_t ?_ | refine c_f ?_ | (refine aw_cond rfl (fun hb => ?_) (fun hb => ?_) <;> ((try have hq := dX hb); (try (exfalso; omega))))) | (apply qr_lss; refine r_lss ?_) | (apply qr_len; refine r_len ?_))
  refine aw_mixo ([(4, exO' x)]) [(0, true), (1, true), (2, true), (3, true), (4, true), (5, true), (6, true), (7, true), (8, true), (9, true), (10, true), (11, true), (12, true), (13, true), (14, true)] [] (by kernel_rfl) (by kernel_rfl) (by kernel_rfl) (by decide) (by (repeat (first | exact obs_nil | (apply obs_cons; focus (first | rfl | (simp [find]; done)))))) ?_
  simp only [planned, tailed, List.filterMap_cons, List.filterMap_nil, List.getElem?_cons_zero, List.getElem?_cons_succ, Option.map_some]
  repeat' (first | apply am_nil | refine m_skip ?_ | refine n_skip ?_ | (apply at_am (.indexAddr _ _ _); refine am_y (by first | exact want_none | exact want_yes rfl rfl (by assumption) | exact want_yes rfl rfl (by with_reducible rfl)) (y_ix (by first | exact ToD.d _ | exact ToD.row _ _ _ _ _ rfl) rfl rfl (by first | with_reducible rfl | exact lit0 | exact lit1 | exact lit2 | exact lit3 | exact lit4 | exact int_s _ | exact int_p _ _ | exact int_nat _ (by omega)) hg1) (lt_ok rfl) ?_) | (apply qm_move; refine m_move ?_) | (apply qm_pick; refine m_pick ?_) | (apply qm_lss; refine m_lss ?_) | (apply qm_geq; refine m_geq ?_) | (apply qm_len; refine m_len ?_) | (apply qm_ix; refine m_ix ?_) | (apply qm_load; refine m_load ?_) | (apply qm_faddr; refine m_faddr ?_) | (refine am_split rfl rfl (fun hb => ?_) (fun hb => ?_) <;> ((try have hq := dX hb); (try (exfalso; omega)))))
  repeat' (first | refine nx ?_ | (apply aq_block_y; decide) | (apply qr_move; refine r_move ?_) | (apply qr_assign; refine r_assign ?_) | (apply at_cond; first | refine c_t ?_ | refine c_f ?_ | (refine aw_cond rfl (fun hb => ?_) (fun hb => ?_) <;> ((try have hq := dX hb); (try (exfalso; omega))))) | (apply at_guard; first | refine g_go ?_ | refine g_nt ?_ | refine g_nf ?_ | refine g_nu ?_ | ((first | refine al_split_t rfl rfl (lt_ok rfl) (fun hb => ?_) (fun hb => ?_) | refine al_split_f rfl rfl (lt_ok rfl) (fun hb => ?_) (fun hb => ?_)) <;> ((try have hq := dX hb); (try (exfalso; omega))))) | (apply qr_pick; refine r_pick ?_) | (apply qr_lss; refine r_lss ?_) | (apply qr_geq; refine r_geq ?_) | (apply qr_len; refine r_len ?_) | (apply qr_ix; refine r_ix ?_) | (apply qr_load; refine r_load ?_) | (apply qr_faddr; refine r_faddr ?_))
  refine aw_lp (fun N sl ob => ∃ j : Nat, N = k - j ∧ j ≤ k ∧ sl = [(8, .d (.int j)), (7, .d (.int i)), (4, .box 4 0), (2, .d (intsD p)), (0, .d (letsD ls))] ∧ ob = [(4, exO' x)]) (⟨0, rfl, Nat.zero_le _, rfl, rfl⟩) ?_
  rintro N sl ob ⟨j, rfl, hj, rfl, rfl⟩
  by_cases hjk : j < k
  ·have hg2 := rows_get (show j < x.args.length by omega)
   have c2 := uof_any ls x.args[j] hl ht (tame_get hx (by omega))
   have hz := ha j (by omega) hjk
   have qj : decide ((j : Int) < k) = true := decide_eq_true (by omega)
   unfold ofD at c2
   generalize x.args[j] = y at *
   generalize ofU ls y = r at *
   obtain ⟨u, pp, c⟩ := r
   dsimp only at c2 hz
   subst hz
   repeat' (first | (apply at_op (.indexAddr _ (.tmp 34) _); refine al_ixq hg1 ?_) | (apply at_op (.indexAddr _ _ _); refine al_ixq hg2 ?_) | (apply at_call; refine k_call (c2) hE ?_; rintro _ rfl) | refine nx ?_ | (apply aq_block_y; decide) | (apply qr_move; refine r_move ?_) | (apply qr_assign; refine r_assign ?_) | (apply at_cond; first | refine c_t ?_ | refine c_f ?_ | (refine aw_cond rfl (fun hb => ?_) (fun hb => ?_) <;> ((try have hq := dX hb); (try (exfalso; omega))))) | (apply qr_lss; refine r_lss ?_) | (apply qr_neq; refine r_neq ?_) | (apply qr_add; refine r_add ?_) | (apply qr_extract; refine r_extract ?_) | (apply qr_ix; refine r_ix ?_) | (apply qr_load; refine r_load ?_) | (apply qr_faddr; refine r_faddr ?_))
   refine aq_rd (⟨j + 1, rfl, by omega, rfl, rfl⟩) (by omega)
  ·have qj : decide ((j : Int) < k) = false := decide_eq_false (by omega)
   have hg2 := rows_get hk
   have hy := tame_get hx hk
   generalize x.args[k] = y at *
   repeat' (first | (apply at_op (.indexAddr _ (.tmp 34) _); refine al_ixq hg1 ?_) | refine nx ?_ | (apply aq_block_y; decide) | (apply qr_move; refine r_move ?_) | (apply at_cond; first | refine c_t ?_ | refine c_f ?_ | (refine aw_cond rfl (fun hb => ?_) (fun hb => ?_) <;> ((try have hq := dX hb); (try (exfalso; omega))))) | (apply qr_lss; refine r_lss ?_) | (apply qr_ix; refine r_ix ?_) | (apply qr_load; refine r_load ?_))
   refine aw_mixo ([(4, exO' x)]) [(0, true), (1, true), (2, true), (3, true), (4, true), (5, true), (6, true), (7, true)] [8] (by kernel_rfl) (by kernel_rfl) (by kernel_rfl) (by decide) (by (repeat (first | exact obs_nil | (apply obs_cons; focus (first | rfl | (simp [find]; done)))))) ?_
   simp only [planned, tailed, List.filterMap_cons, List.filterMap_nil, List.getElem?_cons_zero, List.getElem?_cons_succ, Option.map_some]
   repeat' (first | apply am_nil | refine m_skip ?_ | refine n_skip ?_ | (apply at_am (.indexAddr _ _ _); refine am_y (by first | exact want_none | exact want_yes rfl rfl (by assumption) | exact want_yes rfl rfl (by with_reducible rfl)) (y_ix (by first | exact ToD.d _ | exact ToD.row _ _ _ _ _ rfl) rfl rfl (by first | with_reducible rfl | exact lit0 | exact lit1 | exact lit2 | exact lit3 | exact lit4 | exact int_s _ | exact int_p _ _ | exact int_nat _ (by omega)) hg1) (lt_ok rfl) ?_; clear hg1) | (apply at_am (.indexAddr _ _ _); refine am_y (by first | exact want_none | exact want_yes rfl rfl (by assumption) | exact want_yes rfl rfl (by with_reducible rfl)) (y_ix (by first | exact ToD.d _ | exact ToD.row _ _ _ _ _ rfl) rfl rfl (by first | with_reducible rfl | exact lit0 | exact lit1 | exact lit2 | exact lit3 | exact lit4 | exact int_s _ | exact int_p _ _ | exact int_nat _ (by omega)) hg2) (lt_ok rfl) ?_) | (apply qm_move; refine m_move ?_) | (apply qm_ix; refine m_ix ?_) | (apply qm_load; refine m_load ?_) | (apply qm_faddr; refine m_faddr ?_) | (refine am_split rfl rfl (fun hb => ?_) (fun hb => ?_) <;> ((try have hq := dX hb); (try (exfalso; omega)))))
   repeat' (first | refine nx ?_ | (apply aq_block_y; decide) | (apply qr_move; refine r_move ?_) | (apply qr_assign; refine r_assign ?_) | (apply at_cond; first | refine c_t ?_ | refine c_f ?_ | (refine aw_cond rfl (fun hb => ?_) (fun hb => ?_) <;> ((try have hq := dX hb); (try (exfalso; omega))))) | (apply qr_add; refine r_add ?_) | (apply qr_ix; refine r_ix ?_) | (apply qr_load; refine r_load ?_) | (apply qr_faddr; refine r_faddr ?_) | (apply qr_store; refine r_store ?_))
   refine aq_rd (⟨i + 1, y, rfl, by omega, hy, hs, rfl, rfl⟩) (by omega)
 ·skip
  repeat' (first | refine nx ?_ | (apply aq_block_y; decide) | (apply qr_move; refine r_move ?_) | (apply qr_assign; refine r_assign ?_) | (apply at_cond; first | refine c_t ?_ | refine c_f ?_ | (refine aw_cond rfl (fun hb => ?_) (fun hb => ?_) <;> ((try have hq := dX hb); (try (exfalso; omega))))) | (apply qr_lss; refine r_lss ?_) | (apply qr_len; refine r_len ?_))
  refine rt1 ?_
  rfl
end Go.Proofs.Ytgiacdhffklenaa
end
section
namespace Go.Proofs.Ytgiacdhffklenaa
open Go.RowKit
theorem at_tame : ∀ (p : List Int) (e x : Ex), e.tame → atP e p = some x → x.tame
 | [], e, x, he, h => by cases h; exact he
 | i :: p, e, x, he, h => by
  simp only [atP] at h
  split at h
  ·cases h
  ·rename_i hi
   have hk : i.toNat < e.args.length := by omega
   rw [getD_arg hk] at h
   exact at_tame p _ x (tame_get he hk) h
theorem of_len (ls : List (ByteArray × Ex)) (e : Ex) : (ofU ls e).2.1.length ≤ 12 := by
 unfold ofU
 split
 ·simp
 ·rename_i hc
  simp only [Bool.or_eq_true, Bool.not_eq_true', not_or, Bool.not_eq_false] at hc
  cases hx : e.unitU (scopedU ls) with
  | ok v => simp
  | bad q c =>
   have := (placed 12 _ e q c hc.1 hx).2
   simp only
   omega
end Go.Proofs.Ytgiacdhffklenaa
end
section
namespace Go.Proofs.Ytgiacdhffklenaa
open Go.RowKit
def Unit4 (u : Int) : Prop := 0 ≤ u ∧ u ≤ 3
theorem trip_range (s : ByteArray) (h : tripU s ≠ -1) : Unit4 (tripU s) := by
 unfold tripU at h ⊢
 unfold Unit4
 split at h <;> (try split at h) <;> simp_all
theorem member_range (s : ByteArray) (h : memberU s ≠ -1) : Unit4 (memberU s) := by
 unfold memberU at h ⊢
 unfold Unit4
 split at h <;> (try split at h) <;> (try split at h) <;> simp_all
def Scope4 (sc : List (ByteArray × Int)) : Prop := ∀ q ∈ sc, q.2 = -1 ∨ Unit4 q.2
theorem scope_range {sc : List (ByteArray × Int)} (hs : Scope4 sc) (s : ByteArray) (h : scopeU sc s ≠ -1) : Unit4 (scopeU sc s) := by
 unfold scopeU at h ⊢
 cases hf : sc.find? (fun q => decide (q.1 = s)) with
 | none => rw [hf] at h; exact absurd rfl h
 | some q =>
  rw [hf] at h
  exact (hs q (List.mem_of_find?_eq_some hf)).resolve_left h
theorem pair_range {op a b : Int} (ha : Unit4 a) (hb : Unit4 b) (h : pairU op a b ≠ -1) : Unit4 (pairU op a b) := by
 unfold pairU at h ⊢
 unfold Unit4 at *
 repeat' split
 all_goals first | omega | (exfalso; revert h; simp_all)
theorem getD_range {l : List Int} (hl : ∀ u ∈ l, Unit4 u) (i : Nat) : Unit4 (l.getD i 0) := by
 rw [List.getD_eq_getElem?_getD]
 cases h : l[i]? with
 | none => exact ⟨by simp, by simp⟩
 | some u => exact hl u (List.mem_of_getElem? h)
theorem join_range {op : Int} {l : List Int} (hl : ∀ u ∈ l, Unit4 u) (h : joinU op l ≠ -1) : Unit4 (joinU op l) := by
 have h0 := getD_range hl 0
 have h1 := getD_range hl 1
 unfold joinU at h ⊢
 split
 ·rename_i k
  rw [if_pos k] at h
  split
  ·rename_i k2; rw [if_pos k2] at h; exact absurd rfl h
  ·exact ⟨by omega, by omega⟩
 ·rename_i k
  rw [if_neg k] at h
  split
  ·rename_i k2
   rw [if_pos k2] at h
   split
   ·exact h1
   ·rename_i k3; rw [if_neg k3] at h; exact absurd rfl h
  ·rename_i k2
   rw [if_neg k2] at h
   split
   ·rename_i k3
    rw [if_pos k3] at h
    exact pair_range h0 h1 h
   ·rename_i k3; rw [if_neg k3] at h; exact absurd rfl h
theorem mem_getQ {α : Type} {l : List α} {u : α} (h : u ∈ l) : ∃ i, i < l.length ∧ l[i]? = some u := by
 obtain ⟨i, hi, rfl⟩ := List.getElem_of_mem h
 exact ⟨i, hi, List.getElem?_eq_getElem hi⟩
theorem name_range {u v : Int} (hu : u ≠ -1 → Unit4 u) (h : nameU u = .ok v) : Unit4 v := by
 obtain ⟨h1, rfl⟩ := name_ok h
 exact hu h1
theorem unit_range : ∀ (d : Nat) (sc : List (ByteArray × Int)) (e : Ex) (u : Int), Scope4 sc → e.right d = true → e.unitU sc = .ok u → Unit4 u
 | 0, _, _, _, _, h, _ => by rw [right_zero] at h; cases h
 | d + 1, sc, e, u, hs, h, hu => by
  obtain ⟨_, hr⟩ := right_args h
  rw [unit_eq] at hu
  split at hu
  ·rename_i h0
   rw [right_eq, if_pos h0, Bool.and_eq_true] at h
   have hn := h.2
   unfold numRight at hn
   cases hu
   simp only [Bool.and_eq_true, decide_eq_true_eq] at hn
   exact ⟨by omega, by omega⟩
  ·split at hu
   ·exact name_range (trip_range _) hu
   ·split at hu
    ·exact name_range (member_range _) hu
    ·split at hu
     ·exact name_range (scope_range hs _) hu
     ·obtain ⟨l, h1, h2, rfl⟩ := parts_ok hu
      refine join_range (fun v hv => ?_) h2
      obtain ⟨i, hi, hvi⟩ := mem_getQ hv
      obtain ⟨hl, hk⟩ := units_ok sc 0 _ _ h1
      obtain ⟨w, h3, h4⟩ := hk i (by omega)
      rw [hvi] at h4
      cases h4
      exact unit_range d sc _ _ hs (hr _ (List.getElem_mem (by omega))) h3
theorem scoped_range : ∀ (n : Nat) (ls : List (ByteArray × Ex)), ls.length = n → (∀ q ∈ ls, Ex.right q.2 12 = true) → Scope4 (scopedU ls)
 | 0, ls, h, _ => by
  obtain rfl := List.eq_nil_of_length_eq_zero h
  intro q hq
  simp [scopedU] at hq
 | n + 1, ls, h, hr => by
  obtain ⟨a, q, rfl⟩ : ∃ a q, ls = a ++ [q] := ⟨ls.dropLast, ls.getLast (by intro e; simp [e] at h), (List.dropLast_concat_getLast _).symm⟩
  have ih := scoped_range n a (by simpa using h) fun r hr2 => hr r (by simp [hr2])
  rw [scoped_snoc]
  intro r hr2
  rcases List.mem_append.1 hr2 with h1 | h1
  ·exact ih r h1
  ·rw [List.mem_singleton.1 h1]
   cases hx : q.2.unitU (scopedU a) with
   | ok u => exact .inr (unit_range 12 _ _ u ih (hr q (by simp)) hx)
   | bad p c => exact .inl rfl
structure Sound (ls : List (ByteArray × Ex)) : Prop where
 len : ls.length ≤ 20
 all : wrongL ls = false
theorem Sound.ok {ls : List (ByteArray × Ex)} (h : Sound ls) {e : Ex} {u : Int} (he : e.right 12 = true) (hu : e.unitU (scopedU ls) = .ok u) : ofU ls e = (u, [], 0) := by
 unfold ofU
 rw [he, h.all, decide_eq_false (by have := h.len; omega), hu]
 rfl
theorem Sound.bad {ls : List (ByteArray × Ex)} (h : Sound ls) {e : Ex} {p : List Int} {c : Int} (he : e.right 12 = true) (hu : e.unitU (scopedU ls) = .bad p c) : ofU ls e = (0, p, c) := by
 unfold ofU
 rw [he, h.all, decide_eq_false (by have := h.len; omega), hu]
 rfl
theorem placed_before {ls : List (ByteArray × Ex)} (hs : Sound ls) : ∀ (p : List Int) (e : Ex) (c : Int), e.right 12 = true → Placed (scopedU ls) e p c → Before ls e p
 | [], _, _, _, _ => trivial
 | i :: p, e, c, he, ⟨k, hk, hi, ha, hp⟩ => ⟨k, hk, hi, fun j hj hjk => by
   obtain ⟨u, hu⟩ := ha j hj hjk
   rw [hs.ok (uright_arg he (List.getElem_mem hj)) hu], placed_before hs p _ c (uright_arg he (List.getElem_mem hk)) hp⟩
theorem args_ok {sc : List (ByteArray × Int)} {d : Nat} {e : Ex} {u : Int} (he : e.right (d + 1) = true) (hu : e.unitU sc = .ok u) : ∀ x ∈ e.args, ∃ v, x.unitU sc = .ok v := by
 intro x hx
 obtain ⟨h0, _⟩ := right_args he
 rw [unit_eq] at hu
 by_cases k0 : e.op = 0 ∨ e.op = 1 ∨ e.op = 2 ∨ e.op = 3
 ·rw [h0 k0] at hx
  cases hx
 ·rw [if_neg (by omega), if_neg (by omega), if_neg (by omega), if_neg (by omega)] at hu
  obtain ⟨l, h1, _⟩ := parts_ok hu
  obtain ⟨i, hi, rfl⟩ := List.getElem_of_mem hx
  obtain ⟨v, hv, _⟩ := (units_ok sc 0 _ _ h1).2 i hi
  exact ⟨v, hv⟩
structure PlaceF (ls : List (ByteArray × Ex)) (e : Ex) (u : Int) (p : List Int) (c : Int) : Prop where
 code : c = 0 ∨ c = 13 ∨ c = 14
 unit : 0 ≤ u ∧ u ≤ 3
 zero : c = 0 → p = []
 none : c ≠ 0 → u = 0
 at_ : ∃ part, atP e p = some part ∧ Before ls e p ∧ ofU ls part = (u, [], c) ∧ (c = 14 → part.op = 1 ∨ part.op = 2 ∨ part.op = 3) ∧ ∀ x ∈ part.args, (ofU ls x).2.2 = 0
theorem place_facts {ls : List (ByteArray × Ex)} {e : Ex} {u : Int} {p : List Int} {c : Int} (h : ofU ls e = (u, p, c)) (hc : c ≠ 1) : PlaceF ls e u p c := by
 have h' := h
 unfold ofU at h
 split at h
 ·cases h
  exact absurd rfl hc
 ·rename_i hcc
  simp only [Bool.or_eq_true, Bool.not_eq_true', decide_eq_true_eq, not_or, Bool.not_eq_false, Bool.not_eq_true] at hcc
  obtain ⟨h1, h2, h3⟩ := hcc
  have hs : Sound ls := ⟨by omega, h3⟩
  have hall : ∀ q ∈ ls, Ex.right q.2 12 = true := fun q hq => by
   unfold wrongL at h3
   rw [List.any_eq_false] at h3
   simpa using h3 q hq
  cases hx : e.unitU (scopedU ls) with
  | ok v =>
   rw [hx] at h
   cases h
   refine ⟨.inl rfl, unit_range 12 _ e _ (scoped_range _ ls rfl hall) h1 hx, fun _ => rfl, fun h => absurd rfl h, e, rfl, trivial, h', fun h => absurd h (by decide), fun x hx2 => ?_⟩
   obtain ⟨v, hv⟩ := args_ok h1 hx x hx2
   rw [hs.ok (uright_arg h1 hx2) hv]
  | bad q d =>
   rw [hx] at h
   simp only [Prod.mk.injEq] at h
   obtain ⟨rfl, rfl, rfl⟩ := h
   have hb := bad_code h1 hx
   obtain ⟨hp, _⟩ := placed 12 _ e _ _ h1 hx
   obtain ⟨part, ha, hp2⟩ := placed_at _ _ e _ hp
   have hr := at_right _ e part h1 ha
   obtain ⟨k1, k2, k3, _⟩ := hp2
   refine ⟨.inr hb, ⟨by omega, by omega⟩, fun h => by omega, fun _ => rfl, part, ha, placed_before hs _ e _ h1 hp, hs.bad hr k1, k3, fun x hx2 => ?_⟩
   obtain ⟨v, hv⟩ := k2 x hx2
   rw [hs.ok (uright_arg hr hx2) hv]
end Go.Proofs.Ytgiacdhffklenaa
end
