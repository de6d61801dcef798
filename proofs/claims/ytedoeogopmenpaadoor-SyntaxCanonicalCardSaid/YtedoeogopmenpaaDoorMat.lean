/-
  Conditions: none.
-/
import Derived.Test.YtedoeogopmenpaaDoorMas
set_option maxHeartbeats 16000000
set_option maxRecDepth 20000
section
set_option linter.unusedSimpArgs false
set_option linter.unusedVariables false
namespace Go.Proofs.YtedoeogopmenpaaDoor
open Go.RowKit
section
variable {d : Nat}
theorem show_num (n u : Int) (hn : numRight n u ⟨#[]⟩ = true) (f fm : Nat) (hf : f ≤ fm) (hfm : PureC 58 [.agg (exC (.mk 0 n u ⟨#[]⟩ []))] (· = .int fm)) : PureC 30 [.agg (exC (.mk 0 n u ⟨#[]⟩ [])), .int f] (· = .str ((Ex.mk 0 n u ⟨#[]⟩ []).text 0)) := by
 have hr := numRight_rng hn
 have hnu := numtext_any n u ⟨#[]⟩ [] hr.1 hr.2.1
 dsimp only [exC, Ex.op, Ex.num, Ex.unit, Ex.str, Ex.args] at hfm hnu ⊢
 have q0 : decide ((fm : Int) < f) = false := decide_eq_false (by omega)
 refine pure_enter Tryd.func30 rfl (by decide) _ Tryd.ntmps30 (le_ok rfl) (fun w Pr hE => ?_)
 dsimp only [slotsOf, Nat.zero_add, Nat.reduceAdd]
 repeat' (first | (apply at_call; refine k_call (hfm) hE ?_; rintro _ rfl) | (apply at_op (.makeFunc (.func 59) _ _); refine al_y (y_clo (zs := [.box 2 0]) rfl) (lt_ok rfl) ?_) | (apply at_op (.makeFunc (.func 60) _ _); refine al_y (y_clo (zs := [.box 5 0]) rfl) (lt_ok rfl) ?_) | (apply at_op (.store _ _ _); refine al_step (st_store (v := .clo (.func 59) [.box 2 0]) (n := [.clo (.func 59) [.box 2 0]]) (l' := [.clo (.func 59) [.box 2 0]]) rfl rfl rfl nofun rfl (by intro z hz; rw [List.mem_singleton] at hz; subst hz; rfl) (.inl ⟨rfl, rfl⟩) rfl (le_ok rfl) rfl) rfl ?_) | (apply at_call; refine k_call (hnu) hE ?_; rintro _ rfl) | refine nx ?_ | (apply aq_block_y; decide) | (apply qr_move; refine r_move ?_) | (apply qr_assign; refine r_assign ?_) | (apply at_cond; first | refine c_t ?_ | refine c_f ?_ | (refine aw_cond rfl (fun hb => ?_) (fun hb => ?_) <;> ((try have hq := dX hb); (try (exfalso; omega))))) | (apply qr_lss; refine r_lss ?_) | (apply qr_eql; refine r_eql ?_) | (apply qr_func; refine r_func ?_) | (apply qr_load; refine r_load ?_) | (apply qr_faddr; refine r_faddr ?_) | (apply qr_alloc; refine r_alloc ?_) | (apply qr_boxed; refine r_boxed ?_) | (apply qr_store; refine r_store ?_))
 refine rt1 ?_
 rfl
theorem show_leaf (op : Int) (ho : op = 1 ∨ op = 2 ∨ op = 3) (s : ByteArray) (hs : s.size ≤ 100000) (f fm : Nat) (hf : f ≤ fm) (hfm : PureC 58 [.agg (exC (.mk op 0 0 s []))] (· = .int fm)) : PureC 30 [.agg (exC (.mk op 0 0 s [])), .int f] (· = .str ((Ex.mk op 0 0 s []).text 0)) := by
 rw [text_leaf ho]
 dsimp only [exC, Ex.op, Ex.num, Ex.unit, Ex.str, Ex.args] at hfm ⊢
 have q0 : decide ((fm : Int) < f) = false := decide_eq_false (by omega)
 have l1 : ByteArray.size ⟨#[116, 114, 105, 112, 32]⟩ = 5 := rfl
 have l2 : ByteArray.size ⟨#[109, 101, 109, 98, 101, 114, 32]⟩ = 7 := rfl
 rcases ho with rfl | rfl | rfl
 ·skip
  refine pure_enter Tryd.func30 rfl (by decide) _ Tryd.ntmps30 (le_ok rfl) (fun w Pr hE => ?_)
  dsimp only [slotsOf, Nat.zero_add, Nat.reduceAdd]
  repeat' (first | (apply at_call; refine k_call (hfm) hE ?_; rintro _ rfl) | (apply at_op (.makeFunc (.func 59) _ _); refine al_y (y_clo (zs := [.box 2 0]) rfl) (lt_ok rfl) ?_) | (apply at_op (.makeFunc (.func 60) _ _); refine al_y (y_clo (zs := [.box 5 0]) rfl) (lt_ok rfl) ?_) | (apply at_op (.store _ _ _); refine al_step (st_store (v := .clo (.func 59) [.box 2 0]) (n := [.clo (.func 59) [.box 2 0]]) (l' := [.clo (.func 59) [.box 2 0]]) rfl rfl rfl nofun rfl (by intro z hz; rw [List.mem_singleton] at hz; subst hz; rfl) (.inl ⟨rfl, rfl⟩) rfl (le_ok rfl) rfl) rfl ?_) | refine nx ?_ | (apply aq_block_y; decide) | (apply qr_move; refine r_move ?_) | (apply qr_assign; refine r_assign ?_) | (apply at_cond; first | refine c_t ?_ | refine c_f ?_ | (refine aw_cond rfl (fun hb => ?_) (fun hb => ?_) <;> ((try have hq := dX hb); (try (exfalso; omega))))) | (apply qr_lss; refine r_lss ?_) | (apply qr_eql; refine r_eql ?_) | (apply qr_func; refine r_func ?_) | (apply qr_load; refine r_load ?_) | (apply qr_faddr; refine r_faddr ?_) | (apply qr_alloc; refine r_alloc ?_) | (apply qr_boxed; refine r_boxed ?_) | (apply qr_store; refine r_store ?_))
  refine rt1 ?_
  rfl
 ·skip
  refine pure_enter Tryd.func30 rfl (by decide) _ Tryd.ntmps30 (le_ok rfl) (fun w Pr hE => ?_)
  dsimp only [slotsOf, Nat.zero_add, Nat.reduceAdd]
  repeat' (first | (apply at_call; refine k_call (hfm) hE ?_; rintro _ rfl) | (apply at_op (.makeFunc (.func 59) _ _); refine al_y (y_clo (zs := [.box 2 0]) rfl) (lt_ok rfl) ?_) | (apply at_op (.makeFunc (.func 60) _ _); refine al_y (y_clo (zs := [.box 5 0]) rfl) (lt_ok rfl) ?_) | (apply at_op (.store _ _ _); refine al_step (st_store (v := .clo (.func 59) [.box 2 0]) (n := [.clo (.func 59) [.box 2 0]]) (l' := [.clo (.func 59) [.box 2 0]]) rfl rfl rfl nofun rfl (by intro z hz; rw [List.mem_singleton] at hz; subst hz; rfl) (.inl ⟨rfl, rfl⟩) rfl (le_ok rfl) rfl) rfl ?_) | refine nx ?_ | (apply aq_block_y; decide) | (apply qr_move; refine r_move ?_) | (apply qr_assign; refine r_assign ?_) | (apply at_cond; first | refine c_t ?_ | refine c_f ?_ | (refine aw_cond rfl (fun hb => ?_) (fun hb => ?_) <;> ((try have hq := dX hb); (try (exfalso; omega))))) | (apply qr_lss; refine r_lss ?_) | (apply qr_eql; refine r_eql ?_) | (apply qr_add; refine r_add ?_) | (apply qr_func; refine r_func ?_) | (apply qr_load; refine r_load ?_) | (apply qr_faddr; refine r_faddr ?_) | (apply qr_alloc; refine r_alloc ?_) | (apply qr_boxed; refine r_boxed ?_) | (apply qr_store; refine r_store ?_))
  refine rt1 ?_
  rfl
 ·skip
  refine pure_enter Tryd.func30 rfl (by decide) _ Tryd.ntmps30 (le_ok rfl) (fun w Pr hE => ?_)
  dsimp only [slotsOf, Nat.zero_add, Nat.reduceAdd]
  repeat' (first | (apply at_call; refine k_call (hfm) hE ?_; rintro _ rfl) | (apply at_op (.makeFunc (.func 59) _ _); refine al_y (y_clo (zs := [.box 2 0]) rfl) (lt_ok rfl) ?_) | (apply at_op (.makeFunc (.func 60) _ _); refine al_y (y_clo (zs := [.box 5 0]) rfl) (lt_ok rfl) ?_) | (apply at_op (.store _ _ _); refine al_step (st_store (v := .clo (.func 59) [.box 2 0]) (n := [.clo (.func 59) [.box 2 0]]) (l' := [.clo (.func 59) [.box 2 0]]) rfl rfl rfl nofun rfl (by intro z hz; rw [List.mem_singleton] at hz; subst hz; rfl) (.inl ⟨rfl, rfl⟩) rfl (le_ok rfl) rfl) rfl ?_) | refine nx ?_ | (apply aq_block_y; decide) | (apply qr_move; refine r_move ?_) | (apply qr_assign; refine r_assign ?_) | (apply at_cond; first | refine c_t ?_ | refine c_f ?_ | (refine aw_cond rfl (fun hb => ?_) (fun hb => ?_) <;> ((try have hq := dX hb); (try (exfalso; omega))))) | (apply qr_lss; refine r_lss ?_) | (apply qr_eql; refine r_eql ?_) | (apply qr_add; refine r_add ?_) | (apply qr_func; refine r_func ?_) | (apply qr_load; refine r_load ?_) | (apply qr_faddr; refine r_faddr ?_) | (apply qr_alloc; refine r_alloc ?_) | (apply qr_boxed; refine r_boxed ?_) | (apply qr_store; refine r_store ?_))
  refine rt1 ?_
  rfl
theorem show_not (hd : d ≤ 12) (ih : ShowC d) (x : Ex) (ht : (Ex.mk 12 0 0 ⟨#[]⟩ [x]).tame) (hx : x.right d = true) (f fm : Nat) (hf : f ≤ fm) (hfm : PureC 58 [.agg (exC (.mk 12 0 0 ⟨#[]⟩ [x]))] (· = .int fm)) : PureC 30 [.agg (exC (.mk 12 0 0 ⟨#[]⟩ [x])), .int f] (· = .str ((Ex.mk 12 0 0 ⟨#[]⟩ [x]).text 0)) := by
 have c0 : ObC 59 [.d (.int 0), .d (.int 3), .box 1002 0] (shO (.mk 12 0 0 ⟨#[]⟩ [x])) [] (fun y o => y = .d (.str (x.text 3)) ∧ o = shO (.mk 12 0 0 ⟨#[]⟩ [x])) := show1_any ih (.mk 12 0 0 ⟨#[]⟩ [x]) ht 0 3 (Nat.zero_lt_one) hx (by omega)
 have tx := tame_get ht (i := 0) Nat.zero_lt_one
 have zx := text_small hd hx tx 3
 rw [text_not hx]
 dsimp only [exC, Ex.op, Ex.num, Ex.unit, Ex.str, Ex.args] at hfm ⊢
 have q0 : decide ((fm : Int) < f) = false := decide_eq_false (by omega)
 have l1 : ByteArray.size ⟨#[110, 111, 116, 32]⟩ = 4 := rfl
 refine pure_enter Tryd.func30 rfl (by decide) _ Tryd.ntmps30 (le_ok rfl) (fun w Pr hE => ?_)
 dsimp only [slotsOf, Nat.zero_add, Nat.reduceAdd]
 repeat' (first | (apply at_call; refine k_call (hfm) hE ?_; rintro _ rfl) | (apply at_op (.makeFunc (.func 59) _ _); refine al_y (y_clo (zs := [.box 2 0]) rfl) (lt_ok rfl) ?_) | (apply at_op (.makeFunc (.func 60) _ _); refine al_y (y_clo (zs := [.box 5 0]) rfl) (lt_ok rfl) ?_) | (apply at_op (.store _ _ _); refine al_step (st_store (v := .clo (.func 59) [.box 2 0]) (n := [.clo (.func 59) [.box 2 0]]) (l' := [.clo (.func 59) [.box 2 0]]) rfl rfl rfl nofun rfl (by intro z hz; rw [List.mem_singleton] at hz; subst hz; rfl) (.inl ⟨rfl, rfl⟩) rfl (le_ok rfl) rfl) rfl ?_) | (apply at_call; refine k_clocall2 [(1002, 2)] (c0) hE ?_; rintro _ _ ⟨rfl, rfl⟩ <;> (intro _ _ h1 h2; simp only [renEqs, Nat.reduceBEq, renL_app, renL_ds, renL_und] at h1 h2; subst h1 h2)) | refine nx ?_ | (apply aq_block_y; decide) | (apply qr_move; refine r_move ?_) | (apply qr_assign; refine r_assign ?_) | (apply at_cond; first | refine c_t ?_ | refine c_f ?_ | (refine aw_cond rfl (fun hb => ?_) (fun hb => ?_) <;> ((try have hq := dX hb); (try (exfalso; omega))))) | (apply qr_lss; refine r_lss ?_) | (apply qr_eql; refine r_eql ?_) | (apply qr_add; refine r_add ?_) | (apply qr_func; refine r_func ?_) | (apply qr_load; refine r_load ?_) | (apply qr_faddr; refine r_faddr ?_) | (apply qr_alloc; refine r_alloc ?_) | (apply qr_boxed; refine r_boxed ?_) | (apply qr_store; refine r_store ?_))
 refine rt1 ?_
 rfl
theorem show_if (hd : d ≤ 12) (ih : ShowC d) (x y z : Ex) (ht : (Ex.mk 15 0 0 ⟨#[]⟩ [x, y, z]).tame) (hx : x.right d = true) (hy : y.right d = true) (hz : z.right d = true) (f fm : Nat) (hf : f ≤ fm) (hfm : PureC 58 [.agg (exC (.mk 15 0 0 ⟨#[]⟩ [x, y, z]))] (· = .int fm)) : PureC 30 [.agg (exC (.mk 15 0 0 ⟨#[]⟩ [x, y, z])), .int f] (· = .str ((Ex.mk 15 0 0 ⟨#[]⟩ [x, y, z]).text 0)) := by
 have c0 : ObC 59 [.d (.int 0), .d (.int 0), .box 1002 0] (shO (.mk 15 0 0 ⟨#[]⟩ [x, y, z])) [] (fun u o => u = .d (.str (x.text 0)) ∧ o = shO (.mk 15 0 0 ⟨#[]⟩ [x, y, z])) := show1_any ih (.mk 15 0 0 ⟨#[]⟩ [x, y, z]) ht 0 0 (show 0 < 3 by omega) hx (by omega)
 have c1 : ObC 59 [.d (.int 1), .d (.int 0), .box 1002 0] (shO (.mk 15 0 0 ⟨#[]⟩ [x, y, z])) [] (fun u o => u = .d (.str (y.text 0)) ∧ o = shO (.mk 15 0 0 ⟨#[]⟩ [x, y, z])) := show1_any ih (.mk 15 0 0 ⟨#[]⟩ [x, y, z]) ht 1 0 (show 1 < 3 by omega) hy (by omega)
 have c2 : ObC 59 [.d (.int 2), .d (.int 0), .box 1002 0] (shO (.mk 15 0 0 ⟨#[]⟩ [x, y, z])) [] (fun u o => u = .d (.str (z.text 0)) ∧ o = shO (.mk 15 0 0 ⟨#[]⟩ [x, y, z])) := show1_any ih (.mk 15 0 0 ⟨#[]⟩ [x, y, z]) ht 2 0 (show 2 < 3 by omega) hz (by omega)
 have zx := text_small hd hx ht.2.2.1 0
 have zy := text_small hd hy ht.2.2.2.1 0
 have zz := text_small hd hz ht.2.2.2.2.1 0
 rw [text_if hx hy hz]
 have l1 : ByteArray.size ⟨#[105, 102, 32]⟩ = 3 := rfl
 have l2 : ByteArray.size ⟨#[32, 116, 104, 101, 110, 32]⟩ = 6 := rfl
 have l3 : ByteArray.size ⟨#[32, 101, 108, 115, 101, 32]⟩ = 6 := rfl
 have s1 := app_size ⟨#[105, 102, 32]⟩ (x.text 0)
 have s2 := app_size (⟨#[105, 102, 32]⟩ ++ x.text 0) ⟨#[32, 116, 104, 101, 110, 32]⟩
 have s3 := app_size (⟨#[105, 102, 32]⟩ ++ x.text 0 ++ ⟨#[32, 116, 104, 101, 110, 32]⟩) (y.text 0)
 have s4 := app_size (⟨#[105, 102, 32]⟩ ++ x.text 0 ++ ⟨#[32, 116, 104, 101, 110, 32]⟩ ++ y.text 0) ⟨#[32, 101, 108, 115, 101, 32]⟩
 dsimp only [exC, Ex.op, Ex.num, Ex.unit, Ex.str, Ex.args] at hfm ⊢
 have q0 : decide ((fm : Int) < f) = false := decide_eq_false (by omega)
 refine pure_enter Tryd.func30 rfl (by decide) _ Tryd.ntmps30 (le_ok rfl) (fun w Pr hE => ?_)
 dsimp only [slotsOf, Nat.zero_add, Nat.reduceAdd]
 repeat' (first | (apply at_call; refine k_call (hfm) hE ?_; rintro _ rfl) | (apply at_op (.makeFunc (.func 59) _ _); refine al_y (y_clo (zs := [.box 2 0]) rfl) (lt_ok rfl) ?_) | (apply at_op (.makeFunc (.func 60) _ _); refine al_y (y_clo (zs := [.box 5 0]) rfl) (lt_ok rfl) ?_) | (apply at_op (.store _ _ _); refine al_step (st_store (v := .clo (.func 59) [.box 2 0]) (n := [.clo (.func 59) [.box 2 0]]) (l' := [.clo (.func 59) [.box 2 0]]) rfl rfl rfl nofun rfl (by intro z hz; rw [List.mem_singleton] at hz; subst hz; rfl) (.inl ⟨rfl, rfl⟩) rfl (le_ok rfl) rfl) rfl ?_) | refine nx ?_ | (apply aq_block_y; decide) | (apply qr_move; refine r_move ?_) | (apply qr_assign; refine r_assign ?_) | (apply at_cond; first | refine c_t ?_ | refine c_f ?_ | (refine aw_cond rfl (fun hb => ?_) (fun hb => ?_) <;> ((try have hq := dX hb); (try (exfalso; omega))))) | (apply qr_lss; refine r_lss ?_) | (apply qr_eql; refine r_eql ?_) | (apply qr_func; refine r_func ?_) | (apply qr_load; refine r_load ?_) | (apply qr_faddr; refine r_faddr ?_) | (apply qr_alloc; refine r_alloc ?_) | (apply qr_boxed; refine r_boxed ?_) | (apply qr_store; refine r_store ?_))
 refine aw_mixo ([(5, .box 106 [.clo (.func 59) [.box 2 0]])]) [(0, true), (4, true), (8, true), (1, false), (2, true), (3, true), (5, false), (6, true), (7, true), (9, false), (10, true)] [11] (by kernel_rfl) (by kernel_rfl) (by kernel_rfl) (by decide) (by (repeat (first | exact obs_nil | (apply obs_cons; focus (first | rfl | (simp [find]; done)))))) ?_
 simp only [planned, tailed, List.filterMap_cons, List.filterMap_nil, List.getElem?_cons_zero, List.getElem?_cons_succ, Option.map_some]
 repeat' (first | apply am_nil | refine m_skip ?_ | refine n_skip ?_ | (apply at_mcall; refine m_clocall2 [(1002, 2)] (c0) hE ?_; rintro _ _ ⟨rfl, rfl⟩; clear c0 <;> (intro _ _ h1 h2; simp only [renEqs, Nat.reduceBEq, renL_app, renL_ds, renL_und] at h1 h2; subst h1 h2; (try dsimp only [flatV, flat, D.plain, D.plainL]))) | (apply at_mcall; refine m_clocall2 [(1002, 2)] (c1) hE ?_; rintro _ _ ⟨rfl, rfl⟩; clear c1 <;> (intro _ _ h1 h2; simp only [renEqs, Nat.reduceBEq, renL_app, renL_ds, renL_und] at h1 h2; subst h1 h2; (try dsimp only [flatV, flat, D.plain, D.plainL]))) | (apply at_mcall; refine m_clocall2 [(1002, 2)] (c2) hE ?_; rintro _ _ ⟨rfl, rfl⟩ <;> (intro _ _ h1 h2; simp only [renEqs, Nat.reduceBEq, renL_app, renL_ds, renL_und] at h1 h2; subst h1 h2; (try dsimp only [flatV, flat, D.plain, D.plainL]))) | (apply qm_add; refine m_add ?_) | (apply qm_load; refine m_load ?_) | (refine am_split rfl rfl (fun hb => ?_) (fun hb => ?_) <;> ((try have hq := dX hb); (try (exfalso; omega)))))
 repeat' (first | refine nx ?_ | (apply aq_block_y; decide) | (apply qr_assign; refine r_assign ?_) | (apply at_cond; first | refine c_t ?_ | refine c_f ?_ | (refine aw_cond rfl (fun hb => ?_) (fun hb => ?_) <;> ((try have hq := dX hb); (try (exfalso; omega))))) | (apply qr_add; refine r_add ?_) | (apply qr_load; refine r_load ?_))
 refine rt1 ?_
 rfl
theorem show_call (hd : d ≤ 12) (ih : ShowC d) (op : Int) (ho : op = 8 ∨ op = 9) (x y : Ex) (ht : (two op x y).tame) (hx : x.right d = true) (hy : y.right d = true) (f fm : Nat) (hf : f ≤ fm) (hfm : PureC 58 [.agg (exC (two op x y))] (· = .int fm)) : PureC 30 [.agg (exC (two op x y)), .int f] (· = .str ((two op x y).text 0)) := by
 have c0 := show2_any hd ih (two op x y) ht w_min (by decide) x y rfl hx hy
 have c1 := show2_any hd ih (two op x y) ht w_max (by decide) x y rfl hx hy
 rw [text_call ho hx hy]
 dsimp only [two, exC, Ex.op, Ex.num, Ex.unit, Ex.str, Ex.args] at hfm ⊢
 have q0 : decide ((fm : Int) < f) = false := decide_eq_false (by omega)
 rcases ho with rfl | rfl
 ·skip
  refine pure_enter Tryd.func30 rfl (by decide) _ Tryd.ntmps30 (le_ok rfl) (fun w Pr hE => ?_)
  dsimp only [slotsOf, Nat.zero_add, Nat.reduceAdd]
  repeat' (first | (apply at_call; refine k_call (hfm) hE ?_; rintro _ rfl) | (apply at_op (.makeFunc (.func 59) _ _); refine al_y (y_clo (zs := [.box 2 0]) rfl) (lt_ok rfl) ?_) | (apply at_op (.makeFunc (.func 60) _ _); refine al_y (y_clo (zs := [.box 5 0]) rfl) (lt_ok rfl) ?_) | (apply at_op (.store _ _ _); refine al_step (st_store (v := .clo (.func 59) [.box 2 0]) (n := [.clo (.func 59) [.box 2 0]]) (l' := [.clo (.func 59) [.box 2 0]]) rfl rfl rfl nofun rfl (by intro z hz; rw [List.mem_singleton] at hz; subst hz; rfl) (.inl ⟨rfl, rfl⟩) rfl (le_ok rfl) rfl) rfl ?_) | (apply at_call; refine k_clocall1 [(1005, 5), (1002, 2)] (c0) hE ?_; rintro _ _ ⟨rfl, rfl⟩ <;> (intro _ _ h1 h2; simp only [renEqs, Nat.reduceBEq, renL_app, renL_ds, renL_und] at h1 h2; subst h1 h2)) | refine nx ?_ | (apply aq_block_y; decide) | (apply qr_move; refine r_move ?_) | (apply qr_assign; refine r_assign ?_) | (apply at_cond; first | refine c_t ?_ | refine c_f ?_ | (refine aw_cond rfl (fun hb => ?_) (fun hb => ?_) <;> ((try have hq := dX hb); (try (exfalso; omega))))) | (apply qr_lss; refine r_lss ?_) | (apply qr_eql; refine r_eql ?_) | (apply qr_func; refine r_func ?_) | (apply qr_load; refine r_load ?_) | (apply qr_faddr; refine r_faddr ?_) | (apply qr_alloc; refine r_alloc ?_) | (apply qr_boxed; refine r_boxed ?_) | (apply qr_store; refine r_store ?_))
  refine rt1 ?_
  rfl
 ·skip
  refine pure_enter Tryd.func30 rfl (by decide) _ Tryd.ntmps30 (le_ok rfl) (fun w Pr hE => ?_)
  dsimp only [slotsOf, Nat.zero_add, Nat.reduceAdd]
  repeat' (first | (apply at_call; refine k_call (hfm) hE ?_; rintro _ rfl) | (apply at_op (.makeFunc (.func 59) _ _); refine al_y (y_clo (zs := [.box 2 0]) rfl) (lt_ok rfl) ?_) | (apply at_op (.makeFunc (.func 60) _ _); refine al_y (y_clo (zs := [.box 5 0]) rfl) (lt_ok rfl) ?_) | (apply at_op (.store _ _ _); refine al_step (st_store (v := .clo (.func 59) [.box 2 0]) (n := [.clo (.func 59) [.box 2 0]]) (l' := [.clo (.func 59) [.box 2 0]]) rfl rfl rfl nofun rfl (by intro z hz; rw [List.mem_singleton] at hz; subst hz; rfl) (.inl ⟨rfl, rfl⟩) rfl (le_ok rfl) rfl) rfl ?_) | (apply at_call; refine k_clocall1 [(1005, 5), (1002, 2)] (c1) hE ?_; rintro _ _ ⟨rfl, rfl⟩ <;> (intro _ _ h1 h2; simp only [renEqs, Nat.reduceBEq, renL_app, renL_ds, renL_und] at h1 h2; subst h1 h2)) | refine nx ?_ | (apply aq_block_y; decide) | (apply qr_move; refine r_move ?_) | (apply qr_assign; refine r_assign ?_) | (apply at_cond; first | refine c_t ?_ | refine c_f ?_ | (refine aw_cond rfl (fun hb => ?_) (fun hb => ?_) <;> ((try have hq := dX hb); (try (exfalso; omega))))) | (apply qr_lss; refine r_lss ?_) | (apply qr_eql; refine r_eql ?_) | (apply qr_func; refine r_func ?_) | (apply qr_load; refine r_load ?_) | (apply qr_faddr; refine r_faddr ?_) | (apply qr_alloc; refine r_alloc ?_) | (apply qr_boxed; refine r_boxed ?_) | (apply qr_store; refine r_store ?_))
  refine rt1 ?_
  rfl
end
end Go.Proofs.YtedoeogopmenpaaDoor
end
section
namespace Go.Proofs.YtedoeogopmenpaaDoor
end Go.Proofs.YtedoeogopmenpaaDoor
end
section
namespace Go.Proofs.YtedoeogopmenpaaDoor
open Go.RowKit
theorem all_take {α : Type} (f : α → Bool) {l : List α} {i : Nat} (h : i < l.length) : (l.take (i + 1)).all f = ((l.take i).all f && f l[i]) := by
 rw [List.take_succ_eq_append_getElem h, List.all_append]
 simp only [List.all_cons, List.all_nil, Bool.and_true]
end Go.Proofs.YtedoeogopmenpaaDoor
end
section
set_option linter.unusedSimpArgs false
set_option linter.unusedVariables false
namespace Go.Proofs.YtedoeogopmenpaaDoor
open Go.RowKit
theorem rightExp_any (e : Ex) (he : e.tame) : PureC 13 [.agg (exC e)] (· = .bool (e.right 12)) := by
 have hc := right_any 12 (by omega) e he
 refine pure_enter Tryd.func13 rfl (by decide) _ Tryd.ntmps13 (le_ok rfl) (fun w Pr hE => ?_)
 dsimp only [slotsOf, Nat.zero_add, Nat.reduceAdd]
 repeat' (first | (apply at_call; refine k_call (hc) hE ?_; rintro _ rfl) | refine nx ?_ | (apply qr_assign; refine r_assign ?_) | (apply qr_load; refine r_load ?_) | (apply qr_boxed; refine r_boxed ?_))
 refine rt1 ?_
 rfl
end Go.Proofs.YtedoeogopmenpaaDoor
end
section
set_option linter.unusedSimpArgs false
set_option linter.unusedVariables false
namespace Go.Proofs.YtedoeogopmenpaaDoor
open Go.RowKit
theorem show_op {d : Nat} (hd : d ≤ 12) (ih : ShowC d) (op : Int) (t : Tok) (g : Nat) (ho : opInfo op = some (t, g)) (x y : Ex) (ht : (two op x y).tame) (hx : x.right d = true) (hy : y.right d = true) (f fm : Nat) (hf : f ≤ fm) (hfm : PureC 58 [.agg (exC (two op x y))] (· = .int fm)) : PureC 30 [.agg (exC (two op x y)), .int f] (· = .str ((two op x y).text 0)) := by
 have hsz := opInfo_size ho
 have c0 : ObC 59 [.d (.int 0), .d (.int (leftV g)), .box 1002 0] (shO (two op x y)) [] (fun u o => u = .d (.str (x.text (leftV g))) ∧ o = shO (two op x y)) := show1_any ih (two op x y) ht 0 (leftV g) (show 0 < 2 by omega) hx (by unfold leftV; split <;> omega)
 have c1 : ObC 59 [.d (.int 1), .d (.int ((g : Int) + 1)), .box 1002 0] (shO (two op x y)) [] (fun u o => u = .d (.str (y.text (g + 1))) ∧ o = shO (two op x y)) := show1_any ih (two op x y) ht 1 (g + 1) (show 1 < 2 by omega) hy (by omega)
 have hsi := sindex (two op x y) (by show (opInfo op).isSome = true; rw [ho]; rfl)
 have zx := text_small hd hx ht.2.2.1 (leftV g)
 have zy := text_small hd hy ht.2.2.2.1 (g + 1)
 have hne : op ≠ 0 ∧ op ≠ 1 ∧ op ≠ 2 ∧ op ≠ 3 ∧ op ≠ 15 ∧ op ≠ 12 ∧ op ≠ 8 ∧ op ≠ 9 := by
  rcases opInfo_cases ho with ⟨rfl, _⟩ | ⟨rfl, _⟩ | ⟨rfl, _⟩ | ⟨rfl, _⟩ | ⟨rfl, _⟩ | ⟨rfl, _⟩ | ⟨rfl, _⟩ | ⟨rfl, _⟩ <;> decide
 obtain ⟨n0, n1, n2, n3, n15, n12, n8, n9⟩ := hne
 have p0 : decide (op = 0) = false := decide_eq_false n0
 have p1 : decide (op = 1) = false := decide_eq_false n1
 have p2 : decide (op = 2) = false := decide_eq_false n2
 have p3 : decide (op = 3) = false := decide_eq_false n3
 have p15 : decide (op = 15) = false := decide_eq_false n15
 have p12 : decide (op = 12) = false := decide_eq_false n12
 have p8 : decide (op = 8) = false := decide_eq_false n8
 have p9 : decide (op = 9) = false := decide_eq_false n9
 rw [text_op ho hx hy]
 have l1 : ByteArray.size ⟨#[32]⟩ = 1 := rfl
 have s1 := app_size (x.text (leftV g)) ⟨#[32]⟩
 have s2 := app_size (x.text (leftV g) ++ ⟨#[32]⟩) t.s
 have s3 := app_size (x.text (leftV g) ++ ⟨#[32]⟩ ++ t.s) ⟨#[32]⟩
 dsimp only [two, exC, Ex.op, Ex.num, Ex.unit, Ex.str, Ex.args] at hfm ⊢
 have q0 : decide ((fm : Int) < f) = false := decide_eq_false (by omega)
 refine pure_enter Tryd.func30 rfl (by decide) _ Tryd.ntmps30 (le_ok rfl) (fun w Pr hE => ?_)
 dsimp only [slotsOf, Nat.zero_add, Nat.reduceAdd]
 repeat' (first | (apply at_call; refine k_call (hfm) hE ?_; rintro _ rfl) | (apply at_op (.makeFunc (.func 59) _ _); refine al_y (y_clo (zs := [.box 2 0]) rfl) (lt_ok rfl) ?_) | (apply at_op (.makeFunc (.func 60) _ _); refine al_y (y_clo (zs := [.box 5 0]) rfl) (lt_ok rfl) ?_) | (apply at_op (.store _ _ _); refine al_step (st_store (v := .clo (.func 59) [.box 2 0]) (n := [.clo (.func 59) [.box 2 0]]) (l' := [.clo (.func 59) [.box 2 0]]) rfl rfl rfl nofun rfl (by intro z hz; rw [List.mem_singleton] at hz; subst hz; rfl) (.inl ⟨rfl, rfl⟩) rfl (le_ok rfl) rfl) rfl ?_) | refine nx ?_ | (apply aq_block_y; decide) | (apply qr_move; refine r_move ?_) | (apply qr_assign; refine r_assign ?_) | (apply at_cond; first | refine c_t ?_ | refine c_f ?_ | (refine aw_cond rfl (fun hb => ?_) (fun hb => ?_) <;> ((try have hq := dX hb); (try (exfalso; omega))))) | (apply qr_lss; refine r_lss ?_) | (apply qr_eql; refine r_eql ?_) | (apply qr_func; refine r_func ?_) | (apply qr_load; refine r_load ?_) | (apply qr_faddr; refine r_faddr ?_) | (apply qr_alloc; refine r_alloc ?_) | (apply qr_boxed; refine r_boxed ?_) | (apply qr_store; refine r_store ?_))
 clear hfm p0 p1 p2 p3 p15 p12 p8 p9 q0
 repeat' (first | (apply at_call; refine k_call (operators_any) hE ?_; rintro _ rfl) | (apply at_op (.makeFunc (.func 62) _ _); refine al_y (y_clo (zs := [.box 2 0]) rfl) (lt_ok rfl) ?_) | (apply at_call; refine k_ocall [(1002, 2)] (hsi) hE ?_; rintro _ _ ⟨⟨i, q, rfl, hqx, hqo⟩, rfl⟩; have hg0 : (opsL.map opC)[i]? = some (opC q) := by { rw [List.getElem?_map, hqx]; rfl } <;> (intro _ _ h1 h2; simp only [renEqs, Nat.reduceBEq, renL_app, renL_ds, renL_und] at h1 h2; subst h1 h2)) | (apply at_op (.indexAddr _ _ _); refine al_ixq hg0 ?_) | refine nx ?_ | (apply aq_block_y; decide) | (apply at_cond; first | refine c_t ?_ | refine c_f ?_ | (refine aw_cond rfl (fun hb => ?_) (fun hb => ?_) <;> ((try have hq := dX hb); (try (exfalso; omega))))) | (apply qr_func; refine r_func ?_) | (apply qr_ix; refine r_ix ?_) | (apply qr_load; refine r_load ?_) | (apply qr_alloc; refine r_alloc ?_) | (apply qr_store; refine r_store ?_))
 obtain ⟨t', ho', hts, hqn⟩ := op_hit hqx hqo
 have hoo : some (t', q.2.2.toNat) = some (t, g) := ho'.symm.trans ho
 injection hoo with hoo
 injection hoo with hoo1 hoo2
 subst hoo1
 obtain ⟨qs, qo, qg⟩ := q
 dsimp only at hts hqn hoo2 ⊢
 obtain rfl : qg = (g : Int) := by omega
 subst hts
 by_cases h4 : g = 4
 ·subst h4
  repeat' (first | refine nx ?_ | (apply aq_block_y; decide) | (apply qr_move; refine r_move ?_) | (apply qr_assign; refine r_assign ?_) | (apply at_cond; first | refine c_t ?_ | refine c_f ?_ | (refine aw_cond rfl (fun hb => ?_) (fun hb => ?_) <;> ((try have hq := dX hb); (try (exfalso; omega))))) | (apply qr_eql; refine r_eql ?_) | (apply qr_add; refine r_add ?_) | (apply qr_load; refine r_load ?_) | (apply qr_faddr; refine r_faddr ?_))
  refine aw_mixo ([(5, .box 106 [.clo (.func 59) [.box 2 0]]), (7, .box 102 [.d (.str t'.s), .d (.int qo), .d (.int ((4 : Nat) : Int))])]) [(0, true), (1, true), (4, true), (5, true), (8, true), (9, true), (10, true), (11, true), (2, false), (3, true), (6, true), (7, true), (12, false), (13, true)] [14] (by kernel_rfl) (by kernel_rfl) (by kernel_rfl) (by decide) (by (repeat (first | exact obs_nil | (apply obs_cons; focus (first | rfl | (simp [find]; done)))))) ?_
  simp only [planned, tailed, List.filterMap_cons, List.filterMap_nil, List.getElem?_cons_zero, List.getElem?_cons_succ, Option.map_some]
  repeat' (first | apply am_nil | refine m_skip ?_ | refine n_skip ?_ | (apply at_mcall; refine m_clocall2 [(1002, 2)] (c0) hE ?_; rintro _ _ ⟨rfl, rfl⟩; clear c0 <;> (intro _ _ h1 h2; simp only [renEqs, Nat.reduceBEq, renL_app, renL_ds, renL_und] at h1 h2; subst h1 h2; (try dsimp only [flatV, flat, D.plain, D.plainL]))) | (apply at_mcall; refine m_clocall2 [(1002, 2)] (c1) hE ?_; rintro _ _ ⟨rfl, rfl⟩ <;> (intro _ _ h1 h2; simp only [renEqs, Nat.reduceBEq, renL_app, renL_ds, renL_und] at h1 h2; subst h1 h2; (try dsimp only [flatV, flat, D.plain, D.plainL]))) | (apply qm_move; refine m_move ?_) | (apply qm_add; refine m_add ?_) | (apply qm_load; refine m_load ?_) | (apply qm_faddr; refine m_faddr ?_) | (refine am_split rfl rfl (fun hb => ?_) (fun hb => ?_) <;> ((try have hq := dX hb); (try (exfalso; omega)))))
  repeat' (first | refine nx ?_ | (apply aq_block_y; decide) | (apply qr_move; refine r_move ?_) | (apply qr_assign; refine r_assign ?_) | (apply at_cond; first | refine c_t ?_ | refine c_f ?_ | (refine aw_cond rfl (fun hb => ?_) (fun hb => ?_) <;> ((try have hq := dX hb); (try (exfalso; omega))))) | (apply qr_add; refine r_add ?_) | (apply qr_load; refine r_load ?_) | (apply qr_faddr; refine r_faddr ?_))
  refine rt1 ?_
  rfl
 ·have q4 : decide ((g : Int) = 4) = false := decide_eq_false (by omega)
  have hlv : leftV g = g := by unfold leftV; rw [if_neg h4]
  rw [hlv] at c0
  rw [hlv] at zx s1 s2 s3
  rw [hlv]
  repeat' (first | refine nx ?_ | (apply aq_block_y; decide) | (apply qr_move; refine r_move ?_) | (apply qr_assign; refine r_assign ?_) | (apply at_cond; first | refine c_t ?_ | refine c_f ?_ | (refine aw_cond rfl (fun hb => ?_) (fun hb => ?_) <;> ((try have hq := dX hb); (try (exfalso; omega))))) | (apply qr_eql; refine r_eql ?_) | (apply qr_load; refine r_load ?_) | (apply qr_faddr; refine r_faddr ?_))
  refine aw_mixo ([(5, .box 106 [.clo (.func 59) [.box 2 0]]), (7, .box 102 [.d (.str t'.s), .d (.int qo), .d (.int g)])]) [(0, true), (1, true), (4, true), (5, true), (8, true), (9, true), (10, true), (11, true), (2, false), (3, true), (6, true), (7, true), (12, false), (13, true)] [14] (by kernel_rfl) (by kernel_rfl) (by kernel_rfl) (by decide) (by (repeat (first | exact obs_nil | (apply obs_cons; focus (first | rfl | (simp [find]; done)))))) ?_
  simp only [planned, tailed, List.filterMap_cons, List.filterMap_nil, List.getElem?_cons_zero, List.getElem?_cons_succ, Option.map_some]
  repeat' (first | apply am_nil | refine m_skip ?_ | refine n_skip ?_ | (apply at_mcall; refine m_clocall2 [(1002, 2)] (c0) hE ?_; rintro _ _ ⟨rfl, rfl⟩; clear c0 <;> (intro _ _ h1 h2; simp only [renEqs, Nat.reduceBEq, renL_app, renL_ds, renL_und] at h1 h2; subst h1 h2; (try dsimp only [flatV, flat, D.plain, D.plainL]))) | (apply at_mcall; refine m_clocall2 [(1002, 2)] (c1) hE ?_; rintro _ _ ⟨rfl, rfl⟩ <;> (intro _ _ h1 h2; simp only [renEqs, Nat.reduceBEq, renL_app, renL_ds, renL_und] at h1 h2; subst h1 h2; (try dsimp only [flatV, flat, D.plain, D.plainL]))) | (apply qm_move; refine m_move ?_) | (apply qm_add; refine m_add ?_) | (apply qm_load; refine m_load ?_) | (apply qm_faddr; refine m_faddr ?_) | (refine am_split rfl rfl (fun hb => ?_) (fun hb => ?_) <;> ((try have hq := dX hb); (try (exfalso; omega)))))
  repeat' (first | refine nx ?_ | (apply aq_block_y; decide) | (apply qr_move; refine r_move ?_) | (apply qr_assign; refine r_assign ?_) | (apply at_cond; first | refine c_t ?_ | refine c_f ?_ | (refine aw_cond rfl (fun hb => ?_) (fun hb => ?_) <;> ((try have hq := dX hb); (try (exfalso; omega))))) | (apply qr_add; refine r_add ?_) | (apply qr_load; refine r_load ?_) | (apply qr_faddr; refine r_faddr ?_))
  refine rt1 ?_
  rfl
end Go.Proofs.YtedoeogopmenpaaDoor
end
section
set_option linter.unusedSimpArgs false
set_option linter.unusedVariables false
namespace Go.Proofs.YtedoeogopmenpaaDoor
open Go.RowKit
theorem show_in {d : Nat} (hd : d ≤ 12) (ih : ShowC d) (e : Ex) (f : Nat) (hr : e.right (d + 1) = true) (ht : e.tame) (hf : f ≤ formV e.op) : PureC 30 [.agg (exC e), .int f] (· = .str (e.text 0)) := by
 have hfm := form_any e
 rcases right_shape hr with ⟨n, u, rfl, hn⟩ | ⟨op, s, ho, rfl, hv⟩ | ⟨x, rfl, hx⟩ | ⟨x, y, z, rfl, hx, hy, hz⟩ | ⟨op, x, y, ho, rfl, hx, hy⟩ | ⟨op, x, y, t, g, ho, rfl, hx, hy⟩
 ·exact show_num n u hn f _ hf hfm
 ·exact show_leaf op ho s ht.1 f _ hf hfm
 ·exact show_not hd ih x ht hx f _ hf hfm
 ·exact show_if hd ih x y z ht hx hy hz f _ hf hfm
 ·exact show_call hd ih op ho x y ht hx hy f _ hf hfm
 ·exact show_op hd ih op t g ho x y ht hx hy f _ hf hfm
theorem show_any : ∀ d : Nat, d ≤ 12 → ShowC d
 | 0, _, e, f, hr, _, _ => by rw [right_zero] at hr; cases hr
 | d + 1, hd, e, f, hr, ht, hf7 => by
  have ih := show_any d (by omega)
  by_cases hf : f ≤ formV e.op
  ·rw [text_in hf]
   exact show_in (by omega) ih e f hr ht hf
  ·have hc : PureC 30 [.agg (exC e), .int 0] (· = .str (e.text 0)) := show_in (by omega) ih e 0 hr ht (Nat.zero_le _)
   have hfm := form_any e
   have hz := text_small hd hr ht 0
   rw [text_par hr (by omega)]
   have l1 : ByteArray.size ⟨#[40, 32]⟩ = 2 := rfl
   have l2 : ByteArray.size ⟨#[32, 41]⟩ = 2 := rfl
   have s1 := app_size ⟨#[40, 32]⟩ (e.text 0)
   generalize formV e.op = fm at hf hfm
   have q0 : decide ((fm : Int) < f) = true := decide_eq_true (by omega)
   refine pure_enter Tryd.func30 rfl (by decide) _ Tryd.ntmps30 (le_ok rfl) (fun w Pr hE => ?_)
   dsimp only [slotsOf, Nat.zero_add, Nat.reduceAdd]
   repeat' (first | (apply at_call; refine k_call (hfm) hE ?_; rintro _ rfl) | (apply at_call; refine k_call (hc) hE ?_; rintro _ rfl) | refine nx ?_ | (apply aq_block_y; decide) | (apply qr_move; refine r_move ?_) | (apply qr_assign; refine r_assign ?_) | (apply at_cond; first | refine c_t ?_ | refine c_f ?_ | (refine aw_cond rfl (fun hb => ?_) (fun hb => ?_) <;> ((try have hq := dX hb); (try (exfalso; omega))))) | (apply qr_lss; refine r_lss ?_) | (apply qr_add; refine r_add ?_) | (apply qr_load; refine r_load ?_) | (apply qr_boxed; refine r_boxed ?_))
   refine rt1 ?_
   rfl
def fitsD (s : ByteArray) : D := if 4000 < s.size then .tup [.str ⟨#[]⟩, .int 6] else .tup [.str s, .int 0]
def printED (e : Ex) : D := if e.right 12 = true then fitsD (e.text 0) else .tup [.str ⟨#[]⟩, .int 1]
theorem fits_any (s : ByteArray) : PureC 32 [.str s] (· = fitsD s) := by
 unfold fitsD
 by_cases h : 4000 < s.size
 ·rw [if_pos h]
  have q0 : decide ((4000 : Int) < s.size) = true := decide_eq_true (by omega)
  refine pure_enter Tryd.func32 rfl (by decide) _ Tryd.ntmps32 (le_ok rfl) (fun w Pr hE => ?_)
  dsimp only [slotsOf, Nat.zero_add, Nat.reduceAdd]
  repeat' (first | refine nx ?_ | (apply qr_move; refine r_move ?_) | (apply qr_assign; refine r_assign ?_) | (apply at_cond; first | refine c_t ?_ | refine c_f ?_ | (refine aw_cond rfl (fun hb => ?_) (fun hb => ?_) <;> ((try have hq := dX hb); (try (exfalso; omega))))) | (apply qr_gtr; refine r_gtr ?_) | (apply qr_len; refine r_len ?_))
  refine ret_two (by rfl) (by first | exact ToD.d _ | exact ToD.row _ _ _ _ _ rfl) (by first | exact ToD.d _ | exact ToD.row _ _ _ _ _ rfl) ?_
  rfl
 ·rw [if_neg h]
  have q0 : decide ((4000 : Int) < s.size) = false := decide_eq_false (by omega)
  refine pure_enter Tryd.func32 rfl (by decide) _ Tryd.ntmps32 (le_ok rfl) (fun w Pr hE => ?_)
  dsimp only [slotsOf, Nat.zero_add, Nat.reduceAdd]
  repeat' (first | refine nx ?_ | (apply qr_move; refine r_move ?_) | (apply qr_assign; refine r_assign ?_) | (apply at_cond; first | refine c_t ?_ | refine c_f ?_ | (refine aw_cond rfl (fun hb => ?_) (fun hb => ?_) <;> ((try have hq := dX hb); (try (exfalso; omega))))) | (apply qr_gtr; refine r_gtr ?_) | (apply qr_len; refine r_len ?_))
  refine ret_two (by rfl) (by first | exact ToD.d _ | exact ToD.row _ _ _ _ _ rfl) (by first | exact ToD.d _ | exact ToD.row _ _ _ _ _ rfl) ?_
  rfl
theorem fitsD_form (s : ByteArray) : ∃ t n, fitsD s = .tup [.str t, .int n] := by
 unfold fitsD
 split <;> exact ⟨_, _, rfl⟩
theorem printE_any (e : Ex) (ht : e.tame) : PureC 12 [.agg (exC e)] (· = printED e) := by
 have hr := rightExp_any e ht
 unfold printED
 cases hx : e.right 12
 ·rw [if_neg (by simp)]
  rw [hx] at hr
  refine pure_enter Tryd.func12 rfl (by decide) _ Tryd.ntmps12 (le_ok rfl) (fun w Pr hE => ?_)
  dsimp only [slotsOf, Nat.zero_add, Nat.reduceAdd]
  repeat' (first | (apply at_call; refine k_call (hr) hE ?_; rintro _ rfl) | refine nx ?_ | (apply qr_assign; refine r_assign ?_) | (apply at_cond; first | refine c_t ?_ | refine c_f ?_ | (refine aw_cond rfl (fun hb => ?_) (fun hb => ?_) <;> ((try have hq := dX hb); (try (exfalso; omega))))) | (apply qr_not; refine r_not ?_) | (apply qr_load; refine r_load ?_) | (apply qr_boxed; refine r_boxed ?_))
  refine ret_two (by rfl) (by first | exact ToD.d _ | exact ToD.row _ _ _ _ _ rfl) (by first | exact ToD.d _ | exact ToD.row _ _ _ _ _ rfl) ?_
  rfl
 ·rw [if_pos rfl]
  rw [hx] at hr
  have hs := show_any 12 (by omega) e 0 hx ht (by omega)
  have hf := fits_any (e.text 0)
  obtain ⟨t, n, hfe⟩ := fitsD_form (e.text 0)
  rw [hfe] at hf ⊢
  refine pure_enter Tryd.func12 rfl (by decide) _ Tryd.ntmps12 (le_ok rfl) (fun w Pr hE => ?_)
  dsimp only [slotsOf, Nat.zero_add, Nat.reduceAdd]
  repeat' (first | (apply at_call; refine k_call (hr) hE ?_; rintro _ rfl) | (apply at_call; refine k_call (hs) hE ?_; rintro _ rfl) | (apply at_call; refine k_call (hf) hE ?_; rintro _ rfl) | refine nx ?_ | (apply qr_assign; refine r_assign ?_) | (apply at_cond; first | refine c_t ?_ | refine c_f ?_ | (refine aw_cond rfl (fun hb => ?_) (fun hb => ?_) <;> ((try have hq := dX hb); (try (exfalso; omega))))) | (apply qr_not; refine r_not ?_) | (apply qr_extract; refine r_extract ?_) | (apply qr_load; refine r_load ?_) | (apply qr_boxed; refine r_boxed ?_))
  refine ret_two (by rfl) (by first | exact ToD.d _ | exact ToD.row _ _ _ _ _ rfl) (by first | exact ToD.d _ | exact ToD.row _ _ _ _ _ rfl) ?_
  rfl
def wordV (op : Int) : ByteArray := if op = 15 then w_if else if op = 12 then w_not else if op = 8 then w_min else if op = 9 then w_max else match opInfo op with
 | some (t, _) => t.s
 | none => ⟨#[]⟩
end Go.Proofs.YtedoeogopmenpaaDoor
end
section
namespace Go.Proofs.YtedoeogopmenpaaDoor
open Go.RowKit
section
variable {d : Nat}
end
end Go.Proofs.YtedoeogopmenpaaDoor
end
section
set_option linter.unusedSimpArgs false
set_option linter.unusedVariables false
namespace Go.Proofs.YtedoeogopmenpaaDoor
open Go.RowKit
mutual
def Ex.same : Ex → Ex → Bool
 | .mk o n u s a, .mk o' n' u' s' a' => decide (o = o') && (decide (n = n') && (decide (u = u') && (decide (s = s') && Ex.sameL a a')))
def Ex.sameL : List Ex → List Ex → Bool
 | [], [] => true
 | x :: r, y :: t => x.same y && Ex.sameL r t
 | [], _ :: _ => false
 | _ :: _, [] => false
end
mutual
theorem same_iff : ∀ a b : Ex, a.same b = true ↔ a = b
 | .mk o n u s a, .mk o' n' u' s' a' => by
  simp only [Ex.same, Bool.and_eq_true, decide_eq_true_eq, sameL_iff a a', Ex.mk.injEq]
theorem sameL_iff : ∀ a b : List Ex, Ex.sameL a b = true ↔ a = b
 | [], [] => by simp [Ex.sameL]
 | x :: r, y :: t => by simp only [Ex.sameL, Bool.and_eq_true, same_iff x y, sameL_iff r t, List.cons.injEq]
 | [], _ :: _ => by simp [Ex.sameL]
 | _ :: _, [] => by simp [Ex.sameL]
end
theorem same_eq (a b : Ex) : a.same b = (decide (a.op = b.op) && (decide (a.num = b.num) && (decide (a.unit = b.unit) && (decide (a.str = b.str) && Ex.sameL a.args b.args)))) := by
 cases a
 cases b
 rfl
theorem sameL_len {a b : List Ex} (h : a.length ≠ b.length) : Ex.sameL a b = false := by
 rw [Bool.eq_false_iff, Ne, sameL_iff]
 rintro rfl
 exact h rfl
theorem sameL_no {a b : List Ex} {i : Nat} (ha : i < a.length) (hb : i < b.length) (h : a[i].same b[i] = false) : Ex.sameL a b = false := by
 rw [Bool.eq_false_iff, Ne, sameL_iff]
 rintro rfl
 have := (same_iff a[i] a[i]).2 rfl
 rw [h] at this
 cases this
theorem sameL_yes {a b : List Ex} (hl : a.length = b.length) (h : ∀ (i : Nat) (ha : i < a.length) (hb : i < b.length), a[i].same b[i] = true) : Ex.sameL a b = true := by
 rw [sameL_iff]
 apply List.ext_getElem hl
 intro i h1 h2
 exact (same_iff _ _).1 (h i h1 h2)
abbrev SameC (n : Nat) (f : FuncId) : Prop := ∀ a b : Ex, a.levels ≤ n → a.tame → b.tame → PureC f [.agg (exC a), .agg (exC b)] (· = .bool (a.same b))
theorem equal_exps {n : Nat} (ih : SameC n 17) (a b : List Ex) (ha : ∀ x ∈ a, Ex.levels x ≤ n) (ta : ∀ x ∈ a, Ex.tame x) (tb : ∀ x ∈ b, Ex.tame x) (la : a.length ≤ 100000) (lb : b.length ≤ 100000) : PureC 44 [.list 5 (Ex.rows a), .list 5 (Ex.rows b), .val (.func (.func 17) #[] #[])] (· = .bool (Ex.sameL a b)) := by
 have hla := rows_len a
 have hlb := rows_len b
 by_cases hl : a.length = b.length
 ·have q0 : (!decide (((Ex.rows a).length : Int) = (Ex.rows b).length)) = false := by simp [hla, hlb, hl]
  refine pure_enter Tryd.func44 rfl (by decide) _ Tryd.ntmps44 (le_ok rfl) (fun w Pr hE => ?_)
  dsimp only [slotsOf, Nat.zero_add, Nat.reduceAdd]
  repeat' (first | refine nx ?_ | (apply aq_block_y; decide) | (apply qr_move; refine r_move ?_) | (apply qr_assign; refine r_assign ?_) | (apply at_cond; first | refine c_t ?_ | refine c_f ?_ | (refine aw_cond rfl (fun hb => ?_) (fun hb => ?_) <;> ((try have hq := dX hb); (try (exfalso; omega))))) | (apply qr_neq; refine r_neq ?_) | (apply qr_len; refine r_len ?_))
  refine aw_lp (fun N sl ob => ∃ i : Nat, N = a.length - i ∧ i ≤ a.length ∧ (∀ (j : Nat) (ha : j < a.length) (hb : j < b.length), j < i → a[j].same b[j] = true) ∧ sl = [(17, .d (.int i)), (16, .d (.int (Ex.rows a).length)), (15, .d (.list 5 (Ex.rows a))), (2, .d (.val (.func (.func 17) #[] #[]))), (1, .d (.list 5 (Ex.rows b)))] ∧ ob = []) (⟨0, rfl, Nat.zero_le _, fun j _ _ h => by omega, rfl, rfl⟩) ?_
  rintro N sl ob ⟨i, rfl, hi, hs, rfl, rfl⟩
  by_cases hlt : i < a.length
  ·have hlt2 : i < b.length := by omega
   have hg1 := rows_get hlt
   have hg2 := rows_get hlt2
   have hc := ih a[i] b[i] (ha _ (List.getElem_mem hlt)) (ta _ (List.getElem_mem hlt)) (tb _ (List.getElem_mem hlt2))
   have q : decide ((i : Int) < (Ex.rows a).length) = true := decide_eq_true (by omega)
   cases hT : a[i].same b[i]
   ·rw [sameL_no hlt hlt2 hT]
    rw [hT] at hc
    generalize a[i] = x at hg1 hc
    generalize b[i] = y at hg2 hc
    repeat' (first | (apply at_op (.indexAddr _ _ _); refine al_ixq hg1 ?_; clear hg1) | (apply at_op (.indexAddr _ _ _); refine al_ixq hg2 ?_) | (apply at_call; refine k_call (hc) hE ?_; rintro _ rfl) | refine nx ?_ | (apply aq_block_y; decide) | (apply qr_move; refine r_move ?_) | (apply qr_assign; refine r_assign ?_) | (apply at_cond; first | refine c_t ?_ | refine c_f ?_ | (refine aw_cond rfl (fun hb => ?_) (fun hb => ?_) <;> ((try have hq := dX hb); (try (exfalso; omega))))) | (apply qr_lss; refine r_lss ?_) | (apply qr_not; refine r_not ?_) | (apply qr_ix; refine r_ix ?_) | (apply qr_load; refine r_load ?_) | (apply qr_alloc; refine r_alloc ?_) | (apply qr_store; refine r_store ?_))
    refine rt1 ?_
    rfl
   ·have hnext : ∀ (j : Nat) (ha : j < a.length) (hb : j < b.length), j < i + 1 → a[j].same b[j] = true := fun j h1 h2 h3 => by
     rcases Nat.lt_succ_iff_lt_or_eq.1 h3 with h | rfl
     ·exact hs j h1 h2 h
     ·exact hT
    rw [hT] at hc
    generalize a[i] = x at hg1 hc
    generalize b[i] = y at hg2 hc
    repeat' (first | (apply at_op (.indexAddr _ _ _); refine al_ixq hg1 ?_; clear hg1) | (apply at_op (.indexAddr _ _ _); refine al_ixq hg2 ?_) | (apply at_call; refine k_call (hc) hE ?_; rintro _ rfl) | refine nx ?_ | (apply aq_block_y; decide) | (apply qr_move; refine r_move ?_) | (apply qr_assign; refine r_assign ?_) | (apply at_cond; first | refine c_t ?_ | refine c_f ?_ | (refine aw_cond rfl (fun hb => ?_) (fun hb => ?_) <;> ((try have hq := dX hb); (try (exfalso; omega))))) | (apply qr_lss; refine r_lss ?_) | (apply qr_add; refine r_add ?_) | (apply qr_not; refine r_not ?_) | (apply qr_ix; refine r_ix ?_) | (apply qr_load; refine r_load ?_) | (apply qr_alloc; refine r_alloc ?_) | (apply qr_store; refine r_store ?_))
    refine aq_rd (⟨i + 1, rfl, by omega, hnext, rfl, rfl⟩) (by omega)
  ·rw [sameL_yes hl (fun j h1 h2 => hs j h1 h2 (by omega))]
   have q : decide ((i : Int) < (Ex.rows a).length) = false := decide_eq_false (by omega)
   repeat' (first | refine nx ?_ | (apply aq_block_y; decide) | (apply qr_assign; refine r_assign ?_) | (apply at_cond; first | refine c_t ?_ | refine c_f ?_ | (refine aw_cond rfl (fun hb => ?_) (fun hb => ?_) <;> ((try have hq := dX hb); (try (exfalso; omega))))) | (apply qr_lss; refine r_lss ?_))
   refine rt1 ?_
   rfl
 ·rw [sameL_len hl]
  have q0 : (!decide (((Ex.rows a).length : Int) = (Ex.rows b).length)) = true := by
   have : ¬ (a.length : Int) = b.length := by omega
   simp [hla, hlb, this]
  refine pure_enter Tryd.func44 rfl (by decide) _ Tryd.ntmps44 (le_ok rfl) (fun w Pr hE => ?_)
  dsimp only [slotsOf, Nat.zero_add, Nat.reduceAdd]
  repeat' (first | refine nx ?_ | (apply aq_block_y; decide) | (apply qr_move; refine r_move ?_) | (apply qr_assign; refine r_assign ?_) | (apply at_cond; first | refine c_t ?_ | refine c_f ?_ | (refine aw_cond rfl (fun hb => ?_) (fun hb => ?_) <;> ((try have hq := dX hb); (try (exfalso; omega))))) | (apply qr_neq; refine r_neq ?_) | (apply qr_len; refine r_len ?_))
  refine rt1 ?_
  rfl
end Go.Proofs.YtedoeogopmenpaaDoor
end
