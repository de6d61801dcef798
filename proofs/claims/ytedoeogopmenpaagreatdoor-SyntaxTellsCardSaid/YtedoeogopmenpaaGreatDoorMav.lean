/-
  Conditions: none.
-/
import Derived.Test.YtedoeogopmenpaaGreatDoorMau
set_option maxHeartbeats 16000000
set_option maxRecDepth 20000
section
set_option linter.unusedSimpArgs false
set_option linter.unusedVariables false
namespace Go.Proofs.YtedoeogopmenpaaGreatDoor
open Go.RowKit
section
variable {d : Nat}
theorem show_num (n u : Int) (hn : numRight n u ⟨#[]⟩ = true) (f fm : Nat) (hf : f ≤ fm) (hfm : PureC 107 [.agg (exC (.mk 0 n u ⟨#[]⟩ []))] (· = .int fm)) : PureC 55 [.agg (exC (.mk 0 n u ⟨#[]⟩ [])), .int f] (· = .str ((Ex.mk 0 n u ⟨#[]⟩ []).text 0)) := by
 have hr := numRight_rng hn
 have hnu := numtext_any n u ⟨#[]⟩ [] hr.1 hr.2.1
 dsimp only [exC, Ex.op, Ex.num, Ex.unit, Ex.str, Ex.args] at hfm hnu ⊢
 have q0 : decide ((fm : Int) < f) = false := decide_eq_false (by omega)
 refine pure_enter Tryz.func55 rfl (by decide) _ Tryz.ntmps55 (le_ok rfl) (fun w Pr hE => ?_)
 dsimp only [slotsOf, Nat.zero_add, Nat.reduceAdd]
 repeat' (first | (apply at_call; refine k_call (hfm) hE ?_; rintro _ rfl) | (apply at_op (.makeFunc (.func 108) _ _); refine al_y (y_clo (zs := [.box 2 0]) rfl) (lt_ok rfl) ?_) | (apply at_op (.makeFunc (.func 109) _ _); refine al_y (y_clo (zs := [.box 5 0]) rfl) (lt_ok rfl) ?_) | (apply at_op (.store _ _ _); refine al_step (st_store (v := .clo (.func 108) [.box 2 0]) (n := [.clo (.func 108) [.box 2 0]]) (l' := [.clo (.func 108) [.box 2 0]]) rfl rfl rfl nofun rfl (by intro z hz; rw [List.mem_singleton] at hz; subst hz; rfl) (.inl ⟨rfl, rfl⟩) rfl (le_ok rfl) rfl) rfl ?_) | (apply at_call; refine k_call (hnu) hE ?_; rintro _ rfl) | refine nx ?_ | (apply aq_block_y; decide) | (apply qr_move; refine r_move ?_) | (apply qr_assign; refine r_assign ?_) | (apply at_cond; first | refine c_t ?_ | refine c_f ?_ | (refine aw_cond rfl (fun hb => ?_) (fun hb => ?_) <;> ((try have hq := dX hb); (try (exfalso; omega))))) | (apply qr_lss; refine r_lss ?_) | (apply qr_eql; refine r_eql ?_) | (apply qr_func; refine r_func ?_) | (apply qr_load; refine r_load ?_) | (apply qr_faddr; refine r_faddr ?_) | (apply qr_alloc; refine r_alloc ?_) | (apply qr_boxed; refine r_boxed ?_) | (apply qr_store; refine r_store ?_))
 refine rt1 ?_
 rfl
theorem show_leaf (op : Int) (ho : op = 1 ∨ op = 2 ∨ op = 3) (s : ByteArray) (hs : s.size ≤ 100000) (f fm : Nat) (hf : f ≤ fm) (hfm : PureC 107 [.agg (exC (.mk op 0 0 s []))] (· = .int fm)) : PureC 55 [.agg (exC (.mk op 0 0 s [])), .int f] (· = .str ((Ex.mk op 0 0 s []).text 0)) := by
 rw [text_leaf ho]
 dsimp only [exC, Ex.op, Ex.num, Ex.unit, Ex.str, Ex.args] at hfm ⊢
 have q0 : decide ((fm : Int) < f) = false := decide_eq_false (by omega)
 have l1 : ByteArray.size ⟨#[116, 114, 105, 112, 32]⟩ = 5 := rfl
 have l2 : ByteArray.size ⟨#[109, 101, 109, 98, 101, 114, 32]⟩ = 7 := rfl
 rcases ho with rfl | rfl | rfl
 ·skip
  refine pure_enter Tryz.func55 rfl (by decide) _ Tryz.ntmps55 (le_ok rfl) (fun w Pr hE => ?_)
  dsimp only [slotsOf, Nat.zero_add, Nat.reduceAdd]
  repeat' (first | (apply at_call; refine k_call (hfm) hE ?_; rintro _ rfl) | (apply at_op (.makeFunc (.func 108) _ _); refine al_y (y_clo (zs := [.box 2 0]) rfl) (lt_ok rfl) ?_) | (apply at_op (.makeFunc (.func 109) _ _); refine al_y (y_clo (zs := [.box 5 0]) rfl) (lt_ok rfl) ?_) | (apply at_op (.store _ _ _); refine al_step (st_store (v := .clo (.func 108) [.box 2 0]) (n := [.clo (.func 108) [.box 2 0]]) (l' := [.clo (.func 108) [.box 2 0]]) rfl rfl rfl nofun rfl (by intro z hz; rw [List.mem_singleton] at hz; subst hz; rfl) (.inl ⟨rfl, rfl⟩) rfl (le_ok rfl) rfl) rfl ?_) | refine nx ?_ | (apply aq_block_y; decide) | (apply qr_move; refine r_move ?_) | (apply qr_assign; refine r_assign ?_) | (apply at_cond; first | refine c_t ?_ | refine c_f ?_ | (refine aw_cond rfl (fun hb => ?_) (fun hb => ?_) <;> ((try have hq := dX hb); (try (exfalso; omega))))) | (apply qr_lss; refine r_lss ?_) | (apply qr_eql; refine r_eql ?_) | (apply qr_func; refine r_func ?_) | (apply qr_load; refine r_load ?_) | (apply qr_faddr; refine r_faddr ?_) | (apply qr_alloc; refine r_alloc ?_) | (apply qr_boxed; refine r_boxed ?_) | (apply qr_store; refine r_store ?_))
  refine rt1 ?_
  rfl
 ·skip
  refine pure_enter Tryz.func55 rfl (by decide) _ Tryz.ntmps55 (le_ok rfl) (fun w Pr hE => ?_)
  dsimp only [slotsOf, Nat.zero_add, Nat.reduceAdd]
  repeat' (first | (apply at_call; refine k_call (hfm) hE ?_; rintro _ rfl) | (apply at_op (.makeFunc (.func 108) _ _); refine al_y (y_clo (zs := [.box 2 0]) rfl) (lt_ok rfl) ?_) | (apply at_op (.makeFunc (.func 109) _ _); refine al_y (y_clo (zs := [.box 5 0]) rfl) (lt_ok rfl) ?_) | (apply at_op (.store _ _ _); refine al_step (st_store (v := .clo (.func 108) [.box 2 0]) (n := [.clo (.func 108) [.box 2 0]]) (l' := [.clo (.func 108) [.box 2 0]]) rfl rfl rfl nofun rfl (by intro z hz; rw [List.mem_singleton] at hz; subst hz; rfl) (.inl ⟨rfl, rfl⟩) rfl (le_ok rfl) rfl) rfl ?_) | refine nx ?_ | (apply aq_block_y; decide) | (apply qr_move; refine r_move ?_) | (apply qr_assign; refine r_assign ?_) | (apply at_cond; first | refine c_t ?_ | refine c_f ?_ | (refine aw_cond rfl (fun hb => ?_) (fun hb => ?_) <;> ((try have hq := dX hb); (try (exfalso; omega))))) | (apply qr_lss; refine r_lss ?_) | (apply qr_eql; refine r_eql ?_) | (apply qr_add; refine r_add ?_) | (apply qr_func; refine r_func ?_) | (apply qr_load; refine r_load ?_) | (apply qr_faddr; refine r_faddr ?_) | (apply qr_alloc; refine r_alloc ?_) | (apply qr_boxed; refine r_boxed ?_) | (apply qr_store; refine r_store ?_))
  refine rt1 ?_
  rfl
 ·skip
  refine pure_enter Tryz.func55 rfl (by decide) _ Tryz.ntmps55 (le_ok rfl) (fun w Pr hE => ?_)
  dsimp only [slotsOf, Nat.zero_add, Nat.reduceAdd]
  repeat' (first | (apply at_call; refine k_call (hfm) hE ?_; rintro _ rfl) | (apply at_op (.makeFunc (.func 108) _ _); refine al_y (y_clo (zs := [.box 2 0]) rfl) (lt_ok rfl) ?_) | (apply at_op (.makeFunc (.func 109) _ _); refine al_y (y_clo (zs := [.box 5 0]) rfl) (lt_ok rfl) ?_) | (apply at_op (.store _ _ _); refine al_step (st_store (v := .clo (.func 108) [.box 2 0]) (n := [.clo (.func 108) [.box 2 0]]) (l' := [.clo (.func 108) [.box 2 0]]) rfl rfl rfl nofun rfl (by intro z hz; rw [List.mem_singleton] at hz; subst hz; rfl) (.inl ⟨rfl, rfl⟩) rfl (le_ok rfl) rfl) rfl ?_) | refine nx ?_ | (apply aq_block_y; decide) | (apply qr_move; refine r_move ?_) | (apply qr_assign; refine r_assign ?_) | (apply at_cond; first | refine c_t ?_ | refine c_f ?_ | (refine aw_cond rfl (fun hb => ?_) (fun hb => ?_) <;> ((try have hq := dX hb); (try (exfalso; omega))))) | (apply qr_lss; refine r_lss ?_) | (apply qr_eql; refine r_eql ?_) | (apply qr_add; refine r_add ?_) | (apply qr_func; refine r_func ?_) | (apply qr_load; refine r_load ?_) | (apply qr_faddr; refine r_faddr ?_) | (apply qr_alloc; refine r_alloc ?_) | (apply qr_boxed; refine r_boxed ?_) | (apply qr_store; refine r_store ?_))
  refine rt1 ?_
  rfl
theorem show_not (hd : d ≤ 12) (ih : ShowC d) (x : Ex) (ht : (Ex.mk 12 0 0 ⟨#[]⟩ [x]).tame) (hx : x.right d = true) (f fm : Nat) (hf : f ≤ fm) (hfm : PureC 107 [.agg (exC (.mk 12 0 0 ⟨#[]⟩ [x]))] (· = .int fm)) : PureC 55 [.agg (exC (.mk 12 0 0 ⟨#[]⟩ [x])), .int f] (· = .str ((Ex.mk 12 0 0 ⟨#[]⟩ [x]).text 0)) := by
 have c0 : ObC 108 [.d (.int 0), .d (.int 3), .box 1002 0] (shO (.mk 12 0 0 ⟨#[]⟩ [x])) [] (fun y o => y = .d (.str (x.text 3)) ∧ o = shO (.mk 12 0 0 ⟨#[]⟩ [x])) := show1_any ih (.mk 12 0 0 ⟨#[]⟩ [x]) ht 0 3 (Nat.zero_lt_one) hx (by omega)
 have tx := tame_get ht (i := 0) Nat.zero_lt_one
 have zx := text_small hd hx tx 3
 rw [text_not hx]
 dsimp only [exC, Ex.op, Ex.num, Ex.unit, Ex.str, Ex.args] at hfm ⊢
 have q0 : decide ((fm : Int) < f) = false := decide_eq_false (by omega)
 have l1 : ByteArray.size ⟨#[110, 111, 116, 32]⟩ = 4 := rfl
 refine pure_enter Tryz.func55 rfl (by decide) _ Tryz.ntmps55 (le_ok rfl) (fun w Pr hE => ?_)
 dsimp only [slotsOf, Nat.zero_add, Nat.reduceAdd]
 repeat' (first | (apply at_call; refine k_call (hfm) hE ?_; rintro _ rfl) | (apply at_op (.makeFunc (.func 108) _ _); refine al_y (y_clo (zs := [.box 2 0]) rfl) (lt_ok rfl) ?_) | (apply at_op (.makeFunc (.func 109) _ _); refine al_y (y_clo (zs := [.box 5 0]) rfl) (lt_ok rfl) ?_) | (apply at_op (.store _ _ _); refine al_step (st_store (v := .clo (.func 108) [.box 2 0]) (n := [.clo (.func 108) [.box 2 0]]) (l' := [.clo (.func 108) [.box 2 0]]) rfl rfl rfl nofun rfl (by intro z hz; rw [List.mem_singleton] at hz; subst hz; rfl) (.inl ⟨rfl, rfl⟩) rfl (le_ok rfl) rfl) rfl ?_) | (apply at_call; refine k_clocall2 [(1002, 2)] (c0) hE ?_; rintro _ _ ⟨rfl, rfl⟩ <;> (intro _ _ h1 h2; simp only [renEqs, Nat.reduceBEq, renL_app, renL_ds, renL_und] at h1 h2; subst h1 h2)) | refine nx ?_ | (apply aq_block_y; decide) | (apply qr_move; refine r_move ?_) | (apply qr_assign; refine r_assign ?_) | (apply at_cond; first | refine c_t ?_ | refine c_f ?_ | (refine aw_cond rfl (fun hb => ?_) (fun hb => ?_) <;> ((try have hq := dX hb); (try (exfalso; omega))))) | (apply qr_lss; refine r_lss ?_) | (apply qr_eql; refine r_eql ?_) | (apply qr_add; refine r_add ?_) | (apply qr_func; refine r_func ?_) | (apply qr_load; refine r_load ?_) | (apply qr_faddr; refine r_faddr ?_) | (apply qr_alloc; refine r_alloc ?_) | (apply qr_boxed; refine r_boxed ?_) | (apply qr_store; refine r_store ?_))
 refine rt1 ?_
 rfl
theorem show_if (hd : d ≤ 12) (ih : ShowC d) (x y z : Ex) (ht : (Ex.mk 15 0 0 ⟨#[]⟩ [x, y, z]).tame) (hx : x.right d = true) (hy : y.right d = true) (hz : z.right d = true) (f fm : Nat) (hf : f ≤ fm) (hfm : PureC 107 [.agg (exC (.mk 15 0 0 ⟨#[]⟩ [x, y, z]))] (· = .int fm)) : PureC 55 [.agg (exC (.mk 15 0 0 ⟨#[]⟩ [x, y, z])), .int f] (· = .str ((Ex.mk 15 0 0 ⟨#[]⟩ [x, y, z]).text 0)) := by
 have c0 : ObC 108 [.d (.int 0), .d (.int 0), .box 1002 0] (shO (.mk 15 0 0 ⟨#[]⟩ [x, y, z])) [] (fun u o => u = .d (.str (x.text 0)) ∧ o = shO (.mk 15 0 0 ⟨#[]⟩ [x, y, z])) := show1_any ih (.mk 15 0 0 ⟨#[]⟩ [x, y, z]) ht 0 0 (show 0 < 3 by omega) hx (by omega)
 have c1 : ObC 108 [.d (.int 1), .d (.int 0), .box 1002 0] (shO (.mk 15 0 0 ⟨#[]⟩ [x, y, z])) [] (fun u o => u = .d (.str (y.text 0)) ∧ o = shO (.mk 15 0 0 ⟨#[]⟩ [x, y, z])) := show1_any ih (.mk 15 0 0 ⟨#[]⟩ [x, y, z]) ht 1 0 (show 1 < 3 by omega) hy (by omega)
 have c2 : ObC 108 [.d (.int 2), .d (.int 0), .box 1002 0] (shO (.mk 15 0 0 ⟨#[]⟩ [x, y, z])) [] (fun u o => u = .d (.str (z.text 0)) ∧ o = shO (.mk 15 0 0 ⟨#[]⟩ [x, y, z])) := show1_any ih (.mk 15 0 0 ⟨#[]⟩ [x, y, z]) ht 2 0 (show 2 < 3 by omega) hz (by omega)
 have zx := text_small hd hx ht.2.2.1 0
 have zy := text_small hd hy ht.2.2.2.1 0
 have zz := text_small hd hz ht.2.2.2.2.1 0
 rw [text_if hx hy hz]
 have l1 : ByteArray.size ⟨#[105, 102, 32]⟩ = 3 := rfl
 have l2 : ByteArray.size ⟨#[32, 116, 104, 101, 110, 32]⟩ = 6 := rfl
 have l3 : ByteArray.size ⟨#[32, 101, 108, 115, 101, 32]⟩ = 6 := rfl
 have s1 := app_size ⟨#[105, 102, 32]⟩ (x.text 0)
 have s2 := app_size (⟨#[105, 102, 32]⟩ ++ x.text 0) ⟨#[32, 116, 104, 101, 110, 32]⟩
 have s3 := app_size (⟨#[105, 102, 32]⟩ ++ x.text 0 ++ ⟨#[32, 116, 104, 101, 110, 32]⟩) (y.text 0)
 have s4 := app_size (⟨#[105, 102, 32]⟩ ++ x.text 0 ++ ⟨#[32, 116, 104, 101, 110, 32]⟩ ++ y.text 0) ⟨#[32, 101, 108, 115, 101, 32]⟩
 dsimp only [exC, Ex.op, Ex.num, Ex.unit, Ex.str, Ex.args] at hfm ⊢
 have q0 : decide ((fm : Int) < f) = false := decide_eq_false (by omega)
 refine pure_enter Tryz.func55 rfl (by decide) _ Tryz.ntmps55 (le_ok rfl) (fun w Pr hE => ?_)
 dsimp only [slotsOf, Nat.zero_add, Nat.reduceAdd]
 repeat' (first | (apply at_call; refine k_call (hfm) hE ?_; rintro _ rfl) | (apply at_op (.makeFunc (.func 108) _ _); refine al_y (y_clo (zs := [.box 2 0]) rfl) (lt_ok rfl) ?_) | (apply at_op (.makeFunc (.func 109) _ _); refine al_y (y_clo (zs := [.box 5 0]) rfl) (lt_ok rfl) ?_) | (apply at_op (.store _ _ _); refine al_step (st_store (v := .clo (.func 108) [.box 2 0]) (n := [.clo (.func 108) [.box 2 0]]) (l' := [.clo (.func 108) [.box 2 0]]) rfl rfl rfl nofun rfl (by intro z hz; rw [List.mem_singleton] at hz; subst hz; rfl) (.inl ⟨rfl, rfl⟩) rfl (le_ok rfl) rfl) rfl ?_) | refine nx ?_ | (apply aq_block_y; decide) | (apply qr_move; refine r_move ?_) | (apply qr_assign; refine r_assign ?_) | (apply at_cond; first | refine c_t ?_ | refine c_f ?_ | (refine aw_cond rfl (fun hb => ?_) (fun hb => ?_) <;> ((try have hq := dX hb); (try (exfalso; omega))))) | (apply qr_lss; refine r_lss ?_) | (apply qr_eql; refine r_eql ?_) | (apply qr_func; refine r_func ?_) | (apply qr_load; refine r_load ?_) | (apply qr_faddr; refine r_faddr ?_) | (apply qr_alloc; refine r_alloc ?_) | (apply qr_boxed; refine r_boxed ?_) | (apply qr_store; refine r_store ?_))
 refine aw_mixo ([(5, .box 125 [.clo (.func 108) [.box 2 0]])]) [(0, true), (4, true), (8, true), (1, false), (2, true), (3, true), (5, false), (6, true), (7, true), (9, false), (10, true)] [11] (by kernel_rfl) (by kernel_rfl) (by kernel_rfl) (by decide) (by (repeat (first | exact obs_nil | (apply obs_cons; focus (first | rfl | (simp [find]; done)))))) ?_
 simp only [planned, tailed, List.filterMap_cons, List.filterMap_nil, List.getElem?_cons_zero, List.getElem?_cons_succ, Option.map_some]
 repeat' (first | apply am_nil | refine m_skip ?_ | refine n_skip ?_ | (apply at_mcall; refine m_clocall2 [(1002, 2)] (c0) hE ?_; rintro _ _ ⟨rfl, rfl⟩; clear c0 <;> (intro _ _ h1 h2; simp only [renEqs, Nat.reduceBEq, renL_app, renL_ds, renL_und] at h1 h2; subst h1 h2; (try dsimp only [flatV, flat, D.plain, D.plainL]))) | (apply at_mcall; refine m_clocall2 [(1002, 2)] (c1) hE ?_; rintro _ _ ⟨rfl, rfl⟩; clear c1 <;> (intro _ _ h1 h2; simp only [renEqs, Nat.reduceBEq, renL_app, renL_ds, renL_und] at h1 h2; subst h1 h2; (try dsimp only [flatV, flat, D.plain, D.plainL]))) | (apply at_mcall; refine m_clocall2 [(1002, 2)] (c2) hE ?_; rintro _ _ ⟨rfl, rfl⟩ <;> (intro _ _ h1 h2; simp only [renEqs, Nat.reduceBEq, renL_app, renL_ds, renL_und] at h1 h2; subst h1 h2; (try dsimp only [flatV, flat, D.plain, D.plainL]))) | (apply qm_add; refine m_add ?_) | (apply qm_load; refine m_load ?_) | (refine am_split rfl rfl (fun hb => ?_) (fun hb => ?_) <;> ((try have hq := dX hb); (try (exfalso; omega)))))
 repeat' (first | refine nx ?_ | (apply aq_block_y; decide) | (apply qr_assign; refine r_assign ?_) | (apply at_cond; first | refine c_t ?_ | refine c_f ?_ | (refine aw_cond rfl (fun hb => ?_) (fun hb => ?_) <;> ((try have hq := dX hb); (try (exfalso; omega))))) | (apply qr_add; refine r_add ?_) | (apply qr_load; refine r_load ?_))
 refine rt1 ?_
 rfl
theorem show_call (hd : d ≤ 12) (ih : ShowC d) (op : Int) (ho : op = 8 ∨ op = 9) (x y : Ex) (ht : (two op x y).tame) (hx : x.right d = true) (hy : y.right d = true) (f fm : Nat) (hf : f ≤ fm) (hfm : PureC 107 [.agg (exC (two op x y))] (· = .int fm)) : PureC 55 [.agg (exC (two op x y)), .int f] (· = .str ((two op x y).text 0)) := by
 have c0 := show2_any hd ih (two op x y) ht w_min (by decide) x y rfl hx hy
 have c1 := show2_any hd ih (two op x y) ht w_max (by decide) x y rfl hx hy
 rw [text_call ho hx hy]
 dsimp only [two, exC, Ex.op, Ex.num, Ex.unit, Ex.str, Ex.args] at hfm ⊢
 have q0 : decide ((fm : Int) < f) = false := decide_eq_false (by omega)
 rcases ho with rfl | rfl
 ·skip
  refine pure_enter Tryz.func55 rfl (by decide) _ Tryz.ntmps55 (le_ok rfl) (fun w Pr hE => ?_)
  dsimp only [slotsOf, Nat.zero_add, Nat.reduceAdd]
  repeat' (first | (apply at_call; refine k_call (hfm) hE ?_; rintro _ rfl) | (apply at_op (.makeFunc (.func 108) _ _); refine al_y (y_clo (zs := [.box 2 0]) rfl) (lt_ok rfl) ?_) | (apply at_op (.makeFunc (.func 109) _ _); refine al_y (y_clo (zs := [.box 5 0]) rfl) (lt_ok rfl) ?_) | (apply at_op (.store _ _ _); refine al_step (st_store (v := .clo (.func 108) [.box 2 0]) (n := [.clo (.func 108) [.box 2 0]]) (l' := [.clo (.func 108) [.box 2 0]]) rfl rfl rfl nofun rfl (by intro z hz; rw [List.mem_singleton] at hz; subst hz; rfl) (.inl ⟨rfl, rfl⟩) rfl (le_ok rfl) rfl) rfl ?_) | (apply at_call; refine k_clocall1 [(1005, 5), (1002, 2)] (c0) hE ?_; rintro _ _ ⟨rfl, rfl⟩ <;> (intro _ _ h1 h2; simp only [renEqs, Nat.reduceBEq, renL_app, renL_ds, renL_und] at h1 h2; subst h1 h2)) | refine nx ?_ | (apply aq_block_y; decide) | (apply qr_move; refine r_move ?_) | (apply qr_assign; refine r_assign ?_) | (apply at_cond; first | refine c_t ?_ | refine c_f ?_ | (refine aw_cond rfl (fun hb => ?_) (fun hb => ?_) <;> ((try have hq := dX hb); (try (exfalso; omega))))) | (apply qr_lss; refine r_lss ?_) | (apply qr_eql; refine r_eql ?_) | (apply qr_func; refine r_func ?_) | (apply qr_load; refine r_load ?_) | (apply qr_faddr; refine r_faddr ?_) | (apply qr_alloc; refine r_alloc ?_) | (apply qr_boxed; refine r_boxed ?_) | (apply qr_store; refine r_store ?_))
  refine rt1 ?_
  rfl
 ·skip
  refine pure_enter Tryz.func55 rfl (by decide) _ Tryz.ntmps55 (le_ok rfl) (fun w Pr hE => ?_)
  dsimp only [slotsOf, Nat.zero_add, Nat.reduceAdd]
  repeat' (first | (apply at_call; refine k_call (hfm) hE ?_; rintro _ rfl) | (apply at_op (.makeFunc (.func 108) _ _); refine al_y (y_clo (zs := [.box 2 0]) rfl) (lt_ok rfl) ?_) | (apply at_op (.makeFunc (.func 109) _ _); refine al_y (y_clo (zs := [.box 5 0]) rfl) (lt_ok rfl) ?_) | (apply at_op (.store _ _ _); refine al_step (st_store (v := .clo (.func 108) [.box 2 0]) (n := [.clo (.func 108) [.box 2 0]]) (l' := [.clo (.func 108) [.box 2 0]]) rfl rfl rfl nofun rfl (by intro z hz; rw [List.mem_singleton] at hz; subst hz; rfl) (.inl ⟨rfl, rfl⟩) rfl (le_ok rfl) rfl) rfl ?_) | (apply at_call; refine k_clocall1 [(1005, 5), (1002, 2)] (c1) hE ?_; rintro _ _ ⟨rfl, rfl⟩ <;> (intro _ _ h1 h2; simp only [renEqs, Nat.reduceBEq, renL_app, renL_ds, renL_und] at h1 h2; subst h1 h2)) | refine nx ?_ | (apply aq_block_y; decide) | (apply qr_move; refine r_move ?_) | (apply qr_assign; refine r_assign ?_) | (apply at_cond; first | refine c_t ?_ | refine c_f ?_ | (refine aw_cond rfl (fun hb => ?_) (fun hb => ?_) <;> ((try have hq := dX hb); (try (exfalso; omega))))) | (apply qr_lss; refine r_lss ?_) | (apply qr_eql; refine r_eql ?_) | (apply qr_func; refine r_func ?_) | (apply qr_load; refine r_load ?_) | (apply qr_faddr; refine r_faddr ?_) | (apply qr_alloc; refine r_alloc ?_) | (apply qr_boxed; refine r_boxed ?_) | (apply qr_store; refine r_store ?_))
  refine rt1 ?_
  rfl
end
end Go.Proofs.YtedoeogopmenpaaGreatDoor
end
section
set_option linter.unusedSimpArgs false
set_option linter.unusedVariables false
namespace Go.Proofs.YtedoeogopmenpaaGreatDoor
open Go.RowKit
abbrev rpB (L : List Tok) (k e p : Int) : O := .box 65 [.d (.list 4 (L.map Tok.cells)), .d (.int k), .d (.int e), .d (.int p)]
abbrev rps (L l : List Tok) : Objs := [(1000, rpB L (atN L l) 0 0)]
abbrev rpe (L : List Tok) (k e p : Int) : Objs := [(1000, rpB L k e p)]
def RefO {α : Type} (R : Rd α) (val : α → V) (L : List Tok) : V → Objs → Prop := fun x o => (∃ a t, R = .ok a t ∧ x = val a ∧ o = rps L t) ∨ ∃ p e k a, R = .bad p e ∧ e ≠ 0 ∧ x = val a ∧ o = rpe L k e p
def ErrO {α : Type} (val : α → V) (L : List Tok) (k e p : Int) : V → Objs → Prop := fun x o => (∃ a, x = val a) ∧ o = rpe L k e p
abbrev strV : ByteArray → V := fun s => .d (.str s)
abbrev intV : Int → V := fun s => .d (.int s)
abbrev expV' : Ex → V := fun e => .d (.agg (exC e))
abbrev unitV : Unit → V := fun _ => .tup []
section
variable {L l : List Tok} {k e p : Int}
theorem rnext (h : Rdy L l) : ObC 89 [.box 1000 0] (rps L l) [] (fun x o => x = .d (.agg (tokC (nxt l))) ∧ o = rps L l) := by
 have hget := h.get
 have hlt := h.at.1
 have q0 : (!decide ((0 : Int) = 0)) = false := rfl
 refine ob_enter Tryz.func89 rfl (by decide) _ Tryz.ntmps89 (le_ok rfl) rfl (fun w Pr β κ hE => ?_)
 dsimp only [slotsV, Nat.zero_add, Nat.reduceAdd]
 repeat' (first | refine nx ?_ | (apply qr_move; refine r_move ?_) | (apply at_cond; first | refine c_t ?_ | refine c_f ?_ | (refine aw_cond rfl (fun hb => ?_) (fun hb => ?_) <;> ((try have hq := dX hb); (try (exfalso; omega))))) | (apply qr_neq; refine r_neq ?_) | (apply qr_load; refine r_load ?_) | (apply qr_faddr; refine r_faddr ?_) | (apply qr_nilck; refine r_nilck ?_) | (apply qr_alloc; refine r_alloc ?_) | (apply qr_store; refine r_store ?_) | (apply qr_build; refine r_build ?_))
 refine aw_mixo (rps L l) [(0, true), (1, true), (2, true), (3, true), (4, true), (5, true), (6, true), (7, true), (8, true), (9, true)] [10] (by kernel_rfl) (by kernel_rfl) (by kernel_rfl) (by decide) (by (repeat (first | exact obs_nil | (apply obs_cons; focus (first | rfl | (simp [find]; done)))))) ?_
 simp only [planned, tailed, List.filterMap_cons, List.filterMap_nil, List.getElem?_cons_zero, List.getElem?_cons_succ, Option.map_some]
 repeat' (first | apply am_nil | refine m_skip ?_ | refine n_skip ?_ | (apply at_am (.indexAddr _ _ _); refine am_y (by first | exact want_none | exact want_yes rfl rfl (by assumption) | exact want_yes rfl rfl (by with_reducible rfl)) (y_ix (by first | exact ToD.d _ | exact ToD.row _ _ _ _ _ rfl) rfl rfl (by first | with_reducible rfl | exact lit0 | exact lit1 | exact lit2 | exact lit3 | exact lit4 | exact int_s _ | exact int_p _ _ | exact int_nat _ (by omega)) hget) (lt_ok rfl) ?_) | (apply qm_move; refine m_move ?_) | (apply qm_ix; refine m_ix ?_) | (apply qm_load; refine m_load ?_) | (apply qm_faddr; refine m_faddr ?_) | (apply qm_nilck; refine m_nilck ?_) | (refine am_split rfl rfl (fun hb => ?_) (fun hb => ?_) <;> ((try have hq := dX hb); (try (exfalso; omega)))))
 repeat' (first | refine nx ?_ | (apply qr_move; refine r_move ?_) | (apply at_cond; first | refine c_t ?_ | refine c_f ?_ | (refine aw_cond rfl (fun hb => ?_) (fun hb => ?_) <;> ((try have hq := dX hb); (try (exfalso; omega))))) | (apply qr_neq; refine r_neq ?_) | (apply qr_ix; refine r_ix ?_) | (apply qr_load; refine r_load ?_) | (apply qr_faddr; refine r_faddr ?_) | (apply qr_nilck; refine r_nilck ?_) | (apply qr_alloc; refine r_alloc ?_) | (apply qr_store; refine r_store ?_) | (apply qr_build; refine r_build ?_))
 refine oret1 (rps L l) (by rfl) rv (⟨rfl, rfl⟩) sb okx
theorem rnext_e (he : e ≠ 0) : ObC 89 [.box 1000 0] (rpe L k e p) [] (fun x o => x = .d (.agg [.int 0, .str ⟨#[]⟩, .int 0, .int 0]) ∧ o = rpe L k e p) := by
 have q0 : (!decide (e = 0)) = true := by simp [he]
 refine ob_enter Tryz.func89 rfl (by decide) _ Tryz.ntmps89 (le_ok rfl) rfl (fun w Pr β κ hE => ?_)
 dsimp only [slotsV, Nat.zero_add, Nat.reduceAdd]
 repeat' (first | refine nx ?_ | (apply qr_move; refine r_move ?_) | (apply at_cond; first | refine c_t ?_ | refine c_f ?_ | (refine aw_cond rfl (fun hb => ?_) (fun hb => ?_) <;> ((try have hq := dX hb); (try (exfalso; omega))))) | (apply qr_neq; refine r_neq ?_) | (apply qr_load; refine r_load ?_) | (apply qr_faddr; refine r_faddr ?_) | (apply qr_nilck; refine r_nilck ?_) | (apply qr_alloc; refine r_alloc ?_) | (apply qr_store; refine r_store ?_) | (apply qr_build; refine r_build ?_))
 refine oret1 (rpe L k e p) (by rfl) rv (⟨rfl, rfl⟩) sb okx
theorem rfail (h : Rdy L l) (c : Int) : ObC 90 [.box 1000 0, .d (.int c)] (rps L l) [] (fun x o => x = .tup [] ∧ o = rpe L (atN L l) c (nxt l).p) := by
 have q0 : decide ((0 : Int) = 0) = true := rfl
 refine ob_enter Tryz.func90 rfl (by decide) _ Tryz.ntmps90 (le_ok rfl) rfl (fun w Pr β κ hE => ?_)
 dsimp only [slotsV, Nat.zero_add, Nat.reduceAdd]
 repeat' (first | (apply at_call; refine k_ocall [(1000, 1000)] (rnext h) hE ?_; rintro _ _ ⟨rfl, rfl⟩ <;> (intro _ _ h1 h2; simp only [renEqs, Nat.reduceBEq, renL_app, renL_ds, renL_und] at h1 h2; subst h1 h2)) | refine nx ?_ | (apply qr_move; refine r_move ?_) | (apply at_cond; first | refine c_t ?_ | refine c_f ?_ | (refine aw_cond rfl (fun hb => ?_) (fun hb => ?_) <;> ((try have hq := dX hb); (try (exfalso; omega))))) | (apply qr_eql; refine r_eql ?_) | (apply qr_load; refine r_load ?_) | (apply qr_faddr; refine r_faddr ?_) | (apply qr_field; refine r_field ?_) | (apply qr_nilck; refine r_nilck ?_) | (apply qr_store; refine r_store ?_))
 try refine aq_end ?_
 refine oret0 (rpe L (atN L l) c (nxt l).p) (by rfl) (⟨rfl, rfl⟩) sb okx
theorem rfail_e (he : e ≠ 0) (c : Int) : ObC 90 [.box 1000 0, .d (.int c)] (rpe L k e p) [] (fun x o => x = .tup [] ∧ o = rpe L k e p) := by
 have q0 : decide (e = 0) = false := decide_eq_false he
 refine ob_enter Tryz.func90 rfl (by decide) _ Tryz.ntmps90 (le_ok rfl) rfl (fun w Pr β κ hE => ?_)
 dsimp only [slotsV, Nat.zero_add, Nat.reduceAdd]
 repeat' (first | refine nx ?_ | (apply qr_move; refine r_move ?_) | (apply at_cond; first | refine c_t ?_ | refine c_f ?_ | (refine aw_cond rfl (fun hb => ?_) (fun hb => ?_) <;> ((try have hq := dX hb); (try (exfalso; omega))))) | (apply qr_eql; refine r_eql ?_) | (apply qr_load; refine r_load ?_) | (apply qr_faddr; refine r_faddr ?_) | (apply qr_field; refine r_field ?_) | (apply qr_nilck; refine r_nilck ?_) | (apply qr_store; refine r_store ?_))
 try refine aq_end ?_
 refine oret0 (rpe L k e p) (by rfl) (⟨rfl, rfl⟩) sb okx
theorem ris (h : Rdy L l) (s : ByteArray) : ObC 97 [.box 1000 0, .d (.str s)] (rps L l) [] (fun x o => x = .d (.bool (isT l s)) ∧ o = rps L l) := by
 by_cases hk : (nxt l).k = 3
 ·have q1 : (!decide ((nxt l).k = 3)) = false := by simp [hk]
  have hT : isT l s = false := by simp [isT, hk]
  rw [hT]
  refine ob_enter Tryz.func97 rfl (by decide) _ Tryz.ntmps97 (le_ok rfl) rfl (fun w Pr β κ hE => ?_)
  dsimp only [slotsV, Nat.zero_add, Nat.reduceAdd]
  repeat' (first | (apply at_call; refine k_ocall [(1000, 1000)] (rnext h) hE ?_; rintro _ _ ⟨rfl, rfl⟩ <;> (intro _ _ h1 h2; simp only [renEqs, Nat.reduceBEq, renL_app, renL_ds, renL_und] at h1 h2; subst h1 h2)) | refine nx ?_ | (apply qr_move; refine r_move ?_) | (apply qr_assign; refine r_assign ?_) | (apply at_guard; first | refine g_go ?_ | refine g_nt ?_ | refine g_nf ?_ | refine g_nu ?_ | ((first | refine al_split_t rfl rfl (lt_ok rfl) (fun hb => ?_) (fun hb => ?_) | refine al_split_f rfl rfl (lt_ok rfl) (fun hb => ?_) (fun hb => ?_)) <;> ((try have hq := dX hb); (try (exfalso; omega))))) | (apply qr_pick; refine r_pick ?_) | (apply qr_eql; refine r_eql ?_) | (apply qr_neq; refine r_neq ?_) | (apply qr_field; refine r_field ?_))
  refine oret1 (rps L l) (by rfl) rv (⟨rfl, rfl⟩) sb okx
 ·have q1 : (!decide ((nxt l).k = 3)) = true := by simp [hk]
  have hT : isT l s = decide ((nxt l).s = s) := by simp [isT, hk]
  rw [hT]
  refine ob_enter Tryz.func97 rfl (by decide) _ Tryz.ntmps97 (le_ok rfl) rfl (fun w Pr β κ hE => ?_)
  dsimp only [slotsV, Nat.zero_add, Nat.reduceAdd]
  repeat' (first | (apply at_call; refine k_ocall [(1000, 1000)] (rnext h) hE ?_; rintro _ _ ⟨rfl, rfl⟩ <;> (intro _ _ h1 h2; simp only [renEqs, Nat.reduceBEq, renL_app, renL_ds, renL_und] at h1 h2; subst h1 h2)) | refine nx ?_ | (apply qr_move; refine r_move ?_) | (apply qr_assign; refine r_assign ?_) | (apply at_guard; first | refine g_go ?_ | refine g_nt ?_ | refine g_nf ?_ | refine g_nu ?_ | ((first | refine al_split_t rfl rfl (lt_ok rfl) (fun hb => ?_) (fun hb => ?_) | refine al_split_f rfl rfl (lt_ok rfl) (fun hb => ?_) (fun hb => ?_)) <;> ((try have hq := dX hb); (try (exfalso; omega))))) | (apply qr_pick; refine r_pick ?_) | (apply qr_eql; refine r_eql ?_) | (apply qr_neq; refine r_neq ?_) | (apply qr_field; refine r_field ?_))
  refine oret1 (rps L l) (by rfl) rv (⟨rfl, rfl⟩) sb okx
theorem ris_e (he : e ≠ 0) (s : ByteArray) (hs : ⟨#[]⟩ ≠ s) : ObC 97 [.box 1000 0, .d (.str s)] (rpe L k e p) [] (fun x o => x = .d (.bool false) ∧ o = rpe L k e p) := by
 have q1 : (!decide ((0 : Int) = 3)) = true := rfl
 have q2 : decide (⟨#[]⟩ = s) = false := decide_eq_false hs
 refine ob_enter Tryz.func97 rfl (by decide) _ Tryz.ntmps97 (le_ok rfl) rfl (fun w Pr β κ hE => ?_)
 dsimp only [slotsV, Nat.zero_add, Nat.reduceAdd]
 repeat' (first | (apply at_call; refine k_ocall [(1000, 1000)] (rnext_e he) hE ?_; rintro _ _ ⟨rfl, rfl⟩ <;> (intro _ _ h1 h2; simp only [renEqs, Nat.reduceBEq, renL_app, renL_ds, renL_und] at h1 h2; subst h1 h2)) | refine nx ?_ | (apply qr_move; refine r_move ?_) | (apply qr_assign; refine r_assign ?_) | (apply at_guard; first | refine g_go ?_ | refine g_nt ?_ | refine g_nf ?_ | refine g_nu ?_ | ((first | refine al_split_t rfl rfl (lt_ok rfl) (fun hb => ?_) (fun hb => ?_) | refine al_split_f rfl rfl (lt_ok rfl) (fun hb => ?_) (fun hb => ?_)) <;> ((try have hq := dX hb); (try (exfalso; omega))))) | (apply qr_pick; refine r_pick ?_) | (apply qr_eql; refine r_eql ?_) | (apply qr_neq; refine r_neq ?_) | (apply qr_field; refine r_field ?_))
 rw [q2]
 refine oret1 (rpe L k e p) (by rfl) rv (⟨rfl, rfl⟩) sb okx
theorem rhas_y (h : Rdy L l) (s : ByteArray) (hT : isT l s = true) : ObC 130 [.box 1000 0, .d (.str s)] (rps L l) [] (fun x o => x = .d (.bool true) ∧ o = rps L (l.drop 1)) := by
 have q1 : (!isT l s) = false := by simp [hT]
 have hle := h.le
 refine ob_enter Tryz.func130 rfl (by decide) _ Tryz.ntmps130 (le_ok rfl) rfl (fun w Pr β κ hE => ?_)
 dsimp only [slotsV, Nat.zero_add, Nat.reduceAdd]
 repeat' (first | (apply at_call; refine k_ocall [(1000, 1000)] (ris h s) hE ?_; rintro _ _ ⟨rfl, rfl⟩ <;> (intro _ _ h1 h2; simp only [renEqs, Nat.reduceBEq, renL_app, renL_ds, renL_und] at h1 h2; subst h1 h2)) | refine nx ?_ | (apply qr_move; refine r_move ?_) | (apply qr_assign; refine r_assign ?_) | (apply at_cond; first | refine c_t ?_ | refine c_f ?_ | (refine aw_cond rfl (fun hb => ?_) (fun hb => ?_) <;> ((try have hq := dX hb); (try (exfalso; omega))))) | (apply qr_add; refine r_add ?_) | (apply qr_not; refine r_not ?_) | (apply qr_load; refine r_load ?_) | (apply qr_faddr; refine r_faddr ?_) | (apply qr_nilck; refine r_nilck ?_) | (apply qr_store; refine r_store ?_))
 rw [h.step]
 refine oret1 (rps L (l.drop 1)) (by rfl) rv (⟨rfl, rfl⟩) sb okx
theorem rhas_n (h : Rdy L l) (s : ByteArray) (hT : isT l s = false) : ObC 130 [.box 1000 0, .d (.str s)] (rps L l) [] (fun x o => x = .d (.bool false) ∧ o = rps L l) := by
 have q1 : (!isT l s) = true := by simp [hT]
 refine ob_enter Tryz.func130 rfl (by decide) _ Tryz.ntmps130 (le_ok rfl) rfl (fun w Pr β κ hE => ?_)
 dsimp only [slotsV, Nat.zero_add, Nat.reduceAdd]
 repeat' (first | (apply at_call; refine k_ocall [(1000, 1000)] (ris h s) hE ?_; rintro _ _ ⟨rfl, rfl⟩ <;> (intro _ _ h1 h2; simp only [renEqs, Nat.reduceBEq, renL_app, renL_ds, renL_und] at h1 h2; subst h1 h2)) | refine nx ?_ | (apply qr_move; refine r_move ?_) | (apply qr_assign; refine r_assign ?_) | (apply at_cond; first | refine c_t ?_ | refine c_f ?_ | (refine aw_cond rfl (fun hb => ?_) (fun hb => ?_) <;> ((try have hq := dX hb); (try (exfalso; omega))))) | (apply qr_add; refine r_add ?_) | (apply qr_not; refine r_not ?_) | (apply qr_load; refine r_load ?_) | (apply qr_faddr; refine r_faddr ?_) | (apply qr_nilck; refine r_nilck ?_) | (apply qr_store; refine r_store ?_))
 refine oret1 (rps L l) (by rfl) rv (⟨rfl, rfl⟩) sb okx
theorem rhas_e (he : e ≠ 0) (s : ByteArray) (hs : ⟨#[]⟩ ≠ s) : ObC 130 [.box 1000 0, .d (.str s)] (rpe L k e p) [] (fun x o => x = .d (.bool false) ∧ o = rpe L k e p) := by
 refine ob_enter Tryz.func130 rfl (by decide) _ Tryz.ntmps130 (le_ok rfl) rfl (fun w Pr β κ hE => ?_)
 dsimp only [slotsV, Nat.zero_add, Nat.reduceAdd]
 repeat' (first | (apply at_call; refine k_ocall [(1000, 1000)] (ris_e he s hs) hE ?_; rintro _ _ ⟨rfl, rfl⟩ <;> (intro _ _ h1 h2; simp only [renEqs, Nat.reduceBEq, renL_app, renL_ds, renL_und] at h1 h2; subst h1 h2)) | refine nx ?_ | (apply qr_move; refine r_move ?_) | (apply qr_assign; refine r_assign ?_) | (apply at_cond; first | refine c_t ?_ | refine c_f ?_ | (refine aw_cond rfl (fun hb => ?_) (fun hb => ?_) <;> ((try have hq := dX hb); (try (exfalso; omega))))) | (apply qr_add; refine r_add ?_) | (apply qr_not; refine r_not ?_) | (apply qr_load; refine r_load ?_) | (apply qr_faddr; refine r_faddr ?_) | (apply qr_nilck; refine r_nilck ?_) | (apply qr_store; refine r_store ?_))
 refine oret1 (rpe L k e p) (by rfl) rv (⟨rfl, rfl⟩) sb okx
theorem rwant (h : Rdy L l) (s : ByteArray) : ObC 85 [.box 1000 0, .d (.str s)] (rps L l) [] (RefO (want l s) unitV L) := by
 cases hT : isT l s
 ·have hw : want l s = .bad (nxt l).p 12 := by simp [want, hT]
  refine ob_enter Tryz.func85 rfl (by decide) _ Tryz.ntmps85 (le_ok rfl) rfl (fun w Pr β κ hE => ?_)
  dsimp only [slotsV, Nat.zero_add, Nat.reduceAdd]
  repeat' (first | (apply at_call; refine k_ocall [(1000, 1000)] (rhas_n h s hT) hE ?_; rintro _ _ ⟨rfl, rfl⟩ <;> (intro _ _ h1 h2; simp only [renEqs, Nat.reduceBEq, renL_app, renL_ds, renL_und] at h1 h2; subst h1 h2)) | (apply at_call; refine k_ocall [(1000, 1000)] (rfail h 12) hE ?_; rintro _ _ ⟨rfl, rfl⟩ <;> (intro _ _ h1 h2; simp only [renEqs, Nat.reduceBEq, renL_app, renL_ds, renL_und] at h1 h2; subst h1 h2)) | refine nx ?_ | (apply qr_move; refine r_move ?_) | (apply at_cond; first | refine c_t ?_ | refine c_f ?_ | (refine aw_cond rfl (fun hb => ?_) (fun hb => ?_) <;> ((try have hq := dX hb); (try (exfalso; omega))))) | (apply qr_not; refine r_not ?_))
  try refine aq_end ?_
  refine oret0 (rpe L (atN L l) 12 (nxt l).p) (by rfl) (.inr ⟨_, 12, _, (), hw, by decide, rfl, rfl⟩) sb okx
 ·have hw : want l s = .ok () (l.drop 1) := by simp [want, hT]
  refine ob_enter Tryz.func85 rfl (by decide) _ Tryz.ntmps85 (le_ok rfl) rfl (fun w Pr β κ hE => ?_)
  dsimp only [slotsV, Nat.zero_add, Nat.reduceAdd]
  repeat' (first | (apply at_call; refine k_ocall [(1000, 1000)] (rhas_y h s hT) hE ?_; rintro _ _ ⟨rfl, rfl⟩ <;> (intro _ _ h1 h2; simp only [renEqs, Nat.reduceBEq, renL_app, renL_ds, renL_und] at h1 h2; subst h1 h2)) | refine nx ?_ | (apply qr_move; refine r_move ?_) | (apply at_cond; first | refine c_t ?_ | refine c_f ?_ | (refine aw_cond rfl (fun hb => ?_) (fun hb => ?_) <;> ((try have hq := dX hb); (try (exfalso; omega))))) | (apply qr_not; refine r_not ?_))
  try refine aq_end ?_
  refine oret0 (rps L (l.drop 1)) (by rfl) (.inl ⟨(), _, hw, rfl, rfl⟩) sb okx
theorem rwant_e (he : e ≠ 0) (s : ByteArray) (hs : ⟨#[]⟩ ≠ s) : ObC 85 [.box 1000 0, .d (.str s)] (rpe L k e p) [] (fun x o => x = .tup [] ∧ o = rpe L k e p) := by
 refine ob_enter Tryz.func85 rfl (by decide) _ Tryz.ntmps85 (le_ok rfl) rfl (fun w Pr β κ hE => ?_)
 dsimp only [slotsV, Nat.zero_add, Nat.reduceAdd]
 repeat' (first | (apply at_call; refine k_ocall [(1000, 1000)] (rhas_e he s hs) hE ?_; rintro _ _ ⟨rfl, rfl⟩ <;> (intro _ _ h1 h2; simp only [renEqs, Nat.reduceBEq, renL_app, renL_ds, renL_und] at h1 h2; subst h1 h2)) | (apply at_call; refine k_ocall [(1000, 1000)] (rfail_e he 12) hE ?_; rintro _ _ ⟨rfl, rfl⟩ <;> (intro _ _ h1 h2; simp only [renEqs, Nat.reduceBEq, renL_app, renL_ds, renL_und] at h1 h2; subst h1 h2)) | refine nx ?_ | (apply qr_move; refine r_move ?_) | (apply at_cond; first | refine c_t ?_ | refine c_f ?_ | (refine aw_cond rfl (fun hb => ?_) (fun hb => ?_) <;> ((try have hq := dX hb); (try (exfalso; omega))))) | (apply qr_not; refine r_not ?_))
 try refine aq_end ?_
 refine oret0 (rpe L k e p) (by rfl) (⟨rfl, rfl⟩) sb okx
theorem rreserved_any : PureC 50 [] (· = strsD reservedL) := by
 refine pure_enter Tryz.func50 rfl (by decide) _ Tryz.ntmps50 (le_ok rfl) (fun w Pr hE => ?_)
 dsimp only [slotsOf, Nat.zero_add, Nat.reduceAdd]
 repeat' (first | refine nx ?_ | (apply qr_assign; refine r_assign ?_) | (apply qr_lits; refine r_lits ?_))
 refine rt1 ?_
 rfl
theorem rname_any (s : ByteArray) (hs : s.size ≤ 9223372036854775807) : PureC 16 [.str s] (· = .bool (nameV s)) := by
 refine pure_enter Tryz.func16 rfl (by decide) _ Tryz.ntmps16 (le_ok rfl) (fun w Pr hE => ?_)
 dsimp only [slotsOf, Nat.zero_add, Nat.reduceAdd]
 repeat' (first | (apply at_call; refine k_call (rreserved_any) hE ?_; rintro _ rfl) | refine nx ?_ | (apply aq_block_y; decide) | (apply qr_move; refine r_move ?_) | (apply qr_assign; refine r_assign ?_) | (apply at_cond; first | refine c_t ?_ | refine c_f ?_ | (refine aw_cond rfl (fun hb => ?_) (fun hb => ?_) <;> ((try have hq := dX hb); (try (exfalso; omega))))) | (apply qr_lss; refine r_lss ?_) | (apply qr_eql; refine r_eql ?_) | (apply qr_add; refine r_add ?_) | (apply qr_len; refine r_len ?_) | (apply qr_ix; refine r_ix ?_) | (apply qr_load; refine r_load ?_))
 refine aw_lp (fun N sl ob => ∃ i : Nat, N = 23 - i ∧ i ≤ 23 ∧ (reservedL.take i).any (fun w => decide (w = s)) = false ∧ sl = [(4, .d (.int i)), (3, .d (strsD reservedL)), (0, .d (.str s))] ∧ ob = []) (⟨0, rfl, Nat.zero_le _, by simp, rfl, rfl⟩) ?_
 rintro N sl ob ⟨i, rfl, hi, ht, rfl, rfl⟩
 by_cases hlt : i < 23
 ·have hl : i < reservedL.length := hlt
  have hg : (reservedL.map fun s => [D.str s])[i]? = some [D.str reservedL[i]] := by rw [get_map hl]
  by_cases he : reservedL[i] = s
  ·have hany : reservedL.any (fun w => decide (w = s)) = true := by
    rw [List.any_eq_true]
    exact ⟨reservedL[i], List.getElem_mem hl, by simp [he]⟩
   have hN : nameV s = false := by simp [nameV, hany]
   have q : decide (reservedL[i] = s) = true := decide_eq_true he
   generalize hx : reservedL[i] = x at q hg
   rw [hN]
   repeat' (first | (apply at_op (.indexAddr _ _ _); refine al_ixq hg ?_) | refine nx ?_ | (apply aq_block_y; decide) | (apply qr_move; refine r_move ?_) | (apply qr_assign; refine r_assign ?_) | (apply at_cond; first | refine c_t ?_ | refine c_f ?_ | (refine aw_cond rfl (fun hb => ?_) (fun hb => ?_) <;> ((try have hq := dX hb); (try (exfalso; omega))))) | (apply qr_lss; refine r_lss ?_) | (apply qr_eql; refine r_eql ?_) | (apply qr_add; refine r_add ?_) | (apply qr_len; refine r_len ?_) | (apply qr_ix; refine r_ix ?_) | (apply qr_load; refine r_load ?_))
   refine rt1 ?_
   rfl
  ·have hnext : (reservedL.take (i + 1)).any (fun w => decide (w = s)) = false := by
    rw [any_take _ hl, ht, Bool.false_or]
    exact decide_eq_false he
   have q : decide (reservedL[i] = s) = false := decide_eq_false he
   generalize hx : reservedL[i] = x at q hg
   repeat' (first | (apply at_op (.indexAddr _ _ _); refine al_ixq hg ?_) | refine nx ?_ | (apply aq_block_y; decide) | (apply qr_move; refine r_move ?_) | (apply qr_assign; refine r_assign ?_) | (apply at_cond; first | refine c_t ?_ | refine c_f ?_ | (refine aw_cond rfl (fun hb => ?_) (fun hb => ?_) <;> ((try have hq := dX hb); (try (exfalso; omega))))) | (apply qr_lss; refine r_lss ?_) | (apply qr_eql; refine r_eql ?_) | (apply qr_add; refine r_add ?_) | (apply qr_len; refine r_len ?_) | (apply qr_ix; refine r_ix ?_) | (apply qr_load; refine r_load ?_))
   refine aq_rd (⟨i + 1, rfl, by omega, hnext, rfl, rfl⟩) (by omega)
 ·rw [List.take_of_length_le (show reservedL.length ≤ i by show 23 ≤ i; omega)] at ht
  have hN : nameV s = wordB s := by simp [nameV, ht]
  rw [hN]
  have q : decide ((i : Int) < reservedL.length) = false := decide_eq_false (by have : reservedL.length = 23 := rfl; omega)
  repeat' (first | (apply at_call; refine k_call (rword_any s hs) hE ?_; rintro _ rfl) | refine nx ?_ | (apply aq_block_y; decide) | (apply qr_move; refine r_move ?_) | (apply qr_assign; refine r_assign ?_) | (apply at_cond; first | refine c_t ?_ | refine c_f ?_ | (refine aw_cond rfl (fun hb => ?_) (fun hb => ?_) <;> ((try have hq := dX hb); (try (exfalso; omega))))) | (apply qr_lss; refine r_lss ?_) | (apply qr_eql; refine r_eql ?_) | (apply qr_add; refine r_add ?_) | (apply qr_len; refine r_len ?_) | (apply qr_ix; refine r_ix ?_) | (apply qr_load; refine r_load ?_))
  refine rt1 ?_
  rfl
theorem rname (h : Rdy L l) (ht : Texts l) : ObC 86 [.box 1000 0] (rps L l) [] (RefO (nameP nameV l) strV L) := by
 have hle := h.le
 have hz := ht.nxt
 have hna := rname_any (nxt l).s (by omega)
 by_cases hk : (nxt l).k = 0
 ·have q1 : (!decide ((nxt l).k = 0)) = false := by simp [hk]
  cases hv : nameV (nxt l).s
  ·have hR : nameP nameV l = .bad (nxt l).p 12 := by simp [nameP, hv]
   rw [hv] at hna
   refine ob_enter Tryz.func86 rfl (by decide) _ Tryz.ntmps86 (le_ok rfl) rfl (fun w Pr β κ hE => ?_)
   dsimp only [slotsV, Nat.zero_add, Nat.reduceAdd]
   repeat' (first | (apply at_call; refine k_ocall [(1000, 1000)] (rnext h) hE ?_; rintro _ _ ⟨rfl, rfl⟩ <;> (intro _ _ h1 h2; simp only [renEqs, Nat.reduceBEq, renL_app, renL_ds, renL_und] at h1 h2; subst h1 h2)) | (apply at_call; refine k_call (hna) hE ?_; rintro _ rfl) | (apply at_call; refine k_ocall [(1000, 1000)] (rfail h 12) hE ?_; rintro _ _ ⟨rfl, rfl⟩ <;> (intro _ _ h1 h2; simp only [renEqs, Nat.reduceBEq, renL_app, renL_ds, renL_und] at h1 h2; subst h1 h2)) | refine nx ?_ | (apply qr_move; refine r_move ?_) | (apply qr_assign; refine r_assign ?_) | (apply at_cond; first | refine c_t ?_ | refine c_f ?_ | (refine aw_cond rfl (fun hb => ?_) (fun hb => ?_) <;> ((try have hq := dX hb); (try (exfalso; omega))))) | (apply at_guard; first | refine g_go ?_ | refine g_nt ?_ | refine g_nf ?_ | refine g_nu ?_ | ((first | refine al_split_t rfl rfl (lt_ok rfl) (fun hb => ?_) (fun hb => ?_) | refine al_split_f rfl rfl (lt_ok rfl) (fun hb => ?_) (fun hb => ?_)) <;> ((try have hq := dX hb); (try (exfalso; omega))))) | (apply qr_pick; refine r_pick ?_) | (apply qr_neq; refine r_neq ?_) | (apply qr_add; refine r_add ?_) | (apply qr_not; refine r_not ?_) | (apply qr_load; refine r_load ?_) | (apply qr_faddr; refine r_faddr ?_) | (apply qr_nilck; refine r_nilck ?_) | (apply qr_alloc; refine r_alloc ?_) | (apply qr_store; refine r_store ?_))
   refine oret1 (rpe L (atN L l) 12 (nxt l).p) (by rfl) rv (.inr ⟨_, 12, _, _, hR, by decide, rfl, rfl⟩) sb okx
  ·have hR : nameP nameV l = .ok (nxt l).s (l.drop 1) := by simp [nameP, hv, hk]
   rw [hv] at hna
   refine ob_enter Tryz.func86 rfl (by decide) _ Tryz.ntmps86 (le_ok rfl) rfl (fun w Pr β κ hE => ?_)
   dsimp only [slotsV, Nat.zero_add, Nat.reduceAdd]
   repeat' (first | (apply at_call; refine k_ocall [(1000, 1000)] (rnext h) hE ?_; rintro _ _ ⟨rfl, rfl⟩ <;> (intro _ _ h1 h2; simp only [renEqs, Nat.reduceBEq, renL_app, renL_ds, renL_und] at h1 h2; subst h1 h2)) | (apply at_call; refine k_call (hna) hE ?_; rintro _ rfl) | refine nx ?_ | (apply qr_move; refine r_move ?_) | (apply qr_assign; refine r_assign ?_) | (apply at_cond; first | refine c_t ?_ | refine c_f ?_ | (refine aw_cond rfl (fun hb => ?_) (fun hb => ?_) <;> ((try have hq := dX hb); (try (exfalso; omega))))) | (apply at_guard; first | refine g_go ?_ | refine g_nt ?_ | refine g_nf ?_ | refine g_nu ?_ | ((first | refine al_split_t rfl rfl (lt_ok rfl) (fun hb => ?_) (fun hb => ?_) | refine al_split_f rfl rfl (lt_ok rfl) (fun hb => ?_) (fun hb => ?_)) <;> ((try have hq := dX hb); (try (exfalso; omega))))) | (apply qr_pick; refine r_pick ?_) | (apply qr_neq; refine r_neq ?_) | (apply qr_add; refine r_add ?_) | (apply qr_not; refine r_not ?_) | (apply qr_load; refine r_load ?_) | (apply qr_faddr; refine r_faddr ?_) | (apply qr_nilck; refine r_nilck ?_) | (apply qr_alloc; refine r_alloc ?_) | (apply qr_store; refine r_store ?_))
   rw [h.step]
   refine oret1 (rps L (l.drop 1)) (by rfl) rv (.inl ⟨_, _, hR, rfl, rfl⟩) sb okx
 ·have q1 : (!decide ((nxt l).k = 0)) = true := by simp [hk]
  have hR : nameP nameV l = .bad (nxt l).p 12 := by simp [nameP, hk]
  refine ob_enter Tryz.func86 rfl (by decide) _ Tryz.ntmps86 (le_ok rfl) rfl (fun w Pr β κ hE => ?_)
  dsimp only [slotsV, Nat.zero_add, Nat.reduceAdd]
  repeat' (first | (apply at_call; refine k_ocall [(1000, 1000)] (rnext h) hE ?_; rintro _ _ ⟨rfl, rfl⟩ <;> (intro _ _ h1 h2; simp only [renEqs, Nat.reduceBEq, renL_app, renL_ds, renL_und] at h1 h2; subst h1 h2)) | (apply at_call; refine k_ocall [(1000, 1000)] (rfail h 12) hE ?_; rintro _ _ ⟨rfl, rfl⟩ <;> (intro _ _ h1 h2; simp only [renEqs, Nat.reduceBEq, renL_app, renL_ds, renL_und] at h1 h2; subst h1 h2)) | refine nx ?_ | (apply qr_move; refine r_move ?_) | (apply qr_assign; refine r_assign ?_) | (apply at_cond; first | refine c_t ?_ | refine c_f ?_ | (refine aw_cond rfl (fun hb => ?_) (fun hb => ?_) <;> ((try have hq := dX hb); (try (exfalso; omega))))) | (apply at_guard; first | refine g_go ?_ | refine g_nt ?_ | refine g_nf ?_ | refine g_nu ?_ | ((first | refine al_split_t rfl rfl (lt_ok rfl) (fun hb => ?_) (fun hb => ?_) | refine al_split_f rfl rfl (lt_ok rfl) (fun hb => ?_) (fun hb => ?_)) <;> ((try have hq := dX hb); (try (exfalso; omega))))) | (apply qr_pick; refine r_pick ?_) | (apply qr_neq; refine r_neq ?_) | (apply qr_add; refine r_add ?_) | (apply qr_not; refine r_not ?_) | (apply qr_load; refine r_load ?_) | (apply qr_faddr; refine r_faddr ?_) | (apply qr_nilck; refine r_nilck ?_) | (apply qr_alloc; refine r_alloc ?_) | (apply qr_store; refine r_store ?_))
  refine oret1 (rpe L (atN L l) 12 (nxt l).p) (by rfl) rv (.inr ⟨_, 12, _, _, hR, by decide, rfl, rfl⟩) sb okx
theorem rname_e (he : e ≠ 0) : ObC 86 [.box 1000 0] (rpe L k e p) [] (ErrO strV L k e p) := by
 have hna := rname_any ⟨#[]⟩ (by decide)
 rw [show nameV ⟨#[]⟩ = false by decide] at hna
 have q1 : (!decide ((0 : Int) = 0)) = false := rfl
 refine ob_enter Tryz.func86 rfl (by decide) _ Tryz.ntmps86 (le_ok rfl) rfl (fun w Pr β κ hE => ?_)
 dsimp only [slotsV, Nat.zero_add, Nat.reduceAdd]
 repeat' (first | (apply at_call; refine k_ocall [(1000, 1000)] (rnext_e he) hE ?_; rintro _ _ ⟨rfl, rfl⟩ <;> (intro _ _ h1 h2; simp only [renEqs, Nat.reduceBEq, renL_app, renL_ds, renL_und] at h1 h2; subst h1 h2)) | (apply at_call; refine k_call (hna) hE ?_; rintro _ rfl) | (apply at_call; refine k_ocall [(1000, 1000)] (rfail_e he 12) hE ?_; rintro _ _ ⟨rfl, rfl⟩ <;> (intro _ _ h1 h2; simp only [renEqs, Nat.reduceBEq, renL_app, renL_ds, renL_und] at h1 h2; subst h1 h2)) | refine nx ?_ | (apply qr_move; refine r_move ?_) | (apply qr_assign; refine r_assign ?_) | (apply at_cond; first | refine c_t ?_ | refine c_f ?_ | (refine aw_cond rfl (fun hb => ?_) (fun hb => ?_) <;> ((try have hq := dX hb); (try (exfalso; omega))))) | (apply at_guard; first | refine g_go ?_ | refine g_nt ?_ | refine g_nf ?_ | refine g_nu ?_ | ((first | refine al_split_t rfl rfl (lt_ok rfl) (fun hb => ?_) (fun hb => ?_) | refine al_split_f rfl rfl (lt_ok rfl) (fun hb => ?_) (fun hb => ?_)) <;> ((try have hq := dX hb); (try (exfalso; omega))))) | (apply qr_pick; refine r_pick ?_) | (apply qr_neq; refine r_neq ?_) | (apply qr_add; refine r_add ?_) | (apply qr_not; refine r_not ?_) | (apply qr_load; refine r_load ?_) | (apply qr_faddr; refine r_faddr ?_) | (apply qr_nilck; refine r_nilck ?_) | (apply qr_alloc; refine r_alloc ?_) | (apply qr_store; refine r_store ?_))
 refine oret1 (rpe L k e p) (by rfl) rv (⟨⟨_, rfl⟩, rfl⟩) sb okx
theorem rnumber (h : Rdy L l) (least most : Int) : ObC 132 [.box 1000 0, .d (.int least), .d (.int most)] (rps L l) [] (RefO (numP least most l) intV L) := by
 have hle := h.le
 by_cases hk : (nxt l).k = 1
 ·have q1 : (!decide ((nxt l).k = 1)) = false := by simp [hk]
  by_cases h1 : (nxt l).n < least
  ·have hR : numP least most l = .bad (nxt l).p 3 := by simp only [numP, hk, if_true]; rw [if_neg (by omega)]
   have q2 : decide ((nxt l).n < least) = true := decide_eq_true h1
   refine ob_enter Tryz.func132 rfl (by decide) _ Tryz.ntmps132 (le_ok rfl) rfl (fun w Pr β κ hE => ?_)
   dsimp only [slotsV, Nat.zero_add, Nat.reduceAdd]
   repeat' (first | (apply at_call; refine k_ocall [(1000, 1000)] (rnext h) hE ?_; rintro _ _ ⟨rfl, rfl⟩ <;> (intro _ _ h1 h2; simp only [renEqs, Nat.reduceBEq, renL_app, renL_ds, renL_und] at h1 h2; subst h1 h2)) | (apply at_call; refine k_ocall [(1000, 1000)] (rfail h 3) hE ?_; rintro _ _ ⟨rfl, rfl⟩ <;> (intro _ _ h1 h2; simp only [renEqs, Nat.reduceBEq, renL_app, renL_ds, renL_und] at h1 h2; subst h1 h2)) | refine nx ?_ | (apply qr_move; refine r_move ?_) | (apply qr_assign; refine r_assign ?_) | (apply at_cond; first | refine c_t ?_ | refine c_f ?_ | (refine aw_cond rfl (fun hb => ?_) (fun hb => ?_) <;> ((try have hq := dX hb); (try (exfalso; omega))))) | (apply at_guard; first | refine g_go ?_ | refine g_nt ?_ | refine g_nf ?_ | refine g_nu ?_ | ((first | refine al_split_t rfl rfl (lt_ok rfl) (fun hb => ?_) (fun hb => ?_) | refine al_split_f rfl rfl (lt_ok rfl) (fun hb => ?_) (fun hb => ?_)) <;> ((try have hq := dX hb); (try (exfalso; omega))))) | (apply qr_pick; refine r_pick ?_) | (apply qr_lss; refine r_lss ?_) | (apply qr_gtr; refine r_gtr ?_) | (apply qr_neq; refine r_neq ?_) | (apply qr_add; refine r_add ?_) | (apply qr_load; refine r_load ?_) | (apply qr_faddr; refine r_faddr ?_) | (apply qr_nilck; refine r_nilck ?_) | (apply qr_alloc; refine r_alloc ?_) | (apply qr_store; refine r_store ?_))
   refine oret1 (rpe L (atN L l) 3 (nxt l).p) (by rfl) rv (.inr ⟨_, 3, _, _, hR, by decide, rfl, rfl⟩) sb okx
  ·have q2 : decide ((nxt l).n < least) = false := decide_eq_false h1
   by_cases h2 : most < (nxt l).n
   ·have hR : numP least most l = .bad (nxt l).p 3 := by simp only [numP, hk, if_true]; rw [if_neg (by omega)]
    have q3 : decide (most < (nxt l).n) = true := decide_eq_true h2
    refine ob_enter Tryz.func132 rfl (by decide) _ Tryz.ntmps132 (le_ok rfl) rfl (fun w Pr β κ hE => ?_)
    dsimp only [slotsV, Nat.zero_add, Nat.reduceAdd]
    repeat' (first | (apply at_call; refine k_ocall [(1000, 1000)] (rnext h) hE ?_; rintro _ _ ⟨rfl, rfl⟩ <;> (intro _ _ h1 h2; simp only [renEqs, Nat.reduceBEq, renL_app, renL_ds, renL_und] at h1 h2; subst h1 h2)) | (apply at_call; refine k_ocall [(1000, 1000)] (rfail h 3) hE ?_; rintro _ _ ⟨rfl, rfl⟩ <;> (intro _ _ h1 h2; simp only [renEqs, Nat.reduceBEq, renL_app, renL_ds, renL_und] at h1 h2; subst h1 h2)) | refine nx ?_ | (apply qr_move; refine r_move ?_) | (apply qr_assign; refine r_assign ?_) | (apply at_cond; first | refine c_t ?_ | refine c_f ?_ | (refine aw_cond rfl (fun hb => ?_) (fun hb => ?_) <;> ((try have hq := dX hb); (try (exfalso; omega))))) | (apply at_guard; first | refine g_go ?_ | refine g_nt ?_ | refine g_nf ?_ | refine g_nu ?_ | ((first | refine al_split_t rfl rfl (lt_ok rfl) (fun hb => ?_) (fun hb => ?_) | refine al_split_f rfl rfl (lt_ok rfl) (fun hb => ?_) (fun hb => ?_)) <;> ((try have hq := dX hb); (try (exfalso; omega))))) | (apply qr_pick; refine r_pick ?_) | (apply qr_lss; refine r_lss ?_) | (apply qr_gtr; refine r_gtr ?_) | (apply qr_neq; refine r_neq ?_) | (apply qr_add; refine r_add ?_) | (apply qr_load; refine r_load ?_) | (apply qr_faddr; refine r_faddr ?_) | (apply qr_nilck; refine r_nilck ?_) | (apply qr_alloc; refine r_alloc ?_) | (apply qr_store; refine r_store ?_))
    refine oret1 (rpe L (atN L l) 3 (nxt l).p) (by rfl) rv (.inr ⟨_, 3, _, _, hR, by decide, rfl, rfl⟩) sb okx
   ·have hR : numP least most l = .ok (nxt l).n (l.drop 1) := by simp only [numP, hk, if_true]; rw [if_pos (by omega)]
    have q3 : decide (most < (nxt l).n) = false := decide_eq_false h2
    refine ob_enter Tryz.func132 rfl (by decide) _ Tryz.ntmps132 (le_ok rfl) rfl (fun w Pr β κ hE => ?_)
    dsimp only [slotsV, Nat.zero_add, Nat.reduceAdd]
    repeat' (first | (apply at_call; refine k_ocall [(1000, 1000)] (rnext h) hE ?_; rintro _ _ ⟨rfl, rfl⟩ <;> (intro _ _ h1 h2; simp only [renEqs, Nat.reduceBEq, renL_app, renL_ds, renL_und] at h1 h2; subst h1 h2)) | refine nx ?_ | (apply qr_move; refine r_move ?_) | (apply qr_assign; refine r_assign ?_) | (apply at_cond; first | refine c_t ?_ | refine c_f ?_ | (refine aw_cond rfl (fun hb => ?_) (fun hb => ?_) <;> ((try have hq := dX hb); (try (exfalso; omega))))) | (apply at_guard; first | refine g_go ?_ | refine g_nt ?_ | refine g_nf ?_ | refine g_nu ?_ | ((first | refine al_split_t rfl rfl (lt_ok rfl) (fun hb => ?_) (fun hb => ?_) | refine al_split_f rfl rfl (lt_ok rfl) (fun hb => ?_) (fun hb => ?_)) <;> ((try have hq := dX hb); (try (exfalso; omega))))) | (apply qr_pick; refine r_pick ?_) | (apply qr_lss; refine r_lss ?_) | (apply qr_gtr; refine r_gtr ?_) | (apply qr_neq; refine r_neq ?_) | (apply qr_add; refine r_add ?_) | (apply qr_load; refine r_load ?_) | (apply qr_faddr; refine r_faddr ?_) | (apply qr_nilck; refine r_nilck ?_) | (apply qr_alloc; refine r_alloc ?_) | (apply qr_store; refine r_store ?_))
    rw [h.step]
    refine oret1 (rps L (l.drop 1)) (by rfl) rv (.inl ⟨_, _, hR, rfl, rfl⟩) sb okx
 ·have q1 : (!decide ((nxt l).k = 1)) = true := by simp [hk]
  have hR : numP least most l = .bad (nxt l).p 12 := by simp [numP, hk]
  refine ob_enter Tryz.func132 rfl (by decide) _ Tryz.ntmps132 (le_ok rfl) rfl (fun w Pr β κ hE => ?_)
  dsimp only [slotsV, Nat.zero_add, Nat.reduceAdd]
  repeat' (first | (apply at_call; refine k_ocall [(1000, 1000)] (rnext h) hE ?_; rintro _ _ ⟨rfl, rfl⟩ <;> (intro _ _ h1 h2; simp only [renEqs, Nat.reduceBEq, renL_app, renL_ds, renL_und] at h1 h2; subst h1 h2)) | (apply at_call; refine k_ocall [(1000, 1000)] (rfail h 12) hE ?_; rintro _ _ ⟨rfl, rfl⟩ <;> (intro _ _ h1 h2; simp only [renEqs, Nat.reduceBEq, renL_app, renL_ds, renL_und] at h1 h2; subst h1 h2)) | refine nx ?_ | (apply qr_move; refine r_move ?_) | (apply qr_assign; refine r_assign ?_) | (apply at_cond; first | refine c_t ?_ | refine c_f ?_ | (refine aw_cond rfl (fun hb => ?_) (fun hb => ?_) <;> ((try have hq := dX hb); (try (exfalso; omega))))) | (apply at_guard; first | refine g_go ?_ | refine g_nt ?_ | refine g_nf ?_ | refine g_nu ?_ | ((first | refine al_split_t rfl rfl (lt_ok rfl) (fun hb => ?_) (fun hb => ?_) | refine al_split_f rfl rfl (lt_ok rfl) (fun hb => ?_) (fun hb => ?_)) <;> ((try have hq := dX hb); (try (exfalso; omega))))) | (apply qr_pick; refine r_pick ?_) | (apply qr_lss; refine r_lss ?_) | (apply qr_gtr; refine r_gtr ?_) | (apply qr_neq; refine r_neq ?_) | (apply qr_add; refine r_add ?_) | (apply qr_load; refine r_load ?_) | (apply qr_faddr; refine r_faddr ?_) | (apply qr_nilck; refine r_nilck ?_) | (apply qr_alloc; refine r_alloc ?_) | (apply qr_store; refine r_store ?_))
  refine oret1 (rpe L (atN L l) 12 (nxt l).p) (by rfl) rv (.inr ⟨_, 12, _, _, hR, by decide, rfl, rfl⟩) sb okx
theorem rnumber_e (he : e ≠ 0) (least most : Int) : ObC 132 [.box 1000 0, .d (.int least), .d (.int most)] (rpe L k e p) [] (ErrO intV L k e p) := by
 have q1 : (!decide ((0 : Int) = 1)) = true := rfl
 refine ob_enter Tryz.func132 rfl (by decide) _ Tryz.ntmps132 (le_ok rfl) rfl (fun w Pr β κ hE => ?_)
 dsimp only [slotsV, Nat.zero_add, Nat.reduceAdd]
 repeat' (first | (apply at_call; refine k_ocall [(1000, 1000)] (rnext_e he) hE ?_; rintro _ _ ⟨rfl, rfl⟩ <;> (intro _ _ h1 h2; simp only [renEqs, Nat.reduceBEq, renL_app, renL_ds, renL_und] at h1 h2; subst h1 h2)) | (apply at_call; refine k_ocall [(1000, 1000)] (rfail_e he 12) hE ?_; rintro _ _ ⟨rfl, rfl⟩ <;> (intro _ _ h1 h2; simp only [renEqs, Nat.reduceBEq, renL_app, renL_ds, renL_und] at h1 h2; subst h1 h2)) | refine nx ?_ | (apply qr_move; refine r_move ?_) | (apply qr_assign; refine r_assign ?_) | (apply at_cond; first | refine c_t ?_ | refine c_f ?_ | (refine aw_cond rfl (fun hb => ?_) (fun hb => ?_) <;> ((try have hq := dX hb); (try (exfalso; omega))))) | (apply at_guard; first | refine g_go ?_ | refine g_nt ?_ | refine g_nf ?_ | refine g_nu ?_ | ((first | refine al_split_t rfl rfl (lt_ok rfl) (fun hb => ?_) (fun hb => ?_) | refine al_split_f rfl rfl (lt_ok rfl) (fun hb => ?_) (fun hb => ?_)) <;> ((try have hq := dX hb); (try (exfalso; omega))))) | (apply qr_pick; refine r_pick ?_) | (apply qr_lss; refine r_lss ?_) | (apply qr_gtr; refine r_gtr ?_) | (apply qr_neq; refine r_neq ?_) | (apply qr_add; refine r_add ?_) | (apply qr_load; refine r_load ?_) | (apply qr_faddr; refine r_faddr ?_) | (apply qr_nilck; refine r_nilck ?_) | (apply qr_alloc; refine r_alloc ?_) | (apply qr_store; refine r_store ?_))
 refine oret1 (rpe L k e p) (by rfl) rv (⟨⟨_, rfl⟩, rfl⟩) sb okx
end
end Go.Proofs.YtedoeogopmenpaaGreatDoor
end
section
set_option linter.unusedSimpArgs false
set_option linter.unusedVariables false
namespace Go.Proofs.YtedoeogopmenpaaGreatDoor
open Go.RowKit
abbrev RRightC (d : Nat) : Prop := ∀ e : Ex, e.tame → PureC 69 [.agg (exC e), .int d] (· = .bool (e.right d))
theorem all_take {α : Type} (f : α → Bool) {l : List α} {i : Nat} (h : i < l.length) : (l.take (i + 1)).all f = ((l.take i).all f && f l[i]) := by
 rw [List.take_succ_eq_append_getElem h, List.all_append]
 simp only [List.all_cons, List.all_nil, Bool.and_true]
end Go.Proofs.YtedoeogopmenpaaGreatDoor
end
section
set_option linter.unusedSimpArgs false
set_option linter.unusedVariables false
namespace Go.Proofs.YtedoeogopmenpaaGreatDoor
open Go.RowKit
theorem rightExp_any (e : Ex) (he : e.tame) : PureC 24 [.agg (exC e)] (· = .bool (e.right 12)) := by
 have hc := right_any 12 (by omega) e he
 refine pure_enter Tryz.func24 rfl (by decide) _ Tryz.ntmps24 (le_ok rfl) (fun w Pr hE => ?_)
 dsimp only [slotsOf, Nat.zero_add, Nat.reduceAdd]
 repeat' (first | (apply at_call; refine k_call (hc) hE ?_; rintro _ rfl) | refine nx ?_ | (apply qr_assign; refine r_assign ?_) | (apply qr_load; refine r_load ?_) | (apply qr_boxed; refine r_boxed ?_))
 refine rt1 ?_
 rfl
end Go.Proofs.YtedoeogopmenpaaGreatDoor
end
