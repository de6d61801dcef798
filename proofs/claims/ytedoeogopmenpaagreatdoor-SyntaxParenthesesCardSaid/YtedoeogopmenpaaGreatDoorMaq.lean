/-
  Conditions: none.
-/
import Derived.Test.YtedoeogopmenpaaGreatDoorMap
set_option maxHeartbeats 16000000
set_option maxRecDepth 20000
section
set_option linter.unusedSimpArgs false
set_option linter.unusedVariables false
namespace Go.Proofs.YtedoeogopmenpaaGreatDoor
open Go.RowKit
abbrev ShowC (d : Nat) : Prop := ∀ (e : Ex) (f : Nat), e.right d = true → e.tame → f ≤ 7 → PureC 55 [.agg (exC e), .int f] (· = .str (e.text f))
abbrev shO (e : Ex) : Objs := [(1002, exO' e)]
abbrev shB (e : Ex) : Objs := [(1005, .box 125 [.clo (.func 108) [.box 1002 0]]), (1002, exO' e)]
theorem show1_any {d : Nat} (ih : ShowC d) (e : Ex) (ht : e.tame) (i f : Nat) (hi : i < e.args.length) (hr : e.args[i].right d = true) (hf : f ≤ 7) : ObC 108 [.d (.int i), .d (.int f), .box 1002 0] (shO e) [] (fun x o => x = .d (.str (e.args[i].text f)) ∧ o = shO e) := by
 have hc := ih e.args[i] f hr (tame_get ht hi) hf
 have hg := rows_get hi
 have hln := tame_len ht
 have hlen := rows_len e.args
 generalize e.args[i] = z at hg hc
 refine ob_enter Tryz.func108 rfl (by decide) _ Tryz.ntmps108 (le_ok rfl) rfl (fun w Pr β κ hE => ?_)
 dsimp only [slotsV, Nat.zero_add, Nat.reduceAdd]
 repeat' (first | (apply at_op (.indexAddr _ _ _); refine al_ixq hg ?_) | (apply at_call; refine k_call (hc) hE ?_; rintro _ rfl) | refine nx ?_ | (apply qr_move; refine r_move ?_) | (apply qr_assign; refine r_assign ?_) | (apply qr_ix; refine r_ix ?_) | (apply qr_load; refine r_load ?_) | (apply qr_faddr; refine r_faddr ?_))
 refine oret1 (shO e) (by rfl) rv (⟨rfl, rfl⟩) sb okx
theorem show2_any {d : Nat} (hd : d ≤ 12) (ih : ShowC d) (e : Ex) (ht : e.tame) (w : ByteArray) (hw : w.size ≤ 100) (x y : Ex) (ha : e.args = [x, y]) (hx : x.right d = true) (hy : y.right d = true) : ObC 109 [.d (.str w), .box 1005 0] (shB e) [] (fun z o => z = .d (.str (w ++ ⟨#[32, 40, 32]⟩ ++ x.text 0 ++ ⟨#[32, 44, 32]⟩ ++ y.text 0 ++ ⟨#[32, 41]⟩)) ∧ o = shB e) := by
 have h0 : 0 < e.args.length := by simp [ha]
 have h1 : 1 < e.args.length := by simp [ha]
 have tx := tame_get ht h0
 have ty := tame_get ht h1
 have c0 := show1_any ih e ht 0 0 h0 (by simp only [ha]; exact hx) (by omega)
 have c1 := show1_any ih e ht 1 0 h1 (by simp only [ha]; exact hy) (by omega)
 have ex : e.args[0] = x := by simp only [ha]; rfl
 have ey : e.args[1] = y := by simp only [ha]; rfl
 rw [ex] at c0 tx
 rw [ey] at c1 ty
 have zx := text_small hd hx tx 0
 have zy := text_small hd hy ty 0
 have l1 : ByteArray.size ⟨#[32, 40, 32]⟩ = 3 := rfl
 have l2 : ByteArray.size ⟨#[32, 44, 32]⟩ = 3 := rfl
 have l3 : ByteArray.size ⟨#[32, 41]⟩ = 2 := rfl
 have s1 := app_size w ⟨#[32, 40, 32]⟩
 have s2 := app_size (w ++ ⟨#[32, 40, 32]⟩) (x.text 0)
 have s3 := app_size (w ++ ⟨#[32, 40, 32]⟩ ++ x.text 0) ⟨#[32, 44, 32]⟩
 have s4 := app_size (w ++ ⟨#[32, 40, 32]⟩ ++ x.text 0 ++ ⟨#[32, 44, 32]⟩) (y.text 0)
 refine ob_enter Tryz.func109 rfl (by decide) _ Tryz.ntmps109 (le_ok rfl) rfl (fun w Pr β κ hE => ?_)
 dsimp only [slotsV, Nat.zero_add, Nat.reduceAdd]
 repeat' (first | refine nx ?_ | (apply qr_assign; refine r_assign ?_))
 refine aw_mixo ([(1005, .box 125 [.clo (.func 108) [.box 1002 0]])]) [(0, true), (1, true), (2, true), (6, true), (3, false), (4, true), (5, true), (7, false), (8, true), (9, true)] [10] (by kernel_rfl) (by kernel_rfl) (by kernel_rfl) (by decide) (by (repeat (first | exact obs_nil | (apply obs_cons; focus (first | rfl | (simp [find]; done)))))) ?_
 simp only [planned, tailed, List.filterMap_cons, List.filterMap_nil, List.getElem?_cons_zero, List.getElem?_cons_succ, Option.map_some]
 repeat' (first | apply am_nil | refine m_skip ?_ | refine n_skip ?_ | (apply at_mcall; refine m_clocall2 [(1002, 1002)] (c0) hE ?_; rintro _ _ ⟨rfl, rfl⟩; clear c0 <;> (intro _ _ h1 h2; simp only [renEqs, Nat.reduceBEq, renL_app, renL_ds, renL_und] at h1 h2; subst h1 h2; (try dsimp only [flatV, flat, D.plain, D.plainL]))) | (apply at_mcall; refine m_clocall2 [(1002, 1002)] (c1) hE ?_; rintro _ _ ⟨rfl, rfl⟩ <;> (intro _ _ h1 h2; simp only [renEqs, Nat.reduceBEq, renL_app, renL_ds, renL_und] at h1 h2; subst h1 h2; (try dsimp only [flatV, flat, D.plain, D.plainL]))) | (apply qm_move; refine m_move ?_) | (apply qm_add; refine m_add ?_) | (apply qm_load; refine m_load ?_) | (refine am_split rfl rfl (fun hb => ?_) (fun hb => ?_) <;> ((try have hq := dX hb); (try (exfalso; omega)))))
 repeat' (first | refine nx ?_ | (apply qr_move; refine r_move ?_) | (apply qr_assign; refine r_assign ?_) | (apply qr_add; refine r_add ?_) | (apply qr_load; refine r_load ?_))
 refine oret1 (shB e) (by rfl) rv (⟨rfl, rfl⟩) sb okx
theorem show3_any (e : Ex) (s : ByteArray) (a b : Int) : ObC 111 [.d (.agg [.str s, .int a, .int b]), .box 1002 0] (shO e) [] (fun x o => x = .d (.bool (decide (a = e.op))) ∧ o = shO e) := by
 refine ob_enter Tryz.func111 rfl (by decide) _ Tryz.ntmps111 (le_ok rfl) rfl (fun w Pr β κ hE => ?_)
 dsimp only [slotsV, Nat.zero_add, Nat.reduceAdd]
 repeat' (first | refine nx ?_ | (apply qr_assign; refine r_assign ?_) | (apply qr_eql; refine r_eql ?_) | (apply qr_load; refine r_load ?_) | (apply qr_faddr; refine r_faddr ?_) | (apply qr_boxed; refine r_boxed ?_))
 refine oret1 (shO e) (by rfl) rv (⟨rfl, rfl⟩) sb okx
theorem sindex (e : Ex) (hop : (opInfo e.op).isSome = true) : ObC 92 [.d (.list 3 (opsL.map opC)), .clo (.func 111) [.box 1002 0]] (shO e) [] (fun x o => (∃ (i : Nat) (q : ByteArray × Int × Int), x = .d (.int i) ∧ opsL[i]? = some q ∧ q.2.1 = e.op) ∧ o = shO e) := by
 refine ob_enter Tryz.func92 rfl (by decide) _ Tryz.ntmps92 (le_ok rfl) rfl (fun w Pr β κ hE => ?_)
 dsimp only [slotsV, Nat.zero_add, Nat.reduceAdd]
 repeat' (first | refine nx ?_ | (apply aq_block_y; decide) | (apply qr_move; refine r_move ?_) | (apply qr_assign; refine r_assign ?_) | (apply at_cond; first | refine c_t ?_ | refine c_f ?_ | (refine aw_cond rfl (fun hb => ?_) (fun hb => ?_) <;> ((try have hq := dX hb); (try (exfalso; omega))))) | (apply qr_lss; refine r_lss ?_) | (apply qr_add; refine r_add ?_) | (apply qr_len; refine r_len ?_) | (apply qr_ix; refine r_ix ?_) | (apply qr_load; refine r_load ?_))
 refine aw_lp (fun N sl ob => ∃ i : Nat, N = 8 - i ∧ i ≤ 8 ∧ (∀ q ∈ opsL.take i, q.2.1 ≠ e.op) ∧ sl = [(8, .d (.int i)), (7, .d (.int 8)), (1, .clo (.func 111) [.box 1002 0]), (0, .d (.list 3 (opsL.map opC)))] ∧ ob = shO e) (⟨0, rfl, Nat.zero_le _, by simp, rfl, rfl⟩) ?_
 rintro N sl ob ⟨i, rfl, hi, hs, rfl, rfl⟩
 by_cases hlt : i < 8
 ·have hl8 : i < opsL.length := hlt
  obtain ⟨q, hx⟩ : ∃ q, opsL[i]? = some q := ⟨_, List.getElem?_eq_getElem hl8⟩
  have hg : (opsL.map opC)[i]? = some (opC q) := by rw [List.getElem?_map, hx]; rfl
  have hc := show3_any e q.1 q.2.1 q.2.2
  by_cases hqe : q.2.1 = e.op
  ·rw [decide_eq_true hqe] at hc
   repeat' (first | (apply at_op (.indexAddr _ _ _); refine al_ixq hg ?_) | (apply at_call; refine k_clocall1 [(1002, 1002)] (hc) hE ?_; rintro _ _ ⟨rfl, rfl⟩ <;> (intro _ _ h1 h2; simp only [renEqs, Nat.reduceBEq, renL_app, renL_ds, renL_und] at h1 h2; subst h1 h2)) | refine nx ?_ | (apply aq_block_y; decide) | (apply qr_move; refine r_move ?_) | (apply qr_assign; refine r_assign ?_) | (apply at_cond; first | refine c_t ?_ | refine c_f ?_ | (refine aw_cond rfl (fun hb => ?_) (fun hb => ?_) <;> ((try have hq := dX hb); (try (exfalso; omega))))) | (apply qr_lss; refine r_lss ?_) | (apply qr_add; refine r_add ?_) | (apply qr_len; refine r_len ?_) | (apply qr_ix; refine r_ix ?_) | (apply qr_load; refine r_load ?_))
   refine oret1 (shO e) (by rfl) rv (⟨⟨i, q, rfl, hx, hqe⟩, rfl⟩) sb okx
  ·rw [decide_eq_false hqe] at hc
   have hnext : ∀ p ∈ opsL.take (i + 1), p.2.1 ≠ e.op := fun p hp => by
    rw [List.take_add_one, hx] at hp
    rcases List.mem_append.1 hp with hp | hp
    ·exact hs p hp
    ·simp at hp
     subst hp
     exact hqe
   repeat' (first | (apply at_op (.indexAddr _ _ _); refine al_ixq hg ?_) | (apply at_call; refine k_clocall1 [(1002, 1002)] (hc) hE ?_; rintro _ _ ⟨rfl, rfl⟩ <;> (intro _ _ h1 h2; simp only [renEqs, Nat.reduceBEq, renL_app, renL_ds, renL_und] at h1 h2; subst h1 h2)) | refine nx ?_ | (apply aq_block_y; decide) | (apply qr_move; refine r_move ?_) | (apply qr_assign; refine r_assign ?_) | (apply at_cond; first | refine c_t ?_ | refine c_f ?_ | (refine aw_cond rfl (fun hb => ?_) (fun hb => ?_) <;> ((try have hq := dX hb); (try (exfalso; omega))))) | (apply qr_lss; refine r_lss ?_) | (apply qr_add; refine r_add ?_) | (apply qr_len; refine r_len ?_) | (apply qr_ix; refine r_ix ?_) | (apply qr_load; refine r_load ?_))
   refine aq_rd (⟨i + 1, rfl, by omega, hnext, rfl, rfl⟩) (by omega)
 ·have hno := opInfo_none (fun q hq => hs q (by rw [List.take_of_length_le (show opsL.length ≤ i by show 8 ≤ i; omega)]; exact hq))
  rw [hno] at hop
  cases hop
end Go.Proofs.YtedoeogopmenpaaGreatDoor
end
section
set_option linter.unusedSimpArgs false
set_option linter.unusedVariables false
namespace Go.Proofs.YtedoeogopmenpaaGreatDoor
open Go.RowKit
section
variable {d : Nat}
theorem show_num (n u : Int) (hn : numRight n u ⟨#[]⟩ = true) (f fm : Nat) (hf : f ≤ fm) (hfm : PureC 107 [.agg (exC (.mk 0 n u ⟨#[]⟩ []))] (· = .int fm)) : PureC 55 [.agg (exC (.mk 0 n u ⟨#[]⟩ [])), .int f] (· = .str ((Ex.mk 0 n u ⟨#[]⟩ []).text 0)) := by
 have hr := numRight_rng hn
 have hnu := numtext_any n u ⟨#[]⟩ [] hr.1 hr.2.1
 dsimp only [exC, Ex.op, Ex.num, Ex.unit, Ex.str, Ex.args] at hfm hnu ⊢
 have q0 : decide ((fm : Int) < f) = false := decide_eq_false (by omega)
 refine pure_enter Tryz.func55 rfl (by decide) _ Tryz.ntmps55 (le_ok rfl) (fun w Pr hE => ?_)
 dsimp only [slotsOf, Nat.zero_add, Nat.reduceAdd]
 repeat' (first | (apply at_call; refine k_call (hfm) hE ?_; rintro _ rfl) | (apply at_op (.makeFunc (.func 108) _ _); refine al_y (y_clo (zs := [.box 2 0]) rfl) (lt_ok rfl) ?_) | (apply at_op (.makeFunc (.func 109) _ _); refine al_y (y_clo (zs := [.box 5 0]) rfl) (lt_ok rfl) ?_) | (apply at_op (.store _ _ _); refine al_step (st_store (v := .clo (.func 108) [.box 2 0]) (n := [.clo (.func 108) [.box 2 0]]) (l' := [.clo (.func 108) [.box 2 0]]) rfl rfl rfl nofun rfl (by intro z hz; rw [List.mem_singleton] at hz; subst hz; rfl) (.inl ⟨rfl, rfl⟩) rfl (le_ok rfl) rfl) rfl ?_) | (apply at_call; refine k_call (hnu) hE ?_; rintro _ rfl) | refine nx ?_ | (apply aq_block_y; decide) | (apply qr_move; refine r_move ?_) | (apply qr_assign; refine r_assign ?_) | (apply at_cond; first | refine c_t ?_ | refine c_f ?_ | (refine aw_cond rfl (fun hb => ?_) (fun hb => ?_) <;> ((try have hq := dX hb); (try (exfalso; omega))))) | (apply qr_lss; refine r_lss ?_) | (apply qr_eql; refine r_eql ?_) | (apply qr_func; refine r_func ?_) | (apply qr_load; refine r_load ?_) | (apply qr_faddr; refine r_faddr ?_) | (apply qr_alloc; refine r_alloc ?_) | (apply qr_boxed; refine r_boxed ?_) | (apply qr_store; refine r_store ?_))
 refine rt1 ?_
 rfl
theorem show_leaf (op : Int) (ho : op = 1 ∨ op = 2 ∨ op = 3) (s : ByteArray) (hs : s.size ≤ 100000) (f fm : Nat) (hf : f ≤ fm) (hfm : PureC 107 [.agg (exC (.mk op 0 0 s []))] (· = .int fm)) : PureC 55 [.agg (exC (.mk op 0 0 s [])), .int f] (· = .str ((Ex.mk op 0 0 s []).text 0)) := by
 rw [text_leaf ho]
 dsimp only [exC, Ex.op, Ex.num, Ex.unit, Ex.str, Ex.args] at hfm ⊢
 have q0 : decide ((fm : Int) < f) = false := decide_eq_false (by omega)
 have l1 : ByteArray.size ⟨#[116, 114, 105, 112, 32]⟩ = 5 := rfl
 have l2 : ByteArray.size ⟨#[109, 101, 109, 98, 101, 114, 32]⟩ = 7 := rfl
 rcases ho with rfl | rfl | rfl
 ·skip
  refine pure_enter Tryz.func55 rfl (by decide) _ Tryz.ntmps55 (le_ok rfl) (fun w Pr hE => ?_)
  dsimp only [slotsOf, Nat.zero_add, Nat.reduceAdd]
  repeat' (first | (apply at_call; refine k_call (hfm) hE ?_; rintro _ rfl) | (apply at_op (.makeFunc (.func 108) _ _); refine al_y (y_clo (zs := [.box 2 0]) rfl) (lt_ok rfl) ?_) | (apply at_op (.makeFunc (.func 109) _ _); refine al_y (y_clo (zs := [.box 5 0]) rfl) (lt_ok rfl) ?_) | (apply at_op (.store _ _ _); refine al_step (st_store (v := .clo (.func 108) [.box 2 0]) (n := [.clo (.func 108) [.box 2 0]]) (l' := [.clo (.func 108) [.box 2 0]]) rfl rfl rfl nofun rfl (by intro z hz; rw [List.mem_singleton] at hz; subst hz; rfl) (.inl ⟨rfl, rfl⟩) rfl (le_ok rfl) rfl) rfl ?_) | refine nx ?_ | (apply aq_block_y; decide) | (apply qr_move; refine r_move ?_) | (apply qr_assign; refine r_assign ?_) | (apply at_cond; first | refine c_t ?_ | refine c_f ?_ | (refine aw_cond rfl (fun hb => ?_) (fun hb => ?_) <;> ((try have hq := dX hb); (try (exfalso; omega))))) | (apply qr_lss; refine r_lss ?_) | (apply qr_eql; refine r_eql ?_) | (apply qr_func; refine r_func ?_) | (apply qr_load; refine r_load ?_) | (apply qr_faddr; refine r_faddr ?_) | (apply qr_alloc; refine r_alloc ?_) | (apply qr_boxed; refine r_boxed ?_) | (apply qr_store; refine r_store ?_))
  refine rt1 ?_
  rfl
 ·skip
  refine pure_enter Tryz.func55 rfl (by decide) _ Tryz.ntmps55 (le_ok rfl) (fun w Pr hE => ?_)
  dsimp only [slotsOf, Nat.zero_add, Nat.reduceAdd]
  repeat' (first | (apply at_call; refine k_call (hfm) hE ?_; rintro _ rfl) | (apply at_op (.makeFunc (.func 108) _ _); refine al_y (y_clo (zs := [.box 2 0]) rfl) (lt_ok rfl) ?_) | (apply at_op (.makeFunc (.func 109) _ _); refine al_y (y_clo (zs := [.box 5 0]) rfl) (lt_ok rfl) ?_) | (apply at_op (.store _ _ _); refine al_step (st_store (v := .clo (.func 108) [.box 2 0]) (n := [.clo (.func 108) [.box 2 0]]) (l' := [.clo (.func 108) [.box 2 0]]) rfl rfl rfl nofun rfl (by intro z hz; rw [List.mem_singleton] at hz; subst hz; rfl) (.inl ⟨rfl, rfl⟩) rfl (le_ok rfl) rfl) rfl ?_) | refine nx ?_ | (apply aq_block_y; decide) | (apply qr_move; refine r_move ?_) | (apply qr_assign; refine r_assign ?_) | (apply at_cond; first | refine c_t ?_ | refine c_f ?_ | (refine aw_cond rfl (fun hb => ?_) (fun hb => ?_) <;> ((try have hq := dX hb); (try (exfalso; omega))))) | (apply qr_lss; refine r_lss ?_) | (apply qr_eql; refine r_eql ?_) | (apply qr_add; refine r_add ?_) | (apply qr_func; refine r_func ?_) | (apply qr_load; refine r_load ?_) | (apply qr_faddr; refine r_faddr ?_) | (apply qr_alloc; refine r_alloc ?_) | (apply qr_boxed; refine r_boxed ?_) | (apply qr_store; refine r_store ?_))
  refine rt1 ?_
  rfl
 ·skip
  refine pure_enter Tryz.func55 rfl (by decide) _ Tryz.ntmps55 (le_ok rfl) (fun w Pr hE => ?_)
  dsimp only [slotsOf, Nat.zero_add, Nat.reduceAdd]
  repeat' (first | (apply at_call; refine k_call (hfm) hE ?_; rintro _ rfl) | (apply at_op (.makeFunc (.func 108) _ _); refine al_y (y_clo (zs := [.box 2 0]) rfl) (lt_ok rfl) ?_) | (apply at_op (.makeFunc (.func 109) _ _); refine al_y (y_clo (zs := [.box 5 0]) rfl) (lt_ok rfl) ?_) | (apply at_op (.store _ _ _); refine al_step (st_store (v := .clo (.func 108) [.box 2 0]) (n := [.clo (.func 108) [.box 2 0]]) (l' := [.clo (.func 108) [.box 2 0]]) rfl rfl rfl nofun rfl (by intro z hz; rw [List.mem_singleton] at hz; subst hz; rfl) (.inl ⟨rfl, rfl⟩) rfl (le_ok rfl) rfl) rfl ?_) | refine nx ?_ | (apply aq_block_y; decide) | (apply qr_move; refine r_move ?_) | (apply qr_assign; refine r_assign ?_) | (apply at_cond; first | refine c_t ?_ | refine c_f ?_ | (refine aw_cond rfl (fun hb => ?_) (fun hb => ?_) <;> ((try have hq := dX hb); (try (exfalso; omega))))) | (apply qr_lss; refine r_lss ?_) | (apply qr_eql; refine r_eql ?_) | (apply qr_add; refine r_add ?_) | (apply qr_func; refine r_func ?_) | (apply qr_load; refine r_load ?_) | (apply qr_faddr; refine r_faddr ?_) | (apply qr_alloc; refine r_alloc ?_) | (apply qr_boxed; refine r_boxed ?_) | (apply qr_store; refine r_store ?_))
  refine rt1 ?_
  rfl
theorem show_not (hd : d ≤ 12) (ih : ShowC d) (x : Ex) (ht : (Ex.mk 12 0 0 ⟨#[]⟩ [x]).tame) (hx : x.right d = true) (f fm : Nat) (hf : f ≤ fm) (hfm : PureC 107 [.agg (exC (.mk 12 0 0 ⟨#[]⟩ [x]))] (· = .int fm)) : PureC 55 [.agg (exC (.mk 12 0 0 ⟨#[]⟩ [x])), .int f] (· = .str ((Ex.mk 12 0 0 ⟨#[]⟩ [x]).text 0)) := by
 have c0 : ObC 108 [.d (.int 0), .d (.int 3), .box 1002 0] (shO (.mk 12 0 0 ⟨#[]⟩ [x])) [] (fun y o => y = .d (.str (x.text 3)) ∧ o = shO (.mk 12 0 0 ⟨#[]⟩ [x])) := show1_any ih (.mk 12 0 0 ⟨#[]⟩ [x]) ht 0 3 (Nat.zero_lt_one) hx (by omega)
 have tx := tame_get ht (i := 0) Nat.zero_lt_one
 have zx := text_small hd hx tx 3
 rw [text_not hx]
 dsimp only [exC, Ex.op, Ex.num, Ex.unit, Ex.str, Ex.args] at hfm ⊢
 have q0 : decide ((fm : Int) < f) = false := decide_eq_false (by omega)
 have l1 : ByteArray.size ⟨#[110, 111, 116, 32]⟩ = 4 := rfl
 refine pure_enter Tryz.func55 rfl (by decide) _ Tryz.ntmps55 (le_ok rfl) (fun w Pr hE => ?_)
 dsimp only [slotsOf, Nat.zero_add, Nat.reduceAdd]
 repeat' (first | (apply at_call; refine k_call (hfm) hE ?_; rintro _ rfl) | (apply at_op (.makeFunc (.func 108) _ _); refine al_y (y_clo (zs := [.box 2 0]) rfl) (lt_ok rfl) ?_) | (apply at_op (.makeFunc (.func 109) _ _); refine al_y (y_clo (zs := [.box 5 0]) rfl) (lt_ok rfl) ?_) | (apply at_op (.store _ _ _); refine al_step (st_store (v := .clo (.func 108) [.box 2 0]) (n := [.clo (.func 108) [.box 2 0]]) (l' := [.clo (.func 108) [.box 2 0]]) rfl rfl rfl nofun rfl (by intro z hz; rw [List.mem_singleton] at hz; subst hz; rfl) (.inl ⟨rfl, rfl⟩) rfl (le_ok rfl) rfl) rfl ?_) | (apply at_call; refine k_clocall2 [(1002, 2)] (c0) hE ?_; rintro _ _ ⟨rfl, rfl⟩ <;> (intro _ _ h1 h2; simp only [renEqs, Nat.reduceBEq, renL_app, renL_ds, renL_und] at h1 h2; subst h1 h2)) | refine nx ?_ | (apply aq_block_y; decide) | (apply qr_move; refine r_move ?_) | (apply qr_assign; refine r_assign ?_) | (apply at_cond; first | refine c_t ?_ | refine c_f ?_ | (refine aw_cond rfl (fun hb => ?_) (fun hb => ?_) <;> ((try have hq := dX hb); (try (exfalso; omega))))) | (apply qr_lss; refine r_lss ?_) | (apply qr_eql; refine r_eql ?_) | (apply qr_add; refine r_add ?_) | (apply qr_func; refine r_func ?_) | (apply qr_load; refine r_load ?_) | (apply qr_faddr; refine r_faddr ?_) | (apply qr_alloc; refine r_alloc ?_) | (apply qr_boxed; refine r_boxed ?_) | (apply qr_store; refine r_store ?_))
 refine rt1 ?_
 rfl
theorem show_if (hd : d ≤ 12) (ih : ShowC d) (x y z : Ex) (ht : (Ex.mk 15 0 0 ⟨#[]⟩ [x, y, z]).tame) (hx : x.right d = true) (hy : y.right d = true) (hz : z.right d = true) (f fm : Nat) (hf : f ≤ fm) (hfm : PureC 107 [.agg (exC (.mk 15 0 0 ⟨#[]⟩ [x, y, z]))] (· = .int fm)) : PureC 55 [.agg (exC (.mk 15 0 0 ⟨#[]⟩ [x, y, z])), .int f] (· = .str ((Ex.mk 15 0 0 ⟨#[]⟩ [x, y, z]).text 0)) := by
 have c0 : ObC 108 [.d (.int 0), .d (.int 0), .box 1002 0] (shO (.mk 15 0 0 ⟨#[]⟩ [x, y, z])) [] (fun u o => u = .d (.str (x.text 0)) ∧ o = shO (.mk 15 0 0 ⟨#[]⟩ [x, y, z])) := show1_any ih (.mk 15 0 0 ⟨#[]⟩ [x, y, z]) ht 0 0 (show 0 < 3 by omega) hx (by omega)
 have c1 : ObC 108 [.d (.int 1), .d (.int 0), .box 1002 0] (shO (.mk 15 0 0 ⟨#[]⟩ [x, y, z])) [] (fun u o => u = .d (.str (y.text 0)) ∧ o = shO (.mk 15 0 0 ⟨#[]⟩ [x, y, z])) := show1_any ih (.mk 15 0 0 ⟨#[]⟩ [x, y, z]) ht 1 0 (show 1 < 3 by omega) hy (by omega)
 have c2 : ObC 108 [.d (.int 2), .d (.int 0), .box 1002 0] (shO (.mk 15 0 0 ⟨#[]⟩ [x, y, z])) [] (fun u o => u = .d (.str (z.text 0)) ∧ o = shO (.mk 15 0 0 ⟨#[]⟩ [x, y, z])) := show1_any ih (.mk 15 0 0 ⟨#[]⟩ [x, y, z]) ht 2 0 (show 2 < 3 by omega) hz (by omega)
 have zx := text_small hd hx ht.2.2.1 0
 have zy := text_small hd hy ht.2.2.2.1 0
 have zz := text_small hd hz ht.2.2.2.2.1 0
 rw [text_if hx hy hz]
 have l1 : ByteArray.size ⟨#[105, 102, 32]⟩ = 3 := rfl
 have l2 : ByteArray.size ⟨#[32, 116, 104, 101, 110, 32]⟩ = 6 := rfl
 have l3 : ByteArray.size ⟨#[32, 101, 108, 115, 101, 32]⟩ = 6 := rfl
 have s1 := app_size ⟨#[105, 102, 32]⟩ (x.text 0)
 have s2 := app_size (⟨#[105, 102, 32]⟩ ++ x.text 0) ⟨#[32, 116, 104, 101, 110, 32]⟩
 have s3 := app_size (⟨#[105, 102, 32]⟩ ++ x.text 0 ++ ⟨#[32, 116, 104, 101, 110, 32]⟩) (y.text 0)
 have s4 := app_size (⟨#[105, 102, 32]⟩ ++ x.text 0 ++ ⟨#[32, 116, 104, 101, 110, 32]⟩ ++ y.text 0) ⟨#[32, 101, 108, 115, 101, 32]⟩
 dsimp only [exC, Ex.op, Ex.num, Ex.unit, Ex.str, Ex.args] at hfm ⊢
 have q0 : decide ((fm : Int) < f) = false := decide_eq_false (by omega)
 refine pure_enter Tryz.func55 rfl (by decide) _ Tryz.ntmps55 (le_ok rfl) (fun w Pr hE => ?_)
 dsimp only [slotsOf, Nat.zero_add, Nat.reduceAdd]
 repeat' (first | (apply at_call; refine k_call (hfm) hE ?_; rintro _ rfl) | (apply at_op (.makeFunc (.func 108) _ _); refine al_y (y_clo (zs := [.box 2 0]) rfl) (lt_ok rfl) ?_) | (apply at_op (.makeFunc (.func 109) _ _); refine al_y (y_clo (zs := [.box 5 0]) rfl) (lt_ok rfl) ?_) | (apply at_op (.store _ _ _); refine al_step (st_store (v := .clo (.func 108) [.box 2 0]) (n := [.clo (.func 108) [.box 2 0]]) (l' := [.clo (.func 108) [.box 2 0]]) rfl rfl rfl nofun rfl (by intro z hz; rw [List.mem_singleton] at hz; subst hz; rfl) (.inl ⟨rfl, rfl⟩) rfl (le_ok rfl) rfl) rfl ?_) | refine nx ?_ | (apply aq_block_y; decide) | (apply qr_move; refine r_move ?_) | (apply qr_assign; refine r_assign ?_) | (apply at_cond; first | refine c_t ?_ | refine c_f ?_ | (refine aw_cond rfl (fun hb => ?_) (fun hb => ?_) <;> ((try have hq := dX hb); (try (exfalso; omega))))) | (apply qr_lss; refine r_lss ?_) | (apply qr_eql; refine r_eql ?_) | (apply qr_func; refine r_func ?_) | (apply qr_load; refine r_load ?_) | (apply qr_faddr; refine r_faddr ?_) | (apply qr_alloc; refine r_alloc ?_) | (apply qr_boxed; refine r_boxed ?_) | (apply qr_store; refine r_store ?_))
 refine aw_mixo ([(5, .box 125 [.clo (.func 108) [.box 2 0]])]) [(0, true), (4, true), (8, true), (1, false), (2, true), (3, true), (5, false), (6, true), (7, true), (9, false), (10, true)] [11] (by kernel_rfl) (by kernel_rfl) (by kernel_rfl) (by decide) (by (repeat (first | exact obs_nil | (apply obs_cons; focus (first | rfl | (simp [find]; done)))))) ?_
 simp only [planned, tailed, List.filterMap_cons, List.filterMap_nil, List.getElem?_cons_zero, List.getElem?_cons_succ, Option.map_some]
 repeat' (first | apply am_nil | refine m_skip ?_ | refine n_skip ?_ | (apply at_mcall; refine m_clocall2 [(1002, 2)] (c0) hE ?_; rintro _ _ ⟨rfl, rfl⟩; clear c0 <;> (intro _ _ h1 h2; simp only [renEqs, Nat.reduceBEq, renL_app, renL_ds, renL_und] at h1 h2; subst h1 h2; (try dsimp only [flatV, flat, D.plain, D.plainL]))) | (apply at_mcall; refine m_clocall2 [(1002, 2)] (c1) hE ?_; rintro _ _ ⟨rfl, rfl⟩; clear c1 <;> (intro _ _ h1 h2; simp only [renEqs, Nat.reduceBEq, renL_app, renL_ds, renL_und] at h1 h2; subst h1 h2; (try dsimp only [flatV, flat, D.plain, D.plainL]))) | (apply at_mcall; refine m_clocall2 [(1002, 2)] (c2) hE ?_; rintro _ _ ⟨rfl, rfl⟩ <;> (intro _ _ h1 h2; simp only [renEqs, Nat.reduceBEq, renL_app, renL_ds, renL_und] at h1 h2; subst h1 h2; (try dsimp only [flatV, flat, D.plain, D.plainL]))) | (apply qm_add; refine m_add ?_) | (apply qm_load; refine m_load ?_) | (refine am_split rfl rfl (fun hb => ?_) (fun hb => ?_) <;> ((try have hq := dX hb); (try (exfalso; omega)))))
 repeat' (first | refine nx ?_ | (apply aq_block_y; decide) | (apply qr_assign; refine r_assign ?_) | (apply at_cond; first | refine c_t ?_ | refine c_f ?_ | (refine aw_cond rfl (fun hb => ?_) (fun hb => ?_) <;> ((try have hq := dX hb); (try (exfalso; omega))))) | (apply qr_add; refine r_add ?_) | (apply qr_load; refine r_load ?_))
 refine rt1 ?_
 rfl
theorem show_call (hd : d ≤ 12) (ih : ShowC d) (op : Int) (ho : op = 8 ∨ op = 9) (x y : Ex) (ht : (two op x y).tame) (hx : x.right d = true) (hy : y.right d = true) (f fm : Nat) (hf : f ≤ fm) (hfm : PureC 107 [.agg (exC (two op x y))] (· = .int fm)) : PureC 55 [.agg (exC (two op x y)), .int f] (· = .str ((two op x y).text 0)) := by
 have c0 := show2_any hd ih (two op x y) ht w_min (by decide) x y rfl hx hy
 have c1 := show2_any hd ih (two op x y) ht w_max (by decide) x y rfl hx hy
 rw [text_call ho hx hy]
 dsimp only [two, exC, Ex.op, Ex.num, Ex.unit, Ex.str, Ex.args] at hfm ⊢
 have q0 : decide ((fm : Int) < f) = false := decide_eq_false (by omega)
 rcases ho with rfl | rfl
 ·skip
  refine pure_enter Tryz.func55 rfl (by decide) _ Tryz.ntmps55 (le_ok rfl) (fun w Pr hE => ?_)
  dsimp only [slotsOf, Nat.zero_add, Nat.reduceAdd]
  repeat' (first | (apply at_call; refine k_call (hfm) hE ?_; rintro _ rfl) | (apply at_op (.makeFunc (.func 108) _ _); refine al_y (y_clo (zs := [.box 2 0]) rfl) (lt_ok rfl) ?_) | (apply at_op (.makeFunc (.func 109) _ _); refine al_y (y_clo (zs := [.box 5 0]) rfl) (lt_ok rfl) ?_) | (apply at_op (.store _ _ _); refine al_step (st_store (v := .clo (.func 108) [.box 2 0]) (n := [.clo (.func 108) [.box 2 0]]) (l' := [.clo (.func 108) [.box 2 0]]) rfl rfl rfl nofun rfl (by intro z hz; rw [List.mem_singleton] at hz; subst hz; rfl) (.inl ⟨rfl, rfl⟩) rfl (le_ok rfl) rfl) rfl ?_) | (apply at_call; refine k_clocall1 [(1005, 5), (1002, 2)] (c0) hE ?_; rintro _ _ ⟨rfl, rfl⟩ <;> (intro _ _ h1 h2; simp only [renEqs, Nat.reduceBEq, renL_app, renL_ds, renL_und] at h1 h2; subst h1 h2)) | refine nx ?_ | (apply aq_block_y; decide) | (apply qr_move; refine r_move ?_) | (apply qr_assign; refine r_assign ?_) | (apply at_cond; first | refine c_t ?_ | refine c_f ?_ | (refine aw_cond rfl (fun hb => ?_) (fun hb => ?_) <;> ((try have hq := dX hb); (try (exfalso; omega))))) | (apply qr_lss; refine r_lss ?_) | (apply qr_eql; refine r_eql ?_) | (apply qr_func; refine r_func ?_) | (apply qr_load; refine r_load ?_) | (apply qr_faddr; refine r_faddr ?_) | (apply qr_alloc; refine r_alloc ?_) | (apply qr_boxed; refine r_boxed ?_) | (apply qr_store; refine r_store ?_))
  refine rt1 ?_
  rfl
 ·skip
  refine pure_enter Tryz.func55 rfl (by decide) _ Tryz.ntmps55 (le_ok rfl) (fun w Pr hE => ?_)
  dsimp only [slotsOf, Nat.zero_add, Nat.reduceAdd]
  repeat' (first | (apply at_call; refine k_call (hfm) hE ?_; rintro _ rfl) | (apply at_op (.makeFunc (.func 108) _ _); refine al_y (y_clo (zs := [.box 2 0]) rfl) (lt_ok rfl) ?_) | (apply at_op (.makeFunc (.func 109) _ _); refine al_y (y_clo (zs := [.box 5 0]) rfl) (lt_ok rfl) ?_) | (apply at_op (.store _ _ _); refine al_step (st_store (v := .clo (.func 108) [.box 2 0]) (n := [.clo (.func 108) [.box 2 0]]) (l' := [.clo (.func 108) [.box 2 0]]) rfl rfl rfl nofun rfl (by intro z hz; rw [List.mem_singleton] at hz; subst hz; rfl) (.inl ⟨rfl, rfl⟩) rfl (le_ok rfl) rfl) rfl ?_) | (apply at_call; refine k_clocall1 [(1005, 5), (1002, 2)] (c1) hE ?_; rintro _ _ ⟨rfl, rfl⟩ <;> (intro _ _ h1 h2; simp only [renEqs, Nat.reduceBEq, renL_app, renL_ds, renL_und] at h1 h2; subst h1 h2)) | refine nx ?_ | (apply aq_block_y; decide) | (apply qr_move; refine r_move ?_) | (apply qr_assign; refine r_assign ?_) | (apply at_cond; first | refine c_t ?_ | refine c_f ?_ | (refine aw_cond rfl (fun hb => ?_) (fun hb => ?_) <;> ((try have hq := dX hb); (try (exfalso; omega))))) | (apply qr_lss; refine r_lss ?_) | (apply qr_eql; refine r_eql ?_) | (apply qr_func; refine r_func ?_) | (apply qr_load; refine r_load ?_) | (apply qr_faddr; refine r_faddr ?_) | (apply qr_alloc; refine r_alloc ?_) | (apply qr_boxed; refine r_boxed ?_) | (apply qr_store; refine r_store ?_))
  refine rt1 ?_
  rfl
end
end Go.Proofs.YtedoeogopmenpaaGreatDoor
end
