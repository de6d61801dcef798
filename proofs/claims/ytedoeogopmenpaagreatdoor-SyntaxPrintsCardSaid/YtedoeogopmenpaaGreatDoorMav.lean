/-
  Conditions: none.
-/
import Derived.Test.YtedoeogopmenpaaGreatDoorMau
set_option maxHeartbeats 16000000
set_option maxRecDepth 20000
section
set_option linter.unusedSimpArgs false
set_option linter.unusedVariables false
namespace Go.Proofs.YtedoeogopmenpaaGreatDoor
open Go.RowKit
theorem leaf_num (n u : Int) (s : ByteArray) (a : List Ex) (h0 : 0 ≤ n) (h1 : n ≤ 1000000000000000) : PureC 114 [.agg (exC (.mk 0 n u s a))] (· = .str ((Ex.mk 0 n u s a).text 0)) := by
 rw [text_num]
 dsimp only [exC, Ex.op, Ex.num, Ex.unit, Ex.str, Ex.args]
 have hit := rdecimal_any n h0 (by omega)
 have hz := itoaB_size h0 (by omega)
 have l1 : ByteArray.size ⟨#[32, 99, 101, 110, 116, 115]⟩ = 6 := rfl
 have l2 : ByteArray.size ⟨#[32, 109, 105, 110, 117, 116, 101, 115]⟩ = 8 := rfl
 by_cases hu3 : u = 3
 ·rw [if_pos hu3]
  have q1 : decide (u = 3) = true := decide_eq_true hu3
  by_cases hn : n = 1
  ·rw [if_pos hn]
   have q2 : decide (n = 1) = true := decide_eq_true hn
   refine pure_enter Tryz.func114 rfl (by decide) _ Tryz.ntmps114 (le_ok rfl) (fun w Pr hE => ?_)
   dsimp only [slotsOf, Nat.zero_add, Nat.reduceAdd]
   repeat' (first | refine nx ?_ | (apply aq_block_y; decide) | (apply qr_assign; refine r_assign ?_) | (apply at_cond; first | refine c_t ?_ | refine c_f ?_ | (refine aw_cond rfl (fun hb => ?_) (fun hb => ?_) <;> ((try have hq := dX hb); (try (exfalso; omega))))) | (apply qr_eql; refine r_eql ?_) | (apply qr_load; refine r_load ?_) | (apply qr_faddr; refine r_faddr ?_) | (apply qr_boxed; refine r_boxed ?_))
   refine rt1 ?_
   rfl
  ·rw [if_neg hn]
   have q2 : decide (n = 1) = false := decide_eq_false hn
   refine pure_enter Tryz.func114 rfl (by decide) _ Tryz.ntmps114 (le_ok rfl) (fun w Pr hE => ?_)
   dsimp only [slotsOf, Nat.zero_add, Nat.reduceAdd]
   repeat' (first | refine nx ?_ | (apply aq_block_y; decide) | (apply qr_assign; refine r_assign ?_) | (apply at_cond; first | refine c_t ?_ | refine c_f ?_ | (refine aw_cond rfl (fun hb => ?_) (fun hb => ?_) <;> ((try have hq := dX hb); (try (exfalso; omega))))) | (apply qr_eql; refine r_eql ?_) | (apply qr_load; refine r_load ?_) | (apply qr_faddr; refine r_faddr ?_) | (apply qr_boxed; refine r_boxed ?_))
   refine rt1 ?_
   rfl
 rw [if_neg hu3]
 have q1 : decide (u = 3) = false := decide_eq_false hu3
 by_cases hu1 : u = 1
 ·rw [if_pos hu1]
  have q2 : decide (u = 1) = true := decide_eq_true hu1
  refine pure_enter Tryz.func114 rfl (by decide) _ Tryz.ntmps114 (le_ok rfl) (fun w Pr hE => ?_)
  dsimp only [slotsOf, Nat.zero_add, Nat.reduceAdd]
  repeat' (first | (apply at_call; refine k_call (hit) hE ?_; rintro _ rfl) | refine nx ?_ | (apply aq_block_y; decide) | (apply qr_assign; refine r_assign ?_) | (apply at_cond; first | refine c_t ?_ | refine c_f ?_ | (refine aw_cond rfl (fun hb => ?_) (fun hb => ?_) <;> ((try have hq := dX hb); (try (exfalso; omega))))) | (apply qr_eql; refine r_eql ?_) | (apply qr_add; refine r_add ?_) | (apply qr_load; refine r_load ?_) | (apply qr_faddr; refine r_faddr ?_) | (apply qr_boxed; refine r_boxed ?_))
  refine rt1 ?_
  rfl
 rw [if_neg hu1]
 have q2 : decide (u = 1) = false := decide_eq_false hu1
 by_cases hu2 : u = 2
 ·rw [if_pos hu2]
  have q3 : decide (u = 2) = true := decide_eq_true hu2
  refine pure_enter Tryz.func114 rfl (by decide) _ Tryz.ntmps114 (le_ok rfl) (fun w Pr hE => ?_)
  dsimp only [slotsOf, Nat.zero_add, Nat.reduceAdd]
  repeat' (first | (apply at_call; refine k_call (hit) hE ?_; rintro _ rfl) | refine nx ?_ | (apply aq_block_y; decide) | (apply qr_assign; refine r_assign ?_) | (apply at_cond; first | refine c_t ?_ | refine c_f ?_ | (refine aw_cond rfl (fun hb => ?_) (fun hb => ?_) <;> ((try have hq := dX hb); (try (exfalso; omega))))) | (apply qr_eql; refine r_eql ?_) | (apply qr_add; refine r_add ?_) | (apply qr_load; refine r_load ?_) | (apply qr_faddr; refine r_faddr ?_) | (apply qr_boxed; refine r_boxed ?_))
  refine rt1 ?_
  rfl
 rw [if_neg hu2]
 have q3 : decide (u = 2) = false := decide_eq_false hu2
 refine pure_enter Tryz.func114 rfl (by decide) _ Tryz.ntmps114 (le_ok rfl) (fun w Pr hE => ?_)
 dsimp only [slotsOf, Nat.zero_add, Nat.reduceAdd]
 repeat' (first | (apply at_call; refine k_call (hit) hE ?_; rintro _ rfl) | refine nx ?_ | (apply aq_block_y; decide) | (apply qr_assign; refine r_assign ?_) | (apply at_cond; first | refine c_t ?_ | refine c_f ?_ | (refine aw_cond rfl (fun hb => ?_) (fun hb => ?_) <;> ((try have hq := dX hb); (try (exfalso; omega))))) | (apply qr_eql; refine r_eql ?_) | (apply qr_load; refine r_load ?_) | (apply qr_faddr; refine r_faddr ?_) | (apply qr_boxed; refine r_boxed ?_))
 refine rt1 ?_
 rfl
theorem leaf_name (op : Int) (ho : op = 1 ∨ op = 2 ∨ op = 3) (s : ByteArray) (hs : s.size ≤ 100000) : PureC 114 [.agg (exC (.mk op 0 0 s []))] (· = .str ((Ex.mk op 0 0 s []).text 0)) := by
 rw [text_leaf ho]
 dsimp only [exC, Ex.op, Ex.num, Ex.unit, Ex.str, Ex.args]
 have l1 : ByteArray.size ⟨#[116, 114, 105, 112, 32]⟩ = 5 := rfl
 have l2 : ByteArray.size ⟨#[109, 101, 109, 98, 101, 114, 32]⟩ = 7 := rfl
 rcases ho with rfl | rfl | rfl
 ·skip
  refine pure_enter Tryz.func114 rfl (by decide) _ Tryz.ntmps114 (le_ok rfl) (fun w Pr hE => ?_)
  dsimp only [slotsOf, Nat.zero_add, Nat.reduceAdd]
  repeat' (first | refine nx ?_ | (apply aq_block_y; decide) | (apply qr_assign; refine r_assign ?_) | (apply at_cond; first | refine c_t ?_ | refine c_f ?_ | (refine aw_cond rfl (fun hb => ?_) (fun hb => ?_) <;> ((try have hq := dX hb); (try (exfalso; omega))))) | (apply qr_eql; refine r_eql ?_) | (apply qr_load; refine r_load ?_) | (apply qr_faddr; refine r_faddr ?_) | (apply qr_boxed; refine r_boxed ?_))
  refine rt1 ?_
  rfl
 ·skip
  refine pure_enter Tryz.func114 rfl (by decide) _ Tryz.ntmps114 (le_ok rfl) (fun w Pr hE => ?_)
  dsimp only [slotsOf, Nat.zero_add, Nat.reduceAdd]
  repeat' (first | refine nx ?_ | (apply aq_block_y; decide) | (apply qr_assign; refine r_assign ?_) | (apply at_cond; first | refine c_t ?_ | refine c_f ?_ | (refine aw_cond rfl (fun hb => ?_) (fun hb => ?_) <;> ((try have hq := dX hb); (try (exfalso; omega))))) | (apply qr_eql; refine r_eql ?_) | (apply qr_add; refine r_add ?_) | (apply qr_load; refine r_load ?_) | (apply qr_faddr; refine r_faddr ?_) | (apply qr_boxed; refine r_boxed ?_))
  refine rt1 ?_
  rfl
 ·skip
  refine pure_enter Tryz.func114 rfl (by decide) _ Tryz.ntmps114 (le_ok rfl) (fun w Pr hE => ?_)
  dsimp only [slotsOf, Nat.zero_add, Nat.reduceAdd]
  repeat' (first | refine nx ?_ | (apply aq_block_y; decide) | (apply qr_assign; refine r_assign ?_) | (apply at_cond; first | refine c_t ?_ | refine c_f ?_ | (refine aw_cond rfl (fun hb => ?_) (fun hb => ?_) <;> ((try have hq := dX hb); (try (exfalso; omega))))) | (apply qr_eql; refine r_eql ?_) | (apply qr_add; refine r_add ?_) | (apply qr_load; refine r_load ?_) | (apply qr_faddr; refine r_faddr ?_) | (apply qr_boxed; refine r_boxed ?_))
  refine rt1 ?_
  rfl
abbrev RShowC (d : Nat) : Prop := ∀ (e : Ex) (f : Nat), e.right d = true → e.tame → f ≤ 7 → PureC 60 [.agg (exC e), .int f] (· = .str (e.text f))
section
variable {d : Nat}
theorem rshow_leaf (e : Ex) (f : Nat) (hf : f ≤ 7) (h7 : formV e.op = 7) (hw : wordV e.op = ⟨#[]⟩) (hc : PureC 114 [.agg (exC e)] (· = .str (e.text 0))) : PureC 60 [.agg (exC e), .int f] (· = .str (e.text 0)) := by
 have hfm := rform_any e
 rw [h7, hw] at hfm
 have q0 : decide (((7 : Nat) : Int) < f) = false := decide_eq_false (by omega)
 refine pure_enter Tryz.func60 rfl (by decide) _ Tryz.ntmps60 (le_ok rfl) (fun w Pr hE => ?_)
 dsimp only [slotsOf, Nat.zero_add, Nat.reduceAdd]
 repeat' (first | (apply at_call; refine k_call (hfm) hE ?_; rintro _ rfl) | (apply at_call; refine k_call (hc) hE ?_; rintro _ rfl) | refine nx ?_ | (apply qr_move; refine r_move ?_) | (apply qr_assign; refine r_assign ?_) | (apply at_cond; first | refine c_t ?_ | refine c_f ?_ | (refine aw_cond rfl (fun hb => ?_) (fun hb => ?_) <;> ((try have hq := dX hb); (try (exfalso; omega))))) | (apply qr_lss; refine r_lss ?_) | (apply qr_eql; refine r_eql ?_) | (apply qr_extract; refine r_extract ?_) | (apply qr_load; refine r_load ?_) | (apply qr_boxed; refine r_boxed ?_))
 refine rt1 ?_
 rfl
theorem rshow_not (hd : d ≤ 12) (ih : RShowC d) (x : Ex) (ht : (Ex.mk 12 0 0 ⟨#[]⟩ [x]).tame) (hx : x.right d = true) (f : Nat) (hf : f ≤ 3) : PureC 60 [.agg (exC (.mk 12 0 0 ⟨#[]⟩ [x])), .int f] (· = .str ((Ex.mk 12 0 0 ⟨#[]⟩ [x]).text 0)) := by
 have hfm := rform_any (.mk 12 0 0 ⟨#[]⟩ [x])
 have c0 : PureC 60 [.agg (exC x), .int 3] (· = .str (x.text 3)) := ih x 3 hx ht.2.2.1 (by omega)
 have zx := text_small hd hx ht.2.2.1 3
 have hg0 : (Ex.rows [x])[0]? = some (exC x) := rows_get (a := [x]) (i := 0) (by simp)
 rw [text_not hx]
 dsimp only [exC, Ex.op, Ex.num, Ex.unit, Ex.str, Ex.args] at hfm ⊢
 rw [show formV 12 = 3 by decide, show wordV 12 = w_not by decide] at hfm
 have l1 : ByteArray.size ⟨#[110, 111, 116, 32]⟩ = 4 := rfl
 have q0 : decide (((3 : Nat) : Int) < f) = false := decide_eq_false (by omega)
 have q1 : decide (w_not = ⟨#[]⟩) = false := by decide
 refine pure_enter Tryz.func60 rfl (by decide) _ Tryz.ntmps60 (le_ok rfl) (fun w Pr hE => ?_)
 dsimp only [slotsOf, Nat.zero_add, Nat.reduceAdd]
 repeat' (first | (apply at_call; refine k_call (hfm) hE ?_; rintro _ rfl) | (apply at_op (.indexAddr _ _ _); refine al_ixq hg0 ?_) | (apply at_call; refine k_call (c0) hE ?_; rintro _ rfl) | refine nx ?_ | (apply qr_move; refine r_move ?_) | (apply qr_assign; refine r_assign ?_) | (apply at_cond; first | refine c_t ?_ | refine c_f ?_ | (refine aw_cond rfl (fun hb => ?_) (fun hb => ?_) <;> ((try have hq := dX hb); (try (exfalso; omega))))) | (apply qr_lss; refine r_lss ?_) | (apply qr_eql; refine r_eql ?_) | (apply qr_add; refine r_add ?_) | (apply qr_extract; refine r_extract ?_) | (apply qr_ix; refine r_ix ?_) | (apply qr_load; refine r_load ?_) | (apply qr_faddr; refine r_faddr ?_) | (apply qr_boxed; refine r_boxed ?_))
 refine rt1 ?_
 rfl
theorem rshow_if (hd : d ≤ 12) (ih : RShowC d) (x y z : Ex) (ht : (Ex.mk 15 0 0 ⟨#[]⟩ [x, y, z]).tame) (hx : x.right d = true) (hy : y.right d = true) (hz : z.right d = true) (f : Nat) (hf : f ≤ 0) : PureC 60 [.agg (exC (.mk 15 0 0 ⟨#[]⟩ [x, y, z])), .int f] (· = .str ((Ex.mk 15 0 0 ⟨#[]⟩ [x, y, z]).text 0)) := by
 have hfm := rform_any (.mk 15 0 0 ⟨#[]⟩ [x, y, z])
 have c0 : PureC 60 [.agg (exC x), .int 0] (· = .str (x.text 0)) := ih x 0 hx ht.2.2.1 (by omega)
 have c1 : PureC 60 [.agg (exC y), .int 0] (· = .str (y.text 0)) := ih y 0 hy ht.2.2.2.1 (by omega)
 have c2 : PureC 60 [.agg (exC z), .int 0] (· = .str (z.text 0)) := ih z 0 hz ht.2.2.2.2.1 (by omega)
 have zx := text_small hd hx ht.2.2.1 0
 have zy := text_small hd hy ht.2.2.2.1 0
 have zz := text_small hd hz ht.2.2.2.2.1 0
 have hg0 : (Ex.rows [x, y, z])[0]? = some (exC x) := rows_get (a := [x, y, z]) (i := 0) (by simp)
 have hg1 : (Ex.rows [x, y, z])[1]? = some (exC y) := rows_get (a := [x, y, z]) (i := 1) (by simp)
 have hg2 : (Ex.rows [x, y, z])[2]? = some (exC z) := rows_get (a := [x, y, z]) (i := 2) (by simp)
 rw [text_if hx hy hz]
 have l1 : ByteArray.size ⟨#[105, 102, 32]⟩ = 3 := rfl
 have l2 : ByteArray.size ⟨#[32, 116, 104, 101, 110, 32]⟩ = 6 := rfl
 have l3 : ByteArray.size ⟨#[32, 101, 108, 115, 101, 32]⟩ = 6 := rfl
 have s1 := app_size ⟨#[105, 102, 32]⟩ (x.text 0)
 have s2 := app_size (⟨#[105, 102, 32]⟩ ++ x.text 0) ⟨#[32, 116, 104, 101, 110, 32]⟩
 have s3 := app_size (⟨#[105, 102, 32]⟩ ++ x.text 0 ++ ⟨#[32, 116, 104, 101, 110, 32]⟩) (y.text 0)
 have s4 := app_size (⟨#[105, 102, 32]⟩ ++ x.text 0 ++ ⟨#[32, 116, 104, 101, 110, 32]⟩ ++ y.text 0) ⟨#[32, 101, 108, 115, 101, 32]⟩
 dsimp only [exC, Ex.op, Ex.num, Ex.unit, Ex.str, Ex.args] at hfm ⊢
 rw [show formV 15 = 0 by decide, show wordV 15 = w_if by decide] at hfm
 have q0 : decide (((0 : Nat) : Int) < f) = false := decide_eq_false (by omega)
 have q1 : decide (w_if = ⟨#[]⟩) = false := by decide
 refine pure_enter Tryz.func60 rfl (by decide) _ Tryz.ntmps60 (le_ok rfl) (fun w Pr hE => ?_)
 dsimp only [slotsOf, Nat.zero_add, Nat.reduceAdd]
 repeat' (first | (apply at_call; refine k_call (hfm) hE ?_; rintro _ rfl) | refine nx ?_ | (apply qr_move; refine r_move ?_) | (apply qr_assign; refine r_assign ?_) | (apply at_cond; first | refine c_t ?_ | refine c_f ?_ | (refine aw_cond rfl (fun hb => ?_) (fun hb => ?_) <;> ((try have hq := dX hb); (try (exfalso; omega))))) | (apply qr_lss; refine r_lss ?_) | (apply qr_eql; refine r_eql ?_) | (apply qr_extract; refine r_extract ?_) | (apply qr_load; refine r_load ?_) | (apply qr_boxed; refine r_boxed ?_))
 refine aw_mixo ([(2, exO' (.mk 15 0 0 ⟨#[]⟩ [x, y, z]))]) [(0, true), (1, true), (2, true), (3, true), (7, true), (8, true), (9, true), (10, true), (14, true), (15, true), (16, true), (17, true), (4, false), (5, true), (6, true), (11, false), (12, true), (13, true), (18, false), (19, true)] [20] (by kernel_rfl) (by kernel_rfl) (by kernel_rfl) (by decide) (by (repeat (first | exact obs_nil | (apply obs_cons; focus (first | rfl | (simp [find]; done)))))) ?_
 simp only [planned, tailed, List.filterMap_cons, List.filterMap_nil, List.getElem?_cons_zero, List.getElem?_cons_succ, Option.map_some]
 repeat' (first | apply am_nil | refine m_skip ?_ | refine n_skip ?_ | (apply at_am (.indexAddr _ _ _); refine am_y (by first | exact want_none | exact want_yes rfl rfl (by assumption) | exact want_yes rfl rfl (by with_reducible rfl)) (y_ix (by first | exact ToD.d _ | exact ToD.row _ _ _ _ _ rfl) rfl rfl (by first | with_reducible rfl | exact lit0 | exact lit1 | exact lit2 | exact lit3 | exact lit4 | exact int_s _ | exact int_p _ _ | exact int_nat _ (by omega)) hg0) (lt_ok rfl) ?_) | (apply at_am (.indexAddr _ _ _); refine am_y (by first | exact want_none | exact want_yes rfl rfl (by assumption) | exact want_yes rfl rfl (by with_reducible rfl)) (y_ix (by first | exact ToD.d _ | exact ToD.row _ _ _ _ _ rfl) rfl rfl (by first | with_reducible rfl | exact lit0 | exact lit1 | exact lit2 | exact lit3 | exact lit4 | exact int_s _ | exact int_p _ _ | exact int_nat _ (by omega)) hg1) (lt_ok rfl) ?_) | (apply at_am (.indexAddr _ _ _); refine am_y (by first | exact want_none | exact want_yes rfl rfl (by assumption) | exact want_yes rfl rfl (by with_reducible rfl)) (y_ix (by first | exact ToD.d _ | exact ToD.row _ _ _ _ _ rfl) rfl rfl (by first | with_reducible rfl | exact lit0 | exact lit1 | exact lit2 | exact lit3 | exact lit4 | exact int_s _ | exact int_p _ _ | exact int_nat _ (by omega)) hg2) (lt_ok rfl) ?_) | (apply at_mcall; refine m_call (c0) hE ?_; rintro _ rfl; clear c0; (try dsimp only [flat, D.plain, D.plainL])) | (apply at_mcall; refine m_call (c1) hE ?_; rintro _ rfl; clear c1; (try dsimp only [flat, D.plain, D.plainL])) | (apply at_mcall; refine m_call (c2) hE ?_; rintro _ rfl; (try dsimp only [flat, D.plain, D.plainL])) | (apply qm_add; refine m_add ?_) | (apply qm_ix; refine m_ix ?_) | (apply qm_load; refine m_load ?_) | (apply qm_faddr; refine m_faddr ?_) | (refine am_split rfl rfl (fun hb => ?_) (fun hb => ?_) <;> ((try have hq := dX hb); (try (exfalso; omega)))))
 repeat' (first | refine nx ?_ | (apply qr_assign; refine r_assign ?_) | (apply at_cond; first | refine c_t ?_ | refine c_f ?_ | (refine aw_cond rfl (fun hb => ?_) (fun hb => ?_) <;> ((try have hq := dX hb); (try (exfalso; omega))))) | (apply qr_add; refine r_add ?_) | (apply qr_ix; refine r_ix ?_) | (apply qr_load; refine r_load ?_) | (apply qr_faddr; refine r_faddr ?_))
 refine rt1 ?_
 rfl
theorem rshow_call (hd : d ≤ 12) (ih : RShowC d) (op : Int) (ho : op = 8 ∨ op = 9) (x y : Ex) (ht : (two op x y).tame) (hx : x.right d = true) (hy : y.right d = true) (f : Nat) (hf : f ≤ 7) : PureC 60 [.agg (exC (two op x y)), .int f] (· = .str ((two op x y).text 0)) := by
 have hfm := rform_any (two op x y)
 have c0 : PureC 60 [.agg (exC x), .int 0] (· = .str (x.text 0)) := ih x 0 hx ht.2.2.1 (by omega)
 have c1 : PureC 60 [.agg (exC y), .int 0] (· = .str (y.text 0)) := ih y 0 hy ht.2.2.2.1 (by omega)
 have zx := text_small hd hx ht.2.2.1 0
 have zy := text_small hd hy ht.2.2.2.1 0
 have hg0 : (Ex.rows [x, y])[0]? = some (exC x) := rows_get (a := [x, y]) (i := 0) (by simp)
 have hg1 : (Ex.rows [x, y])[1]? = some (exC y) := rows_get (a := [x, y]) (i := 1) (by simp)
 rw [text_call ho hx hy]
 have hf7 : formV op = 7 := by rcases ho with rfl | rfl <;> decide
 have hww : wordV op = if op = 8 then w_min else w_max := by rcases ho with rfl | rfl <;> decide
 generalize hw : (if op = 8 then w_min else w_max) = w at hww
 have hws : w.size = 3 := by rw [← hw]; split <;> rfl
 have l1 : ByteArray.size ⟨#[32, 40, 32]⟩ = 3 := rfl
 have l2 : ByteArray.size ⟨#[32, 44, 32]⟩ = 3 := rfl
 have l3 : ByteArray.size ⟨#[32, 41]⟩ = 2 := rfl
 have s1 := app_size w ⟨#[32, 40, 32]⟩
 have s2 := app_size (w ++ ⟨#[32, 40, 32]⟩) (x.text 0)
 have s3 := app_size (w ++ ⟨#[32, 40, 32]⟩ ++ x.text 0) ⟨#[32, 44, 32]⟩
 have s4 := app_size (w ++ ⟨#[32, 40, 32]⟩ ++ x.text 0 ++ ⟨#[32, 44, 32]⟩) (y.text 0)
 dsimp only [two, exC, Ex.op, Ex.num, Ex.unit, Ex.str, Ex.args] at hfm ⊢
 rw [hf7, hww] at hfm
 have q0 : decide (((7 : Nat) : Int) < f) = false := decide_eq_false (by omega)
 have q1 : decide (w = ⟨#[]⟩) = false := decide_eq_false (by intro h; rw [h] at hws; cases hws)
 refine pure_enter Tryz.func60 rfl (by decide) _ Tryz.ntmps60 (le_ok rfl) (fun w Pr hE => ?_)
 dsimp only [slotsOf, Nat.zero_add, Nat.reduceAdd]
 repeat' (first | (apply at_call; refine k_call (hfm) hE ?_; rintro _ rfl) | refine nx ?_ | (apply qr_move; refine r_move ?_) | (apply qr_assign; refine r_assign ?_) | (apply at_cond; first | refine c_t ?_ | refine c_f ?_ | (refine aw_cond rfl (fun hb => ?_) (fun hb => ?_) <;> ((try have hq := dX hb); (try (exfalso; omega))))) | (apply qr_lss; refine r_lss ?_) | (apply qr_eql; refine r_eql ?_) | (apply qr_extract; refine r_extract ?_) | (apply qr_load; refine r_load ?_) | (apply qr_boxed; refine r_boxed ?_))
 refine aw_mixo ([(2, exO' (two op x y))]) [(0, true), (1, true), (2, true), (3, true), (4, true), (5, true), (9, true), (10, true), (11, true), (12, true), (6, false), (7, true), (8, true), (13, false), (14, true), (15, true)] [16] (by kernel_rfl) (by kernel_rfl) (by kernel_rfl) (by decide) (by (repeat (first | exact obs_nil | (apply obs_cons; focus (first | rfl | (simp [find]; done)))))) ?_
 simp only [planned, tailed, List.filterMap_cons, List.filterMap_nil, List.getElem?_cons_zero, List.getElem?_cons_succ, Option.map_some]
 repeat' (first | apply am_nil | refine m_skip ?_ | refine n_skip ?_ | (apply at_am (.indexAddr _ _ _); refine am_y (by first | exact want_none | exact want_yes rfl rfl (by assumption) | exact want_yes rfl rfl (by with_reducible rfl)) (y_ix (by first | exact ToD.d _ | exact ToD.row _ _ _ _ _ rfl) rfl rfl (by first | with_reducible rfl | exact lit0 | exact lit1 | exact lit2 | exact lit3 | exact lit4 | exact int_s _ | exact int_p _ _ | exact int_nat _ (by omega)) hg0) (lt_ok rfl) ?_) | (apply at_am (.indexAddr _ _ _); refine am_y (by first | exact want_none | exact want_yes rfl rfl (by assumption) | exact want_yes rfl rfl (by with_reducible rfl)) (y_ix (by first | exact ToD.d _ | exact ToD.row _ _ _ _ _ rfl) rfl rfl (by first | with_reducible rfl | exact lit0 | exact lit1 | exact lit2 | exact lit3 | exact lit4 | exact int_s _ | exact int_p _ _ | exact int_nat _ (by omega)) hg1) (lt_ok rfl) ?_) | (apply at_mcall; refine m_call (c0) hE ?_; rintro _ rfl; clear c0; (try dsimp only [flat, D.plain, D.plainL])) | (apply at_mcall; refine m_call (c1) hE ?_; rintro _ rfl; (try dsimp only [flat, D.plain, D.plainL])) | (apply qm_move; refine m_move ?_) | (apply qm_add; refine m_add ?_) | (apply qm_ix; refine m_ix ?_) | (apply qm_load; refine m_load ?_) | (apply qm_faddr; refine m_faddr ?_) | (refine am_split rfl rfl (fun hb => ?_) (fun hb => ?_) <;> ((try have hq := dX hb); (try (exfalso; omega)))))
 repeat' (first | refine nx ?_ | (apply qr_move; refine r_move ?_) | (apply qr_assign; refine r_assign ?_) | (apply at_cond; first | refine c_t ?_ | refine c_f ?_ | (refine aw_cond rfl (fun hb => ?_) (fun hb => ?_) <;> ((try have hq := dX hb); (try (exfalso; omega))))) | (apply qr_add; refine r_add ?_) | (apply qr_ix; refine r_ix ?_) | (apply qr_load; refine r_load ?_) | (apply qr_faddr; refine r_faddr ?_))
 refine rt1 ?_
 rfl
theorem rshow_op (hd : d ≤ 12) (ih : RShowC d) (op : Int) (t : Tok) (g : Nat) (ho : opInfo op = some (t, g)) (x y : Ex) (ht : (two op x y).tame) (hx : x.right d = true) (hy : y.right d = true) (f : Nat) (hf : f ≤ g) : PureC 60 [.agg (exC (two op x y)), .int f] (· = .str ((two op x y).text 0)) := by
 have hsz := opInfo_size ho
 have hfm := rform_any (two op x y)
 have c0 : PureC 60 [.agg (exC x), .int (leftV g)] (· = .str (x.text (leftV g))) := ih x (leftV g) hx ht.2.2.1 (by unfold leftV; split <;> omega)
 have c1 : PureC 60 [.agg (exC y), .int ((g : Int) + 1)] (· = .str (y.text (g + 1))) := ih y (g + 1) hy ht.2.2.2.1 (by omega)
 have zx := text_small hd hx ht.2.2.1 (leftV g)
 have zy := text_small hd hy ht.2.2.2.1 (g + 1)
 have hg0 : (Ex.rows [x, y])[0]? = some (exC x) := rows_get (a := [x, y]) (i := 0) (by simp)
 have hg1 : (Ex.rows [x, y])[1]? = some (exC y) := rows_get (a := [x, y]) (i := 1) (by simp)
 rw [text_op ho hx hy]
 have hfg : formV op = g ∧ wordV op = t.s ∧ g ≠ 3 := by
  rcases opInfo_cases ho with ⟨rfl, rfl, rfl⟩ | ⟨rfl, rfl, rfl⟩ | ⟨rfl, rfl, rfl⟩ | ⟨rfl, rfl, rfl⟩ | ⟨rfl, rfl, rfl⟩ | ⟨rfl, rfl, rfl⟩ | ⟨rfl, rfl, rfl⟩ | ⟨rfl, rfl, rfl⟩ <;> decide
 obtain ⟨hfg, hww, hg3⟩ := hfg
 have l1 : ByteArray.size ⟨#[32]⟩ = 1 := rfl
 have s1 := app_size (x.text (leftV g)) ⟨#[32]⟩
 have s2 := app_size (x.text (leftV g) ++ ⟨#[32]⟩) t.s
 have s3 := app_size (x.text (leftV g) ++ ⟨#[32]⟩ ++ t.s) ⟨#[32]⟩
 dsimp only [two, exC, Ex.op, Ex.num, Ex.unit, Ex.str, Ex.args] at hfm ⊢
 rw [hfg, hww] at hfm
 have q0 : decide ((g : Int) < f) = false := decide_eq_false (by omega)
 have q1 : decide (t.s = ⟨#[]⟩) = false := decide_eq_false hsz.2.2.2
 have q7 : decide ((g : Int) = 7) = false := decide_eq_false (by omega)
 have q2 : decide ((g : Int) = 0) = false := decide_eq_false (by omega)
 have q3 : decide ((g : Int) = 3) = false := decide_eq_false (by omega)
 refine pure_enter Tryz.func60 rfl (by decide) _ Tryz.ntmps60 (le_ok rfl) (fun w Pr hE => ?_)
 dsimp only [slotsOf, Nat.zero_add, Nat.reduceAdd]
 by_cases h4 : g = 4
 ·subst h4
  repeat' (first | (apply at_call; refine k_call (hfm) hE ?_; rintro _ rfl) | refine nx ?_ | (apply qr_move; refine r_move ?_) | (apply qr_assign; refine r_assign ?_) | (apply at_cond; first | refine c_t ?_ | refine c_f ?_ | (refine aw_cond rfl (fun hb => ?_) (fun hb => ?_) <;> ((try have hq := dX hb); (try (exfalso; omega))))) | (apply qr_lss; refine r_lss ?_) | (apply qr_eql; refine r_eql ?_) | (apply qr_extract; refine r_extract ?_) | (apply qr_load; refine r_load ?_) | (apply qr_boxed; refine r_boxed ?_))
  refine aw_mixo ([(2, exO' (two op x y))]) [(0, true), (1, true), (2, true), (3, true), (4, true), (7, true), (10, true), (11, true), (12, true), (13, true), (14, true), (15, true), (5, false), (6, true), (8, true), (9, true), (16, false), (17, true)] [18] (by kernel_rfl) (by kernel_rfl) (by kernel_rfl) (by decide) (by (repeat (first | exact obs_nil | (apply obs_cons; focus (first | rfl | (simp [find]; done)))))) ?_
  simp only [planned, tailed, List.filterMap_cons, List.filterMap_nil, List.getElem?_cons_zero, List.getElem?_cons_succ, Option.map_some]
  repeat' (first | apply am_nil | refine m_skip ?_ | refine n_skip ?_ | (apply at_am (.indexAddr _ _ _); refine am_y (by first | exact want_none | exact want_yes rfl rfl (by assumption) | exact want_yes rfl rfl (by with_reducible rfl)) (y_ix (by first | exact ToD.d _ | exact ToD.row _ _ _ _ _ rfl) rfl rfl (by first | with_reducible rfl | exact lit0 | exact lit1 | exact lit2 | exact lit3 | exact lit4 | exact int_s _ | exact int_p _ _ | exact int_nat _ (by omega)) hg0) (lt_ok rfl) ?_) | (apply at_am (.indexAddr _ _ _); refine am_y (by first | exact want_none | exact want_yes rfl rfl (by assumption) | exact want_yes rfl rfl (by with_reducible rfl)) (y_ix (by first | exact ToD.d _ | exact ToD.row _ _ _ _ _ rfl) rfl rfl (by first | with_reducible rfl | exact lit0 | exact lit1 | exact lit2 | exact lit3 | exact lit4 | exact int_s _ | exact int_p _ _ | exact int_nat _ (by omega)) hg1) (lt_ok rfl) ?_) | (apply at_mcall; refine m_call (c0) hE ?_; rintro _ rfl; clear c0; (try dsimp only [flat, D.plain, D.plainL])) | (apply at_mcall; refine m_call (c1) hE ?_; rintro _ rfl; (try dsimp only [flat, D.plain, D.plainL])) | (apply qm_move; refine m_move ?_) | (apply qm_add; refine m_add ?_) | (apply qm_ix; refine m_ix ?_) | (apply qm_load; refine m_load ?_) | (apply qm_faddr; refine m_faddr ?_) | (refine am_split rfl rfl (fun hb => ?_) (fun hb => ?_) <;> ((try have hq := dX hb); (try (exfalso; omega)))))
  repeat' (first | refine nx ?_ | (apply qr_move; refine r_move ?_) | (apply qr_assign; refine r_assign ?_) | (apply at_cond; first | refine c_t ?_ | refine c_f ?_ | (refine aw_cond rfl (fun hb => ?_) (fun hb => ?_) <;> ((try have hq := dX hb); (try (exfalso; omega))))) | (apply qr_add; refine r_add ?_) | (apply qr_ix; refine r_ix ?_) | (apply qr_load; refine r_load ?_) | (apply qr_faddr; refine r_faddr ?_))
  refine rt1 ?_
  rfl
 ·have q4 : decide ((g : Int) = 4) = false := decide_eq_false (by omega)
  have hlv : leftV g = g := by unfold leftV; rw [if_neg h4]
  rw [hlv] at c0
  rw [hlv] at zx s1 s2 s3
  rw [hlv]
  repeat' (first | (apply at_call; refine k_call (hfm) hE ?_; rintro _ rfl) | refine nx ?_ | (apply qr_move; refine r_move ?_) | (apply qr_assign; refine r_assign ?_) | (apply at_cond; first | refine c_t ?_ | refine c_f ?_ | (refine aw_cond rfl (fun hb => ?_) (fun hb => ?_) <;> ((try have hq := dX hb); (try (exfalso; omega))))) | (apply qr_lss; refine r_lss ?_) | (apply qr_eql; refine r_eql ?_) | (apply qr_extract; refine r_extract ?_) | (apply qr_load; refine r_load ?_) | (apply qr_boxed; refine r_boxed ?_))
  refine aw_mixo ([(2, exO' (two op x y))]) [(0, true), (1, true), (2, true), (3, true), (4, true), (7, true), (10, true), (11, true), (12, true), (13, true), (14, true), (15, true), (5, false), (6, true), (8, true), (9, true), (16, false), (17, true)] [18] (by kernel_rfl) (by kernel_rfl) (by kernel_rfl) (by decide) (by (repeat (first | exact obs_nil | (apply obs_cons; focus (first | rfl | (simp [find]; done)))))) ?_
  simp only [planned, tailed, List.filterMap_cons, List.filterMap_nil, List.getElem?_cons_zero, List.getElem?_cons_succ, Option.map_some]
  repeat' (first | apply am_nil | refine m_skip ?_ | refine n_skip ?_ | (apply at_am (.indexAddr _ _ _); refine am_y (by first | exact want_none | exact want_yes rfl rfl (by assumption) | exact want_yes rfl rfl (by with_reducible rfl)) (y_ix (by first | exact ToD.d _ | exact ToD.row _ _ _ _ _ rfl) rfl rfl (by first | with_reducible rfl | exact lit0 | exact lit1 | exact lit2 | exact lit3 | exact lit4 | exact int_s _ | exact int_p _ _ | exact int_nat _ (by omega)) hg0) (lt_ok rfl) ?_) | (apply at_am (.indexAddr _ _ _); refine am_y (by first | exact want_none | exact want_yes rfl rfl (by assumption) | exact want_yes rfl rfl (by with_reducible rfl)) (y_ix (by first | exact ToD.d _ | exact ToD.row _ _ _ _ _ rfl) rfl rfl (by first | with_reducible rfl | exact lit0 | exact lit1 | exact lit2 | exact lit3 | exact lit4 | exact int_s _ | exact int_p _ _ | exact int_nat _ (by omega)) hg1) (lt_ok rfl) ?_) | (apply at_mcall; refine m_call (c0) hE ?_; rintro _ rfl; clear c0; (try dsimp only [flat, D.plain, D.plainL])) | (apply at_mcall; refine m_call (c1) hE ?_; rintro _ rfl; (try dsimp only [flat, D.plain, D.plainL])) | (apply qm_move; refine m_move ?_) | (apply qm_add; refine m_add ?_) | (apply qm_ix; refine m_ix ?_) | (apply qm_load; refine m_load ?_) | (apply qm_faddr; refine m_faddr ?_) | (refine am_split rfl rfl (fun hb => ?_) (fun hb => ?_) <;> ((try have hq := dX hb); (try (exfalso; omega)))))
  repeat' (first | refine nx ?_ | (apply qr_move; refine r_move ?_) | (apply qr_assign; refine r_assign ?_) | (apply at_cond; first | refine c_t ?_ | refine c_f ?_ | (refine aw_cond rfl (fun hb => ?_) (fun hb => ?_) <;> ((try have hq := dX hb); (try (exfalso; omega))))) | (apply qr_add; refine r_add ?_) | (apply qr_ix; refine r_ix ?_) | (apply qr_load; refine r_load ?_) | (apply qr_faddr; refine r_faddr ?_))
  refine rt1 ?_
  rfl
end
end Go.Proofs.YtedoeogopmenpaaGreatDoor
end
section
set_option linter.unusedSimpArgs false
set_option linter.unusedVariables false
namespace Go.Proofs.YtedoeogopmenpaaGreatDoor
open Go.RowKit
theorem rshow_in {d : Nat} (hd : d ≤ 12) (ih : RShowC d) (e : Ex) (f : Nat) (hr : e.right (d + 1) = true) (ht : e.tame) (hf : f ≤ formV e.op) (hf7 : f ≤ 7) : PureC 60 [.agg (exC e), .int f] (· = .str (e.text 0)) := by
 rcases right_shape hr with ⟨n, u, rfl, hn⟩ | ⟨op, s, ho, rfl, hv⟩ | ⟨x, rfl, hx⟩ | ⟨x, y, z, rfl, hx, hy, hz⟩ | ⟨op, x, y, ho, rfl, hx, hy⟩ | ⟨op, x, y, t, g, ho, rfl, hx, hy⟩
 ·have hrg := numRight_rng hn
  exact rshow_leaf _ f hf7 rfl rfl (leaf_num n u _ _ hrg.1 hrg.2.1)
 ·exact rshow_leaf _ f hf7 (by rcases ho with rfl | rfl | rfl <;> rfl) (by rcases ho with rfl | rfl | rfl <;> rfl) (leaf_name op ho s ht.1)
 ·exact rshow_not hd ih x ht hx f hf
 ·exact rshow_if hd ih x y z ht hx hy hz f hf
 ·exact rshow_call hd ih op ho x y ht hx hy f hf7
 ·exact rshow_op hd ih op t g ho x y ht hx hy f (by
   have : formV op = g := by rcases opInfo_cases ho with ⟨rfl, rfl, rfl⟩ | ⟨rfl, rfl, rfl⟩ | ⟨rfl, rfl, rfl⟩ | ⟨rfl, rfl, rfl⟩ | ⟨rfl, rfl, rfl⟩ | ⟨rfl, rfl, rfl⟩ | ⟨rfl, rfl, rfl⟩ | ⟨rfl, rfl, rfl⟩ <;> rfl
   rw [← this]
   exact hf)
theorem rshow_any : ∀ d : Nat, d ≤ 12 → RShowC d
 | 0, _, e, f, hr, _, _ => by rw [right_zero] at hr; cases hr
 | d + 1, hd, e, f, hr, ht, hf7 => by
  have ih := rshow_any d (by omega)
  by_cases hf : f ≤ formV e.op
  ·rw [text_in hf]
   exact rshow_in (by omega) ih e f hr ht hf hf7
  ·have hc : PureC 60 [.agg (exC e), .int 0] (· = .str (e.text 0)) := rshow_in (by omega) ih e 0 hr ht (Nat.zero_le _) (by omega)
   have hfm := rform_any e
   have hz := text_small hd hr ht 0
   rw [text_par hr (by omega)]
   have l1 : ByteArray.size ⟨#[40, 32]⟩ = 2 := rfl
   have l2 : ByteArray.size ⟨#[32, 41]⟩ = 2 := rfl
   have s1 := app_size ⟨#[40, 32]⟩ (e.text 0)
   generalize formV e.op = fm at hf hfm
   generalize wordV e.op = wm at hfm
   have q0 : decide ((fm : Int) < f) = true := decide_eq_true (by omega)
   refine pure_enter Tryz.func60 rfl (by decide) _ Tryz.ntmps60 (le_ok rfl) (fun w Pr hE => ?_)
   dsimp only [slotsOf, Nat.zero_add, Nat.reduceAdd]
   repeat' (first | (apply at_call; refine k_call (hfm) hE ?_; rintro _ rfl) | (apply at_call; refine k_call (hc) hE ?_; rintro _ rfl) | refine nx ?_ | (apply qr_move; refine r_move ?_) | (apply qr_assign; refine r_assign ?_) | (apply at_cond; first | refine c_t ?_ | refine c_f ?_ | (refine aw_cond rfl (fun hb => ?_) (fun hb => ?_) <;> ((try have hq := dX hb); (try (exfalso; omega))))) | (apply qr_lss; refine r_lss ?_) | (apply qr_add; refine r_add ?_) | (apply qr_extract; refine r_extract ?_) | (apply qr_load; refine r_load ?_) | (apply qr_boxed; refine r_boxed ?_))
   refine rt1 ?_
   rfl
theorem rprintE_any (e : Ex) (ht : e.tame) : PureC 21 [.agg (exC e)] (· = printED e) := by
 have hr := rrightExp_any e ht
 unfold printED
 cases hx : e.right 12
 ·rw [if_neg (by simp)]
  rw [hx] at hr
  refine pure_enter Tryz.func21 rfl (by decide) _ Tryz.ntmps21 (le_ok rfl) (fun w Pr hE => ?_)
  dsimp only [slotsOf, Nat.zero_add, Nat.reduceAdd]
  repeat' (first | (apply at_call; refine k_call (hr) hE ?_; rintro _ rfl) | refine nx ?_ | (apply qr_assign; refine r_assign ?_) | (apply at_cond; first | refine c_t ?_ | refine c_f ?_ | (refine aw_cond rfl (fun hb => ?_) (fun hb => ?_) <;> ((try have hq := dX hb); (try (exfalso; omega))))) | (apply qr_not; refine r_not ?_) | (apply qr_load; refine r_load ?_) | (apply qr_boxed; refine r_boxed ?_))
  refine ret_two (by rfl) (by first | exact ToD.d _ | exact ToD.row _ _ _ _ _ rfl) (by first | exact ToD.d _ | exact ToD.row _ _ _ _ _ rfl) ?_
  rfl
 ·rw [if_pos rfl]
  rw [hx] at hr
  have hs := rshow_any 12 (by omega) e 0 hx ht (by omega)
  have hf := rfits_any (e.text 0)
  obtain ⟨t, n, hfe⟩ := fitsD_form (e.text 0)
  rw [hfe] at hf ⊢
  refine pure_enter Tryz.func21 rfl (by decide) _ Tryz.ntmps21 (le_ok rfl) (fun w Pr hE => ?_)
  dsimp only [slotsOf, Nat.zero_add, Nat.reduceAdd]
  repeat' (first | (apply at_call; refine k_call (hr) hE ?_; rintro _ rfl) | (apply at_call; refine k_call (hs) hE ?_; rintro _ rfl) | (apply at_call; refine k_call (hf) hE ?_; rintro _ rfl) | refine nx ?_ | (apply qr_assign; refine r_assign ?_) | (apply at_cond; first | refine c_t ?_ | refine c_f ?_ | (refine aw_cond rfl (fun hb => ?_) (fun hb => ?_) <;> ((try have hq := dX hb); (try (exfalso; omega))))) | (apply qr_not; refine r_not ?_) | (apply qr_extract; refine r_extract ?_) | (apply qr_load; refine r_load ?_) | (apply qr_boxed; refine r_boxed ?_))
  refine ret_two (by rfl) (by first | exact ToD.d _ | exact ToD.row _ _ _ _ _ rfl) (by first | exact ToD.d _ | exact ToD.row _ _ _ _ _ rfl) ?_
  rfl
mutual
def Ex.same : Ex → Ex → Bool
 | .mk o n u s a, .mk o' n' u' s' a' => decide (o = o') && (decide (n = n') && (decide (u = u') && (decide (s = s') && Ex.sameL a a')))
def Ex.sameL : List Ex → List Ex → Bool
 | [], [] => true
 | x :: r, y :: t => x.same y && Ex.sameL r t
 | [], _ :: _ => false
 | _ :: _, [] => false
end
mutual
theorem same_iff : ∀ a b : Ex, a.same b = true ↔ a = b
 | .mk o n u s a, .mk o' n' u' s' a' => by
  simp only [Ex.same, Bool.and_eq_true, decide_eq_true_eq, sameL_iff a a', Ex.mk.injEq]
theorem sameL_iff : ∀ a b : List Ex, Ex.sameL a b = true ↔ a = b
 | [], [] => by simp [Ex.sameL]
 | x :: r, y :: t => by simp only [Ex.sameL, Bool.and_eq_true, same_iff x y, sameL_iff r t, List.cons.injEq]
 | [], _ :: _ => by simp [Ex.sameL]
 | _ :: _, [] => by simp [Ex.sameL]
end
theorem same_eq (a b : Ex) : a.same b = (decide (a.op = b.op) && (decide (a.num = b.num) && (decide (a.unit = b.unit) && (decide (a.str = b.str) && Ex.sameL a.args b.args)))) := by
 cases a
 cases b
 rfl
theorem sameL_len {a b : List Ex} (h : a.length ≠ b.length) : Ex.sameL a b = false := by
 rw [Bool.eq_false_iff, Ne, sameL_iff]
 rintro rfl
 exact h rfl
theorem sameL_no {a b : List Ex} {i : Nat} (ha : i < a.length) (hb : i < b.length) (h : a[i].same b[i] = false) : Ex.sameL a b = false := by
 rw [Bool.eq_false_iff, Ne, sameL_iff]
 rintro rfl
 have := (same_iff a[i] a[i]).2 rfl
 rw [h] at this
 cases this
theorem sameL_yes {a b : List Ex} (hl : a.length = b.length) (h : ∀ (i : Nat) (ha : i < a.length) (hb : i < b.length), a[i].same b[i] = true) : Ex.sameL a b = true := by
 rw [sameL_iff]
 apply List.ext_getElem hl
 intro i h1 h2
 exact (same_iff _ _).1 (h i h1 h2)
abbrev SameC (n : Nat) (f : FuncId) : Prop := ∀ a b : Ex, a.levels ≤ n → a.tame → b.tame → PureC f [.agg (exC a), .agg (exC b)] (· = .bool (a.same b))
theorem equal_exps {n : Nat} (ih : SameC n 27) (a b : List Ex) (ha : ∀ x ∈ a, Ex.levels x ≤ n) (ta : ∀ x ∈ a, Ex.tame x) (tb : ∀ x ∈ b, Ex.tame x) (la : a.length ≤ 100000) (lb : b.length ≤ 100000) : PureC 72 [.list 5 (Ex.rows a), .list 5 (Ex.rows b), .val (.func (.func 27) #[] #[])] (· = .bool (Ex.sameL a b)) := by
 have hla := rows_len a
 have hlb := rows_len b
 by_cases hl : a.length = b.length
 ·have q0 : (!decide (((Ex.rows a).length : Int) = (Ex.rows b).length)) = false := by simp [hla, hlb, hl]
  refine pure_enter Tryz.func72 rfl (by decide) _ Tryz.ntmps72 (le_ok rfl) (fun w Pr hE => ?_)
  dsimp only [slotsOf, Nat.zero_add, Nat.reduceAdd]
  repeat' (first | refine nx ?_ | (apply aq_block_y; decide) | (apply qr_move; refine r_move ?_) | (apply qr_assign; refine r_assign ?_) | (apply at_cond; first | refine c_t ?_ | refine c_f ?_ | (refine aw_cond rfl (fun hb => ?_) (fun hb => ?_) <;> ((try have hq := dX hb); (try (exfalso; omega))))) | (apply qr_neq; refine r_neq ?_) | (apply qr_len; refine r_len ?_))
  refine aw_lp (fun N sl ob => ∃ i : Nat, N = a.length - i ∧ i ≤ a.length ∧ (∀ (j : Nat) (ha : j < a.length) (hb : j < b.length), j < i → a[j].same b[j] = true) ∧ sl = [(17, .d (.int i)), (16, .d (.int (Ex.rows a).length)), (15, .d (.list 5 (Ex.rows a))), (2, .d (.val (.func (.func 27) #[] #[]))), (1, .d (.list 5 (Ex.rows b)))] ∧ ob = []) (⟨0, rfl, Nat.zero_le _, fun j _ _ h => by omega, rfl, rfl⟩) ?_
  rintro N sl ob ⟨i, rfl, hi, hs, rfl, rfl⟩
  by_cases hlt : i < a.length
  ·have hlt2 : i < b.length := by omega
   have hg1 := rows_get hlt
   have hg2 := rows_get hlt2
   have hc := ih a[i] b[i] (ha _ (List.getElem_mem hlt)) (ta _ (List.getElem_mem hlt)) (tb _ (List.getElem_mem hlt2))
   have q : decide ((i : Int) < (Ex.rows a).length) = true := decide_eq_true (by omega)
   cases hT : a[i].same b[i]
   ·rw [sameL_no hlt hlt2 hT]
    rw [hT] at hc
    generalize a[i] = x at hg1 hc
    generalize b[i] = y at hg2 hc
    repeat' (first | (apply at_op (.indexAddr _ _ _); refine al_ixq hg1 ?_; clear hg1) | (apply at_op (.indexAddr _ _ _); refine al_ixq hg2 ?_) | (apply at_call; refine k_call (hc) hE ?_; rintro _ rfl) | refine nx ?_ | (apply aq_block_y; decide) | (apply qr_move; refine r_move ?_) | (apply qr_assign; refine r_assign ?_) | (apply at_cond; first | refine c_t ?_ | refine c_f ?_ | (refine aw_cond rfl (fun hb => ?_) (fun hb => ?_) <;> ((try have hq := dX hb); (try (exfalso; omega))))) | (apply qr_lss; refine r_lss ?_) | (apply qr_not; refine r_not ?_) | (apply qr_ix; refine r_ix ?_) | (apply qr_load; refine r_load ?_) | (apply qr_alloc; refine r_alloc ?_) | (apply qr_store; refine r_store ?_))
    refine rt1 ?_
    rfl
   ·have hnext : ∀ (j : Nat) (ha : j < a.length) (hb : j < b.length), j < i + 1 → a[j].same b[j] = true := fun j h1 h2 h3 => by
     rcases Nat.lt_succ_iff_lt_or_eq.1 h3 with h | rfl
     ·exact hs j h1 h2 h
     ·exact hT
    rw [hT] at hc
    generalize a[i] = x at hg1 hc
    generalize b[i] = y at hg2 hc
    repeat' (first | (apply at_op (.indexAddr _ _ _); refine al_ixq hg1 ?_; clear hg1) | (apply at_op (.indexAddr _ _ _); refine al_ixq hg2 ?_) | (apply at_call; refine k_call (hc) hE ?_; rintro _ rfl) | refine nx ?_ | (apply aq_block_y; decide) | (apply qr_move; refine r_move ?_) | (apply qr_assign; refine r_assign ?_) | (apply at_cond; first | refine c_t ?_ | refine c_f ?_ | (refine aw_cond rfl (fun hb => ?_) (fun hb => ?_) <;> ((try have hq := dX hb); (try (exfalso; omega))))) | (apply qr_lss; refine r_lss ?_) | (apply qr_add; refine r_add ?_) | (apply qr_not; refine r_not ?_) | (apply qr_ix; refine r_ix ?_) | (apply qr_load; refine r_load ?_) | (apply qr_alloc; refine r_alloc ?_) | (apply qr_store; refine r_store ?_))
    refine aq_rd (⟨i + 1, rfl, by omega, hnext, rfl, rfl⟩) (by omega)
  ·rw [sameL_yes hl (fun j h1 h2 => hs j h1 h2 (by omega))]
   have q : decide ((i : Int) < (Ex.rows a).length) = false := decide_eq_false (by omega)
   repeat' (first | refine nx ?_ | (apply aq_block_y; decide) | (apply qr_assign; refine r_assign ?_) | (apply at_cond; first | refine c_t ?_ | refine c_f ?_ | (refine aw_cond rfl (fun hb => ?_) (fun hb => ?_) <;> ((try have hq := dX hb); (try (exfalso; omega))))) | (apply qr_lss; refine r_lss ?_))
   refine rt1 ?_
   rfl
 ·rw [sameL_len hl]
  have q0 : (!decide (((Ex.rows a).length : Int) = (Ex.rows b).length)) = true := by
   have : ¬ (a.length : Int) = b.length := by omega
   simp [hla, hlb, this]
  refine pure_enter Tryz.func72 rfl (by decide) _ Tryz.ntmps72 (le_ok rfl) (fun w Pr hE => ?_)
  dsimp only [slotsOf, Nat.zero_add, Nat.reduceAdd]
  repeat' (first | refine nx ?_ | (apply aq_block_y; decide) | (apply qr_move; refine r_move ?_) | (apply qr_assign; refine r_assign ?_) | (apply at_cond; first | refine c_t ?_ | refine c_f ?_ | (refine aw_cond rfl (fun hb => ?_) (fun hb => ?_) <;> ((try have hq := dX hb); (try (exfalso; omega))))) | (apply qr_neq; refine r_neq ?_) | (apply qr_len; refine r_len ?_))
  refine rt1 ?_
  rfl
end Go.Proofs.YtedoeogopmenpaaGreatDoor
end
