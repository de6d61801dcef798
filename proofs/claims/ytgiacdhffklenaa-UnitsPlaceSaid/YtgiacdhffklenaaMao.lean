/-
  Conditions: none.
-/
import Derived.Test.YtgiacdhffklenaaMan
set_option maxHeartbeats 16000000
set_option maxRecDepth 20000
section
set_option linter.unusedSimpArgs false
set_option linter.unusedVariables false
namespace Go.Proofs.Ytgiacdhffklenaa
open Go.RowKit
abbrev scO (ls : List (ByteArray × Ex)) (sc : List (ByteArray × Int)) : O := .box 61 [.d (letsD ls), .d (intsD (sc.map (·.2)))]
abbrev OfC (d : Nat) : Prop := ∀ (ls : List (ByteArray × Ex)) (sc : List (ByteArray × Int)), ScOk ls sc → ∀ (e : Ex) (path : List Int), e.right d = true → e.wide → path.length + d ≤ 1000 →
 PureP 43 [scD ls sc, .agg (exC e), intsD path] 58 (fun r => ∃ u, e.unitU sc = .ok u ∧ r = .int u) (fun z => ∃ p c, e.unitU sc = .bad p c ∧ z = reasD (path ++ p) c)
theorem parts_all {sc : List (ByteArray × Int)} {a : List Ex} {us : List Int} (hl : us.length = a.length) (h : ∀ (j : Nat) (hj : j < a.length), a[j].unitU sc = .ok (us.getD j 0)) : ∀ i, Ex.unitsL sc i a = .inl us := by
 induction a generalizing us with
 | nil =>
  obtain rfl : us = [] := List.eq_nil_of_length_eq_zero (by simpa using hl)
  exact fun i => rfl
 | cons x r ih =>
  cases us with
  | nil => simp at hl
  | cons u us =>
   intro i
   have h0 : x.unitU sc = .ok u := h 0 (by simp)
   have := ih (us := us) (by simpa using hl) (fun j hj => h (j + 1) (by simpa using hj)) (i + 1)
   simp only [Ex.unitsL, h0, this]
   rfl
theorem parts_bad {sc : List (ByteArray × Int)} {a : List Ex} {k : Nat} {p : List Int} {c : Int} (hk : k < a.length) (hb : a[k].unitU sc = .bad p c) (h : ∀ (j : Nat) (hj : j < a.length), j < k → ∃ u, a[j].unitU sc = .ok u) : ∀ i, Ex.unitsL sc i a = .inr ((i + k) :: p, c) := by
 induction a generalizing k with
 | nil => simp at hk
 | cons x r ih =>
  intro i
  cases k with
  | zero =>
   have h0 : x.unitU sc = .bad p c := hb
   simp only [Ex.unitsL, h0, consU]
   simp
  | succ k =>
   obtain ⟨u, h0⟩ : ∃ u, x.unitU sc = .ok u := h 0 (by simp) (by omega)
   have := ih (k := k) (by simpa using hk) hb (fun j hj hjk => h (j + 1) (by simpa using hj) (by omega)) (i + 1)
   simp only [Ex.unitsL, h0, this, consU]
   congr 2
   congr 1
   omega
theorem of_any : ∀ d, OfC d
 | 0 => fun ls sc h e path hr => by rw [right_zero] at hr; cases hr
 | d + 1 => fun ls sc hsc e path hr ht hp => by
  have ih := of_any d
  obtain ⟨hleaf, hargs⟩ := right_args hr
  have hu := unit_eq sc e
  have hcl := clone_ints path (by omega)
  have hlen := rows_len e.args
  have hal := wide_len ht
  by_cases h0 : e.op = 0
  ·rw [if_pos h0] at hu
   have q0 : decide (e.op = 0) = true := decide_eq_true h0
   refine purep_enter Try.func43 rfl (by decide) _ Try.ntmps43 (le_ok rfl) (fun w Pr hE => ?_)
   dsimp only [slotsOf, Nat.zero_add, Nat.reduceAdd]
   repeat' (first | refine nx ?_ | apply aq_pq | apply aq_pandn | (apply aq_block_y; decide) | apply aw_scope | apply aw_label | apply aq_ng_n | apply aq_ng_r | apply aq_ng_x | (apply qr_move; refine r_move ?_) | (apply qr_assign; refine r_assign ?_) | (apply at_cond; first | refine c_t ?_ | refine c_f ?_ | (refine aw_cond rfl (fun hb => ?_) (fun hb => ?_) <;> ((try have hq := dX hb); (try (exfalso; omega))))) | (apply qr_lss; refine r_lss ?_) | (apply qr_eql; refine r_eql ?_) | (apply qr_add; refine r_add ?_) | (apply qr_len; refine r_len ?_) | (apply qr_ix; refine r_ix ?_) | (apply qr_load; refine r_load ?_) | (apply qr_faddr; refine r_faddr ?_) | (apply qr_alloc; refine r_alloc ?_) | (apply qr_boxed; refine r_boxed ?_) | (apply qr_store; refine r_store ?_) | (apply qr_build; refine r_build ?_) | (apply qr_lits; refine r_lits ?_) | (apply qr_appd; refine r_appd ?_))
   refine aq_pd ?_
   refine rt1 ?_
   exact ⟨_, hu, rfl⟩
  have q0 : decide (e.op = 0) = false := decide_eq_false h0
  rw [if_neg h0] at hu
  by_cases h2 : e.op = 2
  ·rw [if_pos h2] at hu
   have q2 : decide (e.op = 2) = true := decide_eq_true h2
   have hk := uknown_any (f := 12) e.str path (utrip_any e.str) (by omega)
   have hB := fun (z : D) (hz : nameU (tripU e.str) = .bad [] 14 ∧ z = reasD path 14) => (⟨[], 14, hu.trans hz.1, by rw [List.append_nil]; exact hz.2⟩ : ∃ p c, e.unitU sc = .bad p c ∧ z = reasD (path ++ p) c)
   refine purep_enter Try.func43 rfl (by decide) _ Try.ntmps43 (le_ok rfl) (fun w Pr hE => ?_)
   dsimp only [slotsOf, Nat.zero_add, Nat.reduceAdd]
   repeat' (first | (apply at_call; refine al_pcallD (hk) rfl hE (lt_ok rfl) (by (first | exact (ArgsD.cons (by first | exact ToD.d _ | exact ToD.row _ _ _ _ _ rfl | exact ToD.nil _) ArgsD.nil) | exact (ArgsD.cons (by first | exact ToD.d _ | exact ToD.row _ _ _ _ _ rfl | exact ToD.nil _) (ArgsD.cons (by first | exact ToD.d _ | exact ToD.row _ _ _ _ _ rfl | exact ToD.nil _) ArgsD.nil)) | exact (ArgsD.cons (by first | exact ToD.d _ | exact ToD.row _ _ _ _ _ rfl | exact ToD.nil _) (ArgsD.cons (by first | exact ToD.d _ | exact ToD.row _ _ _ _ _ rfl | exact ToD.nil _) (ArgsD.cons (by first | exact ToD.d _ | exact ToD.row _ _ _ _ _ rfl | exact ToD.nil _) ArgsD.nil))))) (fun z hz => by (repeat (first | with_reducible refine aqd_block ?_ | with_reducible refine aqd_then ?_)); exact aqd_body (hB z hz)) ?_; rintro _ ⟨hr, rfl⟩) | refine nx ?_ | apply aq_pq | apply aq_pandn | (apply aq_block_y; decide) | apply aw_scope | apply aw_label | apply aq_ng_n | apply aq_ng_r | apply aq_ng_x | (apply qr_move; refine r_move ?_) | (apply qr_assign; refine r_assign ?_) | (apply at_cond; first | refine c_t ?_ | refine c_f ?_ | (refine aw_cond rfl (fun hb => ?_) (fun hb => ?_) <;> ((try have hq := dX hb); (try (exfalso; omega))))) | (apply qr_lss; refine r_lss ?_) | (apply qr_eql; refine r_eql ?_) | (apply qr_add; refine r_add ?_) | (apply qr_len; refine r_len ?_) | (apply qr_ix; refine r_ix ?_) | (apply qr_load; refine r_load ?_) | (apply qr_faddr; refine r_faddr ?_) | (apply qr_alloc; refine r_alloc ?_) | (apply qr_boxed; refine r_boxed ?_) | (apply qr_store; refine r_store ?_) | (apply qr_build; refine r_build ?_) | (apply qr_lits; refine r_lits ?_) | (apply qr_appd; refine r_appd ?_))
   refine aq_pd ?_
   refine rt1 ?_
   exact ⟨_, hu.trans hr, rfl⟩
  have q2 : decide (e.op = 2) = false := decide_eq_false h2
  rw [if_neg h2] at hu
  by_cases h3 : e.op = 3
  ·rw [if_pos h3] at hu
   have q3 : decide (e.op = 3) = true := decide_eq_true h3
   have hk := uknown_any (f := 14) e.str path (umember_any e.str) (by omega)
   have hB := fun (z : D) (hz : nameU (memberU e.str) = .bad [] 14 ∧ z = reasD path 14) => (⟨[], 14, hu.trans hz.1, by rw [List.append_nil]; exact hz.2⟩ : ∃ p c, e.unitU sc = .bad p c ∧ z = reasD (path ++ p) c)
   refine purep_enter Try.func43 rfl (by decide) _ Try.ntmps43 (le_ok rfl) (fun w Pr hE => ?_)
   dsimp only [slotsOf, Nat.zero_add, Nat.reduceAdd]
   repeat' (first | (apply at_call; refine al_pcallD (hk) rfl hE (lt_ok rfl) (by (first | exact (ArgsD.cons (by first | exact ToD.d _ | exact ToD.row _ _ _ _ _ rfl | exact ToD.nil _) ArgsD.nil) | exact (ArgsD.cons (by first | exact ToD.d _ | exact ToD.row _ _ _ _ _ rfl | exact ToD.nil _) (ArgsD.cons (by first | exact ToD.d _ | exact ToD.row _ _ _ _ _ rfl | exact ToD.nil _) ArgsD.nil)) | exact (ArgsD.cons (by first | exact ToD.d _ | exact ToD.row _ _ _ _ _ rfl | exact ToD.nil _) (ArgsD.cons (by first | exact ToD.d _ | exact ToD.row _ _ _ _ _ rfl | exact ToD.nil _) (ArgsD.cons (by first | exact ToD.d _ | exact ToD.row _ _ _ _ _ rfl | exact ToD.nil _) ArgsD.nil))))) (fun z hz => by (repeat (first | with_reducible refine aqd_block ?_ | with_reducible refine aqd_then ?_)); exact aqd_body (hB z hz)) ?_; rintro _ ⟨hr, rfl⟩) | refine nx ?_ | apply aq_pq | apply aq_pandn | (apply aq_block_y; decide) | apply aw_scope | apply aw_label | apply aq_ng_n | apply aq_ng_r | apply aq_ng_x | (apply qr_move; refine r_move ?_) | (apply qr_assign; refine r_assign ?_) | (apply at_cond; first | refine c_t ?_ | refine c_f ?_ | (refine aw_cond rfl (fun hb => ?_) (fun hb => ?_) <;> ((try have hq := dX hb); (try (exfalso; omega))))) | (apply qr_lss; refine r_lss ?_) | (apply qr_eql; refine r_eql ?_) | (apply qr_add; refine r_add ?_) | (apply qr_len; refine r_len ?_) | (apply qr_ix; refine r_ix ?_) | (apply qr_load; refine r_load ?_) | (apply qr_faddr; refine r_faddr ?_) | (apply qr_alloc; refine r_alloc ?_) | (apply qr_boxed; refine r_boxed ?_) | (apply qr_store; refine r_store ?_) | (apply qr_build; refine r_build ?_) | (apply qr_lits; refine r_lits ?_) | (apply qr_appd; refine r_appd ?_))
   refine aq_pd ?_
   refine rt1 ?_
   exact ⟨_, hu.trans hr, rfl⟩
  have q3 : decide (e.op = 3) = false := decide_eq_false h3
  rw [if_neg h3] at hu
  by_cases h1 : e.op = 1
  ·rw [if_pos h1] at hu
   have q1 : decide (e.op = 1) = true := decide_eq_true h1
   have hn := scname_any hsc e.str
   by_cases hun : scopeU sc e.str = -1
   ·have q5 : decide (scopeU sc e.str = -1) = true := decide_eq_true hun
    refine purep_enter Try.func43 rfl (by decide) _ Try.ntmps43 (le_ok rfl) (fun w Pr hE => ?_)
    dsimp only [slotsOf, Nat.zero_add, Nat.reduceAdd]
    repeat' (first | (apply at_call; refine k_call (hn) hE ?_; rintro _ rfl) | (apply at_call; refine k_call (hcl) hE ?_; rintro _ rfl) | (apply at_op (.makeInterface _ _); refine al_y (y_ifc (by first | exact ToD.d _ | exact ToD.row _ _ _ _ _ rfl) Try.underlying58 rfl) (lt_ok rfl) ?_) | (apply at_op (.panic _); refine al_panicD rfl ?_) | refine nx ?_ | apply aq_pq | apply aq_pandn | (apply aq_block_y; decide) | apply aw_scope | apply aw_label | apply aq_ng_n | apply aq_ng_r | apply aq_ng_x | (apply qr_move; refine r_move ?_) | (apply qr_assign; refine r_assign ?_) | (apply at_cond; first | refine c_t ?_ | refine c_f ?_ | (refine aw_cond rfl (fun hb => ?_) (fun hb => ?_) <;> ((try have hq := dX hb); (try (exfalso; omega))))) | (apply qr_lss; refine r_lss ?_) | (apply qr_eql; refine r_eql ?_) | (apply qr_add; refine r_add ?_) | (apply qr_len; refine r_len ?_) | (apply qr_ix; refine r_ix ?_) | (apply qr_load; refine r_load ?_) | (apply qr_faddr; refine r_faddr ?_) | (apply qr_alloc; refine r_alloc ?_) | (apply qr_boxed; refine r_boxed ?_) | (apply qr_store; refine r_store ?_) | (apply qr_build; refine r_build ?_) | (apply qr_lits; refine r_lits ?_) | (apply qr_appd; refine r_appd ?_))
    repeat (first | with_reducible refine aqd_block ?_ | with_reducible refine aqd_then ?_)
    exact aqd_body ⟨[], 14, by rw [hu]; unfold nameU; rw [if_pos hun], by rw [List.append_nil]⟩
   ·have q5 : decide (scopeU sc e.str = -1) = false := decide_eq_false hun
    refine purep_enter Try.func43 rfl (by decide) _ Try.ntmps43 (le_ok rfl) (fun w Pr hE => ?_)
    dsimp only [slotsOf, Nat.zero_add, Nat.reduceAdd]
    repeat' (first | (apply at_call; refine k_call (hn) hE ?_; rintro _ rfl) | refine nx ?_ | apply aq_pq | apply aq_pandn | (apply aq_block_y; decide) | apply aw_scope | apply aw_label | apply aq_ng_n | apply aq_ng_r | apply aq_ng_x | (apply qr_move; refine r_move ?_) | (apply qr_assign; refine r_assign ?_) | (apply at_cond; first | refine c_t ?_ | refine c_f ?_ | (refine aw_cond rfl (fun hb => ?_) (fun hb => ?_) <;> ((try have hq := dX hb); (try (exfalso; omega))))) | (apply qr_lss; refine r_lss ?_) | (apply qr_eql; refine r_eql ?_) | (apply qr_add; refine r_add ?_) | (apply qr_len; refine r_len ?_) | (apply qr_ix; refine r_ix ?_) | (apply qr_load; refine r_load ?_) | (apply qr_faddr; refine r_faddr ?_) | (apply qr_alloc; refine r_alloc ?_) | (apply qr_boxed; refine r_boxed ?_) | (apply qr_store; refine r_store ?_) | (apply qr_build; refine r_build ?_) | (apply qr_lits; refine r_lits ?_) | (apply qr_appd; refine r_appd ?_))
    refine aq_pd ?_
    refine rt1 ?_
    exact ⟨_, by rw [hu]; unfold nameU; rw [if_neg hun], rfl⟩
  have q1 : decide (e.op = 1) = false := decide_eq_false h1
  rw [if_neg h1] at hu
  have h15 : e.op = 15 → e.args.length = 3 := fun h => by
   rw [right_eq, Bool.and_eq_true] at hr
   have := of_decide_eq_true hr.1
   simp [operandsV, h] at this
   omega
  refine purep_enter Try.func43 rfl (by decide) _ Try.ntmps43 (le_ok rfl) (fun w Pr hE => ?_)
  dsimp only [slotsOf, Nat.zero_add, Nat.reduceAdd]
  repeat' (first | refine nx ?_ | apply aq_pq | apply aq_pandn | (apply aq_block_y; decide) | apply aw_scope | apply aw_label | apply aq_ng_n | apply aq_ng_r | apply aq_ng_x | (apply qr_move; refine r_move ?_) | (apply qr_assign; refine r_assign ?_) | (apply at_cond; first | refine c_t ?_ | refine c_f ?_ | (refine aw_cond rfl (fun hb => ?_) (fun hb => ?_) <;> ((try have hq := dX hb); (try (exfalso; omega))))) | (apply qr_eql; refine r_eql ?_) | (apply qr_len; refine r_len ?_) | (apply qr_load; refine r_load ?_) | (apply qr_faddr; refine r_faddr ?_) | (apply qr_boxed; refine r_boxed ?_))
  refine aw_adopt 8 60 3 1 rfl rfl (lt_ok rfl) ?_
  refine aw_lp (fun N sl ob => ∃ (i k : Nat) (us : List Int), N = e.args.length - i ∧ i ≤ e.args.length ∧ us.length = i ∧ (∀ (j : Nat) (hj : j < e.args.length), j < i → e.args[j].unitU sc = .ok (us.getD j 0)) ∧ sl = [(46, .d (.int i)), (45, .d (.int e.args.length)), (44, .d (.list 5 (Ex.rows e.args))), (8, .row 60 k), (4, .box 4 0), (3, .box 3 0), (2, .d (intsD path))] ∧ ob = [(60, .row 3 1 k (us.map fun n => [D.int n])), (4, exO' e), (3, scO ls sc)]) (⟨0, 0, [], rfl, Nat.zero_le _, rfl, fun j hj h => by omega, rfl, rfl⟩) ?_
  rintro N sl ob ⟨i, k, us, rfl, hi, hul, hall, rfl, rfl⟩
  have hlt1 : decide ((i : Int) < (e.args.length : Int)) = decide (i < e.args.length) := by simp
  by_cases hlt : i < e.args.length
  ·have q5 : decide ((i : Int) < (e.args.length : Int)) = true := decide_eq_true (by omega)
   have hg := rows_get hlt
   have hxr := hargs e.args[i] (List.getElem_mem hlt)
   have hxt := wide_args ht e.args[i] (List.getElem_mem hlt)
   have hcr := clone_irow path (by omega)
   have hcx := ih ls sc hsc e.args[i] (path ++ [(i : Int)]) hxr hxt (by rw [List.length_append, List.length_singleton]; omega)
   have hpath : (path ++ [(i : Int)]).map (fun n => [D.int n]) = path.map (fun n => [D.int n]) ++ [[D.int (i : Int)]] := by simp
   unfold intsD at hcx
   rw [hpath] at hcx
   cases hx : e.args[i].unitU sc with
   | ok u =>
    have hcx2 := (hcx.mono (P' := (· = .int u)) (B' := fun _ => False) (fun r ⟨v, hv, hr⟩ => by rw [hx] at hv; cases hv; exact hr) (fun r ⟨p, c, hv, _⟩ => by rw [hx] at hv; cases hv)).ok (fun _ h => h)
    have hnext : ∀ (j : Nat) (hj : j < e.args.length), j < i + 1 → e.args[j].unitU sc = .ok ((us ++ [u]).getD j 0) := fun j hj hji => by
     rcases Nat.lt_succ_iff_lt_or_eq.1 hji with h | rfl
     ·rw [hall j hj h]
      congr 1
      simp [List.getD_eq_getElem?_getD, List.getElem?_append_left (show j < us.length by omega)]
     ·rw [hx]
      congr 1
      simp [List.getD_eq_getElem?_getD, hul]
    have hmap : us.map (fun n => [D.int n]) ++ [[D.int u]] = (us ++ [u]).map (fun n => [D.int n]) := by simp
    have hum : (us.map fun n => [D.int n]).length = us.length := List.length_map ..
    clear hcx hx
    generalize e.args[i] = x at hg hcx2
    repeat' (first | (apply at_op (.indexAddr _ _ _); refine al_ixq hg ?_) | refine nx ?_ | apply aq_pq | apply aq_pandn | (apply aq_block_y; decide) | apply aw_scope | apply aw_label | apply aq_ng_n | apply aq_ng_r | apply aq_ng_x | (apply qr_move; refine r_move ?_) | (apply qr_assign; refine r_assign ?_) | (apply at_cond; first | refine c_t ?_ | refine c_f ?_ | (refine aw_cond rfl (fun hb => ?_) (fun hb => ?_) <;> ((try have hq := dX hb); (try (exfalso; omega))))) | (apply qr_lss; refine r_lss ?_) | (apply qr_ix; refine r_ix ?_) | (apply qr_load; refine r_load ?_) | (apply qr_alloc; refine r_alloc ?_) | (apply qr_store; refine r_store ?_))
    refine aw_tree ((.free 0 (.free 1 (.free 2 (.free 3 (.free 5 (.fork (.alt 4 (.only 6 (.only 7 (.only 8 (.only 9 (.only 10 .tail))))) (.alt 6 (.only 4 (.only 7 (.only 8 (.only 9 (.only 10 .tail))))) .stop))))))))) [11] ([(10, exO' x), (4, exO' e), (3, scO ls sc)]) ([(61, .row 60 (k + 1)), (46, .d (.int i)), (45, .d (.int e.args.length)), (44, .d (.list 5 (Ex.rows e.args))), (4, .box 4 0), (3, .box 3 0), (2, .d (intsD path))]) ([(60, .row 3 1 (k + 1) (us.map (fun n => [D.int n]) ++ [[D.int u]])), (4, exO' e), (3, scO ls sc)]) (by kernel_rfl) (by kernel_rfl) (by kernel_rfl) rfl (by decide) (by (repeat (first | exact obs_nil | (apply obs_cons; focus (first | rfl | (simp [find]; done)))))) (fun hrest => ?_) ?_
    ·simp only [tailed, List.filterMap_cons, List.filterMap_nil, List.getElem?_cons_zero, List.getElem?_cons_succ] at hrest
     repeat' (first | apply am_fork | apply am_alt | exact am_stop | refine am_free rfl ?_ | refine am_only rfl ?_ | refine am_leaf hrest (by (repeat (first | exact sub_nil | (apply sub_cons; focus (first | rfl | exact vint (by first | omega) | (simp [look]; done)))))) (by (repeat (first | exact obs_nil | (apply obs_cons; focus (first | rfl | (simp [find]; done)))))) | refine m_skip ?_ | refine n_skip ?_ | (apply at_mcall; refine m_ocall1 [(5, 55)] (hcr) hE ?_; rintro _ _ ⟨kk, rfl, rfl⟩ <;> (intro _ _ h1 h2; simp only [renEqs, Nat.reduceBEq, renL_app, renL_ds, renL_und] at h1 h2; subst h1 h2)) | (apply at_am (.call { callee := .builtin .append, args := _, argTypes := _ }); refine am_append (by first | exact want_none | exact want_yes rfl rfl (by assumption) | exact want_yes rfl rfl (by with_reducible rfl)) rfl rfl rfl (by first | exact ToD.d _ | exact ToD.row _ _ _ _ _ rfl) rfl rfl (by simp [D.one, Value.oneCell']) (by decide) (by first | (simp only [List.length_map, List.length_append, List.length_cons, List.length_nil]; omega) | omega) (by first | (simp only [List.length_map, List.length_append, List.length_cons, List.length_nil]; omega) | omega) (lt_ok rfl) ?_) | (apply at_mcall; refine m_call (hcx2) hE ?_; rintro _ rfl; (try dsimp only [flat, D.plain, D.plainL])) | (apply qm_move; refine m_move ?_) | (apply qm_load; refine m_load ?_) | (apply at_am (.buildSlice _ _ _); first | refine am_lit1 (by first | exact want_none | exact want_yes rfl rfl (by assumption) | exact want_yes rfl rfl (by with_reducible rfl)) rfl (by first | exact ToD.d _ | exact ToD.row _ _ _ _ _ rfl) (by first | (simp only [normV, normList, normMap]; rfl) | rfl) rfl (le_ok rfl) (lt_ok rfl) ?_ | refine am_lit (by first | exact want_none | exact want_yes rfl rfl (by assumption) | exact want_yes rfl rfl (by with_reducible rfl)) rfl (by repeat (first | exact PartsD.nil | (apply PartsD.cons; first | exact ToD.d _ | exact ToD.row _ _ _ _ _ rfl))) (by simp [dfill, putD, cellsD, zerosD, Value.cells]; rfl) (by first | (simp only [normV, normList, normMap]; rfl) | rfl) (by decide) (by decide) (lt_ok rfl) ?_) | (apply at_am (.alloc _); refine am_alloc (by first | exact want_none | exact want_yes rfl rfl (by assumption) | exact want_yes rfl rfl (by with_reducible rfl)) rfl (by first | (simp only [normV, normList, normMap]; rfl) | rfl) rfl (lt_ok rfl) rfl rfl rfl ?_) | (apply at_am (.store _ _ _); first | refine am_store (by first | exact want_none | exact want_yes rfl rfl (by assumption) | exact want_yes rfl rfl (by with_reducible rfl)) rfl rfl rfl (ev_d rfl) nofun (by first | (simp only [normV, normList, normMap]; rfl) | rfl) (by simp [V.one, Value.oneCell']) (.inl ⟨rfl, rfl⟩) rfl (le_ok rfl) (by first | (simp only [normV, normList, normMap]; rfl) | rfl) ?_ | refine am_store (by first | exact want_none | exact want_yes rfl rfl (by assumption) | exact want_yes rfl rfl (by with_reducible rfl)) rfl rfl rfl (ev_d rfl) nofun (by first | (simp only [normV, normList, normMap]; rfl) | rfl) (by simp [V.one, Value.oneCell']) (.inr rfl) rfl (le_ok rfl) (by first | (simp only [normV, normList, normMap]; rfl) | rfl) ?_) | (refine am_split rfl rfl (fun hb => ?_) (fun hb => ?_) <;> ((try have hq := dX hb); (try (exfalso; omega)))))
    simp only [tailed, List.filterMap_cons, List.filterMap_nil, List.getElem?_cons_zero, List.getElem?_cons_succ]
    repeat' (first | refine nx ?_ | apply aq_pq | apply aq_pandn | (apply aq_block_y; decide) | apply aw_scope | apply aw_label | apply aq_ng_n | apply aq_ng_r | apply aq_ng_x | (apply qr_move; refine r_move ?_) | (apply qr_assign; refine r_assign ?_) | (apply at_cond; first | refine c_t ?_ | refine c_f ?_ | (refine aw_cond rfl (fun hb => ?_) (fun hb => ?_) <;> ((try have hq := dX hb); (try (exfalso; omega))))) | (apply qr_load; refine r_load ?_) | (apply qr_lits; refine r_lits ?_) | (apply qr_appd; refine r_appd ?_))
    rw [hmap]
    repeat' (first | refine nx ?_ | apply aq_pq | apply aq_pandn | (apply aq_block_y; decide) | apply aw_scope | apply aw_label | apply aq_ng_n | apply aq_ng_r | apply aq_ng_x | (apply qr_move; refine r_move ?_) | (apply at_cond; first | refine c_t ?_ | refine c_f ?_ | (refine aw_cond rfl (fun hb => ?_) (fun hb => ?_) <;> ((try have hq := dX hb); (try (exfalso; omega))))) | (apply qr_add; refine r_add ?_))
    refine aq_rd (⟨i + 1, k + 1, us ++ [u], rfl, by omega, by simp [hul], hnext, rfl, rfl⟩) (by omega)
   | bad p c =>
    have hbad : e.unitU sc = .bad ((i : Int) :: p) c := by
     rw [hu, parts_bad hlt hx (fun j hj hji => ⟨_, hall j hj hji⟩) 0]
     simp [partsU]
    have hcx2 := hcx.mono (P' := fun _ => False) (B' := fun z => z = reasD (path ++ (i : Int) :: p) c) (fun r ⟨v, hv, hr⟩ => by rw [hx] at hv; cases hv) (fun r ⟨p', c', hv, hr⟩ => by
     rw [hx] at hv
     cases hv
     rw [hr]
     simp)
    have hB := fun (z : D) (hz : z = reasD (path ++ (i : Int) :: p) c) => (⟨_, _, hbad, hz⟩ : ∃ p c, e.unitU sc = .bad p c ∧ z = reasD (path ++ p) c)
    clear hcx hx hall
    generalize e.args[i] = x at hg hcx2
    repeat' (first | (apply at_op (.indexAddr _ _ _); refine al_ixq hg ?_) | refine nx ?_ | apply aq_pq | apply aq_pandn | (apply aq_block_y; decide) | apply aw_scope | apply aw_label | apply aq_ng_n | apply aq_ng_r | apply aq_ng_x | (apply qr_move; refine r_move ?_) | (apply qr_assign; refine r_assign ?_) | (apply at_cond; first | refine c_t ?_ | refine c_f ?_ | (refine aw_cond rfl (fun hb => ?_) (fun hb => ?_) <;> ((try have hq := dX hb); (try (exfalso; omega))))) | (apply qr_lss; refine r_lss ?_) | (apply qr_ix; refine r_ix ?_) | (apply qr_load; refine r_load ?_) | (apply qr_alloc; refine r_alloc ?_) | (apply qr_store; refine r_store ?_))
    refine aw_treep 58 _ ((.free 0 (.free 1 (.free 2 (.free 3 (.free 5 (.fork (.alt 4 (.only 6 (.only 7 (.only 8 (.only 9 (.only 10 .tail))))) (.alt 6 (.only 4 (.only 7 (.only 8 (.only 9 (.only 10 .tail))))) .stop))))))))) [11] ([(10, exO' x), (4, exO' e), (3, scO ls sc)]) ([(61, .d (.list 1 [[]]))]) ([]) (by kernel_rfl) (by kernel_rfl) (by kernel_rfl) rfl (by decide) (by (repeat (first | exact obs_nil | (apply obs_cons; focus (first | rfl | (simp [find]; done)))))) (fun z hz => by (repeat (first | with_reducible refine apd_block ?_ | with_reducible refine apd_then ?_)); exact apd_body hz) (fun hrest => ?_) ?_
    ·simp only [tailed, List.filterMap_cons, List.filterMap_nil, List.getElem?_cons_zero, List.getElem?_cons_succ] at hrest
     repeat' (first | apply am_fork | apply am_alt | exact am_stop | refine am_free rfl ?_ | refine am_only rfl ?_ | refine am_leaf hrest (by (repeat (first | exact sub_nil | (apply sub_cons; focus (first | rfl | exact vint (by first | omega) | (simp [look]; done)))))) (by (repeat (first | exact obs_nil | (apply obs_cons; focus (first | rfl | (simp [find]; done)))))) | refine m_skip ?_ | refine n_skip ?_ | (apply at_mcall; refine m_ocall1 [(5, 55)] (hcr) hE ?_; rintro _ _ ⟨kk, rfl, rfl⟩ <;> (intro _ _ h1 h2; simp only [renEqs, Nat.reduceBEq, renL_app, renL_ds, renL_und] at h1 h2; subst h1 h2)) | (apply at_am (.call { callee := .builtin .append, args := _, argTypes := _ }); refine am_append (by first | exact want_none | exact want_yes rfl rfl (by assumption) | exact want_yes rfl rfl (by with_reducible rfl)) rfl rfl rfl (by first | exact ToD.d _ | exact ToD.row _ _ _ _ _ rfl) rfl rfl (by simp [D.one, Value.oneCell']) (by decide) (by first | (simp only [List.length_map, List.length_append, List.length_cons, List.length_nil]; omega) | omega) (by first | (simp only [List.length_map, List.length_append, List.length_cons, List.length_nil]; omega) | omega) (lt_ok rfl) ?_) | (apply at_mcall; refine am_pcallD (hcx2) (by first | exact want_none | exact want_yes rfl rfl (by assumption) | exact want_yes rfl rfl (by with_reducible rfl)) rfl hE (lt_ok rfl) (by (first | exact (ArgsD.cons (by first | exact ToD.d _ | exact ToD.row _ _ _ _ _ rfl | exact ToD.nil _) ArgsD.nil) | exact (ArgsD.cons (by first | exact ToD.d _ | exact ToD.row _ _ _ _ _ rfl | exact ToD.nil _) (ArgsD.cons (by first | exact ToD.d _ | exact ToD.row _ _ _ _ _ rfl | exact ToD.nil _) ArgsD.nil)) | exact (ArgsD.cons (by first | exact ToD.d _ | exact ToD.row _ _ _ _ _ rfl | exact ToD.nil _) (ArgsD.cons (by first | exact ToD.d _ | exact ToD.row _ _ _ _ _ rfl | exact ToD.nil _) (ArgsD.cons (by first | exact ToD.d _ | exact ToD.row _ _ _ _ _ rfl | exact ToD.nil _) ArgsD.nil))))) rfl (fun z hz => apd_pand (hB z hz)) ?_; (intro _ hf; exact hf.elim); (try dsimp only [flat, D.plain, D.plainL])) | (apply qm_move; refine m_move ?_) | (apply qm_load; refine m_load ?_) | (apply at_am (.buildSlice _ _ _); first | refine am_lit1 (by first | exact want_none | exact want_yes rfl rfl (by assumption) | exact want_yes rfl rfl (by with_reducible rfl)) rfl (by first | exact ToD.d _ | exact ToD.row _ _ _ _ _ rfl) (by first | (simp only [normV, normList, normMap]; rfl) | rfl) rfl (le_ok rfl) (lt_ok rfl) ?_ | refine am_lit (by first | exact want_none | exact want_yes rfl rfl (by assumption) | exact want_yes rfl rfl (by with_reducible rfl)) rfl (by repeat (first | exact PartsD.nil | (apply PartsD.cons; first | exact ToD.d _ | exact ToD.row _ _ _ _ _ rfl))) (by simp [dfill, putD, cellsD, zerosD, Value.cells]; rfl) (by first | (simp only [normV, normList, normMap]; rfl) | rfl) (by decide) (by decide) (lt_ok rfl) ?_) | (apply at_am (.alloc _); refine am_alloc (by first | exact want_none | exact want_yes rfl rfl (by assumption) | exact want_yes rfl rfl (by with_reducible rfl)) rfl (by first | (simp only [normV, normList, normMap]; rfl) | rfl) rfl (lt_ok rfl) rfl rfl rfl ?_) | (apply at_am (.store _ _ _); first | refine am_store (by first | exact want_none | exact want_yes rfl rfl (by assumption) | exact want_yes rfl rfl (by with_reducible rfl)) rfl rfl rfl (ev_d rfl) nofun (by first | (simp only [normV, normList, normMap]; rfl) | rfl) (by simp [V.one, Value.oneCell']) (.inl ⟨rfl, rfl⟩) rfl (le_ok rfl) (by first | (simp only [normV, normList, normMap]; rfl) | rfl) ?_ | refine am_store (by first | exact want_none | exact want_yes rfl rfl (by assumption) | exact want_yes rfl rfl (by with_reducible rfl)) rfl rfl rfl (ev_d rfl) nofun (by first | (simp only [normV, normList, normMap]; rfl) | rfl) (by simp [V.one, Value.oneCell']) (.inr rfl) rfl (le_ok rfl) (by first | (simp only [normV, normList, normMap]; rfl) | rfl) ?_) | (refine am_split rfl rfl (fun hb => ?_) (fun hb => ?_) <;> ((try have hq := dX hb); (try (exfalso; omega)))))
    simp only [tailed, List.filterMap_cons, List.filterMap_nil, List.getElem?_cons_zero, List.getElem?_cons_succ]
    exact al_never 61 rfl
  ·obtain rfl : i = e.args.length := by omega
   have q5 : decide ((e.args.length : Int) < (e.args.length : Int)) = false := decide_eq_false (by omega)
   have hinl := parts_all hul (fun j hj => hall j hj hj) 0
   rw [hinl] at hu
   have hj := joined_any e.op us (by omega) (fun h => by rw [hul]; exact h15 h)
   clear hall
   by_cases hjn : joinU e.op us = -1
   ·have q6 : decide (joinU e.op us = -1) = true := decide_eq_true hjn
    repeat' (first | (apply at_call; refine k_call (hj) hE ?_; rintro _ rfl) | (apply at_call; refine k_call (hcl) hE ?_; rintro _ rfl) | (apply at_op (.makeInterface _ _); refine al_y (y_ifc (by first | exact ToD.d _ | exact ToD.row _ _ _ _ _ rfl) Try.underlying58 rfl) (lt_ok rfl) ?_) | (apply at_op (.panic _); refine al_panicD rfl ?_) | refine nx ?_ | apply aq_pq | apply aq_pandn | (apply aq_block_y; decide) | apply aw_scope | apply aw_label | apply aq_ng_n | apply aq_ng_r | apply aq_ng_x | (apply qr_move; refine r_move ?_) | (apply qr_assign; refine r_assign ?_) | (apply at_cond; first | refine c_t ?_ | refine c_f ?_ | (refine aw_cond rfl (fun hb => ?_) (fun hb => ?_) <;> ((try have hq := dX hb); (try (exfalso; omega))))) | (apply qr_lss; refine r_lss ?_) | (apply qr_eql; refine r_eql ?_) | (apply qr_load; refine r_load ?_) | (apply qr_faddr; refine r_faddr ?_) | (apply qr_build; refine r_build ?_))
    repeat (first | with_reducible refine aqd_block ?_ | with_reducible refine aqd_then ?_)
    exact aqd_body ⟨[], 13, by rw [hu]; simp only [partsU]; rw [if_pos hjn], by rw [List.append_nil]⟩
   ·have q6 : decide (joinU e.op us = -1) = false := decide_eq_false hjn
    repeat' (first | (apply at_call; refine k_call (hj) hE ?_; rintro _ rfl) | refine nx ?_ | apply aq_pq | apply aq_pandn | (apply aq_block_y; decide) | apply aw_scope | apply aw_label | apply aq_ng_n | apply aq_ng_r | apply aq_ng_x | (apply qr_move; refine r_move ?_) | (apply qr_assign; refine r_assign ?_) | (apply at_cond; first | refine c_t ?_ | refine c_f ?_ | (refine aw_cond rfl (fun hb => ?_) (fun hb => ?_) <;> ((try have hq := dX hb); (try (exfalso; omega))))) | (apply qr_lss; refine r_lss ?_) | (apply qr_eql; refine r_eql ?_) | (apply qr_load; refine r_load ?_) | (apply qr_faddr; refine r_faddr ?_))
    refine aq_pd ?_
    refine rt1 ?_
    exact ⟨_, by rw [hu]; simp only [partsU]; rw [if_neg hjn], rfl⟩
end Go.Proofs.Ytgiacdhffklenaa
end
section
set_option linter.unusedSimpArgs false
set_option linter.unusedVariables false
namespace Go.Proofs.Ytgiacdhffklenaa
open Go.RowKit
abbrev uB (n : Int) : O := .box 3 [.d (.int n)]
abbrev whyB (p : List Int) (c : Int) : O := .box 58 [.d (intsD p), .d (.int c)]
abbrev whyZ : O := .box 58 [.d (.val (.slice none 0 0)), .d (.int 0)]
theorem anyI : ∃ ms, Try.prog.underlying 20 = some (.interface ms) := ⟨_, Try.underlying20⟩
theorem unit1_yes (p : List Int) (c a : Int) : ObDD 42 [.box 1004 0, .box 1005 0] [(1004, uB a), (1005, whyZ)] 58 (reasD p c) (fun o => o = [(1004, uB 0), (1005, whyB p c)]) := by
 refine ⟨⟨_, Try.func42, by decide, rfl⟩, fun w Pr vs β κ u h1 h2 h3 h4 h5 h6 hz => ?_⟩
 refine callsD_of_wpS Try.func42 rfl fun c₀ cs hu => ?_
 have hG := Good.start (N := 8) (args := [.box 1004 0, .box 1005 0]) (by decide) rfl h1 h3 h4 h5 h6
 have hE : Fine ⟨w, Pr, 8, [(1004, uB a), (1005, whyZ)], β, κ, []⟩ := ⟨h2, h1⟩
 rw [Try.ntmps42]
 have hrec : recoverD (c₀ :: cs) = some (.iface 58 u, { c₀ with mode := .panicking [{ v := .iface 58 u, recovered := true }] } :: cs) := by
  simp only [recoverD, hu]
 refine wpS_seq (wpS_region (ops_recover2 rfl (.inl hrec) ?_))
 have hG2 := hG.put (d := 3) (lt_ok rfl) (v := .iface 58 u) (x := .d (.ifc 58 (reasD p c))) (.d _ _ (.ifc _ _ _ hz))
 refine (y_assign rfl).step rfl (lt_ok rfl) _ _ ⟨_, _, _, hG2⟩ _ _ (fun a' w' hI => ?_)
 refine wpS_of_wp (AW.run ?_ _ _ hI)
 repeat' (first | (apply at_op (.binOp .neq _ _ _ _); refine al_y (y_ifcneq rfl anyI) (lt_ok rfl) ?_) | refine nx ?_ | apply aw_scope | apply aw_label | apply aq_ng_n | apply aq_ng_r | apply aq_ng_x | (apply qr_move; refine r_move ?_) | (apply at_cond; first | refine c_t ?_ | refine c_f ?_ | (refine aw_cond rfl (fun hb => ?_) (fun hb => ?_) <;> ((try have hq := dX hb); (try (exfalso; omega))))) | (apply qr_neq; refine r_neq ?_))
 refine aw_tree ((.free 0 (.fork (.alt 1 (.only 2 .tail) (.alt 2 (.only 1 .tail) .stop))))) [3] ([]) ([(7, .d (reasD p c)), (0, .box 1004 0), (1, .box 1005 0)]) ([(1004, uB 0), (1005, whyZ)]) (by kernel_rfl) (by kernel_rfl) (by kernel_rfl) rfl (by decide) (by (repeat (first | exact obs_nil | (apply obs_cons; focus (first | rfl | (simp [find]; done)))))) (fun hrest => ?_) ?_
 ·simp only [tailed, List.filterMap_cons, List.filterMap_nil, List.getElem?_cons_zero, List.getElem?_cons_succ] at hrest
  repeat' (first | apply am_fork | apply am_alt | exact am_stop | refine am_free rfl ?_ | refine am_only rfl ?_ | refine am_leaf hrest (by (repeat (first | exact sub_nil | (apply sub_cons; focus (first | rfl | exact vint (by first | omega) | (simp [look]; done)))))) (by (repeat (first | exact obs_nil | (apply obs_cons; focus (first | rfl | (simp [find]; done)))))) | refine m_skip ?_ | refine n_skip ?_ | (apply at_am (.typeAssert _ _ _ _); first | refine am_y (by first | exact want_none | exact want_yes rfl rfl (by assumption) | exact want_yes rfl rfl (by with_reducible rfl)) (y_assertD rfl Try.underlying58 rfl) (lt_ok rfl) ?_ | refine am_y' (by first | exact want_none | exact want_yes rfl rfl (by assumption) | exact want_yes rfl rfl (by with_reducible rfl)) (y_assertD rfl Try.underlying58 rfl) (lt_ok rfl) ?_) | (apply qm_move; refine m_move ?_) | (apply at_am (.alloc _); refine am_alloc (by first | exact want_none | exact want_yes rfl rfl (by assumption) | exact want_yes rfl rfl (by with_reducible rfl)) rfl (by first | (simp only [normV, normList, normMap]; rfl) | rfl) rfl (lt_ok rfl) rfl rfl rfl ?_) | (apply at_am (.store _ _ _); first | refine am_store (by first | exact want_none | exact want_yes rfl rfl (by assumption) | exact want_yes rfl rfl (by with_reducible rfl)) rfl rfl rfl (ev_d rfl) nofun (by first | (simp only [normV, normList, normMap]; rfl) | rfl) (by simp [V.one, Value.oneCell']) (.inl ⟨rfl, rfl⟩) rfl (le_ok rfl) (by first | (simp only [normV, normList, normMap]; rfl) | rfl) ?_ | refine am_store (by first | exact want_none | exact want_yes rfl rfl (by assumption) | exact want_yes rfl rfl (by with_reducible rfl)) rfl rfl rfl (ev_d rfl) nofun (by first | (simp only [normV, normList, normMap]; rfl) | rfl) (by simp [V.one, Value.oneCell']) (.inr rfl) rfl (le_ok rfl) (by first | (simp only [normV, normList, normMap]; rfl) | rfl) ?_) | (refine am_split rfl rfl (fun hb => ?_) (fun hb => ?_) <;> ((try have hq := dX hb); (try (exfalso; omega)))))
 simp only [tailed, List.filterMap_cons, List.filterMap_nil, List.getElem?_cons_zero, List.getElem?_cons_succ]
 repeat' (first | refine nx ?_ | apply aw_scope | apply aw_label | apply aq_ng_n | apply aq_ng_r | apply aq_ng_x | (apply qr_move; refine r_move ?_) | (apply at_cond; first | refine c_t ?_ | refine c_f ?_ | (refine aw_cond rfl (fun hb => ?_) (fun hb => ?_) <;> ((try have hq := dX hb); (try (exfalso; omega))))) | (apply qr_store; refine r_store ?_))
 refine aq_ends (.inr rfl) [(1004, uB 0), (1005, whyB p c)] rfl rfl (by (repeat (first | exact obs_nil | (apply obs_cons; focus (first | rfl | (simp [find]; done)))))) (by rfl)
theorem unit1_no (a : Int) : ObD 42 [.box 1004 0, .box 1005 0] [(1004, uB a), (1005, whyZ)] .returning .returning (fun o => o = [(1004, uB a), (1005, whyZ)]) := by
 refine ⟨⟨_, Try.func42, by decide, rfl⟩, fun w Pr vs β κ h1 h2 h3 h4 h5 h6 => ?_⟩
 refine callsD_of_wpS Try.func42 rfl fun c₀ cs hu => ?_
 have hG := Good.start (N := 8) (args := [.box 1004 0, .box 1005 0]) (by decide) rfl h1 h3 h4 h5 h6
 have hE : Fine ⟨w, Pr, 8, [(1004, uB a), (1005, whyZ)], β, κ, []⟩ := ⟨h2, h1⟩
 rw [Try.ntmps42]
 have hc0 : c₀ = { c₀ with mode := .returning } := by cases c₀; simp_all
 have hrec : recoverD (c₀ :: cs) = none := by
  simp only [recoverD, hu]
 refine wpS_seq (wpS_region (ops_recover2 rfl (.inr ⟨hrec, rfl, rfl⟩) ?_))
 have hG2 := hG.put (d := 3) (lt_ok rfl) (v := .nilIface) (x := .d (.val .nilIface)) (.d _ _ (.val _))
 refine (y_assign rfl).step rfl (lt_ok rfl) _ _ ⟨_, _, _, hG2⟩ _ _ (fun a' w' hI => ?_)
 refine wpS_of_wp (AW.run ?_ _ _ hI)
 rw [show (c₀ :: cs : List Frame) = { c₀ with mode := .returning } :: cs by rw [← hc0]]
 repeat' (first | (apply at_op (.binOp .neq _ _ _ _); refine al_y (y_ifnil rfl anyI) (lt_ok rfl) ?_) | refine nx ?_ | apply aw_scope | apply aw_label | apply aq_ng_n | apply aq_ng_r | apply aq_ng_x | (apply qr_move; refine r_move ?_) | (apply at_cond; first | refine c_t ?_ | refine c_f ?_ | (refine aw_cond rfl (fun hb => ?_) (fun hb => ?_) <;> ((try have hq := dX hb); (try (exfalso; omega))))) | (apply qr_neq; refine r_neq ?_))
 refine aq_ends (.inr rfl) [(1004, uB a), (1005, whyZ)] rfl rfl (by (repeat (first | exact obs_nil | (apply obs_cons; focus (first | rfl | (simp [find]; done)))))) (by rfl)
def unitD : UR → D
 | .ok u => .tup [.int u, reasD [] 0]
 | .bad p c => .tup [.int 0, reasD p c]
theorem unit_any {ls : List (ByteArray × Ex)} {sc : List (ByteArray × Int)} (hsc : ScOk ls sc) (e : Ex) (hr : e.right 12 = true) (ht : e.wide) : PureC 33 [scD ls sc, .agg (exC e)] (· = unitD (e.unitU sc)) := by
 have hof := of_any 12 ls sc hsc e [] hr ht (by simp)
 refine pure_enterD Try.func33 rfl (by decide) _ Try.ntmps33 (le_ok rfl) (fun w Pr hE => ?_)
 dsimp only [slotsOf, Nat.zero_add, Nat.reduceAdd]
 repeat' (first | (apply at_op (.makeFunc _ _ _); refine al_y (y_clo rfl) (lt_ok rfl) ?_) | refine nx ?_ | apply aq_pq | apply aw_scope | apply aw_label | apply aq_ng_n | apply aq_ng_r | apply aq_ng_x | (apply qr_func; refine r_func ?_) | (apply qr_alloc; refine r_alloc ?_) | (apply qr_boxed; refine r_boxed ?_))
 refine al_less (sl' := [(6, .clo (.func 42) [.box 4 0, .box 5 0]), (5, .box 5 0), (4, .box 4 0), (3, .box 3 0), (2, .box 2 0)]) (ob' := [(2, scO ls sc), (3, exO' e), (4, uB 0), (5, whyZ)]) (by (repeat (first | exact sub_nil | (apply sub_cons; focus (first | rfl | exact vint (by first | omega) | (simp [look]; done)))))) (by (repeat (first | exact obs_nil | (apply obs_cons; focus (first | rfl | (simp [find]; done)))))) ?_
 refine al_ren 2 1002 rfl rfl ?_
 refine al_less (sl' := [(6, .clo (.func 42) [.box 4 0, .box 5 0]), (5, .box 5 0), (4, .box 4 0), (3, .box 3 0), (2, .box 1002 0)]) (ob' := [(1002, scO ls sc), (3, exO' e), (4, uB 0), (5, whyZ)]) (by (repeat (first | exact sub_nil | (apply sub_cons; focus (first | rfl | exact vint (by first | omega) | (simp [look]; done)))))) (by (repeat (first | exact obs_nil | (apply obs_cons; focus (first | rfl | (simp [find]; done)))))) ?_
 refine al_ren 3 1003 rfl rfl ?_
 refine al_less (sl' := [(6, .clo (.func 42) [.box 4 0, .box 5 0]), (5, .box 5 0), (4, .box 4 0), (3, .box 1003 0), (2, .box 1002 0)]) (ob' := [(1002, scO ls sc), (1003, exO' e), (4, uB 0), (5, whyZ)]) (by (repeat (first | exact sub_nil | (apply sub_cons; focus (first | rfl | exact vint (by first | omega) | (simp [look]; done)))))) (by (repeat (first | exact obs_nil | (apply obs_cons; focus (first | rfl | (simp [find]; done)))))) ?_
 refine al_ren 4 1004 rfl rfl ?_
 refine al_less (sl' := [(6, .clo (.func 42) [.box 1004 0, .box 5 0]), (5, .box 5 0), (4, .box 1004 0), (3, .box 1003 0), (2, .box 1002 0)]) (ob' := [(1002, scO ls sc), (1003, exO' e), (1004, uB 0), (5, whyZ)]) (by (repeat (first | exact sub_nil | (apply sub_cons; focus (first | rfl | exact vint (by first | omega) | (simp [look]; done)))))) (by (repeat (first | exact obs_nil | (apply obs_cons; focus (first | rfl | (simp [find]; done)))))) ?_
 refine al_ren 5 1005 rfl rfl ?_
 refine al_less (sl' := [(6, .clo (.func 42) [.box 1004 0, .box 1005 0]), (5, .box 1005 0), (4, .box 1004 0), (3, .box 1003 0), (2, .box 1002 0)]) (ob' := [(1002, scO ls sc), (1003, exO' e), (1004, uB 0), (1005, whyZ)]) (by (repeat (first | exact sub_nil | (apply sub_cons; focus (first | rfl | exact vint (by first | omega) | (simp [look]; done)))))) (by (repeat (first | exact obs_nil | (apply obs_cons; focus (first | rfl | (simp [find]; done)))))) ?_
 refine al_defer rfl hE rfl rfl rfl (fun E' cs en eo hN hE' hdf hcl hcs => ?_)
 obtain ⟨w', Pr', n', ob0', β', κ', df'⟩ := E'
 dsimp only at en eo hdf hcs
 subst en eo hdf
 have hE := hE'
 cases hx : e.unitU sc with
 | ok u =>
  have hok := (hof.mono (P' := (· = .int u)) (B' := fun _ => False) (fun r ⟨v, hv, hr⟩ => by rw [hx] at hv; cases hv; exact hr) (fun r ⟨p, c, hv, _⟩ => by rw [hx] at hv; cases hv)).ok (fun _ h => h)
  repeat' (first | (apply at_call; refine k_call (hok) hE ?_; rintro _ rfl) | refine nx ?_ | apply aq_pq | apply aw_scope | apply aw_label | apply aq_ng_n | apply aq_ng_r | apply aq_ng_x | (apply qr_load; refine r_load ?_) | (apply qr_store; refine r_store ?_) | (apply qr_build; refine r_build ?_))
  refine aq_less (sl' := [(5, .box 1005 0), (4, .box 1004 0)]) (ob' := [(1004, uB u), (1005, whyZ)]) (by (repeat (first | exact sub_nil | (apply sub_cons; focus (first | rfl | exact vint (by first | omega) | (simp [look]; done)))))) (by (repeat (first | exact obs_nil | (apply obs_cons; focus (first | rfl | (simp [find]; done)))))) ?_
  refine aq_leave (.inl ⟨rfl, rfl⟩) rfl hN hE' rfl hcl hcs rfl (unit1_no u) rfl rfl (fun E'' ob'' k1 k2 hN'' ho => ?_) (fun _ _ => trivial)
  subst ho
  refine aq_nilcell 1005 0 1 rfl rfl rfl ?_
  exact retN2 hN'' rfl (by first | exact ResX.tmp _ _ (by first | exact ToD.d _ | exact ToD.row _ _ _ _ _ rfl) | exact ResX.cellA _ _ _ _ _ _ _ rfl rfl rfl (by first | (simp only [normV, normList, normMap]; rfl) | rfl) rfl | exact ResX.cell1 _ _ _ _ _ _ rfl rfl rfl (by first | exact ToD.d _ | exact ToD.row _ _ _ _ _ rfl)) (by first | exact ResX.tmp _ _ (by first | exact ToD.d _ | exact ToD.row _ _ _ _ _ rfl) | exact ResX.cellA _ _ _ _ _ _ _ rfl rfl rfl (by first | (simp only [normV, normList, normMap]; rfl) | rfl) rfl | exact ResX.cell1 _ _ _ _ _ _ rfl rfl rfl (by first | exact ToD.d _ | exact ToD.row _ _ _ _ _ rfl)) rfl k1
 | bad p c =>
  have hbad := hof.mono (P' := fun _ => False) (B' := (· = reasD p c)) (fun r ⟨v, hv, hr⟩ => by rw [hx] at hv; cases hv) (fun r ⟨p', c', hv, hr⟩ => by rw [hx] at hv; cases hv; exact hr)
  repeat' (first | (apply at_call; refine al_pcallD (hbad) rfl hE (lt_ok rfl) (by (first | exact ArgsD.nil | exact (ArgsD.cons (by first | exact ToD.d _ | exact ToD.row _ _ _ _ _ rfl | exact ToD.nil _) (ArgsD.cons (by first | exact ToD.d _ | exact ToD.row _ _ _ _ _ rfl | exact ToD.nil _) (ArgsD.cons (by first | exact ToD.d _ | exact ToD.row _ _ _ _ _ rfl | exact ToD.nil _) ArgsD.nil))))) (fun z hz => ?_) (fun _ h => h.elim)) | refine nx ?_ | apply aq_pq | apply aw_scope | apply aw_label | apply aq_ng_n | apply aq_ng_r | apply aq_ng_x | (apply qr_load; refine r_load ?_) | (apply qr_store; refine r_store ?_) | (apply qr_build; refine r_build ?_))
  subst hz
  repeat (first | with_reducible refine aqd_block ?_ | with_reducible refine aqd_then ?_)
  refine aqd_less (sl' := [(5, .box 1005 0), (4, .box 1004 0)]) (ob' := [(1004, uB 0), (1005, whyZ)]) (by (repeat (first | exact sub_nil | (apply sub_cons; focus (first | rfl | exact vint (by first | omega) | (simp [look]; done)))))) (by (repeat (first | exact obs_nil | (apply obs_cons; focus (first | rfl | (simp [find]; done)))))) ?_
  refine aqd_leave hN hE' rfl hcl hcs rfl (unit1_yes p c 0) rfl rfl (fun E'' ob'' k1 k2 hN'' ho => ?_)
  subst ho
  exact retN2 hN'' rfl (by first | exact ResX.tmp _ _ (by first | exact ToD.d _ | exact ToD.row _ _ _ _ _ rfl) | exact ResX.cellA _ _ _ _ _ _ _ rfl rfl rfl (by first | (simp only [normV, normList, normMap]; rfl) | rfl) rfl | exact ResX.cell1 _ _ _ _ _ _ rfl rfl rfl (by first | exact ToD.d _ | exact ToD.row _ _ _ _ _ rfl)) (by first | exact ResX.tmp _ _ (by first | exact ToD.d _ | exact ToD.row _ _ _ _ _ rfl) | exact ResX.cellA _ _ _ _ _ _ _ rfl rfl rfl (by first | (simp only [normV, normList, normMap]; rfl) | rfl) rfl | exact ResX.cell1 _ _ _ _ _ _ rfl rfl rfl (by first | exact ToD.d _ | exact ToD.row _ _ _ _ _ rfl)) rfl k1
end Go.Proofs.Ytgiacdhffklenaa
end
