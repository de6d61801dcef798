/-
  A scheduled crash: a disk with it, beside one without it. Conditions: none.
-/
import Derived.Test.YtabaflklognhaaaDkO
set_option linter.unusedSimpArgs false
set_option linter.unusedVariables false
namespace Go.Proofs.Ytabaflklognhaaa
open Go.RowKit Go.ChangeMaps

def withA (st : DS) (m : Int) (keep : List Int) : DS := { st with armed := m, keep := keep }
theorem withA_may (st : DS) (m : Int) (keep : List Int) (f : Int) : mayE (withA st m keep) f = mayE st f := rfl
theorem withA_wrE (st : DS) (m : Int) (keep : List Int) (f a : Int) (s : ByteArray) : wrE (withA st m keep) f a s = wrE st f a s := rfl
theorem withA_wrS (st : DS) (m : Int) (keep : List Int) (f a : Int) (s : ByteArray) : wrS (withA st m keep) f a s = withA (wrS st f a s) m keep := by
  unfold wrS
  rw [withA_wrE]
  split <;> rfl
theorem withA_settle (st : DS) (m : Int) (keep : List Int) (f : Int) (s : ByteArray) : settleS (withA st m keep) f s = withA (settleS st f s) m keep := rfl
theorem withA_ends {st : DS} (hd : st.down = false) {m : Int} (hm : 1 ≤ m) (keep : List Int) : endS (withA st m keep) = withA st (m - 1) keep := by
  unfold endS
  have h1 : (withA st m keep).down = false := hd
  have h2 : (withA st m keep).armed = m := rfl
  rw [if_neg (by rw [h1, h2]; simp; omega)]
  rfl
theorem withA_endsB {st : DS} (hd : st.down = false) (m : Int) (keep : List Int) : endsB (withA st m keep) = decide (m = 1) := by
  unfold endsB
  have h1 : (withA st m keep).down = false := hd
  rw [h1]
  rfl
theorem idle {st : DS} (h : st.armed = 0) : endsB st = false ∧ endS st = st := ⟨by simp [endsB, h], by simp [endS, h]⟩
/-- where no crash comes, nothing differs -/
theorem do_before {st : DS} (hd : st.down = false) (ha : st.armed = 0) {m : Int} (hm : 2 ≤ m) (keep : List Int) {a : Act} (hk : a.kind % 8 < 4) : doR (withA st m keep) a = ((doR st a).1, withA (doR st a).2 (m - 1) keep) := by
  obtain ⟨i1, i2⟩ := idle ha
  have e1 := withA_endsB hd m keep
  rw [decide_eq_false (by omega)] at e1
  have e2 := withA_ends hd (by omega : 1 ≤ m) keep
  unfold doR
  by_cases h2 : a.kind % 8 = 2
  · rw [if_pos h2, if_pos h2]
    unfold syncR
    rw [e1, e2, i1, i2, withA_may]
    simp only [Bool.false_eq_true, if_false]
    by_cases h4 : mayE st a.f ≠ 0
    · rw [if_pos h4, if_pos h4]
    · rw [if_neg h4, if_neg h4]
      by_cases h5 : 0 < st.lost
      · rw [if_pos h5, if_pos (show 0 < (withA st (m - 1) keep).lost from h5)]
        rfl
      · rw [if_neg h5, if_neg (show ¬ 0 < (withA st (m - 1) keep).lost from h5)]
        rfl
  · rw [if_neg h2, if_neg h2]
    by_cases h3 : a.kind % 8 = 3
    · rw [if_pos h3, if_pos h3]
      unfold truncR
      rw [e1, e2, i1, i2, withA_may]
      simp only [Bool.false_eq_true, if_false]
      by_cases h4 : mayE st a.f ≠ 0
      · rw [if_pos h4, if_pos h4]
      · rw [if_neg h4, if_neg h4]
        by_cases h5 : a.n < 0 ∨ ((st.F a.f).now.size : Int) < a.n
        · rw [if_pos h5, if_pos (show a.n < 0 ∨ (((withA st (m - 1) keep).F a.f).now.size : Int) < a.n from h5)]
        · rw [if_neg h5, if_neg (show ¬ (a.n < 0 ∨ (((withA st (m - 1) keep).F a.f).now.size : Int) < a.n) from h5)]
          rfl
    · rw [if_neg h3, if_neg h3, if_neg (by omega), if_neg (by omega), if_neg (by omega), if_neg (by omega), if_neg (by omega), if_neg (by omega), if_neg (by omega), if_neg (by omega)]
      unfold writeR
      rw [e1, e2, i1, i2, withA_wrE, withA_wrS]
      simp only [Bool.false_eq_true, if_false]
theorem do_idle {st : DS} (hd : st.down = false) (ha : st.armed = 0) {a : Act} (hk : a.kind % 8 < 5) : (doR st a).2.down = false ∧ (doR st a).2.armed = 0 := by
  obtain ⟨i1, i2⟩ := idle ha
  unfold doR
  by_cases h2 : a.kind % 8 = 2
  · rw [if_pos h2]
    unfold syncR
    rw [i1, i2]
    simp only [Bool.false_eq_true, if_false]
    split
    · exact ⟨hd, ha⟩
    · split <;> exact ⟨hd, ha⟩
  · rw [if_neg h2]
    by_cases h3 : a.kind % 8 = 3
    · rw [if_pos h3]
      unfold truncR
      rw [i1, i2]
      simp only [Bool.false_eq_true, if_false]
      split
      · exact ⟨hd, ha⟩
      · split <;> exact ⟨hd, ha⟩
    · rw [if_neg h3]
      by_cases h4 : a.kind % 8 = 4
      · rw [if_pos h4]; exact ⟨hd, ha⟩
      · rw [if_neg h4, if_neg (by omega), if_neg (by omega), if_neg (by omega)]
        unfold writeR
        rw [i1, i2]
        simp only [Bool.false_eq_true, if_false]
        unfold wrS
        split <;> exact ⟨hd, ha⟩
theorem do_lose (st : DS) (m : Int) (keep : List Int) {a : Act} (hk : a.kind % 8 = 4) : doR (withA st m keep) a = (0, withA (doR st a).2 m keep) ∧ (doR st a).1 = 0 := by
  unfold doR
  rw [if_neg (by omega), if_neg (by omega), if_pos hk, if_neg (by omega), if_neg (by omega), if_pos hk]
  exact ⟨rfl, rfl⟩
/-- the same files, and up or down alike -/
structure Alike (a b : DS) : Prop where
  F : a.F = b.F
  down : a.down = b.down
theorem crash_alike {a b : DS} (hF : a.F = b.F) (hQ : a.Q = b.Q) (hd : a.down = b.down) (keep : List Int) : Alike (crashS a keep) (crashS b keep) := by
  refine ⟨?_, (crash_isdown a keep).trans (crash_isdown b keep).symm⟩
  unfold crashS
  rw [hd]
  split
  · exact hF
  · show lastF _ = lastF _
    rw [hF, hQ]
/-- the call in which the crash comes -/
theorem do_crash {st : DS} (hd : st.down = false) (ha : st.armed = 0) (keep : List Int) {a : Act} (hk : a.kind % 8 < 4) : (doR (withA st 1 keep) a).1 = 8 ∧ (doR (withA st 1 keep) a).2.down = true ∧ Alike (doR (withA st 1 keep) a).2 (crashS (if a.kind % 8 < 2 then (doR st a).2 else st) keep) := by
  obtain ⟨i1, i2⟩ := idle ha
  have e1 := withA_endsB hd 1 keep
  rw [decide_eq_true rfl] at e1
  have e2 := withA_ends hd (Int.le_refl 1) keep
  by_cases h2 : a.kind % 8 = 2
  · have e : doR (withA st 1 keep) a = (8, crashS (withA st (1 - 1) keep) keep) := by
      unfold doR
      rw [if_pos h2]
      unfold syncR
      rw [e1, e2]
      rfl
    rw [e, if_neg (by omega)]
    exact ⟨rfl, crash_isdown _ _, crash_alike (a := withA st (1 - 1) keep) (b := st) rfl rfl rfl keep⟩
  · by_cases h3 : a.kind % 8 = 3
    · have e : doR (withA st 1 keep) a = (8, crashS (withA st (1 - 1) keep) keep) := by
        unfold doR
        rw [if_neg h2, if_pos h3]
        unfold truncR
        rw [e1, e2]
        rfl
      rw [e, if_neg (by omega)]
      exact ⟨rfl, crash_isdown _ _, crash_alike (a := withA st (1 - 1) keep) (b := st) rfl rfl rfl keep⟩
    · have e : doR (withA st 1 keep) a = (8, crashS (withA (wrS st a.f a.n a.s) (1 - 1) keep) keep) := by
        unfold doR
        rw [if_neg h2, if_neg h3, if_neg (by omega), if_neg (by omega), if_neg (by omega), if_neg (by omega)]
        unfold writeR
        rw [e1, e2, withA_wrS]
        rfl
      have e3 : (doR st a).2 = wrS st a.f a.n a.s := by
        unfold doR
        rw [if_neg h2, if_neg h3, if_neg (by omega), if_neg (by omega), if_neg (by omega), if_neg (by omega)]
        unfold writeR
        rw [i1, i2]
        rfl
      rw [e, if_pos (by omega), e3]
      exact ⟨rfl, crash_isdown _ _, crash_alike (a := withA (wrS st a.f a.n a.s) (1 - 1) keep) (b := wrS st a.f a.n a.s) rfl rfl rfl keep⟩
/-- calls upon a machine that is down -/
theorem do_down {st : DS} (hd : st.down = true) {a : Act} (hk : a.kind % 8 < 4) : doR st a = (8, st) := by
  have i1 : endsB st = false := by simp [endsB, hd]
  have i2 : endS st = st := by simp [endS, hd]
  have hm := may_down hd a.f
  unfold doR
  by_cases h2 : a.kind % 8 = 2
  · rw [if_pos h2]
    unfold syncR
    rw [i1, i2, hm]
    rfl
  · rw [if_neg h2]
    by_cases h3 : a.kind % 8 = 3
    · rw [if_pos h3]
      unfold truncR
      rw [i1, i2, hm]
      rfl
    · rw [if_neg h3, if_neg (by omega), if_neg (by omega), if_neg (by omega), if_neg (by omega)]
      have e : wrE st a.f a.n a.s = 8 := by unfold wrE; rw [hm]; rfl
      unfold writeR
      rw [i1, i2, e]
      unfold wrS
      rw [e]
      rfl
theorem do_lose2 (st : DS) {a : Act} (hk : a.kind % 8 = 4) : (doR st a).2.F = st.F ∧ (doR st a).2.down = st.down := by
  unfold doR
  rw [if_neg (by omega), if_neg (by omega), if_pos hk]
  exact ⟨rfl, rfl⟩
theorem Alike.read {a b : DS} (h : Alike a b) (f x y : Int) : readP a f x y = readP b f x y := by
  unfold readP mayE
  rw [h.F, h.down]
theorem Alike.up {a b : DS} (h : Alike a b) : Alike (upS a) (upS b) := ⟨h.F, rfl⟩
section
variable {k cm cs : Nat} {lm ls : List ME} {st : DS} {k' cm' cs' : Nat} {lm' ls' : List ME} {su : DS}
set_option maxHeartbeats 8000000 in
set_option maxRecDepth 20000 in
theorem same_any (h : DkOk lm ls st) (h' : DkOk lm' ls' su) (hA : Alike st su) (l : List Act) (hl0 : l.length ≤ 9223372036854775807) (hi0 : ∀ a ∈ l, i64 a.f) : ObC 28 [.box 1000 0, .box 1004 0, .d (.list 5 (l.map Act.cells))] (dsk 1000 1001 1002 1003 k cm cs lm ls st ++ dsk 1004 1005 1006 1007 k' cm' cs' lm' ls' su) [] (fun x o => x = .d (.bool true) ∧ o = dsk 1000 1001 1002 1003 k cm cs lm ls st ++ dsk 1004 1005 1006 1007 k' cm' cs' lm' ls' su) := by
  have q0 : (st.down != su.down) = false := by rw [hA.down]; simp
  refine ob_enter Try.func28 rfl (by decide) _ Try.ntmps28 (le_ok rfl) rfl (fun w Pr β κ hE => ?_)
  dsimp only [slotsV, Nat.zero_add, Nat.reduceAdd]
  repeat' (first | (apply at_call; refine k_ocall [(1000, 1000), (1001, 1001), (1002, 1002), (1003, 1003)] (down_any) hE ?_; rintro _ _ ⟨rfl, rfl⟩ <;> (intro _ _ h1 h2; simp only [renEqs, Nat.reduceBEq] at h1 h2; subst h1 h2)) | (apply at_call; refine k_ocall [(1000, 1004), (1001, 1005), (1002, 1006), (1003, 1007)] (down_any) hE ?_; rintro _ _ ⟨rfl, rfl⟩ <;> (intro _ _ h1 h2; simp only [renEqs, Nat.reduceBEq] at h1 h2; subst h1 h2)) | apply aw_seq | apply aw_region | apply al_nil | apply aq_np | apply aq_then | apply aq_then_x | apply aq_then_r | apply aq_block_x | (apply aq_block_y; decide) | apply aq_block_r | apply aq_block | apply aw_block | apply aw_skip | apply aw_exit | apply aw_ret | (apply at_op (.move _); refine r_move ?_) | (apply at_op (.assign _); refine r_assign ?_) | (apply at_cond; first | refine c_t ?_ | refine c_f ?_ | (refine aw_cond rfl (fun hb => ?_) (fun hb => ?_) <;> ((first | have hq := of_decide_eq_true hb | have hq := of_decide_eq_false hb | have hq := dNT hb | have hq := dNF hb | skip); (try (exfalso; omega))))) | (apply at_guard; first | refine g_go ?_ | refine g_nt ?_ | refine g_nf ?_ | refine g_nu ?_ | ((first | refine al_split_t rfl rfl (lt_ok rfl) (fun hb => ?_) (fun hb => ?_) | refine al_split_f rfl rfl (lt_ok rfl) (fun hb => ?_) (fun hb => ?_)) <;> ((first | have hq := of_decide_eq_true hb | have hq := of_decide_eq_false hb | have hq := dNT hb | have hq := dNF hb | skip); (try (exfalso; omega))))) | (apply at_op (.pick _ _ _); refine r_pick ?_) | (apply at_op (.binOp .lss _ _ _ _); refine r_lss ?_) | (apply at_op (.binOp .neq _ _ _ _); refine r_neq ?_) | (apply at_op (.binOp .add _ _ _ _); refine r_add ?_) | (apply at_op (.call { callee := .builtin .len, args := _, argTypes := _ }); refine r_len ?_) | (apply at_op (.extract _ _); refine r_extract ?_) | (apply at_op (.indexAddr _ _ _); refine r_ix ?_) | (apply at_op (.load _ _); refine r_load ?_) | (apply at_op (.fieldAddr _ _ _); refine r_faddr ?_))
  refine aw_loop2 (fun N sl ob => ∃ i : Nat, N = l.length - i ∧ i ≤ l.length ∧ sl = [(7, .d (.int i)), (0, .box 1000 0), (1, .box 1004 0), (2, .d (.list 5 (l.map Act.cells)))] ∧ ob = dsk 1000 1001 1002 1003 k cm cs lm ls st ++ dsk 1004 1005 1006 1007 k' cm' cs' lm' ls' su) (_) _ _ (⟨0, rfl, Nat.zero_le _, rfl, rfl⟩) ?_ ?_ ?_
  · (repeat (first | exact sub_nil | (apply sub_cons; focus (first | rfl | exact vint (by first | omega) | (simp [look]; done)))))
  · (repeat (first | exact obs_nil | (apply obs_cons; focus (first | rfl | (simp [find]; done)))))
  rintro N sl ob ⟨i, rfl, hi, rfl, rfl⟩
  by_cases hlt : i < l.length
  · have hf := hi0 _ (List.getElem_mem hlt)
    generalize hw : l[i] = a at hf
    have hget : (l.map Act.cells)[i]? = some [.int a.kind, .int a.f, .int a.n, .str a.s, keepD a.keep] := by rw [get_map hlt, hw]; rfl
    obtain ⟨b, e, hr⟩ : ∃ b e, readP st a.f 0 16777216 = (b, e) := ⟨_, _, rfl⟩
    have hr' := hr
    rw [hA.read] at hr'
    have z1 := size_any (k := k) (cm := cm) (cs := cs) h hf
    have z2 := size_any (k := k') (cm := cm') (cs := cs') h' hf
    rw [← hA.F] at z2
    generalize (st.F a.f).now.size = zn at z1 z2
    have q1 : (!decide (b = b)) = false := by simp
    have q2 : (!decide (e = e)) = false := by simp
    have q3 : (!decide ((zn : Int) = zn)) = false := by simp
    repeat' (first | (apply at_op (.indexAddr _ _ _); refine al_y (y_ix (by first | exact ToD.d _ | exact ToD.row _ _ _ _ _ rfl) rfl rfl (by first | with_reducible rfl | exact lit0 | exact lit1 | exact lit2 | exact lit3 | exact lit4 | exact int_s _ | exact int_p _ _ | exact int_nat _ (by omega)) hget) (lt_ok rfl) ?_) | (apply at_call; refine k_ocall [(1000, 1000), (1001, 1001), (1002, 1002), (1003, 1003)] (smR h hf hr) hE ?_; rintro _ _ ⟨rfl, rfl⟩ <;> (intro _ _ h1 h2; simp only [renEqs, Nat.reduceBEq] at h1 h2; subst h1 h2)) | (apply at_call; refine k_ocall [(1000, 1004), (1001, 1005), (1002, 1006), (1003, 1007)] (smR h' hf hr') hE ?_; rintro _ _ ⟨rfl, rfl⟩ <;> (intro _ _ h1 h2; simp only [renEqs, Nat.reduceBEq] at h1 h2; subst h1 h2)) | apply aw_seq | apply aw_region | apply al_nil | apply aq_np | apply aq_then | apply aq_then_x | apply aq_then_r | apply aq_block_x | (apply aq_block_y; decide) | apply aq_block_r | apply aq_block | apply aw_block | apply aw_skip | apply aw_exit | apply aw_ret | (apply at_op (.move _); refine r_move ?_) | (apply at_op (.assign _); refine r_assign ?_) | (apply at_cond; first | refine c_t ?_ | refine c_f ?_ | (refine aw_cond rfl (fun hb => ?_) (fun hb => ?_) <;> ((first | have hq := of_decide_eq_true hb | have hq := of_decide_eq_false hb | have hq := dNT hb | have hq := dNF hb | skip); (try (exfalso; omega))))) | (apply at_guard; first | refine g_go ?_ | refine g_nt ?_ | refine g_nf ?_ | refine g_nu ?_ | ((first | refine al_split_t rfl rfl (lt_ok rfl) (fun hb => ?_) (fun hb => ?_) | refine al_split_f rfl rfl (lt_ok rfl) (fun hb => ?_) (fun hb => ?_)) <;> ((first | have hq := of_decide_eq_true hb | have hq := of_decide_eq_false hb | have hq := dNT hb | have hq := dNF hb | skip); (try (exfalso; omega))))) | (apply at_op (.pick _ _ _); refine r_pick ?_) | (apply at_op (.binOp .lss _ _ _ _); refine r_lss ?_) | (apply at_op (.binOp .neq _ _ _ _); refine r_neq ?_) | (apply at_op (.binOp .add _ _ _ _); refine r_add ?_) | (apply at_op (.call { callee := .builtin .len, args := _, argTypes := _ }); refine r_len ?_) | (apply at_op (.extract _ _); refine r_extract ?_) | (apply at_op (.indexAddr _ _ _); refine r_ix ?_) | (apply at_op (.load _ _); refine r_load ?_) | (apply at_op (.fieldAddr _ _ _); refine r_faddr ?_))
    refine aw_mixo ([]) [(0, true), (1, true), (2, true), (3, true), (4, true), (5, true), (6, true), (7, true), (8, true), (9, true), (10, true), (11, true), (12, true), (13, true), (14, true), (16, true), (17, true), (18, true), (19, true), (20, true), (21, true), (15, false), (22, false), (23, true), (24, true)] [] (by kernel_rfl) (by kernel_rfl) (by kernel_rfl) (by decide) (by (repeat (first | exact obs_nil | (apply obs_cons; focus (first | rfl | (simp [find]; done)))))) ?_
    simp only [planned, tailed, List.filterMap_cons, List.filterMap_nil, List.getElem?_cons_zero, List.getElem?_cons_succ, Option.map_some]
    repeat' (first | apply am_nil | refine am_skip (by first | exact want_no_t rfl rfl (by assumption) | exact want_no_f rfl rfl (by assumption) | exact want_no_t rfl rfl (by with_reducible rfl) | exact want_no_f rfl rfl (by with_reducible rfl) | exact want_no_u rfl rfl) (lt_ok rfl) ?_ | refine am_skip' (by first | exact want_no_t rfl rfl (by assumption) | exact want_no_f rfl rfl (by assumption) | exact want_no_t rfl rfl (by with_reducible rfl) | exact want_no_f rfl rfl (by with_reducible rfl) | exact want_no_u rfl rfl) (lt_ok rfl) ?_ | (apply at_am (.indexAddr _ _ _); first | refine am_y (by first | exact want_none | exact want_yes rfl rfl (by assumption) | exact want_yes rfl rfl (by with_reducible rfl)) (y_ix (by first | exact ToD.d _ | exact ToD.row _ _ _ _ _ rfl) rfl rfl (by first | with_reducible rfl | exact lit0 | exact lit1 | exact lit2 | exact lit3 | exact lit4 | exact int_s _ | exact int_p _ _ | exact int_nat _ (by omega)) hget) (lt_ok rfl) ?_ | refine am_y' (by first | exact want_none | exact want_yes rfl rfl (by assumption) | exact want_yes rfl rfl (by with_reducible rfl)) (y_ix (by first | exact ToD.d _ | exact ToD.row _ _ _ _ _ rfl) rfl rfl (by first | with_reducible rfl | exact lit0 | exact lit1 | exact lit2 | exact lit3 | exact lit4 | exact int_s _ | exact int_p _ _ | exact int_nat _ (by omega)) hget) (lt_ok rfl) ?_) | (apply at_am (.call { callee := .value _, args := _, argTypes := _ }); refine am_ocall [(1000, 1000), (1001, 1001), (1002, 1002), (1003, 1003)] (z1) (by first | exact want_none | exact want_yes rfl rfl (by assumption) | exact want_yes rfl rfl (by with_reducible rfl)) rfl hE (lt_ok rfl) (by (repeat (first | refine ArgsV.cons (.same _ _ rfl) ?_ | refine ArgsV.cons (.toD _ _ (by first | exact ToD.d _ | exact ToD.row _ _ _ _ _ rfl | exact ToD.nil _)) ?_)); exact ArgsV.nil) ⟨(obs_cons rfl (obs_cons rfl (obs_cons rfl (obs_cons rfl obs_nil)))), rfl, rfl, rfl, rfl⟩ rfl ?_; (all_goals (try first | omega | assumption)); rintro _ _ ⟨rfl, rfl⟩; intro _ _ h1 h2; simp only [V.ren, V.renL, O.ren, renO, rn, dropK, keys, mem, List.map_cons, List.map_nil, List.any_cons, List.any_nil, List.cons_append, List.nil_append, nbeq_def, Nat.reduceBEq, cond_true, cond_false, Bool.or_false, Bool.false_or, Bool.true_or] at h1 h2; subst h1 h2; (try dsimp only [flatV, flat, D.plain, D.plainL])) | (apply at_am (.call { callee := .value _, args := _, argTypes := _ }); refine am_ocall [(1000, 1004), (1001, 1005), (1002, 1006), (1003, 1007)] (z2) (by first | exact want_none | exact want_yes rfl rfl (by assumption) | exact want_yes rfl rfl (by with_reducible rfl)) rfl hE (lt_ok rfl) (by (repeat (first | refine ArgsV.cons (.same _ _ rfl) ?_ | refine ArgsV.cons (.toD _ _ (by first | exact ToD.d _ | exact ToD.row _ _ _ _ _ rfl | exact ToD.nil _)) ?_)); exact ArgsV.nil) ⟨(obs_cons rfl (obs_cons rfl (obs_cons rfl (obs_cons rfl obs_nil)))), rfl, rfl, rfl, rfl⟩ rfl ?_; (all_goals (try first | omega | assumption)); rintro _ _ ⟨rfl, rfl⟩; intro _ _ h1 h2; simp only [V.ren, V.renL, O.ren, renO, rn, dropK, keys, mem, List.map_cons, List.map_nil, List.any_cons, List.any_nil, List.cons_append, List.nil_append, nbeq_def, Nat.reduceBEq, cond_true, cond_false, Bool.or_false, Bool.false_or, Bool.true_or] at h1 h2; subst h1 h2; (try dsimp only [flatV, flat, D.plain, D.plainL])) | (apply at_am (.move _); refine m_move ?_) | (apply at_am (.assign _); refine n_assign ?_) | (apply at_am (.pick _ _ _); refine m_pick ?_) | (apply at_am (.binOp .lss _ _ _ _); refine n_lss ?_) | (apply at_am (.binOp .neq _ _ _ _); refine m_neq ?_) | (apply at_am (.binOp .add _ _ _ _); refine n_add ?_) | (apply at_am (.call { callee := .builtin .len, args := _, argTypes := _ }); refine n_len ?_) | (apply at_am (.extract _ _); refine n_extract ?_) | (apply at_am (.indexAddr _ _ _); refine m_ix ?_) | (apply at_am (.load _ _); refine m_load ?_) | (apply at_am (.fieldAddr _ _ _); refine m_faddr ?_) | (refine am_split rfl rfl (fun hb => ?_) (fun hb => ?_) <;> ((first | have hq := of_decide_eq_true hb | have hq := of_decide_eq_false hb | have hq := of_decide_eq_false (not_t hb) | have hq := of_decide_eq_true (not_f hb) | skip); (try (exfalso; omega)))))
    repeat' (first | apply aw_seq | apply aw_region | apply al_nil | apply aq_np | apply aq_then | apply aq_then_x | apply aq_then_r | apply aq_block_x | (apply aq_block_y; decide) | apply aq_block_r | apply aq_block | apply aw_block | apply aw_skip | apply aw_exit | apply aw_ret | (apply at_op (.move _); refine r_move ?_) | (apply at_op (.assign _); refine r_assign ?_) | (apply at_cond; first | refine c_t ?_ | refine c_f ?_ | (refine aw_cond rfl (fun hb => ?_) (fun hb => ?_) <;> ((first | have hq := of_decide_eq_true hb | have hq := of_decide_eq_false hb | have hq := dNT hb | have hq := dNF hb | skip); (try (exfalso; omega))))) | (apply at_guard; first | refine g_go ?_ | refine g_nt ?_ | refine g_nf ?_ | refine g_nu ?_ | ((first | refine al_split_t rfl rfl (lt_ok rfl) (fun hb => ?_) (fun hb => ?_) | refine al_split_f rfl rfl (lt_ok rfl) (fun hb => ?_) (fun hb => ?_)) <;> ((first | have hq := of_decide_eq_true hb | have hq := of_decide_eq_false hb | have hq := dNT hb | have hq := dNF hb | skip); (try (exfalso; omega))))) | (apply at_op (.pick _ _ _); refine r_pick ?_) | (apply at_op (.binOp .lss _ _ _ _); refine r_lss ?_) | (apply at_op (.binOp .neq _ _ _ _); refine r_neq ?_) | (apply at_op (.binOp .add _ _ _ _); refine r_add ?_) | (apply at_op (.call { callee := .builtin .len, args := _, argTypes := _ }); refine r_len ?_) | (apply at_op (.extract _ _); refine r_extract ?_) | (apply at_op (.indexAddr _ _ _); refine r_ix ?_) | (apply at_op (.load _ _); refine r_load ?_) | (apply at_op (.fieldAddr _ _ _); refine r_faddr ?_))
    refine aq_round _ _ _ (⟨i + 1, rfl, by omega, rfl, rfl⟩) (by omega) ?_ ?_
    · (repeat (first | exact sub_nil | (apply sub_cons; focus (first | rfl | exact vint (by first | omega) | (simp [look]; done)))))
    · (repeat (first | exact obs_nil | (apply obs_cons; focus (first | rfl | (simp [find]; done)))))
  · skip
    repeat' (first | apply aw_seq | apply aw_region | apply al_nil | apply aq_np | apply aq_then | apply aq_then_x | apply aq_then_r | apply aq_block_x | (apply aq_block_y; decide) | apply aq_block_r | apply aq_block | apply aw_block | apply aw_skip | apply aw_exit | apply aw_ret | (apply at_op (.move _); refine r_move ?_) | (apply at_op (.assign _); refine r_assign ?_) | (apply at_cond; first | refine c_t ?_ | refine c_f ?_ | (refine aw_cond rfl (fun hb => ?_) (fun hb => ?_) <;> ((first | have hq := of_decide_eq_true hb | have hq := of_decide_eq_false hb | have hq := dNT hb | have hq := dNF hb | skip); (try (exfalso; omega))))) | (apply at_guard; first | refine g_go ?_ | refine g_nt ?_ | refine g_nf ?_ | refine g_nu ?_ | ((first | refine al_split_t rfl rfl (lt_ok rfl) (fun hb => ?_) (fun hb => ?_) | refine al_split_f rfl rfl (lt_ok rfl) (fun hb => ?_) (fun hb => ?_)) <;> ((first | have hq := of_decide_eq_true hb | have hq := of_decide_eq_false hb | have hq := dNT hb | have hq := dNF hb | skip); (try (exfalso; omega))))) | (apply at_op (.pick _ _ _); refine r_pick ?_) | (apply at_op (.binOp .lss _ _ _ _); refine r_lss ?_) | (apply at_op (.binOp .neq _ _ _ _); refine r_neq ?_) | (apply at_op (.binOp .add _ _ _ _); refine r_add ?_) | (apply at_op (.call { callee := .builtin .len, args := _, argTypes := _ }); refine r_len ?_) | (apply at_op (.extract _ _); refine r_extract ?_) | (apply at_op (.indexAddr _ _ _); refine r_ix ?_) | (apply at_op (.load _ _); refine r_load ?_) | (apply at_op (.fieldAddr _ _ _); refine r_faddr ?_))
    refine oret1 (dsk 1000 1001 1002 1003 k cm cs lm ls st ++ dsk 1004 1005 1006 1007 k' cm' cs' lm' ls' su) (by rfl) (by first | exact ResV.x _ _ (ResX.tmp _ _ (by first | exact ToD.d _ | exact ToD.row _ _ _ _ _ rfl | exact ToD.nil _)) | exact ResV.tmp _ _ rfl | exact ResV.x _ _ (ResX.cellA _ _ _ _ _ _ _ rfl rfl rfl (by first | (simp only [normV, normList, normMap]; rfl) | rfl) rfl)) (⟨rfl, rfl⟩) (by (repeat (first | exact obs_nil | (apply obs_cons; focus (first | rfl | (simp [find]; done)))))) (by first | rfl | (simp [okOut, V.within, V.withinL, O.within, keys, mem, look, nbeq_def, withinL_app, withinL_ds, withinL_und]; done))
end
end Go.Proofs.Ytabaflklognhaaa
