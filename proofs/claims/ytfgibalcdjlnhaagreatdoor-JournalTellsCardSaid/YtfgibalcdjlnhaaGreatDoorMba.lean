/-
  A disk without a scheduled crash: Write, Sync, Truncate. Conditions: none.
  The journal on a disk without a scheduled crash: Sync, Append. Conditions: none.
  The journal on a disk without a scheduled crash: Open. Conditions: none.
-/
import Derived.Test.YtfgibalcdjlnhaaGreatDoorMay
section
set_option linter.unusedSimpArgs false
set_option linter.unusedVariables false
namespace Go.Proofs.YtfgibalcdjlnhaaGreatDoor
open Go.RowKit Go.ChangeMaps

/-- A call is over: the set's map bears its old name. -/
theorem disk_merge {E : Entry} {ops : Array Oper} {rest : List Oper} {Q : Exit → Go.Act → World → Prop} {d : Nat} {y : V} {sl : Slots} {ob ob1 others : Objs} {b m r s Y X k cm cs s3 : Nat} {lm ls : List ME} {st : DS} (hs3 : s3 = 1003 ∨ s3 = X)
    (hX : X ≠ 1000 ∧ X ≠ 1001 ∧ X ≠ 1002 ∧ X ≠ 1003 ∧ b ≠ Y ∧ m ≠ Y ∧ r ≠ Y ∧ b ≠ s ∧ m ≠ s ∧ r ≠ s ∧ Y ≠ s) (hob : dropK ((keys ob1).map (rn [(1000, b), (1001, m), (1002, r), (1003, s), (X, Y)])) ob = others)
    (h0 : find E.ob0 s = none) (hno : noneOf s ((d, y) :: sl) ((b, dskBox m r Y k st) :: (m, .map 56 cm lm) :: (r, .vec 76 2 k (st.Q.map secC)) :: (Y, .map 57 cs ls) :: others) = true)
    (hren : renS [(Y, s)] ((d, y) :: sl) = (d, y) :: sl) (hren2 : renO [(Y, s)] (dropK [s] others) = others)
    (h : AL E ops rest Q ((d, y) :: sl) (dsk b m r s k cm cs lm ls st ++ others)) :
    AL E ops rest Q ((d, y) :: sl) (renO [(1000, b), (1001, m), (1002, r), (1003, s), (X, Y)] (dsk 1000 1001 1002 s3 k cm cs lm ls st) ++ dropK ((keys ob1).map (rn [(1000, b), (1001, m), (1002, r), (1003, s), (X, Y)])) ob) := by
  obtain ⟨x1, x2, x3, x4, y1, y2, y3, z1, z2, z3, z4⟩ := hX
  rw [hob]
  rcases hs3 with rfl | rfl
  · exact h
  · have e : renO [(1000, b), (1001, m), (1002, r), (1003, s), (s3, Y)] (dsk 1000 1001 1002 s3 k cm cs lm ls st) ++ others = (b, dskBox m r Y k st) :: (m, .map 56 cm lm) :: (r, .vec 76 2 k (st.Q.map secC)) :: (Y, .map 57 cs ls) :: others := by
      simp [renO, O.ren, V.ren, V.renL, rn, nbeq_def, beq_false_of_ne x1, beq_false_of_ne x2, beq_false_of_ne x3, beq_false_of_ne x4]
    rw [e]
    refine al_ren Y s h0 hno ?_
    rw [hren]
    have e2 : renO [(Y, s)] (dropK [s] ((b, dskBox m r Y k st) :: (m, .map 56 cm lm) :: (r, .vec 76 2 k (st.Q.map secC)) :: (Y, .map 57 cs ls) :: others)) = dsk b m r s k cm cs lm ls st ++ others := by
      simp [dropK, mem, nbeq_def, beq_false_of_ne z1, beq_false_of_ne z2, beq_false_of_ne z3, beq_false_of_ne z4, renO, O.ren, V.ren, V.renL, rn, beq_false_of_ne y1, beq_false_of_ne y2, beq_false_of_ne y3, hren2]
    rw [e2]
    exact h
section
variable {k cm cs : Nat} {lm ls : List ME} {st : DS}
set_option maxHeartbeats 8000000 in
set_option maxRecDepth 20000 in
theorem Write_up (h : DkOk lm ls st) (he : endsB st = false) (f at_ : Int) (s : ByteArray) : ObC 30 [.box 1000 0, .d (.int f), .d (.int at_), .d (.str s)] (dsk 1000 1001 1002 1003 k cm cs lm ls st) [] (fun x o => x = .d (.int (writeR st f at_ s).1) ∧ Out (writeR st f at_ s).2 o) := by
  have h1 := ends_any (k := k) (cm := cm) (cs := cs) (lm := lm) (ls := ls) h.ok
  have h2 := fun k => write_any (k := k) (cm := cm) (cs := cs) h.ends f at_ s
  unfold writeR
  rw [he] at h1 ⊢
  rw [if_neg (by decide)]
  refine ob_enter Tryz.func30 rfl (by decide) _ Tryz.ntmps30 (le_ok rfl) rfl (fun w Pr β κ hE => ?_)
  dsimp only [slotsV, Nat.zero_add, Nat.reduceAdd]
  repeat' (first | (apply at_call; refine k_ocall [(1000, 1000), (1001, 1001), (1002, 1002), (1003, 1003)] (h1) hE ?_; rintro _ _ ⟨rfl, rfl⟩ <;> (intro _ _ h1 h2; simp only [renEqs, Nat.reduceBEq, renL_app, renL_ds, renL_und] at h1 h2; subst h1 h2)) | (apply at_call; refine k_ocall [(1000, 1000), (1001, 1001), (1002, 1002), (1003, 1003)] (h2 k) hE ?_; rintro _ _ ⟨rfl, k2, cm2, cs2, lm2, ls2, hD, rfl⟩ <;> (intro _ _ h1 h2; simp only [renEqs, Nat.reduceBEq, renL_app, renL_ds, renL_und] at h1 h2; subst h1 h2)) | refine nx ?_ | (apply qr_move; refine r_move ?_) | (apply qr_assign; refine r_assign ?_) | (apply at_cond; first | refine c_t ?_ | refine c_f ?_ | (refine aw_cond rfl (fun hb => ?_) (fun hb => ?_) <;> ((try have hq := dX hb); (try (exfalso; omega))))) | (apply qr_load; refine r_load ?_) | (apply qr_faddr; refine r_faddr ?_) | (apply qr_nilck; refine r_nilck ?_))
  refine oret1 (dsk 1000 1001 1002 1003 k2 cm2 cs2 lm2 ls2 (wrS (endS st) f at_ s)) (by rfl) rv (⟨rfl, k2, cm2, cs2, lm2, ls2, hD, rfl⟩) sb okx
set_option maxHeartbeats 8000000 in
set_option maxRecDepth 20000 in
theorem Sync_up (h : DkOk lm ls st) (he : endsB st = false) {f : Int} (hf : i64 f) : ObC 33 [.box 1000 0, .d (.int f)] (dsk 1000 1001 1002 1003 k cm cs lm ls st) [] (fun x o => x = .d (.int (syncR st f).1) ∧ Out (syncR st f).2 o) := by
  have h1 := ends_any (k := k) (cm := cm) (cs := cs) (lm := lm) (ls := ls) h.ok
  have hkey := int_key hf
  obtain ⟨bh, hhit⟩ := h.ends.f.hit f
  have hl := h.ends.ok.lost0
  unfold syncR
  rw [he] at h1 ⊢
  rw [if_neg (by decide)]
  have hm := may_any (k := k) (cm := cm) (cs := cs) (lm := lm) (ls := ls) (st := endS st) f
  by_cases hm0 : mayE (endS st) f = 0
  · rw [if_neg (by simp [hm0])]
    have hmf := (may_ok hm0).2
    rw [hm0] at hm
    have hm8 : (!decide ((0 : Int) = 0)) = false := rfl
    by_cases hlost : 0 < (endS st).lost
    · rw [if_pos hlost]
      have hq : decide (0 < (endS st).lost) = true := decide_eq_true hlost
      refine ob_enter Tryz.func33 rfl (by decide) _ Tryz.ntmps33 (le_ok rfl) rfl (fun w Pr β κ hE => ?_)
      dsimp only [slotsV, Nat.zero_add, Nat.reduceAdd]
      repeat' (first | (apply at_call; refine k_ocall [(1000, 1000), (1001, 1001), (1002, 1002), (1003, 1003)] (h1) hE ?_; rintro _ _ ⟨rfl, rfl⟩ <;> (intro _ _ h1 h2; simp only [renEqs, Nat.reduceBEq, renL_app, renL_ds, renL_und] at h1 h2; subst h1 h2)) | (apply at_call; refine k_ocall [(1000, 1000), (1001, 1001), (1002, 1002), (1003, 1003)] (hm) hE ?_; rintro _ _ ⟨rfl, rfl⟩ <;> (intro _ _ h1 h2; simp only [renEqs, Nat.reduceBEq, renL_app, renL_ds, renL_und] at h1 h2; subst h1 h2)) | refine nx ?_ | (apply qr_move; refine r_move ?_) | (apply qr_assign; refine r_assign ?_) | (apply at_cond; first | refine c_t ?_ | refine c_f ?_ | (refine aw_cond rfl (fun hb => ?_) (fun hb => ?_) <;> ((try have hq := dX hb); (try (exfalso; omega))))) | (apply qr_gtr; refine r_gtr ?_) | (apply qr_neq; refine r_neq ?_) | (apply qr_sub; refine r_sub ?_) | (apply qr_load; refine r_load ?_) | (apply qr_faddr; refine r_faddr ?_) | (apply qr_field; refine r_field ?_) | (apply qr_nilck; refine r_nilck ?_) | (apply qr_store; refine r_store ?_))
      refine oret1 (dsk 1000 1001 1002 1003 k cm cs lm ls { endS st with lost := (endS st).lost - 1 }) (by rfl) rv (⟨rfl, k, cm, cs, lm, ls, ⟨h.ends.f, h.ends.s, ⟨h.ends.ok.now, h.ends.ok.last, h.ends.ok.out, h.ends.ok.nodup, h.ends.ok.file, h.ends.ok.num, (by show 0 ≤ (endS st).lost - 1 ∧ (endS st).lost - 1 ≤ _; omega), h.ends.ok.armed0, h.ends.ok.keepl⟩⟩, rfl⟩) sb okx
    · rw [if_neg hlost]
      have hq : decide (0 < (endS st).lost) = false := decide_eq_false hlost
      have hs := fun k => settle_any (k := k) (cm := cm) (cs := cs) h.ends hmf (h.ends.ok.now f)
      refine ob_enter Tryz.func33 rfl (by decide) _ Tryz.ntmps33 (le_ok rfl) rfl (fun w Pr β κ hE => ?_)
      dsimp only [slotsV, Nat.zero_add, Nat.reduceAdd]
      repeat' (first | (apply at_call; refine k_ocall [(1000, 1000), (1001, 1001), (1002, 1002), (1003, 1003)] (h1) hE ?_; rintro _ _ ⟨rfl, rfl⟩ <;> (intro _ _ h1 h2; simp only [renEqs, Nat.reduceBEq, renL_app, renL_ds, renL_und] at h1 h2; subst h1 h2)) | (apply at_call; refine k_ocall [(1000, 1000), (1001, 1001), (1002, 1002), (1003, 1003)] (hm) hE ?_; rintro _ _ ⟨rfl, rfl⟩ <;> (intro _ _ h1 h2; simp only [renEqs, Nat.reduceBEq, renL_app, renL_ds, renL_und] at h1 h2; subst h1 h2)) | (apply at_op (.lookup _ _ _ _); refine al_y (y_lookup1 fileM rfl rfl rfl hkey hhit) (lt_ok rfl) ?_) | (apply at_call; refine k_ocall [(1000, 1000), (1001, 1001), (1002, 1002), (1003, 1003)] (hs k) hE ?_; rintro _ _ ⟨rfl, k2, cm2, cs2, lm2, ls2, hD, rfl⟩ <;> (intro _ _ h1 h2; simp only [renEqs, Nat.reduceBEq, renL_app, renL_ds, renL_und] at h1 h2; subst h1 h2)) | refine nx ?_ | (apply qr_move; refine r_move ?_) | (apply qr_assign; refine r_assign ?_) | (apply at_cond; first | refine c_t ?_ | refine c_f ?_ | (refine aw_cond rfl (fun hb => ?_) (fun hb => ?_) <;> ((try have hq := dX hb); (try (exfalso; omega))))) | (apply qr_gtr; refine r_gtr ?_) | (apply qr_neq; refine r_neq ?_) | (apply qr_sub; refine r_sub ?_) | (apply qr_load; refine r_load ?_) | (apply qr_faddr; refine r_faddr ?_) | (apply qr_field; refine r_field ?_) | (apply qr_nilck; refine r_nilck ?_) | (apply qr_store; refine r_store ?_))
      refine oret1 (dsk 1000 1001 1002 1003 k2 cm2 cs2 lm2 ls2 _) (by rfl) rv (⟨rfl, k2, cm2, cs2, lm2, ls2, hD, rfl⟩) sb okx
  · rw [if_pos hm0]
    have hm8 : (!decide (mayE (endS st) f = 0)) = true := by rw [decide_eq_false hm0]; rfl
    refine ob_enter Tryz.func33 rfl (by decide) _ Tryz.ntmps33 (le_ok rfl) rfl (fun w Pr β κ hE => ?_)
    dsimp only [slotsV, Nat.zero_add, Nat.reduceAdd]
    repeat' (first | (apply at_call; refine k_ocall [(1000, 1000), (1001, 1001), (1002, 1002), (1003, 1003)] (h1) hE ?_; rintro _ _ ⟨rfl, rfl⟩ <;> (intro _ _ h1 h2; simp only [renEqs, Nat.reduceBEq, renL_app, renL_ds, renL_und] at h1 h2; subst h1 h2)) | (apply at_call; refine k_ocall [(1000, 1000), (1001, 1001), (1002, 1002), (1003, 1003)] (hm) hE ?_; rintro _ _ ⟨rfl, rfl⟩ <;> (intro _ _ h1 h2; simp only [renEqs, Nat.reduceBEq, renL_app, renL_ds, renL_und] at h1 h2; subst h1 h2)) | refine nx ?_ | (apply qr_move; refine r_move ?_) | (apply qr_assign; refine r_assign ?_) | (apply at_cond; first | refine c_t ?_ | refine c_f ?_ | (refine aw_cond rfl (fun hb => ?_) (fun hb => ?_) <;> ((try have hq := dX hb); (try (exfalso; omega))))) | (apply qr_gtr; refine r_gtr ?_) | (apply qr_neq; refine r_neq ?_) | (apply qr_sub; refine r_sub ?_) | (apply qr_load; refine r_load ?_) | (apply qr_faddr; refine r_faddr ?_) | (apply qr_field; refine r_field ?_) | (apply qr_nilck; refine r_nilck ?_) | (apply qr_store; refine r_store ?_))
    refine oret1 (dsk 1000 1001 1002 1003 k cm cs lm ls (endS st)) (by rfl) rv (⟨rfl, k, cm, cs, lm, ls, h.ends, rfl⟩) sb okx
set_option maxHeartbeats 8000000 in
set_option maxRecDepth 20000 in
theorem Truncate_up (h : DkOk lm ls st) (he : endsB st = false) {f : Int} (hf : i64 f) (size : Int) : ObC 35 [.box 1000 0, .d (.int f), .d (.int size)] (dsk 1000 1001 1002 1003 k cm cs lm ls st) [] (fun x o => x = .d (.int (truncR st f size).1) ∧ Out (truncR st f size).2 o) := by
  have h1 := ends_any (k := k) (cm := cm) (cs := cs) (lm := lm) (ls := ls) h.ok
  have hkey := int_key hf
  obtain ⟨bh, hhit⟩ := h.ends.f.hit f
  have hnow := h.ends.ok.now f
  have hsz := size_any (k := k) (cm := cm) (cs := cs) h.ends hf
  unfold truncR
  rw [he] at h1 ⊢
  rw [if_neg (by decide)]
  have hm := may_any (k := k) (cm := cm) (cs := cs) (lm := lm) (ls := ls) (st := endS st) f
  by_cases hm0 : mayE (endS st) f = 0
  · rw [if_neg (by simp [hm0])]
    have hmf := (may_ok hm0).2
    rw [hm0] at hm
    have hm8 : (!decide ((0 : Int) = 0)) = false := rfl
    by_cases hneg : size < 0
    · rw [if_pos (.inl hneg)]
      refine ob_enter Tryz.func35 rfl (by decide) _ Tryz.ntmps35 (le_ok rfl) rfl (fun w Pr β κ hE => ?_)
      dsimp only [slotsV, Nat.zero_add, Nat.reduceAdd]
      repeat' (first | (apply at_call; refine k_ocall [(1000, 1000), (1001, 1001), (1002, 1002), (1003, 1003)] (h1) hE ?_; rintro _ _ ⟨rfl, rfl⟩ <;> (intro _ _ h1 h2; simp only [renEqs, Nat.reduceBEq, renL_app, renL_ds, renL_und] at h1 h2; subst h1 h2)) | (apply at_call; refine k_ocall [(1000, 1000), (1001, 1001), (1002, 1002), (1003, 1003)] (hm) hE ?_; rintro _ _ ⟨rfl, rfl⟩ <;> (intro _ _ h1 h2; simp only [renEqs, Nat.reduceBEq, renL_app, renL_ds, renL_und] at h1 h2; subst h1 h2)) | (apply at_call; refine k_ocall [(1000, 1000), (1001, 1001), (1002, 1002), (1003, 1003)] (hsz) hE ?_; rintro _ _ ⟨rfl, rfl⟩ <;> (intro _ _ h1 h2; simp only [renEqs, Nat.reduceBEq, renL_app, renL_ds, renL_und] at h1 h2; subst h1 h2)) | refine nx ?_ | (apply qr_move; refine r_move ?_) | (apply qr_assign; refine r_assign ?_) | (apply at_cond; first | refine c_t ?_ | refine c_f ?_ | (refine aw_cond rfl (fun hb => ?_) (fun hb => ?_) <;> ((try have hq := dX hb); (try (exfalso; omega))))) | (apply at_guard; first | refine g_go ?_ | refine g_nt ?_ | refine g_nf ?_ | refine g_nu ?_ | ((first | refine al_split_t rfl rfl (lt_ok rfl) (fun hb => ?_) (fun hb => ?_) | refine al_split_f rfl rfl (lt_ok rfl) (fun hb => ?_) (fun hb => ?_)) <;> ((try have hq := dX hb); (try (exfalso; omega))))) | (apply qr_pick; refine r_pick ?_) | (apply qr_lss; refine r_lss ?_) | (apply qr_gtr; refine r_gtr ?_) | (apply qr_neq; refine r_neq ?_) | (apply qr_slice; refine r_slice ?_) | (apply qr_load; refine r_load ?_) | (apply qr_faddr; refine r_faddr ?_) | (apply qr_field; refine r_field ?_) | (apply qr_nilck; refine r_nilck ?_))
      refine oret1 (dsk 1000 1001 1002 1003 k cm cs lm ls (endS st)) (by rfl) rv (⟨rfl, k, cm, cs, lm, ls, h.ends, rfl⟩) sb okx
    · by_cases hbig : (((endS st).F f).now.size : Int) < size
      · rw [if_pos (.inr hbig)]
        have hq : decide ((((endS st).F f).now.size : Int) < size) = true := decide_eq_true hbig
        refine ob_enter Tryz.func35 rfl (by decide) _ Tryz.ntmps35 (le_ok rfl) rfl (fun w Pr β κ hE => ?_)
        dsimp only [slotsV, Nat.zero_add, Nat.reduceAdd]
        repeat' (first | (apply at_call; refine k_ocall [(1000, 1000), (1001, 1001), (1002, 1002), (1003, 1003)] (h1) hE ?_; rintro _ _ ⟨rfl, rfl⟩ <;> (intro _ _ h1 h2; simp only [renEqs, Nat.reduceBEq, renL_app, renL_ds, renL_und] at h1 h2; subst h1 h2)) | (apply at_call; refine k_ocall [(1000, 1000), (1001, 1001), (1002, 1002), (1003, 1003)] (hm) hE ?_; rintro _ _ ⟨rfl, rfl⟩ <;> (intro _ _ h1 h2; simp only [renEqs, Nat.reduceBEq, renL_app, renL_ds, renL_und] at h1 h2; subst h1 h2)) | (apply at_call; refine k_ocall [(1000, 1000), (1001, 1001), (1002, 1002), (1003, 1003)] (hsz) hE ?_; rintro _ _ ⟨rfl, rfl⟩ <;> (intro _ _ h1 h2; simp only [renEqs, Nat.reduceBEq, renL_app, renL_ds, renL_und] at h1 h2; subst h1 h2)) | refine nx ?_ | (apply qr_move; refine r_move ?_) | (apply qr_assign; refine r_assign ?_) | (apply at_cond; first | refine c_t ?_ | refine c_f ?_ | (refine aw_cond rfl (fun hb => ?_) (fun hb => ?_) <;> ((try have hq := dX hb); (try (exfalso; omega))))) | (apply at_guard; first | refine g_go ?_ | refine g_nt ?_ | refine g_nf ?_ | refine g_nu ?_ | ((first | refine al_split_t rfl rfl (lt_ok rfl) (fun hb => ?_) (fun hb => ?_) | refine al_split_f rfl rfl (lt_ok rfl) (fun hb => ?_) (fun hb => ?_)) <;> ((try have hq := dX hb); (try (exfalso; omega))))) | (apply qr_pick; refine r_pick ?_) | (apply qr_lss; refine r_lss ?_) | (apply qr_gtr; refine r_gtr ?_) | (apply qr_neq; refine r_neq ?_) | (apply qr_slice; refine r_slice ?_) | (apply qr_load; refine r_load ?_) | (apply qr_faddr; refine r_faddr ?_) | (apply qr_field; refine r_field ?_) | (apply qr_nilck; refine r_nilck ?_))
        refine oret1 (dsk 1000 1001 1002 1003 k cm cs lm ls (endS st)) (by rfl) rv (⟨rfl, k, cm, cs, lm, ls, h.ends, rfl⟩) sb okx
      · rw [if_neg (by omega)]
        have hq : decide ((((endS st).F f).now.size : Int) < size) = false := decide_eq_false hbig
        have hcut : (((endS st).F f).now.extract 0 size.toNat).size ≤ 16777216 := by rw [ByteArray.size_extract]; omega
        have hs := fun k => settle_any (k := k) (cm := cm) (cs := cs) h.ends hmf hcut
        refine ob_enter Tryz.func35 rfl (by decide) _ Tryz.ntmps35 (le_ok rfl) rfl (fun w Pr β κ hE => ?_)
        dsimp only [slotsV, Nat.zero_add, Nat.reduceAdd]
        repeat' (first | (apply at_call; refine k_ocall [(1000, 1000), (1001, 1001), (1002, 1002), (1003, 1003)] (h1) hE ?_; rintro _ _ ⟨rfl, rfl⟩ <;> (intro _ _ h1 h2; simp only [renEqs, Nat.reduceBEq, renL_app, renL_ds, renL_und] at h1 h2; subst h1 h2)) | (apply at_call; refine k_ocall [(1000, 1000), (1001, 1001), (1002, 1002), (1003, 1003)] (hm) hE ?_; rintro _ _ ⟨rfl, rfl⟩ <;> (intro _ _ h1 h2; simp only [renEqs, Nat.reduceBEq, renL_app, renL_ds, renL_und] at h1 h2; subst h1 h2)) | (apply at_call; refine k_ocall [(1000, 1000), (1001, 1001), (1002, 1002), (1003, 1003)] (hsz) hE ?_; rintro _ _ ⟨rfl, rfl⟩ <;> (intro _ _ h1 h2; simp only [renEqs, Nat.reduceBEq, renL_app, renL_ds, renL_und] at h1 h2; subst h1 h2)) | (apply at_op (.lookup _ _ _ _); refine al_y (y_lookup1 fileM rfl rfl rfl hkey hhit) (lt_ok rfl) ?_) | (apply at_call; refine k_ocall [(1000, 1000), (1001, 1001), (1002, 1002), (1003, 1003)] (hs k) hE ?_; rintro _ _ ⟨rfl, k2, cm2, cs2, lm2, ls2, hD, rfl⟩ <;> (intro _ _ h1 h2; simp only [renEqs, Nat.reduceBEq, renL_app, renL_ds, renL_und] at h1 h2; subst h1 h2)) | refine nx ?_ | (apply qr_move; refine r_move ?_) | (apply qr_assign; refine r_assign ?_) | (apply at_cond; first | refine c_t ?_ | refine c_f ?_ | (refine aw_cond rfl (fun hb => ?_) (fun hb => ?_) <;> ((try have hq := dX hb); (try (exfalso; omega))))) | (apply at_guard; first | refine g_go ?_ | refine g_nt ?_ | refine g_nf ?_ | refine g_nu ?_ | ((first | refine al_split_t rfl rfl (lt_ok rfl) (fun hb => ?_) (fun hb => ?_) | refine al_split_f rfl rfl (lt_ok rfl) (fun hb => ?_) (fun hb => ?_)) <;> ((try have hq := dX hb); (try (exfalso; omega))))) | (apply qr_pick; refine r_pick ?_) | (apply qr_lss; refine r_lss ?_) | (apply qr_gtr; refine r_gtr ?_) | (apply qr_neq; refine r_neq ?_) | (apply qr_slice; refine r_slice ?_) | (apply qr_load; refine r_load ?_) | (apply qr_faddr; refine r_faddr ?_) | (apply qr_field; refine r_field ?_) | (apply qr_nilck; refine r_nilck ?_))
        refine oret1 (dsk 1000 1001 1002 1003 k2 cm2 cs2 lm2 ls2 _) (by rfl) rv (⟨rfl, k2, cm2, cs2, lm2, ls2, hD, rfl⟩) sb okx
  · rw [if_pos hm0]
    have hm8 : (!decide (mayE (endS st) f = 0)) = true := by rw [decide_eq_false hm0]; rfl
    refine ob_enter Tryz.func35 rfl (by decide) _ Tryz.ntmps35 (le_ok rfl) rfl (fun w Pr β κ hE => ?_)
    dsimp only [slotsV, Nat.zero_add, Nat.reduceAdd]
    repeat' (first | (apply at_call; refine k_ocall [(1000, 1000), (1001, 1001), (1002, 1002), (1003, 1003)] (h1) hE ?_; rintro _ _ ⟨rfl, rfl⟩ <;> (intro _ _ h1 h2; simp only [renEqs, Nat.reduceBEq, renL_app, renL_ds, renL_und] at h1 h2; subst h1 h2)) | (apply at_call; refine k_ocall [(1000, 1000), (1001, 1001), (1002, 1002), (1003, 1003)] (hm) hE ?_; rintro _ _ ⟨rfl, rfl⟩ <;> (intro _ _ h1 h2; simp only [renEqs, Nat.reduceBEq, renL_app, renL_ds, renL_und] at h1 h2; subst h1 h2)) | refine nx ?_ | (apply qr_move; refine r_move ?_) | (apply qr_assign; refine r_assign ?_) | (apply at_cond; first | refine c_t ?_ | refine c_f ?_ | (refine aw_cond rfl (fun hb => ?_) (fun hb => ?_) <;> ((try have hq := dX hb); (try (exfalso; omega))))) | (apply at_guard; first | refine g_go ?_ | refine g_nt ?_ | refine g_nf ?_ | refine g_nu ?_ | ((first | refine al_split_t rfl rfl (lt_ok rfl) (fun hb => ?_) (fun hb => ?_) | refine al_split_f rfl rfl (lt_ok rfl) (fun hb => ?_) (fun hb => ?_)) <;> ((try have hq := dX hb); (try (exfalso; omega))))) | (apply qr_pick; refine r_pick ?_) | (apply qr_lss; refine r_lss ?_) | (apply qr_gtr; refine r_gtr ?_) | (apply qr_neq; refine r_neq ?_) | (apply qr_slice; refine r_slice ?_) | (apply qr_load; refine r_load ?_) | (apply qr_faddr; refine r_faddr ?_) | (apply qr_field; refine r_field ?_) | (apply qr_nilck; refine r_nilck ?_))
    refine oret1 (dsk 1000 1001 1002 1003 k cm cs lm ls (endS st)) (by rfl) rv (⟨rfl, k, cm, cs, lm, ls, h.ends, rfl⟩) sb okx
end
end Go.Proofs.YtfgibalcdjlnhaaGreatDoor
end
section
set_option linter.unusedSimpArgs false
set_option linter.unusedVariables false
namespace Go.Proofs.YtfgibalcdjlnhaaGreatDoor
open Go.RowKit Go.ChangeMaps

def JOut (js : JS) (st : DS) (o : Objs) : Prop := ∃ (kk k cm cs : Nat) (lm ls : List ME), DkOk lm ls st ∧ o = jrn 1004 1005 kk js 1000 1001 1002 1003 k cm cs lm ls st
section
variable {kk k cm cs : Nat} {lm ls : List ME} {st : DS} {js : JS}
attribute [local irreducible] syncR writeR formB sumB
set_option maxHeartbeats 16000000 in
set_option maxRecDepth 20000 in
theorem jappend_up (h : js.Ok) (hD : DkOk lm ls st) (hu : endsB st = false) (s : ByteArray) (hs : s.size ≤ 1000000000) : ObC 12 [.box 1004 0, .d (.str s)] (jrn 1004 1005 kk js 1000 1001 1002 1003 k cm cs lm ls st) [] (fun x o => x = .d (.int (appJ js st s).1) ∧ JOut (appJ js st s).2.1 (appJ js st s).2.2 o) := by
  have hn := h.num
  have hl := h.len
  have hfz := formB_size s hs
  have hform := form_any s hs
  obtain ⟨f, rs, bad⟩ := js
  simp only at hn hl
  cases bad
  · by_cases h1 : 20000 < s.size
    · simp only [appJ, Bool.false_eq_true, if_false, if_pos h1]
      dsimp only [jrn, jbox]
      refine ob_enter Tryz.func12 rfl (by decide) _ Tryz.ntmps12 (le_ok rfl) rfl (fun w Pr β κ hE => ?_)
      dsimp only [slotsV, Nat.zero_add, Nat.reduceAdd]
      repeat' (first | (apply at_call; refine k_call (hform) hE ?_; rintro _ rfl) | refine nx ?_ | (apply aq_block_y; decide) | (apply qr_move; refine r_move ?_) | (apply qr_assign; refine r_assign ?_) | (apply at_cond; first | refine c_t ?_ | refine c_f ?_ | (refine aw_cond rfl (fun hb => ?_) (fun hb => ?_) <;> ((try have hq := dX hb); (try (exfalso; omega))))) | (apply qr_gtr; refine r_gtr ?_) | (apply qr_len; refine r_len ?_) | (apply qr_load; refine r_load ?_) | (apply qr_faddr; refine r_faddr ?_) | (apply qr_nilck; refine r_nilck ?_))
      refine oret1 (jrn 1004 1005 kk ⟨f, rs, false⟩ 1000 1001 1002 1003 k cm cs lm ls st) (by rfl) rv (⟨rfl, kk, k, cm, cs, lm, ls, hD, rfl⟩) sb okx
    · by_cases h2 : 1048576 < (forms rs).length + (formB s).size
      · simp only [appJ, Bool.false_eq_true, if_false, if_neg h1, if_pos h2]
        dsimp only [jrn, jbox]
        refine ob_enter Tryz.func12 rfl (by decide) _ Tryz.ntmps12 (le_ok rfl) rfl (fun w Pr β κ hE => ?_)
        dsimp only [slotsV, Nat.zero_add, Nat.reduceAdd]
        repeat' (first | (apply at_call; refine k_call (hform) hE ?_; rintro _ rfl) | refine nx ?_ | (apply aq_block_y; decide) | (apply qr_move; refine r_move ?_) | (apply qr_assign; refine r_assign ?_) | (apply at_cond; first | refine c_t ?_ | refine c_f ?_ | (refine aw_cond rfl (fun hb => ?_) (fun hb => ?_) <;> ((try have hq := dX hb); (try (exfalso; omega))))) | (apply qr_gtr; refine r_gtr ?_) | (apply qr_add; refine r_add ?_) | (apply qr_len; refine r_len ?_) | (apply qr_load; refine r_load ?_) | (apply qr_faddr; refine r_faddr ?_) | (apply qr_nilck; refine r_nilck ?_))
        refine oret1 (jrn 1004 1005 kk ⟨f, rs, false⟩ 1000 1001 1002 1003 k cm cs lm ls st) (by rfl) rv (⟨rfl, kk, k, cm, cs, lm, ls, hD, rfl⟩) sb okx
      · have hW := Write_up (k := k) (cm := cm) (cs := cs) hD hu f (forms rs).length (formB s)
        simp only [appJ, Bool.false_eq_true, if_false, if_neg h1, if_neg h2]
        generalize writeR st f (forms rs).length (formB s) = q at hW ⊢
        obtain ⟨e, su⟩ := q
        by_cases he : e = 0
        · have q1 : (!decide (e = 0)) = false := by simp [he]
          simp only [he, ne_eq, not_true_eq_false, if_false]
          have hfa : ((forms (rs ++ [s])).length : Int) = (forms rs).length + (formB s).size := by rw [forms_app, List.length_append]; simp [forms]
          have hjo : ∀ (S k3 cm3 cs3 : Nat) (lm3 ls3 : List ME) (su : DS), [(1004, .box 70 [.box 1000 0, .d (.int f), .row 1005 (kk + 1), .d (.int (((forms rs).length : Int) + (formB s).size)), .d (.bool false)]), (1005, .row 9 1 (kk + 1) ((rs.map fun t => [D.str t]) ++ [[D.str s]]))] ++ dsk 1000 1001 1002 S k3 cm3 cs3 lm3 ls3 su = jrn 1004 1005 (kk + 1) ⟨f, rs ++ [s], false⟩ 1000 1001 1002 S k3 cm3 cs3 lm3 ls3 su := by
            intro S k3 cm3 cs3 lm3 ls3 su
            dsimp only [jrn, jbox, strRow]
            rw [hfa, List.map_append]
            rfl
          dsimp only [jrn, jbox]
          refine ob_enter Tryz.func12 rfl (by decide) _ Tryz.ntmps12 (le_ok rfl) rfl (fun w Pr β κ hE => ?_)
          dsimp only [slotsV, Nat.zero_add, Nat.reduceAdd]
          repeat' (first | (apply at_call; refine k_call (hform) hE ?_; rintro _ rfl) | refine nx ?_ | (apply aq_block_y; decide) | (apply qr_move; refine r_move ?_) | (apply qr_assign; refine r_assign ?_) | (apply at_cond; first | refine c_t ?_ | refine c_f ?_ | (refine aw_cond rfl (fun hb => ?_) (fun hb => ?_) <;> ((try have hq := dX hb); (try (exfalso; omega))))) | (apply qr_gtr; refine r_gtr ?_) | (apply qr_add; refine r_add ?_) | (apply qr_len; refine r_len ?_) | (apply qr_load; refine r_load ?_) | (apply qr_faddr; refine r_faddr ?_) | (apply qr_nilck; refine r_nilck ?_))
          refine aw_mixo ([(1004, jbox 1000 1005 kk ⟨f, rs, false⟩)]) [(0, true), (1, true), (2, true), (3, true), (4, true), (5, true), (6, true), (7, true), (8, true), (9, true), (10, true), (11, true), (12, true), (13, false)] [14] (by kernel_rfl) (by kernel_rfl) (by kernel_rfl) (by decide) (by (repeat (first | exact obs_nil | (apply obs_cons; focus (first | rfl | (simp [find]; done)))))) ?_
          simp only [planned, tailed, List.filterMap_cons, List.filterMap_nil, List.getElem?_cons_zero, List.getElem?_cons_succ, Option.map_some]
          repeat' (first | apply am_nil | refine m_skip ?_ | refine n_skip ?_ | (apply at_mcall; refine m_ocall [(1000, 1000), (1001, 1001), (1002, 1002), (1003, 1003)] (hW) hE ?_; rintro _ _ ⟨rfl, k3, cm3, cs3, lm3, ls3, hD3, rfl⟩ <;> (intro _ _ h1 h2; simp only [renEqs, Nat.reduceBEq, renL_app, renL_ds, renL_und] at h1 h2; subst h1 h2; (try dsimp only [flatV, flat, D.plain, D.plainL]))) | (apply qm_move; refine m_move ?_) | (apply qm_load; refine m_load ?_) | (apply qm_faddr; refine m_faddr ?_) | (apply qm_nilck; refine m_nilck ?_) | (refine am_split rfl rfl (fun hb => ?_) (fun hb => ?_) <;> ((try have hq := dX hb); (try (exfalso; omega)))))
          · skip
            repeat' (first | refine nx ?_ | (apply aq_block_y; decide) | (apply qr_move; refine r_move ?_) | (apply qr_assign; refine r_assign ?_) | (apply at_cond; first | refine c_t ?_ | refine c_f ?_ | (refine aw_cond rfl (fun hb => ?_) (fun hb => ?_) <;> ((try have hq := dX hb); (try (exfalso; omega))))) | (apply qr_neq; refine r_neq ?_) | (apply qr_add; refine r_add ?_) | (apply qr_len; refine r_len ?_) | (apply qr_load; refine r_load ?_) | (apply qr_faddr; refine r_faddr ?_) | (apply qr_nilck; refine r_nilck ?_) | (apply qr_store; refine r_store ?_) | (apply qr_lits; refine r_lits ?_) | (apply qr_appd; refine r_appd ?_))
            refine aw_tree ((.free 0 (.free 1 (.free 2 (.free 3 (.free 4 (.free 6 (.free 9 (.free 10 (.free 11 (.free 13 (.free 14 (.fork (.alt 5 (.fork (.alt 7 (.fork (.alt 8 (.only 12 (.free 15 (.free 16 (.free 17 (.only 18 .tail))))) (.alt 12 (.free 15 (.only 8 (.free 16 (.free 17 (.only 18 .tail))))) .stop))) (.alt 12 (.free 15 (.only 7 (.only 8 (.free 16 (.free 17 (.only 18 .tail)))))) .stop))) (.alt 7 (.fork (.alt 5 (.fork (.alt 8 (.only 12 (.free 15 (.free 16 (.free 17 (.only 18 .tail))))) (.alt 12 (.free 15 (.only 8 (.free 16 (.free 17 (.only 18 .tail))))) .stop))) (.alt 12 (.free 15 (.only 5 (.only 8 (.free 16 (.free 17 (.only 18 .tail)))))) .stop))) (.alt 12 (.free 15 (.fork (.alt 5 (.only 7 (.only 8 (.free 16 (.free 17 (.only 18 .tail))))) (.alt 7 (.only 5 (.only 8 (.free 16 (.free 17 (.only 18 .tail))))) .stop)))) .stop)))))))))))))))) [19, 20, 21] (dsk 1000 1001 1002 1003 k3 cm3 cs3 lm3 ls3 su) ([(48, .box 1004 0), (62, .d (.int (((forms rs).length : Int) + (formB s).size))), (0, .box 1004 0)]) ([(1004, .box 70 [.box 1000 0, .d (.int f), .row 1005 (kk + 1), .d (.int (forms rs).length), .d (.bool false)]), (1005, .row 9 1 (kk + 1) ((rs.map fun t => [D.str t]) ++ [[D.str s]]))] ++ dsk 1000 1001 1002 1003 k3 cm3 cs3 lm3 ls3 su) (by kernel_rfl) (by kernel_rfl) (by kernel_rfl) rfl (by decide) (by (repeat (first | exact obs_nil | (apply obs_cons; focus (first | rfl | (simp [find]; done)))))) (fun hrest => ?_) ?_
            · simp only [tailed, List.filterMap_cons, List.filterMap_nil, List.getElem?_cons_zero, List.getElem?_cons_succ] at hrest
              repeat' (first | apply am_fork | apply am_alt | exact am_stop | refine am_free rfl ?_ | refine am_only rfl ?_ | refine am_leaf hrest (by (repeat (first | exact sub_nil | (apply sub_cons; focus (first | rfl | exact vint (by first | omega) | (simp [look]; done)))))) (by (repeat (first | exact obs_nil | (apply obs_cons; focus (first | rfl | (simp [find]; done)))))) | refine m_skip ?_ | refine n_skip ?_ | (apply at_am (.load _ _); refine am_nowd (by first | exact want_none | exact want_yes rfl rfl (by assumption) | exact want_yes rfl rfl (by with_reducible rfl)) (y_bload1 rfl rfl rfl rfl) (lt_ok rfl) ?_; dsimp only [flatV, flat, D.plain, D.plainL]) | (apply at_am (.call { callee := .builtin .append, args := _, argTypes := _ }); refine am_append (by first | exact want_none | exact want_yes rfl rfl (by assumption) | exact want_yes rfl rfl (by with_reducible rfl)) rfl rfl rfl (by first | exact ToD.d _ | exact ToD.row _ _ _ _ _ rfl) rfl rfl (by simp [D.one, Value.oneCell']) (by decide) (by first | (simp only [List.length_map, List.length_append, List.length_cons, List.length_nil]; omega) | omega) (by first | (simp only [List.length_map, List.length_append, List.length_cons, List.length_nil]; omega) | omega) (lt_ok rfl) ?_) | (apply at_am (.store _ _ _); refine am_store (by first | exact want_none | exact want_yes rfl rfl (by assumption) | exact want_yes rfl rfl (by with_reducible rfl)) rfl rfl rfl (ev_row rfl) nofun (by first | (simp only [normV, normList, normMap]; rfl) | rfl) (by simp [V.one, Value.oneCell']) (.inl ⟨rfl, rfl⟩) rfl (le_ok rfl) (by first | (simp only [normV, normList, normMap]; rfl) | rfl) ?_) | (apply qm_move; refine m_move ?_) | (apply qm_add; refine m_add ?_) | (apply qm_len; refine m_len ?_) | (apply qn_load; refine n_load ?_) | (apply qm_faddr; refine m_faddr ?_) | (apply qm_nilck; refine m_nilck ?_) | (apply at_am (.buildSlice _ _ _); first | refine am_lit1 (by first | exact want_none | exact want_yes rfl rfl (by assumption) | exact want_yes rfl rfl (by with_reducible rfl)) rfl (by first | exact ToD.d _ | exact ToD.row _ _ _ _ _ rfl) (by first | (simp only [normV, normList, normMap]; rfl) | rfl) rfl (le_ok rfl) (lt_ok rfl) ?_ | refine am_lit (by first | exact want_none | exact want_yes rfl rfl (by assumption) | exact want_yes rfl rfl (by with_reducible rfl)) rfl (by repeat (first | exact PartsD.nil | (apply PartsD.cons; first | exact ToD.d _ | exact ToD.row _ _ _ _ _ rfl))) (by simp [dfill, putD, cellsD, zerosD, Value.cells]; rfl) (by first | (simp only [normV, normList, normMap]; rfl) | rfl) (by decide) (by decide) (lt_ok rfl) ?_) | (apply at_am (.alloc _); refine am_alloc (by first | exact want_none | exact want_yes rfl rfl (by assumption) | exact want_yes rfl rfl (by with_reducible rfl)) rfl (by first | (simp only [normV, normList, normMap]; rfl) | rfl) rfl (lt_ok rfl) rfl rfl rfl ?_) | (apply at_am (.store _ _ _); first | refine am_store (by first | exact want_none | exact want_yes rfl rfl (by assumption) | exact want_yes rfl rfl (by with_reducible rfl)) rfl rfl rfl (ev_d rfl) nofun (by first | (simp only [normV, normList, normMap]; rfl) | rfl) (by simp [V.one, Value.oneCell']) (.inl ⟨rfl, rfl⟩) rfl (le_ok rfl) (by first | (simp only [normV, normList, normMap]; rfl) | rfl) ?_ | refine am_store (by first | exact want_none | exact want_yes rfl rfl (by assumption) | exact want_yes rfl rfl (by with_reducible rfl)) rfl rfl rfl (ev_d rfl) nofun (by first | (simp only [normV, normList, normMap]; rfl) | rfl) (by simp [V.one, Value.oneCell']) (.inr rfl) rfl (le_ok rfl) (by first | (simp only [normV, normList, normMap]; rfl) | rfl) ?_) | (refine am_split rfl rfl (fun hb => ?_) (fun hb => ?_) <;> ((try have hq := dX hb); (try (exfalso; omega)))))
            simp only [tailed, List.filterMap_cons, List.filterMap_nil, List.getElem?_cons_zero, List.getElem?_cons_succ]
            repeat' (first | refine nx ?_ | (apply aq_block_y; decide) | (apply qr_move; refine r_move ?_) | (apply qr_assign; refine r_assign ?_) | (apply at_cond; first | refine c_t ?_ | refine c_f ?_ | (refine aw_cond rfl (fun hb => ?_) (fun hb => ?_) <;> ((try have hq := dX hb); (try (exfalso; omega))))) | (apply qr_add; refine r_add ?_) | (apply qr_len; refine r_len ?_) | (apply qr_load; refine r_load ?_) | (apply qr_faddr; refine r_faddr ?_) | (apply qr_nilck; refine r_nilck ?_) | (apply qr_store; refine r_store ?_) | (apply qr_lits; refine r_lits ?_) | (apply qr_appd; refine r_appd ?_))
            refine oret1 ([(1004, .box 70 [.box 1000 0, .d (.int f), .row 1005 (kk + 1), .d (.int (((forms rs).length : Int) + (formB s).size)), .d (.bool false)]), (1005, .row 9 1 (kk + 1) ((rs.map fun t => [D.str t]) ++ [[D.str s]]))] ++ dsk 1000 1001 1002 1003 k3 cm3 cs3 lm3 ls3 su) (by rfl) rv (⟨rfl, kk + 1, k3, cm3, cs3, lm3, ls3, hD3, hjo _ _ _ _ _ _ _⟩) sb okx
        · have q1 : (!decide (e = 0)) = true := by simp [he]
          simp only [ne_eq, he, not_false_eq_true, if_true]
          dsimp only [jrn, jbox]
          refine ob_enter Tryz.func12 rfl (by decide) _ Tryz.ntmps12 (le_ok rfl) rfl (fun w Pr β κ hE => ?_)
          dsimp only [slotsV, Nat.zero_add, Nat.reduceAdd]
          repeat' (first | (apply at_call; refine k_call (hform) hE ?_; rintro _ rfl) | refine nx ?_ | (apply aq_block_y; decide) | (apply qr_move; refine r_move ?_) | (apply qr_assign; refine r_assign ?_) | (apply at_cond; first | refine c_t ?_ | refine c_f ?_ | (refine aw_cond rfl (fun hb => ?_) (fun hb => ?_) <;> ((try have hq := dX hb); (try (exfalso; omega))))) | (apply qr_gtr; refine r_gtr ?_) | (apply qr_add; refine r_add ?_) | (apply qr_len; refine r_len ?_) | (apply qr_load; refine r_load ?_) | (apply qr_faddr; refine r_faddr ?_) | (apply qr_nilck; refine r_nilck ?_))
          refine aw_mixo ([(1004, jbox 1000 1005 kk ⟨f, rs, false⟩)]) [(0, true), (1, true), (2, true), (3, true), (4, true), (5, true), (6, true), (7, true), (8, true), (9, true), (10, true), (11, true), (12, true), (13, false)] [14] (by kernel_rfl) (by kernel_rfl) (by kernel_rfl) (by decide) (by (repeat (first | exact obs_nil | (apply obs_cons; focus (first | rfl | (simp [find]; done)))))) ?_
          simp only [planned, tailed, List.filterMap_cons, List.filterMap_nil, List.getElem?_cons_zero, List.getElem?_cons_succ, Option.map_some]
          repeat' (first | apply am_nil | refine m_skip ?_ | refine n_skip ?_ | (apply at_mcall; refine m_ocall [(1000, 1000), (1001, 1001), (1002, 1002), (1003, 1003)] (hW) hE ?_; rintro _ _ ⟨rfl, k3, cm3, cs3, lm3, ls3, hD3, rfl⟩ <;> (intro _ _ h1 h2; simp only [renEqs, Nat.reduceBEq, renL_app, renL_ds, renL_und] at h1 h2; subst h1 h2; (try dsimp only [flatV, flat, D.plain, D.plainL]))) | (apply qm_move; refine m_move ?_) | (apply qm_load; refine m_load ?_) | (apply qm_faddr; refine m_faddr ?_) | (apply qm_nilck; refine m_nilck ?_) | (refine am_split rfl rfl (fun hb => ?_) (fun hb => ?_) <;> ((try have hq := dX hb); (try (exfalso; omega)))))
          · skip
            repeat' (first | refine nx ?_ | (apply aq_block_y; decide) | (apply qr_move; refine r_move ?_) | (apply qr_assign; refine r_assign ?_) | (apply at_cond; first | refine c_t ?_ | refine c_f ?_ | (refine aw_cond rfl (fun hb => ?_) (fun hb => ?_) <;> ((try have hq := dX hb); (try (exfalso; omega))))) | (apply qr_neq; refine r_neq ?_) | (apply qr_load; refine r_load ?_) | (apply qr_faddr; refine r_faddr ?_) | (apply qr_nilck; refine r_nilck ?_) | (apply qr_store; refine r_store ?_))
            refine oret1 (jrn 1004 1005 kk ⟨f, rs, true⟩ 1000 1001 1002 1003 k3 cm3 cs3 lm3 ls3 su) (by rfl) rv (⟨rfl, kk, k3, cm3, cs3, lm3, ls3, hD3, rfl⟩) sb okx
  · simp only [appJ, if_true]
    dsimp only [jrn, jbox]
    refine ob_enter Tryz.func12 rfl (by decide) _ Tryz.ntmps12 (le_ok rfl) rfl (fun w Pr β κ hE => ?_)
    dsimp only [slotsV, Nat.zero_add, Nat.reduceAdd]
    repeat' (first | (apply at_call; refine k_call (hform) hE ?_; rintro _ rfl) | refine nx ?_ | (apply aq_block_y; decide) | (apply qr_move; refine r_move ?_) | (apply qr_assign; refine r_assign ?_) | (apply at_cond; first | refine c_t ?_ | refine c_f ?_ | (refine aw_cond rfl (fun hb => ?_) (fun hb => ?_) <;> ((try have hq := dX hb); (try (exfalso; omega))))) | (apply qr_load; refine r_load ?_) | (apply qr_faddr; refine r_faddr ?_) | (apply qr_nilck; refine r_nilck ?_))
    refine oret1 (jrn 1004 1005 kk ⟨f, rs, true⟩ 1000 1001 1002 1003 k cm cs lm ls st) (by rfl) rv (⟨rfl, kk, k, cm, cs, lm, ls, hD, rfl⟩) sb okx
end
end Go.Proofs.YtfgibalcdjlnhaaGreatDoor
end
section
set_option linter.unusedSimpArgs false
set_option linter.unusedVariables false
namespace Go.Proofs.YtfgibalcdjlnhaaGreatDoor
open Go.RowKit Go.ChangeMaps

theorem Up.crash {st : DS} (h : Up st) (keep : List Int) : Up (upS (crashS st keep)) := by
  unfold crashS
  rw [if_neg (by rw [h.1]; decide)]
  exact ⟨rfl, rfl⟩
theorem Up.sync {st : DS} (h : Up st) (f : Int) : Up (syncR st f).2 := by
  unfold syncR
  rw [h.ends.1, h.ends.2, if_neg (by decide)]
  split
  · exact h
  · split
    · exact h
    · exact h
theorem Up.write {st : DS} (h : Up st) (f at_ : Int) (s : ByteArray) : Up (writeR st f at_ s).2 := by
  unfold writeR
  rw [h.ends.1, h.ends.2, if_neg (by decide)]
  show Up (wrS st f at_ s)
  unfold wrS
  split
  · exact h
  · exact h
def JOpenU (q : Int × Option JS × DS) (x : V) (o : Objs) : Prop := ∃ (kk k cm cs : Nat) (lm ls : List ME), DkOk lm ls q.2.2 ∧
  ((q.2.1 = none ∧ x = .tup [.d (.val (.pointer none)), .d (.int q.1)] ∧ o = dsk 1000 1001 1002 1003 k cm cs lm ls q.2.2) ∨ ∃ js : JS, q.2.1 = some js ∧ js.Ok ∧ x = .tup [.box 57 0, .d (.int q.1)] ∧ o = jrn 57 9 kk js 1000 1001 1002 1003 k cm cs lm ls q.2.2)
section
variable {k cm cs : Nat} {lm ls : List ME} {st : DS}
theorem openU_none {q : Int × Option JS × DS} {e : Int} {su : DS} (hq : q = (e, none, su)) (h : DkOk lm ls su) {x : V} {o : Objs} (hx : x = .tup [.d (.val (.pointer none)), .d (.int e)]) (ho : o = dsk 1000 1001 1002 1003 k cm cs lm ls su) : JOpenU q x o := by
  subst hq
  exact ⟨0, k, cm, cs, lm, ls, h, .inl ⟨rfl, hx, ho⟩⟩
theorem openU_some {q : Int × Option JS × DS} {js : JS} {su : DS} (hq : q = (0, some js, su)) (hj : js.Ok) (h : DkOk lm ls su) {kk : Nat} {x : V} {o : Objs} (hx : x = .tup [.box 57 0, .d (.int 0)]) (ho : o = jrn 57 9 kk js 1000 1001 1002 1003 k cm cs lm ls su) : JOpenU q x o := by
  subst hq
  exact ⟨kk, k, cm, cs, lm, ls, h, .inr ⟨js, rfl, hj, hx, ho⟩⟩
attribute [local irreducible] syncR truncR recsOf readP
set_option maxHeartbeats 16000000 in
set_option maxRecDepth 20000 in
theorem jopen_up (hD : DkOk lm ls st) (hu : Up st) (f : Int) : ObC 8 [.box 1000 0, .d (.int f)] (dsk 1000 1001 1002 1003 k cm cs lm ls st) [57, 9] (fun x o => JOpenU (openJ st f) x o) := by
  by_cases hf0 : f < 0 ∨ 15 < f
  · have hO : openJ st f = (1, none, st) := if_pos hf0
    rw [hO]
    by_cases hf1 : f < 0
    · skip
      refine ob_enter Tryz.func8 rfl (by decide) _ Tryz.ntmps8 (le_ok rfl) rfl (fun w Pr β κ hE => ?_)
      dsimp only [slotsV, Nat.zero_add, Nat.reduceAdd]
      repeat' (first | refine nx ?_ | (apply qr_move; refine r_move ?_) | (apply qr_assign; refine r_assign ?_) | (apply at_cond; first | refine c_t ?_ | refine c_f ?_ | (refine aw_cond rfl (fun hb => ?_) (fun hb => ?_) <;> ((try have hq := dX hb); (try (exfalso; omega))))) | (apply at_guard; first | refine g_go ?_ | refine g_nt ?_ | refine g_nf ?_ | refine g_nu ?_ | ((first | refine al_split_t rfl rfl (lt_ok rfl) (fun hb => ?_) (fun hb => ?_) | refine al_split_f rfl rfl (lt_ok rfl) (fun hb => ?_) (fun hb => ?_)) <;> ((try have hq := dX hb); (try (exfalso; omega))))) | (apply qr_pick; refine r_pick ?_) | (apply qr_lss; refine r_lss ?_) | (apply qr_gtr; refine r_gtr ?_))
      refine oret2 (dsk 1000 1001 1002 1003 k cm cs lm ls st) (by rfl) rv rv (openU_none rfl hD rfl rfl) sb okx
    · skip
      refine ob_enter Tryz.func8 rfl (by decide) _ Tryz.ntmps8 (le_ok rfl) rfl (fun w Pr β κ hE => ?_)
      dsimp only [slotsV, Nat.zero_add, Nat.reduceAdd]
      repeat' (first | refine nx ?_ | (apply qr_move; refine r_move ?_) | (apply qr_assign; refine r_assign ?_) | (apply at_cond; first | refine c_t ?_ | refine c_f ?_ | (refine aw_cond rfl (fun hb => ?_) (fun hb => ?_) <;> ((try have hq := dX hb); (try (exfalso; omega))))) | (apply at_guard; first | refine g_go ?_ | refine g_nt ?_ | refine g_nf ?_ | refine g_nu ?_ | ((first | refine al_split_t rfl rfl (lt_ok rfl) (fun hb => ?_) (fun hb => ?_) | refine al_split_f rfl rfl (lt_ok rfl) (fun hb => ?_) (fun hb => ?_)) <;> ((try have hq := dX hb); (try (exfalso; omega))))) | (apply qr_pick; refine r_pick ?_) | (apply qr_lss; refine r_lss ?_) | (apply qr_gtr; refine r_gtr ?_))
      refine oret2 (dsk 1000 1001 1002 1003 k cm cs lm ls st) (by rfl) rv rv (openU_none rfl hD rfl rfl) sb okx
  · have hf6 : i64 f := by unfold i64; omega
    have hfr : 0 ≤ f ∧ f ≤ 15 := by omega
    have hO : openJ st f = _ := if_neg hf0
    obtain ⟨e, su, hS⟩ : ∃ e su, syncR st f = (e, su) := ⟨_, _, rfl⟩
    have hS1 : (syncR st f).1 = e := by rw [hS]
    have hS2 : (syncR st f).2 = su := by rw [hS]
    have hSy := Sync_up (k := k) (cm := cm) (cs := cs) hD hu.ends.1 hf6
    rw [hS] at hSy
    have husu : Up su := by have := hu.sync f; rwa [hS] at this
    by_cases he : e = 0
    · have q1 : (!decide (e = 0)) = false := by simp [he]
      subst he
      have hrd := sync_read hD.ok hS1
      rw [hS2] at hrd
      rw [hS1, hS2, if_neg (by simp)] at hO
      obtain ⟨hmay, hread, hnow⟩ := hrd
      have hsz := fun {k cm cs : Nat} {lm ls : List ME} (h : DkOk lm ls su) => size_any (k := k) (cm := cm) (cs := cs) h hf6
      generalize (su.F f).now = s at hO hread hnow hsz
      have hrec := read_is s (by omega)
      have hR := recsOf_is (L s)
      have hRle := hR.le
      rw [L_len] at hRle
      generalize recsOf (L s) = rs at hO hrec hR hRle
      have hjs : JS.Ok ⟨f, rs, false⟩ := ⟨hfr, hR.small, by show (forms rs).length ≤ _; omega⟩
      have hn := hjs.num
      simp only at hn
      generalize hn0 : (forms rs).length = n at hO hrec hRle
      by_cases hlt : n < s.size
      · have q2 : decide ((n : Int) < s.size) = true := decide_eq_true (by omega)
        rw [if_pos hlt] at hO
        obtain ⟨e2, sv, hT⟩ : ∃ e sv, truncR su f n = (e, sv) := ⟨_, _, rfl⟩
        rw [hT] at hO
        have hTr : ∀ {k cm cs : Nat} {lm ls : List ME} (h : DkOk lm ls su), ObC 35 [.box 1000 0, .d (.int f), .d (.int n)] (dsk 1000 1001 1002 1003 k cm cs lm ls su) [] (fun x o => x = .d (.int e2) ∧ Out sv o) := fun {k cm cs lm ls} h => by
          have := Truncate_up (k := k) (cm := cm) (cs := cs) h husu.ends.1 hf6 (n : Int)
          rwa [hT] at this
        by_cases he2 : e2 = 0
        · have q3 : (!decide (e2 = 0)) = false := by simp [he2]
          have hO : openJ st f = (0, some ⟨f, rs, false⟩, sv) := by rw [hO, if_neg (by simp [he2])]
          rw [hO]
          refine ob_enter Tryz.func8 rfl (by decide) _ Tryz.ntmps8 (le_ok rfl) rfl (fun w Pr β κ hE => ?_)
          dsimp only [slotsV, Nat.zero_add, Nat.reduceAdd]
          repeat' (first | (apply at_call; refine k_ocall [(1000, 1000), (1001, 1001), (1002, 1002), (1003, 1003)] (hSy) hE ?_; rintro _ _ ⟨rfl, k3, cm3, cs3, lm3, ls3, hD3, rfl⟩ <;> (intro _ _ h1 h2; simp only [renEqs, Nat.reduceBEq, renL_app, renL_ds, renL_und] at h1 h2; subst h1 h2)) | refine nx ?_ | (apply qr_move; refine r_move ?_) | (apply qr_assign; refine r_assign ?_) | (apply at_cond; first | refine c_t ?_ | refine c_f ?_ | (refine aw_cond rfl (fun hb => ?_) (fun hb => ?_) <;> ((try have hq := dX hb); (try (exfalso; omega))))) | (apply at_guard; first | refine g_go ?_ | refine g_nt ?_ | refine g_nf ?_ | refine g_nu ?_ | ((first | refine al_split_t rfl rfl (lt_ok rfl) (fun hb => ?_) (fun hb => ?_) | refine al_split_f rfl rfl (lt_ok rfl) (fun hb => ?_) (fun hb => ?_)) <;> ((try have hq := dX hb); (try (exfalso; omega))))) | (apply qr_pick; refine r_pick ?_) | (apply qr_lss; refine r_lss ?_) | (apply qr_gtr; refine r_gtr ?_))
          repeat' (first | (apply at_call; refine k_ocall [(1000, 1000), (1001, 1001), (1002, 1002), (1003, 1003)] (hsz hD3) hE ?_; rintro _ _ ⟨rfl, rfl⟩ <;> (intro _ _ h1 h2; simp only [renEqs, Nat.reduceBEq, renL_app, renL_ds, renL_und] at h1 h2; subst h1 h2)) | (apply at_call; refine k_ocall [(1000, 1000), (1001, 1001), (1002, 1002), (1003, 1003)] (smR hD3 hf6 hread) hE ?_; rintro _ _ ⟨rfl, rfl⟩ <;> (intro _ _ h1 h2; simp only [renEqs, Nat.reduceBEq, renL_app, renL_ds, renL_und] at h1 h2; subst h1 h2)) | (apply at_call; refine k_ocall [(4, 9)] (hrec) hE ?_; rintro _ _ ⟨kr, rfl, rfl⟩ <;> (intro _ _ h1 h2; simp only [renEqs, Nat.reduceBEq, renL_app, renL_ds, renL_und] at h1 h2; subst h1 h2)) | refine nx ?_ | (apply qr_move; refine r_move ?_) | (apply qr_assign; refine r_assign ?_) | (apply at_cond; first | refine c_t ?_ | refine c_f ?_ | (refine aw_cond rfl (fun hb => ?_) (fun hb => ?_) <;> ((try have hq := dX hb); (try (exfalso; omega))))) | (apply qr_lss; refine r_lss ?_) | (apply qr_neq; refine r_neq ?_) | (apply qr_len; refine r_len ?_) | (apply qr_extract; refine r_extract ?_))
          repeat' (first | (apply at_call; refine k_ocall [(1000, 1000), (1001, 1001), (1002, 1002), (1003, 1003)] (hTr hD3) hE ?_; rintro _ _ ⟨rfl, k4, cm4, cs4, lm4, ls4, hD4, rfl⟩ <;> (intro _ _ h1 h2; simp only [renEqs, Nat.reduceBEq, renL_app, renL_ds, renL_und] at h1 h2; subst h1 h2)) | refine nx ?_ | (apply qr_move; refine r_move ?_) | (apply qr_assign; refine r_assign ?_) | (apply at_cond; first | refine c_t ?_ | refine c_f ?_ | (refine aw_cond rfl (fun hb => ?_) (fun hb => ?_) <;> ((try have hq := dX hb); (try (exfalso; omega))))) | (apply qr_neq; refine r_neq ?_))
          repeat' (first | (apply at_op (.build _ _); refine al_y (y_buildS rfl (by repeat (first | exact PartsS.nil | (apply PartsS.cons; rfl; constructor; rfl))) rfl rfl) (lt_ok rfl) ?_) | (apply at_op (.box _ _); refine al_step (st_box (ev_agg rfl) nofun (by first | (simp only [normV, normList, normMap]; rfl) | rfl) (lt_ok rfl) rfl rfl) rfl ?_) | refine nx ?_ | (apply qr_move; refine r_move ?_) | (apply qr_assign; refine r_assign ?_) | (apply at_cond; first | refine c_t ?_ | refine c_f ?_ | (refine aw_cond rfl (fun hb => ?_) (fun hb => ?_) <;> ((try have hq := dX hb); (try (exfalso; omega))))) | (apply qr_boxed; refine r_boxed ?_) | (apply qr_build; refine r_build ?_))
          subst hn0
          refine oret2 (jrn 57 9 kr ⟨f, rs, false⟩ 1000 1001 1002 1003 k4 cm4 cs4 lm4 ls4 sv) (by rfl) rk rk (openU_some rfl hjs hD4 rfl rfl) sb okx
        · have q3 : (!decide (e2 = 0)) = true := by simp [he2]
          have hO : openJ st f = (e2, none, sv) := by rw [hO, if_pos he2]
          rw [hO]
          refine ob_enter Tryz.func8 rfl (by decide) _ Tryz.ntmps8 (le_ok rfl) rfl (fun w Pr β κ hE => ?_)
          dsimp only [slotsV, Nat.zero_add, Nat.reduceAdd]
          repeat' (first | (apply at_call; refine k_ocall [(1000, 1000), (1001, 1001), (1002, 1002), (1003, 1003)] (hSy) hE ?_; rintro _ _ ⟨rfl, k3, cm3, cs3, lm3, ls3, hD3, rfl⟩ <;> (intro _ _ h1 h2; simp only [renEqs, Nat.reduceBEq, renL_app, renL_ds, renL_und] at h1 h2; subst h1 h2)) | refine nx ?_ | (apply qr_move; refine r_move ?_) | (apply qr_assign; refine r_assign ?_) | (apply at_cond; first | refine c_t ?_ | refine c_f ?_ | (refine aw_cond rfl (fun hb => ?_) (fun hb => ?_) <;> ((try have hq := dX hb); (try (exfalso; omega))))) | (apply at_guard; first | refine g_go ?_ | refine g_nt ?_ | refine g_nf ?_ | refine g_nu ?_ | ((first | refine al_split_t rfl rfl (lt_ok rfl) (fun hb => ?_) (fun hb => ?_) | refine al_split_f rfl rfl (lt_ok rfl) (fun hb => ?_) (fun hb => ?_)) <;> ((try have hq := dX hb); (try (exfalso; omega))))) | (apply qr_pick; refine r_pick ?_) | (apply qr_lss; refine r_lss ?_) | (apply qr_gtr; refine r_gtr ?_))
          repeat' (first | (apply at_call; refine k_ocall [(1000, 1000), (1001, 1001), (1002, 1002), (1003, 1003)] (hsz hD3) hE ?_; rintro _ _ ⟨rfl, rfl⟩ <;> (intro _ _ h1 h2; simp only [renEqs, Nat.reduceBEq, renL_app, renL_ds, renL_und] at h1 h2; subst h1 h2)) | (apply at_call; refine k_ocall [(1000, 1000), (1001, 1001), (1002, 1002), (1003, 1003)] (smR hD3 hf6 hread) hE ?_; rintro _ _ ⟨rfl, rfl⟩ <;> (intro _ _ h1 h2; simp only [renEqs, Nat.reduceBEq, renL_app, renL_ds, renL_und] at h1 h2; subst h1 h2)) | (apply at_call; refine k_ocall [(4, 9)] (hrec) hE ?_; rintro _ _ ⟨kr, rfl, rfl⟩ <;> (intro _ _ h1 h2; simp only [renEqs, Nat.reduceBEq, renL_app, renL_ds, renL_und] at h1 h2; subst h1 h2)) | refine nx ?_ | (apply qr_move; refine r_move ?_) | (apply qr_assign; refine r_assign ?_) | (apply at_cond; first | refine c_t ?_ | refine c_f ?_ | (refine aw_cond rfl (fun hb => ?_) (fun hb => ?_) <;> ((try have hq := dX hb); (try (exfalso; omega))))) | (apply qr_lss; refine r_lss ?_) | (apply qr_neq; refine r_neq ?_) | (apply qr_len; refine r_len ?_) | (apply qr_extract; refine r_extract ?_))
          repeat' (first | (apply at_call; refine k_ocall [(1000, 1000), (1001, 1001), (1002, 1002), (1003, 1003)] (hTr hD3) hE ?_; rintro _ _ ⟨rfl, k4, cm4, cs4, lm4, ls4, hD4, rfl⟩ <;> (intro _ _ h1 h2; simp only [renEqs, Nat.reduceBEq, renL_app, renL_ds, renL_und] at h1 h2; subst h1 h2)) | refine nx ?_ | (apply qr_move; refine r_move ?_) | (apply qr_assign; refine r_assign ?_) | (apply at_cond; first | refine c_t ?_ | refine c_f ?_ | (refine aw_cond rfl (fun hb => ?_) (fun hb => ?_) <;> ((try have hq := dX hb); (try (exfalso; omega))))) | (apply qr_neq; refine r_neq ?_))
          refine oret2 (dsk 1000 1001 1002 1003 k4 cm4 cs4 lm4 ls4 sv) (by rfl) rk rk (openU_none rfl hD4 rfl rfl) sb okx
      · have q2 : decide ((n : Int) < s.size) = false := decide_eq_false (by omega)
        have hO : openJ st f = (0, some ⟨f, rs, false⟩, su) := by rw [hO, if_neg hlt]
        rw [hO]
        refine ob_enter Tryz.func8 rfl (by decide) _ Tryz.ntmps8 (le_ok rfl) rfl (fun w Pr β κ hE => ?_)
        dsimp only [slotsV, Nat.zero_add, Nat.reduceAdd]
        repeat' (first | (apply at_call; refine k_ocall [(1000, 1000), (1001, 1001), (1002, 1002), (1003, 1003)] (hSy) hE ?_; rintro _ _ ⟨rfl, k3, cm3, cs3, lm3, ls3, hD3, rfl⟩ <;> (intro _ _ h1 h2; simp only [renEqs, Nat.reduceBEq, renL_app, renL_ds, renL_und] at h1 h2; subst h1 h2)) | refine nx ?_ | (apply qr_move; refine r_move ?_) | (apply qr_assign; refine r_assign ?_) | (apply at_cond; first | refine c_t ?_ | refine c_f ?_ | (refine aw_cond rfl (fun hb => ?_) (fun hb => ?_) <;> ((try have hq := dX hb); (try (exfalso; omega))))) | (apply at_guard; first | refine g_go ?_ | refine g_nt ?_ | refine g_nf ?_ | refine g_nu ?_ | ((first | refine al_split_t rfl rfl (lt_ok rfl) (fun hb => ?_) (fun hb => ?_) | refine al_split_f rfl rfl (lt_ok rfl) (fun hb => ?_) (fun hb => ?_)) <;> ((try have hq := dX hb); (try (exfalso; omega))))) | (apply qr_pick; refine r_pick ?_) | (apply qr_lss; refine r_lss ?_) | (apply qr_gtr; refine r_gtr ?_))
        repeat' (first | (apply at_call; refine k_ocall [(1000, 1000), (1001, 1001), (1002, 1002), (1003, 1003)] (hsz hD3) hE ?_; rintro _ _ ⟨rfl, rfl⟩ <;> (intro _ _ h1 h2; simp only [renEqs, Nat.reduceBEq, renL_app, renL_ds, renL_und] at h1 h2; subst h1 h2)) | (apply at_call; refine k_ocall [(1000, 1000), (1001, 1001), (1002, 1002), (1003, 1003)] (smR hD3 hf6 hread) hE ?_; rintro _ _ ⟨rfl, rfl⟩ <;> (intro _ _ h1 h2; simp only [renEqs, Nat.reduceBEq, renL_app, renL_ds, renL_und] at h1 h2; subst h1 h2)) | (apply at_call; refine k_ocall [(4, 9)] (hrec) hE ?_; rintro _ _ ⟨kr, rfl, rfl⟩ <;> (intro _ _ h1 h2; simp only [renEqs, Nat.reduceBEq, renL_app, renL_ds, renL_und] at h1 h2; subst h1 h2)) | refine nx ?_ | (apply qr_move; refine r_move ?_) | (apply qr_assign; refine r_assign ?_) | (apply at_cond; first | refine c_t ?_ | refine c_f ?_ | (refine aw_cond rfl (fun hb => ?_) (fun hb => ?_) <;> ((try have hq := dX hb); (try (exfalso; omega))))) | (apply qr_lss; refine r_lss ?_) | (apply qr_neq; refine r_neq ?_) | (apply qr_len; refine r_len ?_) | (apply qr_extract; refine r_extract ?_))
        repeat' (first | (apply at_op (.build _ _); refine al_y (y_buildS rfl (by repeat (first | exact PartsS.nil | (apply PartsS.cons; rfl; constructor; rfl))) rfl rfl) (lt_ok rfl) ?_) | (apply at_op (.box _ _); refine al_step (st_box (ev_agg rfl) nofun (by first | (simp only [normV, normList, normMap]; rfl) | rfl) (lt_ok rfl) rfl rfl) rfl ?_) | refine nx ?_ | (apply qr_move; refine r_move ?_) | (apply qr_assign; refine r_assign ?_) | (apply at_cond; first | refine c_t ?_ | refine c_f ?_ | (refine aw_cond rfl (fun hb => ?_) (fun hb => ?_) <;> ((try have hq := dX hb); (try (exfalso; omega))))) | (apply qr_boxed; refine r_boxed ?_) | (apply qr_build; refine r_build ?_))
        subst hn0
        refine oret2 (jrn 57 9 kr ⟨f, rs, false⟩ 1000 1001 1002 1003 k3 cm3 cs3 lm3 ls3 su) (by rfl) rk rk (openU_some rfl hjs hD3 rfl rfl) sb okx
    · have q1 : (!decide (e = 0)) = true := by simp [he]
      have hO : openJ st f = (e, none, su) := by rw [hO, hS1, hS2, if_pos he]
      rw [hO]
      refine ob_enter Tryz.func8 rfl (by decide) _ Tryz.ntmps8 (le_ok rfl) rfl (fun w Pr β κ hE => ?_)
      dsimp only [slotsV, Nat.zero_add, Nat.reduceAdd]
      repeat' (first | (apply at_call; refine k_ocall [(1000, 1000), (1001, 1001), (1002, 1002), (1003, 1003)] (hSy) hE ?_; rintro _ _ ⟨rfl, k3, cm3, cs3, lm3, ls3, hD3, rfl⟩ <;> (intro _ _ h1 h2; simp only [renEqs, Nat.reduceBEq, renL_app, renL_ds, renL_und] at h1 h2; subst h1 h2)) | refine nx ?_ | (apply qr_move; refine r_move ?_) | (apply qr_assign; refine r_assign ?_) | (apply at_cond; first | refine c_t ?_ | refine c_f ?_ | (refine aw_cond rfl (fun hb => ?_) (fun hb => ?_) <;> ((try have hq := dX hb); (try (exfalso; omega))))) | (apply at_guard; first | refine g_go ?_ | refine g_nt ?_ | refine g_nf ?_ | refine g_nu ?_ | ((first | refine al_split_t rfl rfl (lt_ok rfl) (fun hb => ?_) (fun hb => ?_) | refine al_split_f rfl rfl (lt_ok rfl) (fun hb => ?_) (fun hb => ?_)) <;> ((try have hq := dX hb); (try (exfalso; omega))))) | (apply qr_pick; refine r_pick ?_) | (apply qr_lss; refine r_lss ?_) | (apply qr_gtr; refine r_gtr ?_) | (apply qr_neq; refine r_neq ?_))
      refine oret2 (dsk 1000 1001 1002 1003 k3 cm3 cs3 lm3 ls3 su) (by rfl) rv rv (openU_none rfl hD3 rfl rfl) sb okx
end
end Go.Proofs.YtfgibalcdjlnhaaGreatDoor
end
