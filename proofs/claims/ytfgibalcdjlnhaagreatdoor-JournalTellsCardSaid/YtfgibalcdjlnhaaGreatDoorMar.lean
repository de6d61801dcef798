/-
  A disk: Write, Sync, Truncate, Copy. Conditions: none.
  A disk: Copy; acts. Conditions: none.
  What a disk's read returns. Conditions: none.
  The journal: the sum and the form of a record. Conditions: none.
  The walks of the reference of layer 1: what it writes. Conditions: sizes.
-/
import Derived.Laws.IdiomStrings
import Derived.Lib.BufferRead
import Derived.Test.YtfgibalcdjlnhaaGreatDoorMaq
section
set_option linter.unusedSimpArgs false
set_option linter.unusedVariables false
namespace Go.Proofs.YtfgibalcdjlnhaaGreatDoor
open Go.RowKit Go.ChangeMaps

def syncR (st : DS) (f : Int) : Int × DS :=
  if endsB st then (8, crashS (endS st) st.keep) else if mayE (endS st) f ≠ 0 then (mayE (endS st) f, endS st) else if 0 < (endS st).lost then (9, { endS st with lost := (endS st).lost - 1 }) else (0, settleS (endS st) f ((endS st).F f).now)
def writeR (st : DS) (f at_ : Int) (s : ByteArray) : Int × DS :=
  if endsB st then (8, crashS (wrS (endS st) f at_ s) st.keep) else (wrE (endS st) f at_ s, wrS (endS st) f at_ s)
def truncR (st : DS) (f size : Int) : Int × DS :=
  if endsB st then (8, crashS (endS st) st.keep) else if mayE (endS st) f ≠ 0 then (mayE (endS st) f, endS st) else if size < 0 ∨ (((endS st).F f).now.size : Int) < size then (1, endS st) else (0, settleS (endS st) f (((endS st).F f).now.extract 0 size.toNat))
theorem endS_ok {st : DS} (h : st.Ok) : (endS st).Ok := by
  unfold endS
  split
  · exact h
  · rename_i hc
    have := h.armed0
    have h0 : st.armed ≠ 0 := fun e => hc (.inr e)
    exact ⟨h.now, h.last, h.out, h.nodup, h.file, h.num, h.lost0, by show 0 ≤ st.armed - 1 ∧ st.armed - 1 ≤ _; omega, h.keepl⟩
theorem endS_f (st : DS) : (endS st).F = st.F ∧ (endS st).Q = st.Q ∧ (endS st).lost = st.lost ∧ (endS st).keep = st.keep ∧ (endS st).down = st.down := by
  unfold endS
  split <;> exact ⟨rfl, rfl, rfl, rfl, rfl⟩
theorem DkOk.ends {lm ls : List ME} {st : DS} (h : DkOk lm ls st) : DkOk lm ls (endS st) := ⟨by rw [(endS_f st).1]; exact h.f, by rw [(endS_f st).2.1]; exact h.s, endS_ok h.ok⟩
theorem wrS_f (st : DS) (f at_ : Int) (s : ByteArray) : (wrS st f at_ s).keep = st.keep ∧ (wrS st f at_ s).down = st.down := by
  unfold wrS
  split <;> exact ⟨rfl, rfl⟩
theorem Out.n {st : DS} {o : Objs} (h : Out st o) (X : Nat) : OutN X st o := by
  obtain ⟨k, cm, cs, lm, ls, h1, h2⟩ := h
  exact ⟨1003, k, cm, cs, lm, ls, .inl rfl, h1, h2⟩
section
variable {k cm cs : Nat} {lm ls : List ME} {st : DS}
theorem crash_any (h : DkOk lm ls st) {keep : List Int} (hkl : keep.length ≤ 1000000) : ObC 20 [.box 1000 0, .d (keepD keep)] (dsk 1000 1001 1002 1003 k cm cs lm ls st) [106] (fun x o => x = .tup [] ∧ OutN 106 (crashS st keep) o) := by
  cases hd : st.down
  · exact (crash_up h keep hkl hd).mono fun x o ⟨h1, k', cm', cs', lm', ls', h2, h3⟩ => ⟨h1, 106, k', cm', cs', lm', ls', .inr rfl, h2, h3⟩
  · refine (crash_down keep hd).mono fun x o ⟨h1, h2⟩ => ⟨h1, 1003, k, cm, cs, lm, ls, .inl rfl, ?_⟩
    unfold crashS
    rw [if_pos hd]
    exact ⟨h, h2⟩
theorem write_any (h : DkOk lm ls st) (f at_ : Int) (s : ByteArray) : ObC 50 [.box 1000 0, .d (.int f), .d (.int at_), .d (.str s)] (dsk 1000 1001 1002 1003 k cm cs lm ls st) [] (fun x o => x = .d (.int (wrE st f at_ s)) ∧ Out (wrS st f at_ s) o) := by
  by_cases he : errW st f at_ s
  · refine (write_err h he).mono fun x o ⟨h1, h2⟩ => ⟨h1, k, cm, cs, lm, ls, ?_⟩
    have e : wrS st f at_ s = st := if_pos he
    rw [e]
    exact ⟨h, h2⟩
  · have e : wrE st f at_ s = 0 := by
      apply Decidable.byContradiction
      intro e
      exact he (.inl e)
    rw [e]
    exact write_ok h he
set_option maxHeartbeats 8000000 in
set_option maxRecDepth 20000 in
theorem Write_any (h : DkOk lm ls st) (f at_ : Int) (s : ByteArray) : ObC 30 [.box 1000 0, .d (.int f), .d (.int at_), .d (.str s)] (dsk 1000 1001 1002 1003 k cm cs lm ls st) [24] (fun x o => x = .d (.int (writeR st f at_ s).1) ∧ OutN 24 (writeR st f at_ s).2 o) := by
  have h1 := ends_any (k := k) (cm := cm) (cs := cs) (lm := lm) (ls := ls) h.ok
  have h2 := fun k => write_any (k := k) (cm := cm) (cs := cs) h.ends f at_ s
  have hkeep : (wrS (endS st) f at_ s).keep = st.keep := (wrS_f _ _ _ _).1.trans (endS_f st).2.2.2.1
  unfold writeR
  cases he : endsB st
  · rw [he] at h1
    rw [if_neg (by decide)]
    refine ob_enter Tryz.func30 rfl (by decide) _ Tryz.ntmps30 (le_ok rfl) rfl (fun w Pr β κ hE => ?_)
    dsimp only [slotsV, Nat.zero_add, Nat.reduceAdd]
    repeat' (first | (apply at_call; refine k_ocall [(1000, 1000), (1001, 1001), (1002, 1002), (1003, 1003)] (h1) hE ?_; rintro _ _ ⟨rfl, rfl⟩ <;> (intro _ _ h1 h2; simp only [renEqs, Nat.reduceBEq, renL_app, renL_ds, renL_und] at h1 h2; subst h1 h2)) | (apply at_call; refine k_ocall [(1000, 1000), (1001, 1001), (1002, 1002), (1003, 1003)] (h2 k) hE ?_; rintro _ _ ⟨rfl, k2, cm2, cs2, lm2, ls2, hD, rfl⟩ <;> (intro _ _ h1 h2; simp only [renEqs, Nat.reduceBEq, renL_app, renL_ds, renL_und] at h1 h2; subst h1 h2)) | refine nx ?_ | (apply qr_move; refine r_move ?_) | (apply qr_assign; refine r_assign ?_) | (apply at_cond; first | refine c_t ?_ | refine c_f ?_ | (refine aw_cond rfl (fun hb => ?_) (fun hb => ?_) <;> ((try have hq := dX hb); (try (exfalso; omega))))) | (apply qr_load; refine r_load ?_) | (apply qr_faddr; refine r_faddr ?_) | (apply qr_nilck; refine r_nilck ?_))
    refine oret1 (dsk 1000 1001 1002 1003 k2 cm2 cs2 lm2 ls2 (wrS (endS st) f at_ s)) (by rfl) rv (⟨rfl, Out.n ⟨k2, cm2, cs2, lm2, ls2, hD, rfl⟩ 24⟩) sb okx
  · rw [he] at h1
    rw [if_pos rfl]
    refine ob_enter Tryz.func30 rfl (by decide) _ Tryz.ntmps30 (le_ok rfl) rfl (fun w Pr β κ hE => ?_)
    dsimp only [slotsV, Nat.zero_add, Nat.reduceAdd]
    repeat' (first | (apply at_call; refine k_ocall [(1000, 1000), (1001, 1001), (1002, 1002), (1003, 1003)] (h1) hE ?_; rintro _ _ ⟨rfl, rfl⟩ <;> (intro _ _ h1 h2; simp only [renEqs, Nat.reduceBEq, renL_app, renL_ds, renL_und] at h1 h2; subst h1 h2)) | (apply at_call; refine k_ocall [(1000, 1000), (1001, 1001), (1002, 1002), (1003, 1003)] (h2 k) hE ?_; rintro _ _ ⟨rfl, k2, cm2, cs2, lm2, ls2, hD, rfl⟩ <;> (intro _ _ h1 h2; simp only [renEqs, Nat.reduceBEq, renL_app, renL_ds, renL_und] at h1 h2; subst h1 h2)) | (apply at_call; refine k_ocall [(1000, 1000), (1001, 1001), (1002, 1002), (1003, 1003), (106, 24)] (crash_any hD (hkeep ▸ h.ok.keepl)) hE ?_; rintro _ _ ⟨rfl, s3, k3, cm3, cs3, lm3, ls3, hs3, hD3, rfl⟩; rcases hs3 with rfl | rfl <;> (intro _ _ h1 h2; simp only [renEqs, Nat.reduceBEq, renL_app, renL_ds, renL_und] at h1 h2; subst h1 h2)) | refine nx ?_ | (apply qr_move; refine r_move ?_) | (apply qr_assign; refine r_assign ?_) | (apply at_cond; first | refine c_t ?_ | refine c_f ?_ | (refine aw_cond rfl (fun hb => ?_) (fun hb => ?_) <;> ((try have hq := dX hb); (try (exfalso; omega))))) | (apply qr_load; refine r_load ?_) | (apply qr_faddr; refine r_faddr ?_) | (apply qr_nilck; refine r_nilck ?_))
    all_goals rw [← hkeep]
    · skip
      refine oret1 (dsk 1000 1001 1002 1003 k3 cm3 cs3 lm3 ls3 _) (by rfl) rv (⟨rfl, 1003, k3, cm3, cs3, lm3, ls3, .inl rfl, hD3, rfl⟩) sb okx
    · skip
      refine oret1 (dsk 1000 1001 1002 24 k3 cm3 cs3 lm3 ls3 _) (by rfl) rv (⟨rfl, 24, k3, cm3, cs3, lm3, ls3, .inr rfl, hD3, rfl⟩) sb okx
theorem may_down {st : DS} (h : st.down = true) (f : Int) : mayE st f = 8 := by simp [mayE, h]
theorem crash_isdown (st : DS) (keep : List Int) : (crashS st keep).down = true := by
  unfold crashS
  cases h : st.down
  · rfl
  · simpa using h
set_option maxHeartbeats 8000000 in
set_option maxRecDepth 20000 in
theorem Sync_any (h : DkOk lm ls st) {f : Int} (hf : i64 f) : ObC 33 [.box 1000 0, .d (.int f)] (dsk 1000 1001 1002 1003 k cm cs lm ls st) [13] (fun x o => x = .d (.int (syncR st f).1) ∧ OutN 13 (syncR st f).2 o) := by
  have h1 := ends_any (k := k) (cm := cm) (cs := cs) (lm := lm) (ls := ls) h.ok
  have hkeep : (endS st).keep = st.keep := (endS_f st).2.2.2.1
  have hck : (endS st).keep.length ≤ 1000000 := hkeep ▸ h.ok.keepl
  have hkey := int_key hf
  obtain ⟨bh, hhit⟩ := h.ends.f.hit f
  have hl := h.ends.ok.lost0
  unfold syncR
  cases he : endsB st
  · rw [he] at h1
    rw [if_neg (by decide)]
    have hm := may_any (k := k) (cm := cm) (cs := cs) (lm := lm) (ls := ls) (st := endS st) f
    by_cases hm0 : mayE (endS st) f = 0
    · rw [if_neg (by simp [hm0])]
      have hmf := (may_ok hm0).2
      rw [hm0] at hm
      have hm8 : (!decide ((0 : Int) = 0)) = false := rfl
      by_cases hlost : 0 < (endS st).lost
      · rw [if_pos hlost]
        have hq : decide (0 < (endS st).lost) = true := decide_eq_true hlost
        refine ob_enter Tryz.func33 rfl (by decide) _ Tryz.ntmps33 (le_ok rfl) rfl (fun w Pr β κ hE => ?_)
        dsimp only [slotsV, Nat.zero_add, Nat.reduceAdd]
        repeat' (first | (apply at_call; refine k_ocall [(1000, 1000), (1001, 1001), (1002, 1002), (1003, 1003)] (h1) hE ?_; rintro _ _ ⟨rfl, rfl⟩ <;> (intro _ _ h1 h2; simp only [renEqs, Nat.reduceBEq, renL_app, renL_ds, renL_und] at h1 h2; subst h1 h2)) | (apply at_call; refine k_ocall [(1000, 1000), (1001, 1001), (1002, 1002), (1003, 1003)] (hm) hE ?_; rintro _ _ ⟨rfl, rfl⟩ <;> (intro _ _ h1 h2; simp only [renEqs, Nat.reduceBEq, renL_app, renL_ds, renL_und] at h1 h2; subst h1 h2)) | refine nx ?_ | (apply qr_move; refine r_move ?_) | (apply qr_assign; refine r_assign ?_) | (apply at_cond; first | refine c_t ?_ | refine c_f ?_ | (refine aw_cond rfl (fun hb => ?_) (fun hb => ?_) <;> ((try have hq := dX hb); (try (exfalso; omega))))) | (apply qr_gtr; refine r_gtr ?_) | (apply qr_neq; refine r_neq ?_) | (apply qr_sub; refine r_sub ?_) | (apply qr_load; refine r_load ?_) | (apply qr_faddr; refine r_faddr ?_) | (apply qr_field; refine r_field ?_) | (apply qr_nilck; refine r_nilck ?_) | (apply qr_store; refine r_store ?_))
        refine oret1 (dsk 1000 1001 1002 1003 k cm cs lm ls { endS st with lost := (endS st).lost - 1 }) (by rfl) rv (⟨rfl, 1003, k, cm, cs, lm, ls, .inl rfl, ⟨h.ends.f, h.ends.s, ⟨h.ends.ok.now, h.ends.ok.last, h.ends.ok.out, h.ends.ok.nodup, h.ends.ok.file, h.ends.ok.num, (by show 0 ≤ (endS st).lost - 1 ∧ (endS st).lost - 1 ≤ _; omega), h.ends.ok.armed0, h.ends.ok.keepl⟩⟩, rfl⟩) sb okx
      · rw [if_neg hlost]
        have hq : decide (0 < (endS st).lost) = false := decide_eq_false hlost
        have hs := fun k => settle_any (k := k) (cm := cm) (cs := cs) h.ends hmf (h.ends.ok.now f)
        refine ob_enter Tryz.func33 rfl (by decide) _ Tryz.ntmps33 (le_ok rfl) rfl (fun w Pr β κ hE => ?_)
        dsimp only [slotsV, Nat.zero_add, Nat.reduceAdd]
        repeat' (first | (apply at_call; refine k_ocall [(1000, 1000), (1001, 1001), (1002, 1002), (1003, 1003)] (h1) hE ?_; rintro _ _ ⟨rfl, rfl⟩ <;> (intro _ _ h1 h2; simp only [renEqs, Nat.reduceBEq, renL_app, renL_ds, renL_und] at h1 h2; subst h1 h2)) | (apply at_call; refine k_ocall [(1000, 1000), (1001, 1001), (1002, 1002), (1003, 1003)] (hm) hE ?_; rintro _ _ ⟨rfl, rfl⟩ <;> (intro _ _ h1 h2; simp only [renEqs, Nat.reduceBEq, renL_app, renL_ds, renL_und] at h1 h2; subst h1 h2)) | (apply at_op (.lookup _ _ _ _); refine al_y (y_lookup1 fileM rfl rfl rfl hkey hhit) (lt_ok rfl) ?_) | (apply at_call; refine k_ocall [(1000, 1000), (1001, 1001), (1002, 1002), (1003, 1003)] (hs k) hE ?_; rintro _ _ ⟨rfl, k2, cm2, cs2, lm2, ls2, hD, rfl⟩ <;> (intro _ _ h1 h2; simp only [renEqs, Nat.reduceBEq, renL_app, renL_ds, renL_und] at h1 h2; subst h1 h2)) | refine nx ?_ | (apply qr_move; refine r_move ?_) | (apply qr_assign; refine r_assign ?_) | (apply at_cond; first | refine c_t ?_ | refine c_f ?_ | (refine aw_cond rfl (fun hb => ?_) (fun hb => ?_) <;> ((try have hq := dX hb); (try (exfalso; omega))))) | (apply qr_gtr; refine r_gtr ?_) | (apply qr_neq; refine r_neq ?_) | (apply qr_sub; refine r_sub ?_) | (apply qr_load; refine r_load ?_) | (apply qr_faddr; refine r_faddr ?_) | (apply qr_field; refine r_field ?_) | (apply qr_nilck; refine r_nilck ?_) | (apply qr_store; refine r_store ?_))
        refine oret1 (dsk 1000 1001 1002 1003 k2 cm2 cs2 lm2 ls2 _) (by rfl) rv (⟨rfl, Out.n ⟨k2, cm2, cs2, lm2, ls2, hD, rfl⟩ 13⟩) sb okx
    · rw [if_pos hm0]
      have hm8 : (!decide (mayE (endS st) f = 0)) = true := by rw [decide_eq_false hm0]; rfl
      refine ob_enter Tryz.func33 rfl (by decide) _ Tryz.ntmps33 (le_ok rfl) rfl (fun w Pr β κ hE => ?_)
      dsimp only [slotsV, Nat.zero_add, Nat.reduceAdd]
      repeat' (first | (apply at_call; refine k_ocall [(1000, 1000), (1001, 1001), (1002, 1002), (1003, 1003)] (h1) hE ?_; rintro _ _ ⟨rfl, rfl⟩ <;> (intro _ _ h1 h2; simp only [renEqs, Nat.reduceBEq, renL_app, renL_ds, renL_und] at h1 h2; subst h1 h2)) | (apply at_call; refine k_ocall [(1000, 1000), (1001, 1001), (1002, 1002), (1003, 1003)] (hm) hE ?_; rintro _ _ ⟨rfl, rfl⟩ <;> (intro _ _ h1 h2; simp only [renEqs, Nat.reduceBEq, renL_app, renL_ds, renL_und] at h1 h2; subst h1 h2)) | refine nx ?_ | (apply qr_move; refine r_move ?_) | (apply qr_assign; refine r_assign ?_) | (apply at_cond; first | refine c_t ?_ | refine c_f ?_ | (refine aw_cond rfl (fun hb => ?_) (fun hb => ?_) <;> ((try have hq := dX hb); (try (exfalso; omega))))) | (apply qr_gtr; refine r_gtr ?_) | (apply qr_neq; refine r_neq ?_) | (apply qr_sub; refine r_sub ?_) | (apply qr_load; refine r_load ?_) | (apply qr_faddr; refine r_faddr ?_) | (apply qr_field; refine r_field ?_) | (apply qr_nilck; refine r_nilck ?_) | (apply qr_store; refine r_store ?_))
      refine oret1 (dsk 1000 1001 1002 1003 k cm cs lm ls (endS st)) (by rfl) rv (⟨rfl, Out.n ⟨k, cm, cs, lm, ls, h.ends, rfl⟩ 13⟩) sb okx
  · rw [he] at h1
    rw [if_pos rfl, ← hkeep]
    refine ob_enter Tryz.func33 rfl (by decide) _ Tryz.ntmps33 (le_ok rfl) rfl (fun w Pr β κ hE => ?_)
    dsimp only [slotsV, Nat.zero_add, Nat.reduceAdd]
    repeat' (first | (apply at_call; refine k_ocall [(1000, 1000), (1001, 1001), (1002, 1002), (1003, 1003)] (h1) hE ?_; rintro _ _ ⟨rfl, rfl⟩ <;> (intro _ _ h1 h2; simp only [renEqs, Nat.reduceBEq, renL_app, renL_ds, renL_und] at h1 h2; subst h1 h2)) | (apply at_call; refine k_ocall [(1000, 1000), (1001, 1001), (1002, 1002), (1003, 1003), (106, 13)] (crash_any h.ends hck) hE ?_; rintro _ _ ⟨rfl, s3, k3, cm3, cs3, lm3, ls3, hs3, hD3, rfl⟩; rcases hs3 with rfl | rfl <;> (intro _ _ h1 h2; simp only [renEqs, Nat.reduceBEq, renL_app, renL_ds, renL_und] at h1 h2; subst h1 h2)) | refine nx ?_ | (apply qr_move; refine r_move ?_) | (apply qr_assign; refine r_assign ?_) | (apply at_cond; first | refine c_t ?_ | refine c_f ?_ | (refine aw_cond rfl (fun hb => ?_) (fun hb => ?_) <;> ((try have hq := dX hb); (try (exfalso; omega))))) | (apply qr_gtr; refine r_gtr ?_) | (apply qr_neq; refine r_neq ?_) | (apply qr_sub; refine r_sub ?_) | (apply qr_load; refine r_load ?_) | (apply qr_faddr; refine r_faddr ?_) | (apply qr_field; refine r_field ?_) | (apply qr_nilck; refine r_nilck ?_) | (apply qr_store; refine r_store ?_))
    rotate_left
    all_goals
      have hm := may_any (k := k3) (cm := cm3) (cs := cs3) (lm := lm3) (ls := ls3) (st := crashS (endS st) (endS st).keep) f
      rw [may_down (crash_isdown _ _)] at hm
      have hm8 : (!decide ((8 : Int) = 0)) = true := rfl
    · skip
      repeat' (first | (apply at_call; refine k_ocall [(1000, 1000), (1001, 1001), (1002, 1002), (1003, 13)] (hm) hE ?_; rintro _ _ ⟨rfl, rfl⟩ <;> (intro _ _ h1 h2; simp only [renEqs, Nat.reduceBEq, renL_app, renL_ds, renL_und] at h1 h2; subst h1 h2)) | refine nx ?_ | (apply qr_move; refine r_move ?_) | (apply qr_assign; refine r_assign ?_) | (apply at_cond; first | refine c_t ?_ | refine c_f ?_ | (refine aw_cond rfl (fun hb => ?_) (fun hb => ?_) <;> ((try have hq := dX hb); (try (exfalso; omega))))) | (apply qr_gtr; refine r_gtr ?_) | (apply qr_neq; refine r_neq ?_) | (apply qr_sub; refine r_sub ?_) | (apply qr_load; refine r_load ?_) | (apply qr_faddr; refine r_faddr ?_) | (apply qr_field; refine r_field ?_) | (apply qr_nilck; refine r_nilck ?_) | (apply qr_store; refine r_store ?_))
      refine oret1 (dsk 1000 1001 1002 13 k3 cm3 cs3 lm3 ls3 _) (by rfl) rv (⟨rfl, 13, k3, cm3, cs3, lm3, ls3, .inr rfl, hD3, rfl⟩) sb okx
    · skip
      repeat' (first | (apply at_call; refine k_ocall [(1000, 1000), (1001, 1001), (1002, 1002), (1003, 1003)] (hm) hE ?_; rintro _ _ ⟨rfl, rfl⟩ <;> (intro _ _ h1 h2; simp only [renEqs, Nat.reduceBEq, renL_app, renL_ds, renL_und] at h1 h2; subst h1 h2)) | refine nx ?_ | (apply qr_move; refine r_move ?_) | (apply qr_assign; refine r_assign ?_) | (apply at_cond; first | refine c_t ?_ | refine c_f ?_ | (refine aw_cond rfl (fun hb => ?_) (fun hb => ?_) <;> ((try have hq := dX hb); (try (exfalso; omega))))) | (apply qr_gtr; refine r_gtr ?_) | (apply qr_neq; refine r_neq ?_) | (apply qr_sub; refine r_sub ?_) | (apply qr_load; refine r_load ?_) | (apply qr_faddr; refine r_faddr ?_) | (apply qr_field; refine r_field ?_) | (apply qr_nilck; refine r_nilck ?_) | (apply qr_store; refine r_store ?_))
      refine oret1 (dsk 1000 1001 1002 1003 k3 cm3 cs3 lm3 ls3 _) (by rfl) rv (⟨rfl, 1003, k3, cm3, cs3, lm3, ls3, .inl rfl, hD3, rfl⟩) sb okx
set_option maxHeartbeats 8000000 in
set_option maxRecDepth 20000 in
theorem Truncate_any (h : DkOk lm ls st) {f : Int} (hf : i64 f) (size : Int) : ObC 35 [.box 1000 0, .d (.int f), .d (.int size)] (dsk 1000 1001 1002 1003 k cm cs lm ls st) [15] (fun x o => x = .d (.int (truncR st f size).1) ∧ OutN 15 (truncR st f size).2 o) := by
  have h1 := ends_any (k := k) (cm := cm) (cs := cs) (lm := lm) (ls := ls) h.ok
  have hkeep : (endS st).keep = st.keep := (endS_f st).2.2.2.1
  have hck : (endS st).keep.length ≤ 1000000 := hkeep ▸ h.ok.keepl
  have hkey := int_key hf
  obtain ⟨bh, hhit⟩ := h.ends.f.hit f
  have hnow := h.ends.ok.now f
  have hsz := size_any (k := k) (cm := cm) (cs := cs) h.ends hf
  unfold truncR
  cases he : endsB st
  · rw [he] at h1
    rw [if_neg (by decide)]
    have hm := may_any (k := k) (cm := cm) (cs := cs) (lm := lm) (ls := ls) (st := endS st) f
    by_cases hm0 : mayE (endS st) f = 0
    · rw [if_neg (by simp [hm0])]
      have hmf := (may_ok hm0).2
      rw [hm0] at hm
      have hm8 : (!decide ((0 : Int) = 0)) = false := rfl
      by_cases hneg : size < 0
      · rw [if_pos (.inl hneg)]
        refine ob_enter Tryz.func35 rfl (by decide) _ Tryz.ntmps35 (le_ok rfl) rfl (fun w Pr β κ hE => ?_)
        dsimp only [slotsV, Nat.zero_add, Nat.reduceAdd]
        repeat' (first | (apply at_call; refine k_ocall [(1000, 1000), (1001, 1001), (1002, 1002), (1003, 1003)] (h1) hE ?_; rintro _ _ ⟨rfl, rfl⟩ <;> (intro _ _ h1 h2; simp only [renEqs, Nat.reduceBEq, renL_app, renL_ds, renL_und] at h1 h2; subst h1 h2)) | (apply at_call; refine k_ocall [(1000, 1000), (1001, 1001), (1002, 1002), (1003, 1003)] (hm) hE ?_; rintro _ _ ⟨rfl, rfl⟩ <;> (intro _ _ h1 h2; simp only [renEqs, Nat.reduceBEq, renL_app, renL_ds, renL_und] at h1 h2; subst h1 h2)) | (apply at_call; refine k_ocall [(1000, 1000), (1001, 1001), (1002, 1002), (1003, 1003)] (hsz) hE ?_; rintro _ _ ⟨rfl, rfl⟩ <;> (intro _ _ h1 h2; simp only [renEqs, Nat.reduceBEq, renL_app, renL_ds, renL_und] at h1 h2; subst h1 h2)) | refine nx ?_ | (apply qr_move; refine r_move ?_) | (apply qr_assign; refine r_assign ?_) | (apply at_cond; first | refine c_t ?_ | refine c_f ?_ | (refine aw_cond rfl (fun hb => ?_) (fun hb => ?_) <;> ((try have hq := dX hb); (try (exfalso; omega))))) | (apply at_guard; first | refine g_go ?_ | refine g_nt ?_ | refine g_nf ?_ | refine g_nu ?_ | ((first | refine al_split_t rfl rfl (lt_ok rfl) (fun hb => ?_) (fun hb => ?_) | refine al_split_f rfl rfl (lt_ok rfl) (fun hb => ?_) (fun hb => ?_)) <;> ((try have hq := dX hb); (try (exfalso; omega))))) | (apply qr_pick; refine r_pick ?_) | (apply qr_lss; refine r_lss ?_) | (apply qr_gtr; refine r_gtr ?_) | (apply qr_neq; refine r_neq ?_) | (apply qr_slice; refine r_slice ?_) | (apply qr_load; refine r_load ?_) | (apply qr_faddr; refine r_faddr ?_) | (apply qr_field; refine r_field ?_) | (apply qr_nilck; refine r_nilck ?_))
        refine oret1 (dsk 1000 1001 1002 1003 k cm cs lm ls (endS st)) (by rfl) rv (⟨rfl, Out.n ⟨k, cm, cs, lm, ls, h.ends, rfl⟩ 15⟩) sb okx
      · by_cases hbig : (((endS st).F f).now.size : Int) < size
        · rw [if_pos (.inr hbig)]
          have hq : decide ((((endS st).F f).now.size : Int) < size) = true := decide_eq_true hbig
          refine ob_enter Tryz.func35 rfl (by decide) _ Tryz.ntmps35 (le_ok rfl) rfl (fun w Pr β κ hE => ?_)
          dsimp only [slotsV, Nat.zero_add, Nat.reduceAdd]
          repeat' (first | (apply at_call; refine k_ocall [(1000, 1000), (1001, 1001), (1002, 1002), (1003, 1003)] (h1) hE ?_; rintro _ _ ⟨rfl, rfl⟩ <;> (intro _ _ h1 h2; simp only [renEqs, Nat.reduceBEq, renL_app, renL_ds, renL_und] at h1 h2; subst h1 h2)) | (apply at_call; refine k_ocall [(1000, 1000), (1001, 1001), (1002, 1002), (1003, 1003)] (hm) hE ?_; rintro _ _ ⟨rfl, rfl⟩ <;> (intro _ _ h1 h2; simp only [renEqs, Nat.reduceBEq, renL_app, renL_ds, renL_und] at h1 h2; subst h1 h2)) | (apply at_call; refine k_ocall [(1000, 1000), (1001, 1001), (1002, 1002), (1003, 1003)] (hsz) hE ?_; rintro _ _ ⟨rfl, rfl⟩ <;> (intro _ _ h1 h2; simp only [renEqs, Nat.reduceBEq, renL_app, renL_ds, renL_und] at h1 h2; subst h1 h2)) | refine nx ?_ | (apply qr_move; refine r_move ?_) | (apply qr_assign; refine r_assign ?_) | (apply at_cond; first | refine c_t ?_ | refine c_f ?_ | (refine aw_cond rfl (fun hb => ?_) (fun hb => ?_) <;> ((try have hq := dX hb); (try (exfalso; omega))))) | (apply at_guard; first | refine g_go ?_ | refine g_nt ?_ | refine g_nf ?_ | refine g_nu ?_ | ((first | refine al_split_t rfl rfl (lt_ok rfl) (fun hb => ?_) (fun hb => ?_) | refine al_split_f rfl rfl (lt_ok rfl) (fun hb => ?_) (fun hb => ?_)) <;> ((try have hq := dX hb); (try (exfalso; omega))))) | (apply qr_pick; refine r_pick ?_) | (apply qr_lss; refine r_lss ?_) | (apply qr_gtr; refine r_gtr ?_) | (apply qr_neq; refine r_neq ?_) | (apply qr_slice; refine r_slice ?_) | (apply qr_load; refine r_load ?_) | (apply qr_faddr; refine r_faddr ?_) | (apply qr_field; refine r_field ?_) | (apply qr_nilck; refine r_nilck ?_))
          refine oret1 (dsk 1000 1001 1002 1003 k cm cs lm ls (endS st)) (by rfl) rv (⟨rfl, Out.n ⟨k, cm, cs, lm, ls, h.ends, rfl⟩ 15⟩) sb okx
        · rw [if_neg (by omega)]
          have hq : decide ((((endS st).F f).now.size : Int) < size) = false := decide_eq_false hbig
          have hcut : (((endS st).F f).now.extract 0 size.toNat).size ≤ 16777216 := by rw [ByteArray.size_extract]; omega
          have hs := fun k => settle_any (k := k) (cm := cm) (cs := cs) h.ends hmf hcut
          refine ob_enter Tryz.func35 rfl (by decide) _ Tryz.ntmps35 (le_ok rfl) rfl (fun w Pr β κ hE => ?_)
          dsimp only [slotsV, Nat.zero_add, Nat.reduceAdd]
          repeat' (first | (apply at_call; refine k_ocall [(1000, 1000), (1001, 1001), (1002, 1002), (1003, 1003)] (h1) hE ?_; rintro _ _ ⟨rfl, rfl⟩ <;> (intro _ _ h1 h2; simp only [renEqs, Nat.reduceBEq, renL_app, renL_ds, renL_und] at h1 h2; subst h1 h2)) | (apply at_call; refine k_ocall [(1000, 1000), (1001, 1001), (1002, 1002), (1003, 1003)] (hm) hE ?_; rintro _ _ ⟨rfl, rfl⟩ <;> (intro _ _ h1 h2; simp only [renEqs, Nat.reduceBEq, renL_app, renL_ds, renL_und] at h1 h2; subst h1 h2)) | (apply at_call; refine k_ocall [(1000, 1000), (1001, 1001), (1002, 1002), (1003, 1003)] (hsz) hE ?_; rintro _ _ ⟨rfl, rfl⟩ <;> (intro _ _ h1 h2; simp only [renEqs, Nat.reduceBEq, renL_app, renL_ds, renL_und] at h1 h2; subst h1 h2)) | (apply at_op (.lookup _ _ _ _); refine al_y (y_lookup1 fileM rfl rfl rfl hkey hhit) (lt_ok rfl) ?_) | (apply at_call; refine k_ocall [(1000, 1000), (1001, 1001), (1002, 1002), (1003, 1003)] (hs k) hE ?_; rintro _ _ ⟨rfl, k2, cm2, cs2, lm2, ls2, hD, rfl⟩ <;> (intro _ _ h1 h2; simp only [renEqs, Nat.reduceBEq, renL_app, renL_ds, renL_und] at h1 h2; subst h1 h2)) | refine nx ?_ | (apply qr_move; refine r_move ?_) | (apply qr_assign; refine r_assign ?_) | (apply at_cond; first | refine c_t ?_ | refine c_f ?_ | (refine aw_cond rfl (fun hb => ?_) (fun hb => ?_) <;> ((try have hq := dX hb); (try (exfalso; omega))))) | (apply at_guard; first | refine g_go ?_ | refine g_nt ?_ | refine g_nf ?_ | refine g_nu ?_ | ((first | refine al_split_t rfl rfl (lt_ok rfl) (fun hb => ?_) (fun hb => ?_) | refine al_split_f rfl rfl (lt_ok rfl) (fun hb => ?_) (fun hb => ?_)) <;> ((try have hq := dX hb); (try (exfalso; omega))))) | (apply qr_pick; refine r_pick ?_) | (apply qr_lss; refine r_lss ?_) | (apply qr_gtr; refine r_gtr ?_) | (apply qr_neq; refine r_neq ?_) | (apply qr_slice; refine r_slice ?_) | (apply qr_load; refine r_load ?_) | (apply qr_faddr; refine r_faddr ?_) | (apply qr_field; refine r_field ?_) | (apply qr_nilck; refine r_nilck ?_))
          refine oret1 (dsk 1000 1001 1002 1003 k2 cm2 cs2 lm2 ls2 _) (by rfl) rv (⟨rfl, Out.n ⟨k2, cm2, cs2, lm2, ls2, hD, rfl⟩ 15⟩) sb okx
    · rw [if_pos hm0]
      have hm8 : (!decide (mayE (endS st) f = 0)) = true := by rw [decide_eq_false hm0]; rfl
      refine ob_enter Tryz.func35 rfl (by decide) _ Tryz.ntmps35 (le_ok rfl) rfl (fun w Pr β κ hE => ?_)
      dsimp only [slotsV, Nat.zero_add, Nat.reduceAdd]
      repeat' (first | (apply at_call; refine k_ocall [(1000, 1000), (1001, 1001), (1002, 1002), (1003, 1003)] (h1) hE ?_; rintro _ _ ⟨rfl, rfl⟩ <;> (intro _ _ h1 h2; simp only [renEqs, Nat.reduceBEq, renL_app, renL_ds, renL_und] at h1 h2; subst h1 h2)) | (apply at_call; refine k_ocall [(1000, 1000), (1001, 1001), (1002, 1002), (1003, 1003)] (hm) hE ?_; rintro _ _ ⟨rfl, rfl⟩ <;> (intro _ _ h1 h2; simp only [renEqs, Nat.reduceBEq, renL_app, renL_ds, renL_und] at h1 h2; subst h1 h2)) | refine nx ?_ | (apply qr_move; refine r_move ?_) | (apply qr_assign; refine r_assign ?_) | (apply at_cond; first | refine c_t ?_ | refine c_f ?_ | (refine aw_cond rfl (fun hb => ?_) (fun hb => ?_) <;> ((try have hq := dX hb); (try (exfalso; omega))))) | (apply at_guard; first | refine g_go ?_ | refine g_nt ?_ | refine g_nf ?_ | refine g_nu ?_ | ((first | refine al_split_t rfl rfl (lt_ok rfl) (fun hb => ?_) (fun hb => ?_) | refine al_split_f rfl rfl (lt_ok rfl) (fun hb => ?_) (fun hb => ?_)) <;> ((try have hq := dX hb); (try (exfalso; omega))))) | (apply qr_pick; refine r_pick ?_) | (apply qr_lss; refine r_lss ?_) | (apply qr_gtr; refine r_gtr ?_) | (apply qr_neq; refine r_neq ?_) | (apply qr_slice; refine r_slice ?_) | (apply qr_load; refine r_load ?_) | (apply qr_faddr; refine r_faddr ?_) | (apply qr_field; refine r_field ?_) | (apply qr_nilck; refine r_nilck ?_))
      refine oret1 (dsk 1000 1001 1002 1003 k cm cs lm ls (endS st)) (by rfl) rv (⟨rfl, Out.n ⟨k, cm, cs, lm, ls, h.ends, rfl⟩ 15⟩) sb okx
  · rw [he] at h1
    rw [if_pos rfl, ← hkeep]
    refine ob_enter Tryz.func35 rfl (by decide) _ Tryz.ntmps35 (le_ok rfl) rfl (fun w Pr β κ hE => ?_)
    dsimp only [slotsV, Nat.zero_add, Nat.reduceAdd]
    repeat' (first | (apply at_call; refine k_ocall [(1000, 1000), (1001, 1001), (1002, 1002), (1003, 1003)] (h1) hE ?_; rintro _ _ ⟨rfl, rfl⟩ <;> (intro _ _ h1 h2; simp only [renEqs, Nat.reduceBEq, renL_app, renL_ds, renL_und] at h1 h2; subst h1 h2)) | (apply at_call; refine k_ocall [(1000, 1000), (1001, 1001), (1002, 1002), (1003, 1003), (106, 15)] (crash_any h.ends hck) hE ?_; rintro _ _ ⟨rfl, s3, k3, cm3, cs3, lm3, ls3, hs3, hD3, rfl⟩; rcases hs3 with rfl | rfl <;> (intro _ _ h1 h2; simp only [renEqs, Nat.reduceBEq, renL_app, renL_ds, renL_und] at h1 h2; subst h1 h2)) | refine nx ?_ | (apply qr_move; refine r_move ?_) | (apply qr_assign; refine r_assign ?_) | (apply at_cond; first | refine c_t ?_ | refine c_f ?_ | (refine aw_cond rfl (fun hb => ?_) (fun hb => ?_) <;> ((try have hq := dX hb); (try (exfalso; omega))))) | (apply at_guard; first | refine g_go ?_ | refine g_nt ?_ | refine g_nf ?_ | refine g_nu ?_ | ((first | refine al_split_t rfl rfl (lt_ok rfl) (fun hb => ?_) (fun hb => ?_) | refine al_split_f rfl rfl (lt_ok rfl) (fun hb => ?_) (fun hb => ?_)) <;> ((try have hq := dX hb); (try (exfalso; omega))))) | (apply qr_pick; refine r_pick ?_) | (apply qr_lss; refine r_lss ?_) | (apply qr_gtr; refine r_gtr ?_) | (apply qr_neq; refine r_neq ?_) | (apply qr_slice; refine r_slice ?_) | (apply qr_load; refine r_load ?_) | (apply qr_faddr; refine r_faddr ?_) | (apply qr_field; refine r_field ?_) | (apply qr_nilck; refine r_nilck ?_))
    rotate_left
    all_goals
      have hm := may_any (k := k3) (cm := cm3) (cs := cs3) (lm := lm3) (ls := ls3) (st := crashS (endS st) (endS st).keep) f
      rw [may_down (crash_isdown _ _)] at hm
      have hm8 : (!decide ((8 : Int) = 0)) = true := rfl
    · skip
      repeat' (first | (apply at_call; refine k_ocall [(1000, 1000), (1001, 1001), (1002, 1002), (1003, 15)] (hm) hE ?_; rintro _ _ ⟨rfl, rfl⟩ <;> (intro _ _ h1 h2; simp only [renEqs, Nat.reduceBEq, renL_app, renL_ds, renL_und] at h1 h2; subst h1 h2)) | refine nx ?_ | (apply qr_move; refine r_move ?_) | (apply qr_assign; refine r_assign ?_) | (apply at_cond; first | refine c_t ?_ | refine c_f ?_ | (refine aw_cond rfl (fun hb => ?_) (fun hb => ?_) <;> ((try have hq := dX hb); (try (exfalso; omega))))) | (apply at_guard; first | refine g_go ?_ | refine g_nt ?_ | refine g_nf ?_ | refine g_nu ?_ | ((first | refine al_split_t rfl rfl (lt_ok rfl) (fun hb => ?_) (fun hb => ?_) | refine al_split_f rfl rfl (lt_ok rfl) (fun hb => ?_) (fun hb => ?_)) <;> ((try have hq := dX hb); (try (exfalso; omega))))) | (apply qr_pick; refine r_pick ?_) | (apply qr_lss; refine r_lss ?_) | (apply qr_gtr; refine r_gtr ?_) | (apply qr_neq; refine r_neq ?_) | (apply qr_slice; refine r_slice ?_) | (apply qr_load; refine r_load ?_) | (apply qr_faddr; refine r_faddr ?_) | (apply qr_field; refine r_field ?_) | (apply qr_nilck; refine r_nilck ?_))
      refine oret1 (dsk 1000 1001 1002 15 k3 cm3 cs3 lm3 ls3 _) (by rfl) rv (⟨rfl, 15, k3, cm3, cs3, lm3, ls3, .inr rfl, hD3, rfl⟩) sb okx
    · skip
      repeat' (first | (apply at_call; refine k_ocall [(1000, 1000), (1001, 1001), (1002, 1002), (1003, 1003)] (hm) hE ?_; rintro _ _ ⟨rfl, rfl⟩ <;> (intro _ _ h1 h2; simp only [renEqs, Nat.reduceBEq, renL_app, renL_ds, renL_und] at h1 h2; subst h1 h2)) | refine nx ?_ | (apply qr_move; refine r_move ?_) | (apply qr_assign; refine r_assign ?_) | (apply at_cond; first | refine c_t ?_ | refine c_f ?_ | (refine aw_cond rfl (fun hb => ?_) (fun hb => ?_) <;> ((try have hq := dX hb); (try (exfalso; omega))))) | (apply at_guard; first | refine g_go ?_ | refine g_nt ?_ | refine g_nf ?_ | refine g_nu ?_ | ((first | refine al_split_t rfl rfl (lt_ok rfl) (fun hb => ?_) (fun hb => ?_) | refine al_split_f rfl rfl (lt_ok rfl) (fun hb => ?_) (fun hb => ?_)) <;> ((try have hq := dX hb); (try (exfalso; omega))))) | (apply qr_pick; refine r_pick ?_) | (apply qr_lss; refine r_lss ?_) | (apply qr_gtr; refine r_gtr ?_) | (apply qr_neq; refine r_neq ?_) | (apply qr_slice; refine r_slice ?_) | (apply qr_load; refine r_load ?_) | (apply qr_faddr; refine r_faddr ?_) | (apply qr_field; refine r_field ?_) | (apply qr_nilck; refine r_nilck ?_))
      refine oret1 (dsk 1000 1001 1002 1003 k3 cm3 cs3 lm3 ls3 _) (by rfl) rv (⟨rfl, 1003, k3, cm3, cs3, lm3, ls3, .inl rfl, hD3, rfl⟩) sb okx
end
end Go.Proofs.YtfgibalcdjlnhaaGreatDoor
end
section
namespace Go.Proofs.YtfgibalcdjlnhaaGreatDoor
open Go.RowKit Go.ChangeMaps

section
variable {k cm cs : Nat} {lm ls : List ME} {st : DS}
end
end Go.Proofs.YtfgibalcdjlnhaaGreatDoor
end
section
namespace Go.Proofs.YtfgibalcdjlnhaaGreatDoor
open Go.RowKit Go.ChangeMaps

/-- what a read returns -/
def readP (st : DS) (f at_ size : Int) : ByteArray × Int := if mayE st f ≠ 0 then (⟨#[]⟩, mayE st f) else if at_ < 0 ∨ size < 0 then (⟨#[]⟩, 1) else (cutB (st.F f).now at_ size, 0)
section
variable {k cm cs : Nat} {lm ls : List ME} {st : DS}
theorem readp_any (h : DkOk lm ls st) {f at_ size : Int} (hf : i64 f) : ObC 26 [.box 1000 0, .d (.int f), .d (.int at_), .d (.int size)] (dsk 1000 1001 1002 1003 k cm cs lm ls st) [] (fun x o => x = .tup [.d (.str (readP st f at_ size).1), .d (.int (readP st f at_ size).2)] ∧ o = dsk 1000 1001 1002 1003 k cm cs lm ls st) := by
  refine (read_any h hf).mono fun x o ⟨h1, h2⟩ => ⟨?_, h2⟩
  rw [h1]
  unfold readV readP
  split
  · rfl
  · split <;> rfl
def upS (st : DS) : DS := { st with down := false }
theorem DkOk.up (h : DkOk lm ls st) : DkOk lm ls (upS st) := ⟨h.f, h.s, ⟨h.ok.now, h.ok.last, h.ok.out, h.ok.nodup, h.ok.file, h.ok.num, h.ok.lost0, h.ok.armed0, h.ok.keepl⟩⟩
end
theorem smS {k cm cs : Nat} {lm ls : List ME} {st su : DS} {f r : Int} (h : DkOk lm ls st) (hf : i64 f) (hr : (syncR st f).1 = r) (hs : (syncR st f).2 = su) : ObC 33 [.box 1000 0, .d (.int f)] (dsk 1000 1001 1002 1003 k cm cs lm ls st) [13] (fun x o => x = .d (.int r) ∧ OutN 13 su o) := hr ▸ hs ▸ Sync_any h hf
theorem smC {k cm cs : Nat} {lm ls : List ME} {st su : DS} {keep : List Int} (h : DkOk lm ls st) (hk : keep.length ≤ 1000000) (hs : crashS st keep = su) : ObC 20 [.box 1000 0, .d (keepD keep)] (dsk 1000 1001 1002 1003 k cm cs lm ls st) [106] (fun x o => x = .tup [] ∧ OutN 106 su o) := hs ▸ crash_any h hk
theorem smU {k cm cs : Nat} {lm ls : List ME} {st su : DS} (h : DkOk lm ls st) (hs : upS st = su) : ObC 22 [.box 1000 0] (dsk 1000 1001 1002 1003 k cm cs lm ls st) [] (fun x o => x = .tup [] ∧ o = dsk 1000 1001 1002 1003 k cm cs lm ls su) := by
  have _ := h
  exact hs ▸ start_any
theorem smR {k cm cs : Nat} {lm ls : List ME} {st : DS} {f at_ size e : Int} {s : ByteArray} (h : DkOk lm ls st) (hf : i64 f) (hr : readP st f at_ size = (s, e)) : ObC 26 [.box 1000 0, .d (.int f), .d (.int at_), .d (.int size)] (dsk 1000 1001 1002 1003 k cm cs lm ls st) [] (fun x o => x = .tup [.d (.str s), .d (.int e)] ∧ o = dsk 1000 1001 1002 1003 k cm cs lm ls st) := by
  have := readp_any (k := k) (cm := cm) (cs := cs) (at_ := at_) (size := size) h hf
  rwa [hr] at this
theorem DkOk.is {lm ls : List ME} {st su : DS} (h : DkOk lm ls st) (e : st = su) : DkOk lm ls su := e ▸ h
end Go.Proofs.YtfgibalcdjlnhaaGreatDoor
end
section
set_option linter.unusedSimpArgs false
set_option linter.unusedVariables false
namespace Go.Proofs.YtfgibalcdjlnhaaGreatDoor
open Go.RowKit Go.ChangeMaps

/-- the sum of bytes that stand from the i-th place on -/
def sumL : List UInt8 → Nat → Nat → Nat
  | [], _, n => n
  | c :: r, i, n => sumL r (i + 1) ((n + c.toNat * (i + 1)) % 2147483647)
def sumB (s : ByteArray) : Nat := sumL s.data.toList 0 0
theorem sumL_lt : ∀ (l : List UInt8) (i n : Nat), n < 2147483647 → sumL l i n < 2147483647
  | [], _, _, h => h
  | _ :: r, i, n, _ => sumL_lt r (i + 1) _ (Nat.mod_lt _ (by decide))
theorem sumB_lt (s : ByteArray) : sumB s < 2147483647 := sumL_lt _ _ _ (by decide)
theorem sum_step {s : ByteArray} {i n : Nat} (hi : i < s.size) (h : sumL (s.data.toList.drop i) i n = sumB s) : sumL (s.data.toList.drop (i + 1)) (i + 1) ((n + (bAt s i).toNat * (i + 1)) % 2147483647) = sumB s := by
  have hz := Lib.size_eq s
  have hc : i < s.data.toList.length := by omega
  rw [List.drop_eq_getElem_cons hc] at h
  have e : bAt s i = s.data.toList[i] := by
    unfold bAt
    rw [List.getD_eq_getElem?_getD, List.getElem?_eq_getElem hc]
    rfl
  rw [e]
  exact h
set_option maxHeartbeats 4000000 in
set_option maxRecDepth 20000 in
theorem sum_any (s : ByteArray) (hs : s.size ≤ 1000000000) : PureC 10 [.str s] (· = .int (sumB s)) := by
  have hz := Lib.size_eq s
  refine pure_enter Tryz.func10 rfl (by decide) _ Tryz.ntmps10 (le_ok rfl) (fun w Pr hE => ?_)
  dsimp only [slotsOf, Nat.zero_add, Nat.reduceAdd]
  repeat' (first | refine nx ?_ | (apply aq_block_y; decide) | (apply qr_move; refine r_move ?_) | (apply qr_assign; refine r_assign ?_) | (apply at_cond; first | refine c_t ?_ | refine c_f ?_ | (refine aw_cond rfl (fun hb => ?_) (fun hb => ?_) <;> ((try have hq := dX hb); (try (exfalso; omega))))) | (apply qr_lss; refine r_lss ?_) | (apply qr_add; refine r_add ?_) | (apply qr_mul; refine r_mul ?_) | (apply qr_rem; refine r_rem ?_) | (apply qr_conv; refine r_conv ?_) | (apply qr_len; refine r_len ?_) | (apply qr_index; refine r_index ?_))
  refine aw_lp (fun N sl ob => ∃ i n : Nat, N = s.size - i ∧ i ≤ s.size ∧ n < 2147483647 ∧ sumL (s.data.toList.drop i) i n = sumB s ∧ sl = [(7, .d (.int i)), (3, .d (.int n)), (6, .d (.int s.size)), (0, .d (.str s))] ∧ ob = []) (⟨0, 0, rfl, Nat.zero_le _, by decide, rfl, rfl, rfl⟩) ?_
  rintro N sl ob ⟨i, n, rfl, hi, hn, hsum, rfl, rfl⟩
  by_cases hlt : i < s.size
  · have hsum := sum_step hlt hsum
    have hb8 : (bAt s i).toNat < 256 := (bAt s i).toNat_lt
    have hm1 : (bAt s i).toNat * (i + 1) ≤ 255 * (i + 1) := Nat.mul_le_mul_right _ (by omega)
    have hm2 : ((bAt s i).toNat : Int) * ((i : Int) + 1) = (((bAt s i).toNat * (i + 1) : Nat) : Int) := by simp
    have hm3 : ((n : Int) + ((bAt s i).toNat : Int) * ((i : Int) + 1)) % 2147483647 = (((n + (bAt s i).toNat * (i + 1)) % 2147483647 : Nat) : Int) := by
      rw [hm2]
      rfl
    repeat' (first | refine nx ?_ | (apply aq_block_y; decide) | (apply qr_move; refine r_move ?_) | (apply qr_assign; refine r_assign ?_) | (apply at_cond; first | refine c_t ?_ | refine c_f ?_ | (refine aw_cond rfl (fun hb => ?_) (fun hb => ?_) <;> ((try have hq := dX hb); (try (exfalso; omega))))) | (apply qr_lss; refine r_lss ?_) | (apply qr_add; refine r_add ?_) | (apply qr_mul; refine r_mul ?_) | (apply qr_rem; refine r_rem ?_) | (apply qr_conv; refine r_conv ?_) | (apply qr_len; refine r_len ?_) | (apply qr_index; refine r_index ?_))
    refine aq_rd (⟨i + 1, (n + (bAt s i).toNat * (i + 1)) % 2147483647, rfl, by omega, Nat.mod_lt _ (by decide), hsum, rfl, rfl⟩) (by omega)
  · rw [List.drop_of_length_le (by omega)] at hsum
    have hsum : n = sumB s := hsum
    repeat' (first | refine nx ?_ | (apply aq_block_y; decide) | (apply qr_move; refine r_move ?_) | (apply qr_assign; refine r_assign ?_) | (apply at_cond; first | refine c_t ?_ | refine c_f ?_ | (refine aw_cond rfl (fun hb => ?_) (fun hb => ?_) <;> ((try have hq := dX hb); (try (exfalso; omega))))) | (apply qr_lss; refine r_lss ?_) | (apply qr_add; refine r_add ?_) | (apply qr_mul; refine r_mul ?_) | (apply qr_rem; refine r_rem ?_) | (apply qr_conv; refine r_conv ?_) | (apply qr_len; refine r_len ?_) | (apply qr_index; refine r_index ?_))
    refine ret_one (by rfl) (by first | exact ToD.d _ | exact ToD.row _ _ _ _ _ rfl) ?_
    rw [hsum]
def formB (s : ByteArray) : ByteArray := textW s ++ numW (sumB s)
theorem sum_int (s : ByteArray) : isInt (sumB s : Int) := by
  have := sumB_lt s
  unfold isInt
  omega
theorem formB_L (s : ByteArray) : L (formB s) = L (textW s) ++ L (intW (sumB s)) := by
  have h : numW (sumB s) = intW (sumB s) := if_neg (by omega)
  rw [formB, L_app, h]
theorem itoa_len1 (n : Int) : 1 ≤ (Lib.itoa n).length := by
  unfold Lib.itoa
  split
  · simp
  · have := decDigits_ne n.toNat
    cases h : Lib.decDigits n.toNat with
    | nil => exact absurd h this
    | cons a l => simp
theorem formB_size (s : ByteArray) (hs : s.size ≤ 1000000000) : s.size + 5 ≤ (formB s).size ∧ (formB s).size ≤ s.size + 43 := by
  have h1 := itoa_length (n := (s.size : Int)) (by unfold isInt; omega)
  have h2 := itoa_length (sum_int s)
  have h3 := itoa_len1 s.size
  have h4 := itoa_len1 (sumB s)
  have e : (formB s).size = (L (formB s)).length := (L_len _).symm
  rw [e, formB_L, textW_L, intW_L]
  simp only [List.length_append, List.length_cons, List.length_nil, L_len]
  omega
theorem form_any (s : ByteArray) (hs : s.size ≤ 1000000000) : PureC 40 [.str s] (· = .str (formB s)) := by
  have hz := sum_int s
  have hf := formB_size s hs
  have ht : (formB s).size = (textW s).size + (numW (sumB s)).size := ByteArray.size_append
  refine pure_enter Tryz.func40 rfl (by decide) _ Tryz.ntmps40 (le_ok rfl) (fun w Pr hE => ?_)
  dsimp only [slotsOf, Nat.zero_add, Nat.reduceAdd]
  repeat' (first | (apply at_call; refine k_call (wtext_any s hs) hE ?_; rintro _ rfl) | (apply at_call; refine k_call (sum_any s hs) hE ?_; rintro _ rfl) | (apply at_call; refine k_call (wnum_any (sumB s) hz.1 hz.2) hE ?_; rintro _ rfl) | refine nx ?_ | (apply qr_move; refine r_move ?_) | (apply qr_assign; refine r_assign ?_) | (apply qr_add; refine r_add ?_))
  refine ret_one (by rfl) (by first | exact ToD.d _ | exact ToD.row _ _ _ _ _ rfl) ?_
  rfl
/-- the forms of records -/
def forms : List ByteArray → List UInt8
  | [] => []
  | t :: r => L (formB t) ++ forms r
theorem forms_app : ∀ a b : List ByteArray, forms (a ++ b) = forms a ++ forms b
  | [], _ => rfl
  | t :: r, b => by simp only [List.cons_append, forms, forms_app r b, List.append_assoc]
/-- nothing stands there that is a record's form -/
def NoForm (q : List UInt8) : Prop := ∀ t : ByteArray, t.size ≤ 20000 → ¬ L (formB t) <+: q
/-- the records of a string -/
structure Recs (l : List UInt8) (rs : List ByteArray) : Prop where
  small : ∀ t ∈ rs, t.size ≤ 20000
  rest : ∃ q, l = forms rs ++ q ∧ NoForm q
theorem form_read {t : ByteArray} {l q : List UInt8} (ht : t.size ≤ 1000000000) (h : l = L (formB t) ++ q) : textS (B l) false = ⟨t, B (L (intW (sumB t)) ++ q), false⟩ ∧ numS (B (L (intW (sumB t)) ++ q)) false 59 0 = ⟨sumB t, B q, false⟩ :=
  ⟨text_of (by rw [L_B, h, formB_L, List.append_assoc]) (by omega), int_of (by rw [L_B]) (sum_int t) (by omega)⟩
theorem form_inj {t u : ByteArray} {l : List UInt8} (ht : t.size ≤ 1000000000) (hu : u.size ≤ 1000000000) (h1 : L (formB t) <+: l) (h2 : L (formB u) <+: l) : t = u := by
  obtain ⟨p, h1⟩ := h1
  obtain ⟨q, h2⟩ := h2
  have e1 := (form_read ht h1.symm).1
  have e2 := (form_read hu h2.symm).1
  rw [e1] at e2
  injection e2
theorem Recs.uniq : ∀ {rs us : List ByteArray} {l : List UInt8}, Recs l rs → Recs l us → rs = us
  | [], [], _, _, _ => rfl
  | [], u :: us, l, h, k => by
    obtain ⟨q, h1, h2⟩ := h.rest
    obtain ⟨p, k1, k2⟩ := k.rest
    exact absurd ⟨forms us ++ p, by rw [← List.append_assoc]; exact (k1.symm.trans h1)⟩ (h2 u (k.small u (by simp)))
  | t :: rs, [], l, h, k => by
    obtain ⟨q, h1, h2⟩ := h.rest
    obtain ⟨p, k1, k2⟩ := k.rest
    exact absurd ⟨forms rs ++ q, by rw [← List.append_assoc]; exact (h1.symm.trans k1)⟩ (k2 t (h.small t (by simp)))
  | t :: rs, u :: us, l, h, k => by
    obtain ⟨q, h1, h2⟩ := h.rest
    obtain ⟨p, k1, k2⟩ := k.rest
    have ht := h.small t (by simp)
    have hu := k.small u (by simp)
    have e : t = u := form_inj (l := l) (by omega) (by omega) ⟨forms rs ++ q, by rw [h1]; simp [forms]⟩ ⟨forms us ++ p, by rw [k1]; simp [forms]⟩
    subst e
    have e2 : forms rs ++ q = forms us ++ p := by
      rw [h1] at k1
      simpa [forms] using k1
    rw [Recs.uniq (l := forms rs ++ q) ⟨fun x hx => h.small x (by simp [hx]), q, rfl, h2⟩ ⟨fun x hx => k.small x (by simp [hx]), p, e2, k2⟩]
end Go.Proofs.YtfgibalcdjlnhaaGreatDoor
end
section
set_option linter.unusedSimpArgs false
set_option linter.unusedVariables false
namespace Go.Proofs.YtfgibalcdjlnhaaGreatDoor
open Go.RowKit Go.ChangeShapes Go.WideShapes


section
variable {E : Entry} {sl : Slots} {ob : Objs} {d : Option Nat} {t ty T : TypeId} {p : String} {af : Array Edge} {g : Option (Nat × Bool)} {x : Operand}
/-- bytes, as a string -/
theorem y_bytes {src dst e : TypeId} {z : D} {l : List UInt8} (hx : ToD ob (ev sl x) z) (hz : z = .list 1 (l.map fun c => [.val (.int .u8 c.toNat)])) (hs : Tryz.prog.underlying src = some (.slice e)) (he : Tryz.prog.underlying e = some (.int .u8)) (hd : Tryz.prog.underlying dst = some .string) :
    Y E ⟨d, .convert src dst x, T, p, af, g⟩ sl ob (.d (.str ⟨l.toArray⟩)) := fun a w Pr β κ h => by
  have hr := toD_rep h hx _ (good_ev h x)
  rw [hz] at hr
  refine ⟨_, .d _ _ (.val _), fun w' hk => ?_⟩
  have key : (convert src dst (a.eval x)).run Tryz.prog w' = .ok (.string ⟨l.toArray⟩) w' := by
    generalize a.eval x = v at hr
    generalize hm : (l.map fun c => [D.val (Value.int IntKind.u8 c.toNat)]) = m at hr
    cases hr with
    | nil A c s hc =>
      have hl : l = [] := by simpa using hm
      subst hl
      cases A with
      | none => exact Lib.run_convert_nil_bytes w' src dst e c hs he hd
      | some A => exact run_convert_bytes_back w' src dst e A c [] hs he hd (fun j hj => by cases hj)
    | list b o n c s _ u hn hs1 hc1 hm1 hc hr =>
      subst hm
      have hn' : n = l.length := by rw [← hn]; simp
      subst hn'
      refine run_convert_bytes_back w' src dst e ⟨b, o, none⟩ c l hs he hd (fun j hj => ?_)
      have h1 : (l.map fun c => [D.val (Value.int IntKind.u8 c.toNat)])[j]? = some [D.val (Value.int IntKind.u8 l[j].toNat)] := by simp [hj]
      obtain ⟨h2, h3⟩ := hc j 0 _ _ h1 rfl
      have h4 := hr j 0 _ _ h1 rfl
      generalize hu : u j 0 = uv at h2 h4
      cases h4
      rw [add_plain]
      rw [Nat.mul_one, Nat.add_zero] at h2 h3
      rw [hk.stays _ _ h3]
      exact h2
  simp only [execOp, Sem.run_bind, key]
  rfl
theorem y_quot {m n : Int} {y : Operand} (hx : ev sl x = .d (.val (.int .i64 m))) (hy : ev sl y = .d (.val (.int .i64 n))) (hn : n ≠ 0) (h : -9223372036854775808 ≤ m.tdiv n ∧ m.tdiv n ≤ 9223372036854775807) :
    Y E ⟨d, .binOp .quo t x y ty, T, p, af, g⟩ sl ob (.d (.val (.int .i64 (m.tdiv n)))) := y_bin' hx hy rfl fun w => by
  simp [binOp, Op.intDiv, hn, IntWalk.i64_in (m.tdiv n) h]
end
theorem dec_one {u : Nat} (h : u < 10) : Lib.decDigits u = [UInt8.ofNat (48 + u)] := by
  unfold Lib.decDigits
  rw [dif_pos h]
theorem dec_more {u : Nat} (h : ¬ u < 10) : Lib.decDigits u = Lib.decDigits (u / 10) ++ [UInt8.ofNat (48 + u % 10)] := by
  rw [Lib.decDigits]
  rw [dif_neg h]
theorem dec_len (u : Nat) : ∀ k : Nat, u < 10 ^ k → 0 < k → (Lib.decDigits u).length ≤ k := by
  induction u using Nat.strongRecOn with
  | _ u ih =>
    intro k hk h0
    by_cases h : u < 10
    · rw [dec_one h]; exact h0
    · obtain ⟨j, rfl⟩ : ∃ j, k = j + 1 := ⟨k - 1, by omega⟩
      rw [dec_more h, List.length_append, List.length_singleton]
      have h1 : u / 10 < 10 ^ j := by rw [Nat.pow_succ] at hk; omega
      have hj : 0 < j := by
        rcases Nat.eq_zero_or_pos j with rfl | hj
        · simp at h1; omega
        · exact hj
      have := ih (u / 10) (by omega) j h1 hj
      omega
theorem dec19 {u : Nat} (h : u ≤ 9223372036854775808) : (Lib.decDigits u).length ≤ 19 := dec_len u 19 (by omega) (by omega)
set_option maxRecDepth 20000 in
theorem digits_any : ∀ (u : Nat), u ≤ 9223372036854775808 → PureC 81 [.int (0 - (u : Int))] (· = .str (B (Lib.decDigits u))) := by
  intro u
  induction u using Nat.strongRecOn with
  | _ u ih =>
    intro hu
    have hr : (0 - (u : Int)).tmod 10 = 0 - ((u % 10 : Nat) : Int) := by
      rw [Int.zero_sub, Int.neg_tmod, Int.tmod_eq_emod_of_nonneg (by omega)]
      omega
    have hqt : (0 - (u : Int)).tdiv 10 = 0 - ((u / 10 : Nat) : Int) := by
      rw [Int.zero_sub, Int.neg_tdiv, Int.tdiv_eq_ediv_of_nonneg (by omega)]
      omega
    have hd := dig_byte (u := u % 10) (by omega)
    have hw : (48 - (0 - ((u % 10 : Nat) : Int))) = ((UInt8.ofNat (48 + u % 10)).toNat : Int) := by rw [hd]; omega
    refine pure_enter Tryz.func81 rfl (by decide) _ Tryz.ntmps81 (le_ok rfl) (fun w Pr hE => ?_)
    dsimp only [slotsOf, Nat.zero_add, Nat.reduceAdd]
    by_cases h : u < 10
    · skip
      repeat' (first | (apply at_op (.binOp .rem _ _ _ _); refine al_y (y_remw rfl rfl (by decide)) (lt_ok rfl) ?_; rw [hr]) | (apply at_op (.convert _ _ _); refine al_y (y_bytes (l := [UInt8.ofNat (48 + u % 10)]) (ToD.d _) (by rw [hw]; rfl) Tryz.underlying96 Tryz.underlying5 Tryz.underlying9) (lt_ok rfl) ?_) | refine nx ?_ | (apply qr_move; refine r_move ?_) | (apply qr_assign; refine r_assign ?_) | (apply at_cond; first | refine c_t ?_ | refine c_f ?_ | (refine aw_cond rfl (fun hb => ?_) (fun hb => ?_) <;> ((try have hq := dX hb); (try (exfalso; omega))))) | (apply qr_gtr; refine r_gtr ?_) | (apply qr_add; refine r_add ?_) | (apply qr_sub; refine r_sub ?_) | (apply qr_quo; refine r_quo ?_) | (apply qr_rem; refine r_rem ?_) | (apply qr_conv; refine r_conv ?_) | (apply qr_lits; refine r_lits ?_))
      refine ret_one (by rfl) (by first | exact ToD.d _ | exact ToD.row _ _ _ _ _ rfl) ?_
      rw [dec_one h, Nat.mod_eq_of_lt h]
    · have ih1 := ih (u / 10) (by omega) (by omega)
      have hl := dec19 (u := u / 10) (by omega)
      have hsz : (B (Lib.decDigits (u / 10))).size = (Lib.decDigits (u / 10)).length := List.size_toArray
      have hs1 : (⟨#[UInt8.ofNat (48 + u % 10)]⟩ : ByteArray).size = 1 := rfl
      repeat' (first | (apply at_op (.binOp .rem _ _ _ _); refine al_y (y_remw rfl rfl (by decide)) (lt_ok rfl) ?_; rw [hr]) | (apply at_op (.convert _ _ _); refine al_y (y_bytes (l := [UInt8.ofNat (48 + u % 10)]) (ToD.d _) (by rw [hw]; rfl) Tryz.underlying96 Tryz.underlying5 Tryz.underlying9) (lt_ok rfl) ?_) | (apply at_op (.binOp .quo _ _ _ _); refine al_y (y_quot rfl rfl (by decide) (by rw [hqt]; omega)) (lt_ok rfl) ?_; rw [hqt]) | (apply at_call; refine k_call (ih1) hE ?_; rintro _ rfl) | refine nx ?_ | (apply qr_move; refine r_move ?_) | (apply qr_assign; refine r_assign ?_) | (apply at_cond; first | refine c_t ?_ | refine c_f ?_ | (refine aw_cond rfl (fun hb => ?_) (fun hb => ?_) <;> ((try have hq := dX hb); (try (exfalso; omega))))) | (apply qr_gtr; refine r_gtr ?_) | (apply qr_add; refine r_add ?_) | (apply qr_sub; refine r_sub ?_) | (apply qr_quo; refine r_quo ?_) | (apply qr_rem; refine r_rem ?_) | (apply qr_conv; refine r_conv ?_) | (apply qr_lits; refine r_lits ?_))
      refine ret_one (by rfl) (by first | exact ToD.d _ | exact ToD.row _ _ _ _ _ rfl) ?_
      rw [dec_more h]
      congr 1
theorem itoa_neg {n : Int} (h : n < 0) : Lib.itoa n = 45 :: Lib.decDigits n.natAbs := by unfold Lib.itoa; rw [if_pos h]
theorem itoa_pos {n : Int} (h : ¬ n < 0) : Lib.itoa n = Lib.decDigits n.toNat := by unfold Lib.itoa; rw [if_neg h]
theorem rint_any (n : Int) (hn : isInt n) : PureC 82 [.int n] (· = .str (intW n)) := by
  have hs1 : (⟨#[45]⟩ : ByteArray).size = 1 := rfl
  have hs2 : (⟨#[59]⟩ : ByteArray).size = 1 := rfl
  by_cases h : n < 0
  · have hd := digits_any n.natAbs (by unfold isInt at hn; omega)
    have hl := dec19 (u := n.natAbs) (by unfold isInt at hn; omega)
    have hsz : (B (Lib.decDigits n.natAbs)).size = (Lib.decDigits n.natAbs).length := List.size_toArray
    have hsa : (⟨#[45]⟩ ++ B (Lib.decDigits n.natAbs) : ByteArray).size = 1 + (B (Lib.decDigits n.natAbs)).size := ByteArray.size_append
    have he : (0 - ((n.natAbs : Nat) : Int)) = n := by omega
    rw [he] at hd
    refine pure_enter Tryz.func82 rfl (by decide) _ Tryz.ntmps82 (le_ok rfl) (fun w Pr hE => ?_)
    dsimp only [slotsOf, Nat.zero_add, Nat.reduceAdd]
    repeat' (first | (apply at_call; refine k_call (hd) hE ?_; rintro _ rfl) | refine nx ?_ | (apply qr_move; refine r_move ?_) | (apply qr_assign; refine r_assign ?_) | (apply at_cond; first | refine c_t ?_ | refine c_f ?_ | (refine aw_cond rfl (fun hb => ?_) (fun hb => ?_) <;> ((try have hq := dX hb); (try (exfalso; omega))))) | (apply qr_lss; refine r_lss ?_) | (apply qr_add; refine r_add ?_))
    refine ret_one (by rfl) (by first | exact ToD.d _ | exact ToD.row _ _ _ _ _ rfl) ?_
    refine congrArg D.str (ba_ext ?_)
    show L _ = L _
    rw [intW_L, itoa_neg h, L_app, L_app]
    rfl
  · have hd := digits_any n.toNat (by unfold isInt at hn; omega)
    have hl := dec19 (u := n.toNat) (by unfold isInt at hn; omega)
    have hsz : (B (Lib.decDigits n.toNat)).size = (Lib.decDigits n.toNat).length := List.size_toArray
    have he : (0 - ((n.toNat : Nat) : Int)) = 0 - n := by omega
    rw [he] at hd
    unfold isInt at hn
    refine pure_enter Tryz.func82 rfl (by decide) _ Tryz.ntmps82 (le_ok rfl) (fun w Pr hE => ?_)
    dsimp only [slotsOf, Nat.zero_add, Nat.reduceAdd]
    repeat' (first | (apply at_op (.unOp .neg _ _); refine al_y (y_neg rfl (by omega)) (lt_ok rfl) ?_) | (apply at_call; refine k_call (hd) hE ?_; rintro _ rfl) | refine nx ?_ | (apply qr_move; refine r_move ?_) | (apply qr_assign; refine r_assign ?_) | (apply at_cond; first | refine c_t ?_ | refine c_f ?_ | (refine aw_cond rfl (fun hb => ?_) (fun hb => ?_) <;> ((try have hq := dX hb); (try (exfalso; omega))))) | (apply qr_lss; refine r_lss ?_) | (apply qr_add; refine r_add ?_))
    refine ret_one (by rfl) (by first | exact ToD.d _ | exact ToD.row _ _ _ _ _ rfl) ?_
    refine congrArg D.str (ba_ext ?_)
    show L _ = L _
    rw [intW_L, itoa_pos h, L_app]
theorem rnum_any (n : Int) (hn : isInt n) : PureC 64 [.int n] (· = .str (numW n)) := by
  refine pure_enter Tryz.func64 rfl (by decide) _ Tryz.ntmps64 (le_ok rfl) (fun w Pr hE => ?_)
  dsimp only [slotsOf, Nat.zero_add, Nat.reduceAdd]
  by_cases h : n < 0
  · skip
    repeat' (first | refine nx ?_ | (apply qr_move; refine r_move ?_) | (apply qr_assign; refine r_assign ?_) | (apply at_cond; first | refine c_t ?_ | refine c_f ?_ | (refine aw_cond rfl (fun hb => ?_) (fun hb => ?_) <;> ((try have hq := dX hb); (try (exfalso; omega))))) | (apply qr_lss; refine r_lss ?_))
    refine ret_one (by rfl) (by first | exact ToD.d _ | exact ToD.row _ _ _ _ _ rfl) ?_
    rw [numW, if_pos h]
  · skip
    repeat' (first | (apply at_call; refine k_call (rint_any n hn) hE ?_; rintro _ rfl) | refine nx ?_ | (apply qr_move; refine r_move ?_) | (apply qr_assign; refine r_assign ?_) | (apply at_cond; first | refine c_t ?_ | refine c_f ?_ | (refine aw_cond rfl (fun hb => ?_) (fun hb => ?_) <;> ((try have hq := dX hb); (try (exfalso; omega))))) | (apply qr_lss; refine r_lss ?_))
    refine ret_one (by rfl) (by first | exact ToD.d _ | exact ToD.row _ _ _ _ _ rfl) ?_
    rw [numW, if_neg h]
theorem rtext_any (s : ByteArray) (hs : s.size ≤ 1000000000) : PureC 63 [.str s] (· = .str (textW s)) := by
  have hs1 : (⟨#[58]⟩ : ByteArray).size = 1 := rfl
  have hs2 : (⟨#[44]⟩ : ByteArray).size = 1 := rfl
  have hd := digits_any s.size (by omega)
  have hl := dec19 (u := s.size) (by omega)
  have hsz : (B (Lib.decDigits s.size)).size = (Lib.decDigits s.size).length := List.size_toArray
  have hsa : (B (Lib.decDigits s.size) ++ ⟨#[58]⟩).size = (B (Lib.decDigits s.size)).size + 1 := ByteArray.size_append
  have hsb : (B (Lib.decDigits s.size) ++ ⟨#[58]⟩ ++ s).size = (B (Lib.decDigits s.size) ++ ⟨#[58]⟩).size + s.size := ByteArray.size_append
  refine pure_enter Tryz.func63 rfl (by decide) _ Tryz.ntmps63 (le_ok rfl) (fun w Pr hE => ?_)
  dsimp only [slotsOf, Nat.zero_add, Nat.reduceAdd]
  repeat' (first | (apply at_op (.unOp .neg _ _); refine al_y (y_neg rfl (by omega)) (lt_ok rfl) ?_) | (apply at_call; refine k_call (hd) hE ?_; rintro _ rfl) | refine nx ?_ | (apply qr_move; refine r_move ?_) | (apply qr_assign; refine r_assign ?_) | (apply qr_add; refine r_add ?_) | (apply qr_len; refine r_len ?_))
  refine ret_one (by rfl) (by first | exact ToD.d _ | exact ToD.row _ _ _ _ _ rfl) ?_
  rfl
end Go.Proofs.YtfgibalcdjlnhaaGreatDoor
end
