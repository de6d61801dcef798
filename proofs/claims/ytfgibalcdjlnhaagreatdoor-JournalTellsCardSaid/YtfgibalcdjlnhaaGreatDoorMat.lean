/-
  The walks of the reference of layer 1: a string that is read. Conditions: sizes.
  The reference's journal: the sum and the form of a record. Conditions: none.
  The journal: the records of a string. Conditions: none.
  The journal: Len, Get, All. Conditions: none.
  The journal: Open. Conditions: none.
-/
import Derived.Test.YtfgibalcdjlnhaaGreatDoorMas
section
set_option linter.unusedSimpArgs false
set_option linter.unusedVariables false
namespace Go.Proofs.YtfgibalcdjlnhaaGreatDoor
open Go.RowKit


theorem close_empty {r : ByteArray} {b : Bool} {c : UInt8} (h : r.size = 0) : closeS r b ⟨#[c]⟩ = (emp, true) := by
  rcases closeS_to (r := r) (b := b) (c := c) with ⟨q, _, h1⟩ | h1
  · have h2 := L_len r
    rw [h1] at h2
    simp at h2
    omega
  · exact h1
theorem text_fail {r q : ByteArray} {b e : Bool} {n : Int} (hq : numS r b 58 0 = ⟨n, q, e⟩) (h0 : 0 ≤ n) (h : e = true ∧ q = emp ∨ (q.size : Int) ≤ n) : textS r b = ⟨emp, emp, true⟩ := by
  unfold textS
  rw [hq]
  simp only
  split
  · rfl
  · rename_i hn
    have hz : (q.extract n.toNat q.size).size = 0 := by
      rw [ByteArray.size_extract]
      rcases h with ⟨_, rfl⟩ | h
      · rw [emp_size]; omega
      · omega
    rw [close_empty hz]
    rfl
theorem text_go {r q : ByteArray} {b e : Bool} {n : Int} (hq : numS r b 58 0 = ⟨n, q, e⟩) (h : n < (q.size : Int)) : textS r b = ⟨if (closeS (q.extract n.toNat q.size) e ⟨#[44]⟩).2 then emp else q.extract 0 n.toNat, (closeS (q.extract n.toNat q.size) e ⟨#[44]⟩).1, (closeS (q.extract n.toNat q.size) e ⟨#[44]⟩).2⟩ := by
  unfold textS
  rw [hq]
  simp only
  rw [if_neg (by omega)]
attribute [local irreducible] numS textS closeS
set_option maxHeartbeats 4000000 in
theorem rtextR_any (r : ByteArray) (b : Bool) (hr : r.size ≤ 1000000000) (hb : b = true → r = emp) : ObC 59 [.box 1000 0] (rr r b) [] (fun x o => x = .d (.str (textS r b).v) ∧ o = rr (textS r b).r (textS r b).b) := by
  have h0 := num_ge (r := r) (b := b) (c := 58) (least := 0) (Int.le_refl _)
  have h1 := numS_le (r := r) (b := b) (c := 58) (least := 0)
  have h2 := num_le (r := r) (b := b) (c := 58) (least := 0)
  have hbad := numS_bad (r := r) (c := 58) (least := 0) hb
  have hcall := rnumber_any r b 58 hr sep58
  rcases hq : numS r b 58 0 with ⟨n, q, e⟩
  rw [hq] at h0 h1 h2 hbad hcall
  simp only at h0 h1 h2 hbad hcall
  refine ob_enter Tryz.func59 rfl (by decide) _ Tryz.ntmps59 (le_ok rfl) rfl (fun w Pr β κ hE => ?_)
  dsimp only [slotsV, Nat.zero_add, Nat.reduceAdd]
  cases e with
  | true =>
    have hT := text_fail hq h0 (.inl ⟨rfl, hbad rfl⟩)
    rw [hT]
    repeat' (first | (apply at_call; refine k_ocall [(1000, 1000)] (hcall) hE ?_; rintro _ _ ⟨rfl, rfl⟩ <;> (intro _ _ h1 h2; simp only [renEqs, Nat.reduceBEq, renL_app, renL_ds, renL_und] at h1 h2; subst h1 h2)) | (apply at_call; refine k_ocall [(1000, 1000)] (rfail_any _ _) hE ?_; rintro _ _ ⟨rfl, rfl⟩ <;> (intro _ _ h1 h2; simp only [renEqs, Nat.reduceBEq, renL_app, renL_ds, renL_und] at h1 h2; subst h1 h2)) | refine nx ?_ | (apply qr_move; refine r_move ?_) | (apply qr_assign; refine r_assign ?_) | (apply at_cond; first | refine c_t ?_ | refine c_f ?_ | (refine aw_cond rfl (fun hb => ?_) (fun hb => ?_) <;> ((try have hq := dX hb); (try (exfalso; omega))))) | (apply at_guard; first | refine g_go ?_ | refine g_nt ?_ | refine g_nf ?_ | refine g_nu ?_ | ((first | refine al_split_t rfl rfl (lt_ok rfl) (fun hb => ?_) (fun hb => ?_) | refine al_split_f rfl rfl (lt_ok rfl) (fun hb => ?_) (fun hb => ?_)) <;> ((try have hq := dX hb); (try (exfalso; omega))))) | (apply qr_pick; refine r_pick ?_) | (apply qr_geq; refine r_geq ?_) | (apply qr_not; refine r_not ?_) | (apply qr_len; refine r_len ?_) | (apply qr_slice; refine r_slice ?_) | (apply qr_load; refine r_load ?_) | (apply qr_faddr; refine r_faddr ?_) | (apply qr_nilck; refine r_nilck ?_) | (apply qr_store; refine r_store ?_))
    refine oret1 (rr emp true) (by rfl) rv (⟨rfl, rfl⟩) sb okx
  | false =>
    by_cases hn : (q.size : Int) ≤ n
    · have hT := text_fail hq h0 (.inr hn)
      rw [hT]
      have f1 : decide ((q.size : Int) ≤ n) = true := decide_eq_true hn
      repeat' (first | (apply at_call; refine k_ocall [(1000, 1000)] (hcall) hE ?_; rintro _ _ ⟨rfl, rfl⟩ <;> (intro _ _ h1 h2; simp only [renEqs, Nat.reduceBEq, renL_app, renL_ds, renL_und] at h1 h2; subst h1 h2)) | (apply at_call; refine k_ocall [(1000, 1000)] (rfail_any _ _) hE ?_; rintro _ _ ⟨rfl, rfl⟩ <;> (intro _ _ h1 h2; simp only [renEqs, Nat.reduceBEq, renL_app, renL_ds, renL_und] at h1 h2; subst h1 h2)) | refine nx ?_ | (apply qr_move; refine r_move ?_) | (apply qr_assign; refine r_assign ?_) | (apply at_cond; first | refine c_t ?_ | refine c_f ?_ | (refine aw_cond rfl (fun hb => ?_) (fun hb => ?_) <;> ((try have hq := dX hb); (try (exfalso; omega))))) | (apply at_guard; first | refine g_go ?_ | refine g_nt ?_ | refine g_nf ?_ | refine g_nu ?_ | ((first | refine al_split_t rfl rfl (lt_ok rfl) (fun hb => ?_) (fun hb => ?_) | refine al_split_f rfl rfl (lt_ok rfl) (fun hb => ?_) (fun hb => ?_)) <;> ((try have hq := dX hb); (try (exfalso; omega))))) | (apply qr_pick; refine r_pick ?_) | (apply qr_geq; refine r_geq ?_) | (apply qr_not; refine r_not ?_) | (apply qr_len; refine r_len ?_) | (apply qr_slice; refine r_slice ?_) | (apply qr_load; refine r_load ?_) | (apply qr_faddr; refine r_faddr ?_) | (apply qr_nilck; refine r_nilck ?_) | (apply qr_store; refine r_store ?_))
      refine oret1 (rr emp true) (by rfl) rv (⟨rfl, rfl⟩) sb okx
    · have hT := text_go hq (by omega)
      rw [hT]
      have f1 : decide ((q.size : Int) ≤ n) = false := decide_eq_false hn
      have hc := rclose_any (q.extract n.toNat q.size) false 44 (fun h => by cases h)
      rcases hcc : closeS (q.extract n.toNat q.size) false ⟨#[44]⟩ with ⟨q2, e2⟩
      rw [hcc] at hc
      simp only at hc
      cases e2
      · skip
        repeat' (first | (apply at_call; refine k_ocall [(1000, 1000)] (hcall) hE ?_; rintro _ _ ⟨rfl, rfl⟩ <;> (intro _ _ h1 h2; simp only [renEqs, Nat.reduceBEq, renL_app, renL_ds, renL_und] at h1 h2; subst h1 h2)) | (apply at_call; refine k_ocall [(1000, 1000)] (hc) hE ?_; rintro _ _ ⟨rfl, rfl⟩ <;> (intro _ _ h1 h2; simp only [renEqs, Nat.reduceBEq, renL_app, renL_ds, renL_und] at h1 h2; subst h1 h2)) | refine nx ?_ | (apply qr_move; refine r_move ?_) | (apply qr_assign; refine r_assign ?_) | (apply at_cond; first | refine c_t ?_ | refine c_f ?_ | (refine aw_cond rfl (fun hb => ?_) (fun hb => ?_) <;> ((try have hq := dX hb); (try (exfalso; omega))))) | (apply at_guard; first | refine g_go ?_ | refine g_nt ?_ | refine g_nf ?_ | refine g_nu ?_ | ((first | refine al_split_t rfl rfl (lt_ok rfl) (fun hb => ?_) (fun hb => ?_) | refine al_split_f rfl rfl (lt_ok rfl) (fun hb => ?_) (fun hb => ?_)) <;> ((try have hq := dX hb); (try (exfalso; omega))))) | (apply qr_pick; refine r_pick ?_) | (apply qr_geq; refine r_geq ?_) | (apply qr_not; refine r_not ?_) | (apply qr_len; refine r_len ?_) | (apply qr_slice; refine r_slice ?_) | (apply qr_load; refine r_load ?_) | (apply qr_faddr; refine r_faddr ?_) | (apply qr_nilck; refine r_nilck ?_) | (apply qr_store; refine r_store ?_))
        refine oret1 (rr q2 false) (by rfl) rv (⟨rfl, rfl⟩) sb okx
      · skip
        repeat' (first | (apply at_call; refine k_ocall [(1000, 1000)] (hcall) hE ?_; rintro _ _ ⟨rfl, rfl⟩ <;> (intro _ _ h1 h2; simp only [renEqs, Nat.reduceBEq, renL_app, renL_ds, renL_und] at h1 h2; subst h1 h2)) | (apply at_call; refine k_ocall [(1000, 1000)] (hc) hE ?_; rintro _ _ ⟨rfl, rfl⟩ <;> (intro _ _ h1 h2; simp only [renEqs, Nat.reduceBEq, renL_app, renL_ds, renL_und] at h1 h2; subst h1 h2)) | refine nx ?_ | (apply qr_move; refine r_move ?_) | (apply qr_assign; refine r_assign ?_) | (apply at_cond; first | refine c_t ?_ | refine c_f ?_ | (refine aw_cond rfl (fun hb => ?_) (fun hb => ?_) <;> ((try have hq := dX hb); (try (exfalso; omega))))) | (apply at_guard; first | refine g_go ?_ | refine g_nt ?_ | refine g_nf ?_ | refine g_nu ?_ | ((first | refine al_split_t rfl rfl (lt_ok rfl) (fun hb => ?_) (fun hb => ?_) | refine al_split_f rfl rfl (lt_ok rfl) (fun hb => ?_) (fun hb => ?_)) <;> ((try have hq := dX hb); (try (exfalso; omega))))) | (apply qr_pick; refine r_pick ?_) | (apply qr_geq; refine r_geq ?_) | (apply qr_not; refine r_not ?_) | (apply qr_len; refine r_len ?_) | (apply qr_slice; refine r_slice ?_) | (apply qr_load; refine r_load ?_) | (apply qr_faddr; refine r_faddr ?_) | (apply qr_nilck; refine r_nilck ?_) | (apply qr_store; refine r_store ?_))
        refine oret1 (rr q2 true) (by rfl) rv (⟨rfl, rfl⟩) sb okx
end Go.Proofs.YtfgibalcdjlnhaaGreatDoor
end
section
set_option linter.unusedSimpArgs false
set_option linter.unusedVariables false
namespace Go.Proofs.YtfgibalcdjlnhaaGreatDoor
open Go.RowKit Go.ChangeMaps

set_option maxHeartbeats 4000000 in
set_option maxRecDepth 20000 in
theorem rsum_any (s : ByteArray) (hs : s.size ≤ 1000000000) : PureC 11 [.str s] (· = .int (sumB s)) := by
  have hz := Lib.size_eq s
  refine pure_enter Tryz.func11 rfl (by decide) _ Tryz.ntmps11 (le_ok rfl) (fun w Pr hE => ?_)
  dsimp only [slotsOf, Nat.zero_add, Nat.reduceAdd]
  repeat' (first | refine nx ?_ | (apply aq_block_y; decide) | (apply qr_move; refine r_move ?_) | (apply qr_assign; refine r_assign ?_) | (apply at_cond; first | refine c_t ?_ | refine c_f ?_ | (refine aw_cond rfl (fun hb => ?_) (fun hb => ?_) <;> ((try have hq := dX hb); (try (exfalso; omega))))) | (apply qr_lss; refine r_lss ?_) | (apply qr_add; refine r_add ?_) | (apply qr_mul; refine r_mul ?_) | (apply qr_rem; refine r_rem ?_) | (apply qr_conv; refine r_conv ?_) | (apply qr_len; refine r_len ?_) | (apply qr_index; refine r_index ?_))
  refine aw_lp (fun N sl ob => ∃ i n : Nat, N = s.size - i ∧ i ≤ s.size ∧ n < 2147483647 ∧ sumL (s.data.toList.drop i) i n = sumB s ∧ sl = [(4, .d (.int i)), (3, .d (.int n)), (0, .d (.str s))] ∧ ob = []) (⟨0, 0, rfl, Nat.zero_le _, by decide, rfl, rfl, rfl⟩) ?_
  rintro N sl ob ⟨i, n, rfl, hi, hn, hsum, rfl, rfl⟩
  by_cases hlt : i < s.size
  · have hsum := sum_step hlt hsum
    have hb8 : (bAt s i).toNat < 256 := (bAt s i).toNat_lt
    have hm1 : (bAt s i).toNat * (i + 1) ≤ 255 * (i + 1) := Nat.mul_le_mul_right _ (by omega)
    have hm2 : ((bAt s i).toNat : Int) * ((i : Int) + 1) = (((bAt s i).toNat * (i + 1) : Nat) : Int) := by simp
    have hm3 : ((n : Int) + ((bAt s i).toNat : Int) * ((i : Int) + 1)) % 2147483647 = (((n + (bAt s i).toNat * (i + 1)) % 2147483647 : Nat) : Int) := by
      rw [hm2]
      rfl
    repeat' (first | refine nx ?_ | (apply aq_block_y; decide) | (apply qr_move; refine r_move ?_) | (apply qr_assign; refine r_assign ?_) | (apply at_cond; first | refine c_t ?_ | refine c_f ?_ | (refine aw_cond rfl (fun hb => ?_) (fun hb => ?_) <;> ((try have hq := dX hb); (try (exfalso; omega))))) | (apply qr_lss; refine r_lss ?_) | (apply qr_add; refine r_add ?_) | (apply qr_mul; refine r_mul ?_) | (apply qr_rem; refine r_rem ?_) | (apply qr_conv; refine r_conv ?_) | (apply qr_len; refine r_len ?_) | (apply qr_index; refine r_index ?_))
    refine aq_rd (⟨i + 1, (n + (bAt s i).toNat * (i + 1)) % 2147483647, rfl, by omega, Nat.mod_lt _ (by decide), hsum, rfl, rfl⟩) (by omega)
  · rw [List.drop_of_length_le (by omega)] at hsum
    have hsum : n = sumB s := hsum
    repeat' (first | refine nx ?_ | (apply aq_block_y; decide) | (apply qr_move; refine r_move ?_) | (apply qr_assign; refine r_assign ?_) | (apply at_cond; first | refine c_t ?_ | refine c_f ?_ | (refine aw_cond rfl (fun hb => ?_) (fun hb => ?_) <;> ((try have hq := dX hb); (try (exfalso; omega))))) | (apply qr_lss; refine r_lss ?_) | (apply qr_add; refine r_add ?_) | (apply qr_mul; refine r_mul ?_) | (apply qr_rem; refine r_rem ?_) | (apply qr_conv; refine r_conv ?_) | (apply qr_len; refine r_len ?_) | (apply qr_index; refine r_index ?_))
    refine ret_one (by rfl) (by first | exact ToD.d _ | exact ToD.row _ _ _ _ _ rfl) ?_
    rw [hsum]
theorem rnum_ok (n : Int) (h0 : -9223372036854775808 ≤ n) (h1 : n ≤ 9223372036854775807) : PureC 64 [.int n] (· = .str (numW n)) := rnum_any n ⟨h0, h1⟩
theorem rform_any (s : ByteArray) (hs : s.size ≤ 1000000000) : PureC 41 [.str s] (· = .str (formB s)) := by
  have hz := sum_int s
  have hf := formB_size s hs
  have ht : (formB s).size = (textW s).size + (numW (sumB s)).size := ByteArray.size_append
  refine pure_enter Tryz.func41 rfl (by decide) _ Tryz.ntmps41 (le_ok rfl) (fun w Pr hE => ?_)
  dsimp only [slotsOf, Nat.zero_add, Nat.reduceAdd]
  repeat' (first | (apply at_call; refine k_call (rtext_any s hs) hE ?_; rintro _ rfl) | (apply at_call; refine k_call (rsum_any s hs) hE ?_; rintro _ rfl) | (apply at_call; refine k_call (rnum_ok (sumB s) hz.1 hz.2) hE ?_; rintro _ rfl) | refine nx ?_ | (apply qr_move; refine r_move ?_) | (apply qr_assign; refine r_assign ?_) | (apply qr_add; refine r_add ?_))
  refine ret_one (by rfl) (by first | exact ToD.d _ | exact ToD.row _ _ _ _ _ rfl) ?_
  rfl
end Go.Proofs.YtfgibalcdjlnhaaGreatDoor
end
section
set_option linter.unusedSimpArgs false
set_option linter.unusedVariables false
namespace Go.Proofs.YtfgibalcdjlnhaaGreatDoor
open Go.RowKit Go.ChangeMaps

abbrev strRow (k : Nat) (l : List ByteArray) : O := .row 9 1 k (l.map fun t => [D.str t])
theorem L_ext (s : ByteArray) (k : Nat) : L (s.extract k s.size) = (L s).drop k := ext_drop s k
/-- a form stands where a reading stands: the conditions of a round -/
theorem noform_of {q : List UInt8} (h : ∀ t, (textS (B q) false).v = t → t.size ≤ 20000 → (numS (textS (B q) false).r (textS (B q) false).b 59 0).v = sumB t → ¬ L (formB t) <+: q) : NoForm q := by
  intro t ht hp
  obtain ⟨p, hp'⟩ := hp
  obtain ⟨h1, h2⟩ := form_read (by omega) hp'.symm
  refine h t (by rw [h1]) ht ?_ ⟨p, hp'⟩
  rw [h1, h2]
theorem prefix_ext {s f : ByteArray} {at_ : Nat} (h1 : at_ + f.size ≤ s.size) : s.extract at_ (at_ + f.size) = f ↔ L f <+: (L s).drop at_ := by
  have e : L (s.extract at_ (at_ + f.size)) = ((L s).drop at_).take f.size := by
    simp only [L, ByteArray.data_extract, Array.toList_extract, List.extract_eq_take_drop]
    congr 1
    omega
  constructor
  · intro h
    rw [h] at e
    rw [e]
    exact List.take_prefix _ _
  · intro h
    apply ba_ext
    show L _ = L f
    rw [e, ← L_len f]
    exact (List.prefix_iff_eq_take.1 h).symm
theorem text_le0 (r : ByteArray) (b : Bool) : (textS r b).r.size ≤ r.size ∧ (textS r b).v.size ≤ r.size := by
  have h1 := numS_le (r := r) (b := b) (c := 58) (least := 0)
  unfold textS
  dsimp only
  split
  · exact ⟨Nat.zero_le _, Nat.zero_le _⟩
  · refine ⟨Nat.le_trans (closeS_size _ _ _) ?_, ?_⟩
    · simp only [ByteArray.size_extract]
      omega
    · dsimp only
      split
      · exact Nat.zero_le _
      · simp only [ByteArray.size_extract]
        omega
theorem forms_step {rs : List ByteArray} {t : ByteArray} {l : List UInt8} (h1 : forms rs <+: l) (h2 : L (formB t) <+: l.drop (forms rs).length) : forms (rs ++ [t]) <+: l := by
  obtain ⟨q, rfl⟩ := h1
  rw [List.drop_left] at h2
  obtain ⟨p, rfl⟩ := h2
  exact ⟨p, by rw [forms_app]; simp [forms]⟩
theorem forms_len : ∀ rs : List ByteArray, (∀ t ∈ rs, t.size ≤ 20000) → rs.length ≤ (forms rs).length
  | [], _ => Nat.le_refl _
  | t :: r, h => by
    have h1 := formB_size t (by have := h t (by simp); omega)
    have h2 := forms_len r (fun x hx => h x (by simp [hx]))
    simp only [forms, List.length_cons, List.length_append, L_len]
    omega
theorem recs_of {rs : List ByteArray} {l : List UInt8} (h0 : ∀ t ∈ rs, t.size ≤ 20000) (h1 : forms rs <+: l) (h2 : NoForm (l.drop (forms rs).length)) : Recs l rs := by
  obtain ⟨q, rfl⟩ := h1
  rw [List.drop_left] at h2
  exact ⟨h0, q, rfl, h2⟩
theorem noform_nil : NoForm [] := by
  intro t ht hp
  have h1 := formB_size t (by omega)
  have h2 : (L (formB t)).length ≤ 0 := hp.length_le
  rw [L_len] at h2
  omega
attribute [local irreducible] textS numS formB sumB
set_option maxHeartbeats 16000000 in
set_option maxRecDepth 20000 in
theorem read_any2 (s : ByteArray) (hs : s.size ≤ 100000000) : ObC 34 [.d (.str s)] [] [4] (fun x o => ∃ k rs, Recs (L s) rs ∧ x = .tup [.row 4 k, .d (.int (forms rs).length)] ∧ o = [(4, strRow k rs)]) := by
  have hzl := L_len s
  refine ob_enter Tryz.func34 rfl (by decide) _ Tryz.ntmps34 (le_ok rfl) rfl (fun w Pr β κ hE => ?_)
  dsimp only [slotsV, Nat.zero_add, Nat.reduceAdd]
  repeat' (first | refine nx ?_ | (apply aq_block_y; decide) | apply aw_scope | apply aw_label | apply aq_ng_n | apply aq_ng_r | apply aq_ng_x | (apply qr_assign; refine r_assign ?_) | (apply at_cond; first | refine c_t ?_ | refine c_f ?_ | (refine aw_cond rfl (fun hb => ?_) (fun hb => ?_) <;> ((try have hq := dX hb); (try (exfalso; omega))))))
  refine aw_adopt 4 4 9 1 rfl rfl (lt_ok rfl) ?_
  refine aw_lp (fun N sl ob => ∃ (rs : List ByteArray) (k : Nat), N = s.size - (forms rs).length ∧ (∀ t ∈ rs, t.size ≤ 20000) ∧ forms rs <+: L s ∧ sl = [(5, .d (.int (forms rs).length)), (4, .row 4 k), (0, .d (.str s))] ∧ ob = [(4, strRow k rs)]) (⟨[], 0, rfl, by simp, List.nil_prefix, rfl, rfl⟩) ?_
  rintro N sl ob ⟨rs, k, rfl, hsm, hpre, rfl, rfl⟩
  have hle := hpre.length_le
  rw [hzl] at hle
  have hrl := forms_len rs hsm
  generalize hat : (forms rs).length = at_ at hle hrl ⊢
  by_cases hlt : at_ < s.size
  · have hex := L_ext s at_
    have hno := noform_of (q := (L s).drop at_)
    have hB : B ((L s).drop at_) = s.extract at_ s.size := by rw [← hex]
    rw [hB] at hno
    have hr1 : (s.extract at_ s.size).size ≤ 1000000000 := by rw [ByteArray.size_extract]; omega
    have ht := text_any (s.extract at_ s.size) false hr1
    have hsz := text_le0 (s.extract at_ s.size) false
    generalize textS (s.extract at_ s.size) false = q at ht hno hsz
    obtain ⟨t, r, b⟩ := q
    dsimp only at ht hno hsz
    have hn := num_any r b (by omega)
    generalize (numS r b 59 0).v = n at hn hno
    generalize numS r b 59 0 = qn at hn
    have hf := form_any t (by omega)
    have hsum := sum_any t (by omega)
    have hfz := formB_size t (by omega)
    by_cases h1 : 20000 < t.size
    · have hno2 : NoForm ((L s).drop at_) := hno (fun u hu h => by rw [← hu] at h; omega)
      repeat' (first | (apply at_op (.slice _ _ (some _) none none); refine al_y (y_sub_s (l := at_) (h := s.size) rfl (by kernel_rfl) (low_some rfl rfl) high_none (by omega) (by omega)) (lt_ok rfl) ?_) | (apply at_op (.slice _ _ (some _) (some _) none); refine al_y (y_sub_s (l := at_) (h := at_ + (formB t).size) rfl (by kernel_rfl) (low_some rfl rfl) (high_some rfl (by omega)) (by omega) (by omega)) (lt_ok rfl) ?_) | (apply at_call; refine k_ocall [(5, 17)] (open_any (s.extract at_ s.size)) hE ?_; rintro _ _ ⟨rfl, rfl⟩ <;> (intro _ _ h1 h2; simp only [renEqs, Nat.reduceBEq, renL_app, renL_ds, renL_und] at h1 h2; subst h1 h2)) | (apply at_call; refine k_ocall [(1000, 17)] (ht) hE ?_; rintro _ _ ⟨rfl, rfl⟩ <;> (intro _ _ h1 h2; simp only [renEqs, Nat.reduceBEq, renL_app, renL_ds, renL_und] at h1 h2; subst h1 h2)) | (apply at_call; refine k_ocall [(1000, 17)] (hn) hE ?_; rintro _ _ ⟨rfl, rfl⟩ <;> (intro _ _ h1 h2; simp only [renEqs, Nat.reduceBEq, renL_app, renL_ds, renL_und] at h1 h2; subst h1 h2)) | (apply at_call; refine k_call (hf) hE ?_; rintro _ rfl) | (apply at_call; refine k_call (hsum) hE ?_; rintro _ rfl) | refine nx ?_ | (apply aq_block_y; decide) | apply aw_scope | apply aw_label | apply aq_ng_n | apply aq_ng_r | apply aq_ng_x | (apply qr_move; refine r_move ?_) | (apply qr_assign; refine r_assign ?_) | (apply at_cond; first | refine c_t ?_ | refine c_f ?_ | (refine aw_cond rfl (fun hb => ?_) (fun hb => ?_) <;> ((try have hq := dX hb); (try (exfalso; omega))))) | (apply qr_lss; refine r_lss ?_) | (apply qr_gtr; refine r_gtr ?_) | (apply qr_neq; refine r_neq ?_) | (apply qr_add; refine r_add ?_) | (apply qr_sub; refine r_sub ?_) | (apply qr_len; refine r_len ?_) | (apply qr_slice; refine r_slice ?_) | (apply qr_lits; refine r_lits ?_) | (apply qr_appd; refine r_appd ?_))
      refine oret2 ([(4, strRow k rs)]) (by rfl) rk rk (⟨k, rs, recs_of hsm hpre (hat ▸ hno2), by rw [hat]; rfl, rfl⟩) sb okx
    · by_cases h2 : n = sumB t
      · have q2 : (!decide (n = (sumB t : Int))) = false := by simp [h2]
        by_cases h3 : s.size - at_ < (formB t).size
        · have hno2 : NoForm ((L s).drop at_) := hno (fun u hu _ _ h => by
            rw [← hu] at h
            have := h.length_le
            rw [L_len, List.length_drop, hzl] at this
            omega)
          repeat' (first | (apply at_op (.slice _ _ (some _) none none); refine al_y (y_sub_s (l := at_) (h := s.size) rfl (by kernel_rfl) (low_some rfl rfl) high_none (by omega) (by omega)) (lt_ok rfl) ?_) | (apply at_op (.slice _ _ (some _) (some _) none); refine al_y (y_sub_s (l := at_) (h := at_ + (formB t).size) rfl (by kernel_rfl) (low_some rfl rfl) (high_some rfl (by omega)) (by omega) (by omega)) (lt_ok rfl) ?_) | (apply at_call; refine k_ocall [(5, 17)] (open_any (s.extract at_ s.size)) hE ?_; rintro _ _ ⟨rfl, rfl⟩ <;> (intro _ _ h1 h2; simp only [renEqs, Nat.reduceBEq, renL_app, renL_ds, renL_und] at h1 h2; subst h1 h2)) | (apply at_call; refine k_ocall [(1000, 17)] (ht) hE ?_; rintro _ _ ⟨rfl, rfl⟩ <;> (intro _ _ h1 h2; simp only [renEqs, Nat.reduceBEq, renL_app, renL_ds, renL_und] at h1 h2; subst h1 h2)) | (apply at_call; refine k_ocall [(1000, 17)] (hn) hE ?_; rintro _ _ ⟨rfl, rfl⟩ <;> (intro _ _ h1 h2; simp only [renEqs, Nat.reduceBEq, renL_app, renL_ds, renL_und] at h1 h2; subst h1 h2)) | (apply at_call; refine k_call (hf) hE ?_; rintro _ rfl) | (apply at_call; refine k_call (hsum) hE ?_; rintro _ rfl) | refine nx ?_ | (apply aq_block_y; decide) | apply aw_scope | apply aw_label | apply aq_ng_n | apply aq_ng_r | apply aq_ng_x | (apply qr_move; refine r_move ?_) | (apply qr_assign; refine r_assign ?_) | (apply at_cond; first | refine c_t ?_ | refine c_f ?_ | (refine aw_cond rfl (fun hb => ?_) (fun hb => ?_) <;> ((try have hq := dX hb); (try (exfalso; omega))))) | (apply qr_lss; refine r_lss ?_) | (apply qr_gtr; refine r_gtr ?_) | (apply qr_neq; refine r_neq ?_) | (apply qr_add; refine r_add ?_) | (apply qr_sub; refine r_sub ?_) | (apply qr_len; refine r_len ?_) | (apply qr_slice; refine r_slice ?_) | (apply qr_lits; refine r_lits ?_) | (apply qr_appd; refine r_appd ?_))
          refine oret2 ([(4, strRow k rs)]) (by rfl) rk rk (⟨k, rs, recs_of hsm hpre (hat ▸ hno2), by rw [hat]; rfl, rfl⟩) sb okx
        · have hzf := prefix_ext (s := s) (f := formB t) (at_ := at_) (by omega)
          by_cases h4 : L (formB t) <+: (L s).drop at_
          · have q4 : (!decide (s.extract at_ (at_ + (formB t).size) = formB t)) = false := by simp [hzf.2 h4]
            have hsm2 : ∀ x ∈ rs ++ [t], x.size ≤ 20000 := fun x hx => by
              rcases List.mem_append.1 hx with hx | hx
              · exact hsm x hx
              · simp at hx
                subst hx
                omega
            have hst : forms (rs ++ [t]) <+: L s := forms_step hpre (hat ▸ h4)
            have hln : (forms (rs ++ [t])).length = at_ + (formB t).size := by rw [forms_app, List.length_append, hat]; simp [forms]
            repeat' (first | (apply at_op (.slice _ _ (some _) none none); refine al_y (y_sub_s (l := at_) (h := s.size) rfl (by kernel_rfl) (low_some rfl rfl) high_none (by omega) (by omega)) (lt_ok rfl) ?_) | (apply at_op (.slice _ _ (some _) (some _) none); refine al_y (y_sub_s (l := at_) (h := at_ + (formB t).size) rfl (by kernel_rfl) (low_some rfl rfl) (high_some rfl (by omega)) (by omega) (by omega)) (lt_ok rfl) ?_) | (apply at_call; refine k_ocall [(5, 17)] (open_any (s.extract at_ s.size)) hE ?_; rintro _ _ ⟨rfl, rfl⟩ <;> (intro _ _ h1 h2; simp only [renEqs, Nat.reduceBEq, renL_app, renL_ds, renL_und] at h1 h2; subst h1 h2)) | (apply at_call; refine k_ocall [(1000, 17)] (ht) hE ?_; rintro _ _ ⟨rfl, rfl⟩ <;> (intro _ _ h1 h2; simp only [renEqs, Nat.reduceBEq, renL_app, renL_ds, renL_und] at h1 h2; subst h1 h2)) | (apply at_call; refine k_ocall [(1000, 17)] (hn) hE ?_; rintro _ _ ⟨rfl, rfl⟩ <;> (intro _ _ h1 h2; simp only [renEqs, Nat.reduceBEq, renL_app, renL_ds, renL_und] at h1 h2; subst h1 h2)) | (apply at_call; refine k_call (hf) hE ?_; rintro _ rfl) | (apply at_call; refine k_call (hsum) hE ?_; rintro _ rfl) | refine nx ?_ | (apply aq_block_y; decide) | apply aw_scope | apply aw_label | apply aq_ng_n | apply aq_ng_r | apply aq_ng_x | (apply qr_move; refine r_move ?_) | (apply qr_assign; refine r_assign ?_) | (apply at_cond; first | refine c_t ?_ | refine c_f ?_ | (refine aw_cond rfl (fun hb => ?_) (fun hb => ?_) <;> ((try have hq := dX hb); (try (exfalso; omega))))) | (apply qr_lss; refine r_lss ?_) | (apply qr_gtr; refine r_gtr ?_) | (apply qr_neq; refine r_neq ?_) | (apply qr_add; refine r_add ?_) | (apply qr_sub; refine r_sub ?_) | (apply qr_len; refine r_len ?_) | (apply qr_slice; refine r_slice ?_) | (apply qr_lits; refine r_lits ?_) | (apply qr_appd; refine r_appd ?_))
            refine aq_rd (⟨rs ++ [t], k + 1, rfl, hsm2, hst, rfl, rfl⟩) (by omega)
          · have q4 : (!decide (s.extract at_ (at_ + (formB t).size) = formB t)) = true := by simp [mt hzf.1 h4]
            have hno2 : NoForm ((L s).drop at_) := hno (fun u hu _ _ h => by rw [← hu] at h; exact h4 h)
            repeat' (first | (apply at_op (.slice _ _ (some _) none none); refine al_y (y_sub_s (l := at_) (h := s.size) rfl (by kernel_rfl) (low_some rfl rfl) high_none (by omega) (by omega)) (lt_ok rfl) ?_) | (apply at_op (.slice _ _ (some _) (some _) none); refine al_y (y_sub_s (l := at_) (h := at_ + (formB t).size) rfl (by kernel_rfl) (low_some rfl rfl) (high_some rfl (by omega)) (by omega) (by omega)) (lt_ok rfl) ?_) | (apply at_call; refine k_ocall [(5, 17)] (open_any (s.extract at_ s.size)) hE ?_; rintro _ _ ⟨rfl, rfl⟩ <;> (intro _ _ h1 h2; simp only [renEqs, Nat.reduceBEq, renL_app, renL_ds, renL_und] at h1 h2; subst h1 h2)) | (apply at_call; refine k_ocall [(1000, 17)] (ht) hE ?_; rintro _ _ ⟨rfl, rfl⟩ <;> (intro _ _ h1 h2; simp only [renEqs, Nat.reduceBEq, renL_app, renL_ds, renL_und] at h1 h2; subst h1 h2)) | (apply at_call; refine k_ocall [(1000, 17)] (hn) hE ?_; rintro _ _ ⟨rfl, rfl⟩ <;> (intro _ _ h1 h2; simp only [renEqs, Nat.reduceBEq, renL_app, renL_ds, renL_und] at h1 h2; subst h1 h2)) | (apply at_call; refine k_call (hf) hE ?_; rintro _ rfl) | (apply at_call; refine k_call (hsum) hE ?_; rintro _ rfl) | refine nx ?_ | (apply aq_block_y; decide) | apply aw_scope | apply aw_label | apply aq_ng_n | apply aq_ng_r | apply aq_ng_x | (apply qr_move; refine r_move ?_) | (apply qr_assign; refine r_assign ?_) | (apply at_cond; first | refine c_t ?_ | refine c_f ?_ | (refine aw_cond rfl (fun hb => ?_) (fun hb => ?_) <;> ((try have hq := dX hb); (try (exfalso; omega))))) | (apply qr_lss; refine r_lss ?_) | (apply qr_gtr; refine r_gtr ?_) | (apply qr_neq; refine r_neq ?_) | (apply qr_add; refine r_add ?_) | (apply qr_sub; refine r_sub ?_) | (apply qr_len; refine r_len ?_) | (apply qr_slice; refine r_slice ?_) | (apply qr_lits; refine r_lits ?_) | (apply qr_appd; refine r_appd ?_))
            refine oret2 ([(4, strRow k rs)]) (by rfl) rk rk (⟨k, rs, recs_of hsm hpre (hat ▸ hno2), by rw [hat]; rfl, rfl⟩) sb okx
      · have q2 : (!decide (n = (sumB t : Int))) = true := by simp [h2]
        have hno2 : NoForm ((L s).drop at_) := hno (fun u hu _ h => by rw [← hu] at h; exact absurd h h2)
        repeat' (first | (apply at_op (.slice _ _ (some _) none none); refine al_y (y_sub_s (l := at_) (h := s.size) rfl (by kernel_rfl) (low_some rfl rfl) high_none (by omega) (by omega)) (lt_ok rfl) ?_) | (apply at_op (.slice _ _ (some _) (some _) none); refine al_y (y_sub_s (l := at_) (h := at_ + (formB t).size) rfl (by kernel_rfl) (low_some rfl rfl) (high_some rfl (by omega)) (by omega) (by omega)) (lt_ok rfl) ?_) | (apply at_call; refine k_ocall [(5, 17)] (open_any (s.extract at_ s.size)) hE ?_; rintro _ _ ⟨rfl, rfl⟩ <;> (intro _ _ h1 h2; simp only [renEqs, Nat.reduceBEq, renL_app, renL_ds, renL_und] at h1 h2; subst h1 h2)) | (apply at_call; refine k_ocall [(1000, 17)] (ht) hE ?_; rintro _ _ ⟨rfl, rfl⟩ <;> (intro _ _ h1 h2; simp only [renEqs, Nat.reduceBEq, renL_app, renL_ds, renL_und] at h1 h2; subst h1 h2)) | (apply at_call; refine k_ocall [(1000, 17)] (hn) hE ?_; rintro _ _ ⟨rfl, rfl⟩ <;> (intro _ _ h1 h2; simp only [renEqs, Nat.reduceBEq, renL_app, renL_ds, renL_und] at h1 h2; subst h1 h2)) | (apply at_call; refine k_call (hf) hE ?_; rintro _ rfl) | (apply at_call; refine k_call (hsum) hE ?_; rintro _ rfl) | refine nx ?_ | (apply aq_block_y; decide) | apply aw_scope | apply aw_label | apply aq_ng_n | apply aq_ng_r | apply aq_ng_x | (apply qr_move; refine r_move ?_) | (apply qr_assign; refine r_assign ?_) | (apply at_cond; first | refine c_t ?_ | refine c_f ?_ | (refine aw_cond rfl (fun hb => ?_) (fun hb => ?_) <;> ((try have hq := dX hb); (try (exfalso; omega))))) | (apply qr_lss; refine r_lss ?_) | (apply qr_gtr; refine r_gtr ?_) | (apply qr_neq; refine r_neq ?_) | (apply qr_add; refine r_add ?_) | (apply qr_sub; refine r_sub ?_) | (apply qr_len; refine r_len ?_) | (apply qr_slice; refine r_slice ?_) | (apply qr_lits; refine r_lits ?_) | (apply qr_appd; refine r_appd ?_))
        refine oret2 ([(4, strRow k rs)]) (by rfl) rk rk (⟨k, rs, recs_of hsm hpre (hat ▸ hno2), by rw [hat]; rfl, rfl⟩) sb okx
  · have hno2 : NoForm ((L s).drop at_) := by
      rw [List.drop_of_length_le (by omega)]
      exact noform_nil
    repeat' (first | refine nx ?_ | (apply aq_block_y; decide) | apply aw_scope | apply aw_label | apply aq_ng_n | apply aq_ng_r | apply aq_ng_x | (apply qr_move; refine r_move ?_) | (apply qr_assign; refine r_assign ?_) | (apply at_cond; first | refine c_t ?_ | refine c_f ?_ | (refine aw_cond rfl (fun hb => ?_) (fun hb => ?_) <;> ((try have hq := dX hb); (try (exfalso; omega))))) | (apply qr_lss; refine r_lss ?_) | (apply qr_len; refine r_len ?_))
    refine oret2 ([(4, strRow k rs)]) (by rfl) rk rk (⟨k, rs, recs_of hsm hpre (hat ▸ hno2), by rw [hat]; rfl, rfl⟩) sb okx
end Go.Proofs.YtfgibalcdjlnhaaGreatDoor
end
section
set_option linter.unusedSimpArgs false
set_option linter.unusedVariables false
namespace Go.Proofs.YtfgibalcdjlnhaaGreatDoor
open Go.RowKit Go.ChangeMaps

/-- A journal. -/
structure JS where
  f : Int
  rs : List ByteArray
  bad : Bool
abbrev jbox (b R kk : Nat) (js : JS) : O := .box 70 [.box b 0, .d (.int js.f), .row R kk, .d (.int (forms js.rs).length), .d (.bool js.bad)]
abbrev jrn (J R kk : Nat) (js : JS) (b m r s k cm cs : Nat) (lm ls : List ME) (st : DS) : Objs := (J, jbox b R kk js) :: (R, strRow kk js.rs) :: dsk b m r s k cm cs lm ls st
structure JS.Ok (js : JS) : Prop where
  f : 0 ≤ js.f ∧ js.f ≤ 15
  small : ∀ t ∈ js.rs, t.size ≤ 20000
  len : (forms js.rs).length ≤ 16777216
theorem JS.Ok.num {js : JS} (h : js.Ok) : js.rs.length ≤ 16777216 := Nat.le_trans (forms_len js.rs h.small) h.len
def syncJ (js : JS) (st : DS) : Int × JS × DS := if js.bad then (7, js, st) else ((syncR st js.f).1, { js with bad := !decide ((syncR st js.f).1 = 0) }, (syncR st js.f).2)
def appJ (js : JS) (st : DS) (s : ByteArray) : Int × JS × DS :=
  if js.bad then (7, js, st) else if 20000 < s.size then (3, js, st) else if 1048576 < (forms js.rs).length + (formB s).size then (6, js, st)
  else if (writeR st js.f (forms js.rs).length (formB s)).1 ≠ 0 then ((writeR st js.f (forms js.rs).length (formB s)).1, { js with bad := true }, (writeR st js.f (forms js.rs).length (formB s)).2)
  else (0, { js with rs := js.rs ++ [s] }, (writeR st js.f (forms js.rs).length (formB s)).2)
section
variable {kk k cm cs : Nat} {lm ls : List ME} {st : DS} {js : JS}
set_option maxHeartbeats 4000000 in
set_option maxRecDepth 20000 in
theorem jlen_any (h : js.Ok) : ObC 31 [.box 1004 0] (jrn 1004 1005 kk js 1000 1001 1002 1003 k cm cs lm ls st) [] (fun x o => x = .d (.int js.rs.length) ∧ o = jrn 1004 1005 kk js 1000 1001 1002 1003 k cm cs lm ls st) := by
  have hn := h.num
  refine ob_enter Tryz.func31 rfl (by decide) _ Tryz.ntmps31 (le_ok rfl) rfl (fun w Pr β κ hE => ?_)
  dsimp only [slotsV, Nat.zero_add, Nat.reduceAdd]
  repeat' (first | refine nx ?_ | (apply qr_move; refine r_move ?_) | (apply qr_assign; refine r_assign ?_) | (apply qr_len; refine r_len ?_) | (apply qr_load; refine r_load ?_) | (apply qr_faddr; refine r_faddr ?_) | (apply qr_nilck; refine r_nilck ?_))
  refine oret1 (jrn 1004 1005 kk js 1000 1001 1002 1003 k cm cs lm ls st) (by rfl) rv (⟨rfl, rfl⟩) sb okx
def getJ (rs : List ByteArray) (i : Int) : ByteArray := if i < 0 then ⟨#[]⟩ else (rs[i.toNat]?).getD ⟨#[]⟩
set_option maxHeartbeats 4000000 in
set_option maxRecDepth 20000 in
theorem jget_any (h : js.Ok) (i : Int) : ObC 32 [.box 1004 0, .d (.int i)] (jrn 1004 1005 kk js 1000 1001 1002 1003 k cm cs lm ls st) [] (fun x o => x = .d (.str (getJ js.rs i)) ∧ o = jrn 1004 1005 kk js 1000 1001 1002 1003 k cm cs lm ls st) := by
  have hn := h.num
  by_cases h0 : i < 0
  · have e : getJ js.rs i = ⟨#[]⟩ := if_pos h0
    rw [e]
    refine ob_enter Tryz.func32 rfl (by decide) _ Tryz.ntmps32 (le_ok rfl) rfl (fun w Pr β κ hE => ?_)
    dsimp only [slotsV, Nat.zero_add, Nat.reduceAdd]
    repeat' (first | refine nx ?_ | (apply qr_move; refine r_move ?_) | (apply qr_assign; refine r_assign ?_) | (apply at_cond; first | refine c_t ?_ | refine c_f ?_ | (refine aw_cond rfl (fun hb => ?_) (fun hb => ?_) <;> ((try have hq := dX hb); (try (exfalso; omega))))) | (apply at_guard; first | refine g_go ?_ | refine g_nt ?_ | refine g_nf ?_ | refine g_nu ?_ | ((first | refine al_split_t rfl rfl (lt_ok rfl) (fun hb => ?_) (fun hb => ?_) | refine al_split_f rfl rfl (lt_ok rfl) (fun hb => ?_) (fun hb => ?_)) <;> ((try have hq := dX hb); (try (exfalso; omega))))) | (apply qr_pick; refine r_pick ?_) | (apply qr_lss; refine r_lss ?_) | (apply qr_geq; refine r_geq ?_) | (apply qr_len; refine r_len ?_) | (apply qr_ix; refine r_ix ?_) | (apply qr_load; refine r_load ?_) | (apply qr_faddr; refine r_faddr ?_) | (apply qr_nilck; refine r_nilck ?_))
    refine oret1 (jrn 1004 1005 kk js 1000 1001 1002 1003 k cm cs lm ls st) (by rfl) rv (⟨rfl, rfl⟩) sb okx
  · obtain ⟨n, rfl⟩ : ∃ n : Nat, i = n := ⟨i.toNat, by omega⟩
    have e : getJ js.rs n = (js.rs[n]?).getD ⟨#[]⟩ := if_neg h0
    rw [e]
    by_cases h1 : n < js.rs.length
    · have hget : (js.rs.map fun t => [D.str t])[n]? = some [D.str js.rs[n]] := by rw [List.getElem?_map, List.getElem?_eq_getElem h1]; rfl
      rw [List.getElem?_eq_getElem h1]
      generalize js.rs[n] = t at hget
      refine ob_enter Tryz.func32 rfl (by decide) _ Tryz.ntmps32 (le_ok rfl) rfl (fun w Pr β κ hE => ?_)
      dsimp only [slotsV, Nat.zero_add, Nat.reduceAdd]
      repeat' (first | (apply at_op (.indexAddr _ _ _); refine al_y (y_ix (by first | exact ToD.d _ | exact ToD.row _ _ _ _ _ rfl) rfl rfl (by first | with_reducible rfl | exact lit0 | exact lit1 | exact lit2 | exact lit3 | exact lit4 | exact int_s _ | exact int_p _ _ | exact int_nat _ (by omega)) hget) (lt_ok rfl) ?_) | refine nx ?_ | (apply qr_move; refine r_move ?_) | (apply qr_assign; refine r_assign ?_) | (apply at_cond; first | refine c_t ?_ | refine c_f ?_ | (refine aw_cond rfl (fun hb => ?_) (fun hb => ?_) <;> ((try have hq := dX hb); (try (exfalso; omega))))) | (apply at_guard; first | refine g_go ?_ | refine g_nt ?_ | refine g_nf ?_ | refine g_nu ?_ | ((first | refine al_split_t rfl rfl (lt_ok rfl) (fun hb => ?_) (fun hb => ?_) | refine al_split_f rfl rfl (lt_ok rfl) (fun hb => ?_) (fun hb => ?_)) <;> ((try have hq := dX hb); (try (exfalso; omega))))) | (apply qr_pick; refine r_pick ?_) | (apply qr_lss; refine r_lss ?_) | (apply qr_geq; refine r_geq ?_) | (apply qr_len; refine r_len ?_) | (apply qr_ix; refine r_ix ?_) | (apply qr_load; refine r_load ?_) | (apply qr_faddr; refine r_faddr ?_) | (apply qr_nilck; refine r_nilck ?_))
      refine oret1 (jrn 1004 1005 kk js 1000 1001 1002 1003 k cm cs lm ls st) (by rfl) rv (⟨rfl, rfl⟩) sb okx
    · rw [List.getElem?_eq_none (by omega)]
      refine ob_enter Tryz.func32 rfl (by decide) _ Tryz.ntmps32 (le_ok rfl) rfl (fun w Pr β κ hE => ?_)
      dsimp only [slotsV, Nat.zero_add, Nat.reduceAdd]
      repeat' (first | refine nx ?_ | (apply qr_move; refine r_move ?_) | (apply qr_assign; refine r_assign ?_) | (apply at_cond; first | refine c_t ?_ | refine c_f ?_ | (refine aw_cond rfl (fun hb => ?_) (fun hb => ?_) <;> ((try have hq := dX hb); (try (exfalso; omega))))) | (apply at_guard; first | refine g_go ?_ | refine g_nt ?_ | refine g_nf ?_ | refine g_nu ?_ | ((first | refine al_split_t rfl rfl (lt_ok rfl) (fun hb => ?_) (fun hb => ?_) | refine al_split_f rfl rfl (lt_ok rfl) (fun hb => ?_) (fun hb => ?_)) <;> ((try have hq := dX hb); (try (exfalso; omega))))) | (apply qr_pick; refine r_pick ?_) | (apply qr_lss; refine r_lss ?_) | (apply qr_geq; refine r_geq ?_) | (apply qr_len; refine r_len ?_) | (apply qr_ix; refine r_ix ?_) | (apply qr_load; refine r_load ?_) | (apply qr_faddr; refine r_faddr ?_) | (apply qr_nilck; refine r_nilck ?_))
      refine oret1 (jrn 1004 1005 kk js 1000 1001 1002 1003 k cm cs lm ls st) (by rfl) rv (⟨rfl, rfl⟩) sb okx
set_option maxHeartbeats 4000000 in
set_option maxRecDepth 20000 in
theorem jall_any (h : js.Ok) : ObC 25 [.box 1004 0] (jrn 1004 1005 kk js 1000 1001 1002 1003 k cm cs lm ls st) [9] (fun x o => x = .row 9 0 ∧ o = (9, strRow 0 js.rs) :: jrn 1004 1005 kk js 1000 1001 1002 1003 k cm cs lm ls st) := by
  have hn := h.num
  have hds : (js.rs.map D.str).map (fun z => [z]) = js.rs.map fun t => [D.str t] := by rw [List.map_map]; rfl
  have h1 : ∀ z ∈ js.rs.map D.str, ∃ v, z = .val v ∧ v.oneCell' = true := fun z hz => by
    obtain ⟨t, _, rfl⟩ := List.mem_map.1 hz
    exact ⟨_, rfl, rfl⟩
  refine ob_enter Tryz.func25 rfl (by decide) _ Tryz.ntmps25 (le_ok rfl) rfl (fun w Pr β κ hE => ?_)
  dsimp only [slotsV, Nat.zero_add, Nat.reduceAdd]
  repeat' (first | (apply at_op (.makeSlice _ _ _); refine al_step (st_mkvec rfl rfl rfl rfl rfl rfl (by omega) (by omega) rfl (lt_ok rfl) (by first | rfl | (simp [noneOf, V.has, V.hasL, O.has, nbeq_def]; done))) rfl ?_) | (apply at_op (.call { callee := .builtin .copy, args := _, argTypes := _ }); refine al_step (st_copyvec (ds := js.rs.map D.str) rfl rfl (by rw [hds]; exact ToD.row _ _ _ _ _ rfl) rfl rfl (by simp) h1 (lt_ok rfl)) rfl ?_; rw [hds]) | refine nx ?_ | (apply qr_move; refine r_move ?_) | (apply qr_assign; refine r_assign ?_) | (apply qr_len; refine r_len ?_) | (apply qr_mkb; refine r_mkb ?_) | (apply qr_load; refine r_load ?_) | (apply qr_faddr; refine r_faddr ?_) | (apply qr_nilck; refine r_nilck ?_))
  refine aq_prot 9 rfl ?_
  refine oret1 ((9, strRow 0 js.rs) :: jrn 1004 1005 kk js 1000 1001 1002 1003 k cm cs lm ls st) (by rfl) rk (⟨rfl, rfl⟩) sb okx
end
end Go.Proofs.YtfgibalcdjlnhaaGreatDoor
end
section
namespace Go.Proofs.YtfgibalcdjlnhaaGreatDoor
open Go.RowKit Go.ChangeMaps

theorem recs_ex (l : List UInt8) : ∃ rs, Recs l rs := by
  generalize hn : l.length = n
  induction n using Nat.strongRecOn generalizing l with
  | _ n ih =>
    by_cases h : NoForm l
    · exact ⟨[], by simp, l, rfl, h⟩
    · obtain ⟨t, ht, hp⟩ : ∃ t : ByteArray, t.size ≤ 20000 ∧ L (formB t) <+: l := by
        apply Classical.byContradiction
        intro hc
        exact h (fun t ht hp => hc ⟨t, ht, hp⟩)
      obtain ⟨q, rfl⟩ := hp
      have hz := formB_size t (by omega)
      rw [List.length_append, L_len] at hn
      obtain ⟨rs, h1, q2, h2, h3⟩ := ih q.length (by omega) q rfl
      refine ⟨t :: rs, fun x hx => ?_, q2, ?_, h3⟩
      · rcases List.mem_cons.1 hx with rfl | hx
        · exact ht
        · exact h1 x hx
      · rw [h2]
        simp [forms]
noncomputable def recsOf (l : List UInt8) : List ByteArray := Classical.choose (recs_ex l)
theorem recsOf_is (l : List UInt8) : Recs l (recsOf l) := Classical.choose_spec (recs_ex l)
theorem Recs.eq {l : List UInt8} {rs : List ByteArray} (h : Recs l rs) : recsOf l = rs := (recsOf_is l).uniq h
theorem Recs.le {l : List UInt8} {rs : List ByteArray} (h : Recs l rs) : (forms rs).length ≤ l.length := by
  obtain ⟨q, h1, _⟩ := h.rest
  rw [h1, List.length_append]
  omega
theorem read_is (s : ByteArray) (hs : s.size ≤ 100000000) : ObC 34 [.d (.str s)] [] [4] (fun x o => ∃ k, x = .tup [.row 4 k, .d (.int (forms (recsOf (L s))).length)] ∧ o = [(4, strRow k (recsOf (L s)))]) :=
  (read_any2 s hs).mono fun x o ⟨k, rs, h1, h2, h3⟩ => by
    rw [h1.eq]
    exact ⟨k, h2, h3⟩
theorem sync_ok {st : DS} {f : Int} (h : (syncR st f).1 = 0) : endsB st = false ∧ mayE (endS st) f = 0 ∧ ¬ 0 < (endS st).lost ∧ (syncR st f).2 = settleS (endS st) f ((endS st).F f).now := by
  unfold syncR at h ⊢
  split at h
  · cases h
  · rename_i h1
    split at h
    · rename_i h2
      exact absurd h h2
    · rename_i h2
      split at h
      · cases h
      · rename_i h3
        have h2 : mayE (endS st) f = 0 := by simpa using h2
        refine ⟨by simpa using h1, h2, h3, ?_⟩
        rw [if_neg h1, if_neg (by simp [h2]), if_neg h3]
theorem sync_read {st : DS} {f : Int} (hok : st.Ok) (h : (syncR st f).1 = 0) : mayE (syncR st f).2 f = 0 ∧ readP (syncR st f).2 f 0 ((syncR st f).2.F f).now.size = (((syncR st f).2.F f).now, 0) ∧ ((syncR st f).2.F f).now.size ≤ 16777216 := by
  obtain ⟨_, h2, _, h4⟩ := sync_ok h
  have h5 : mayE (syncR st f).2 f = 0 := by rw [h4]; exact h2
  have h6 : ((syncR st f).2.F f).now = ((endS st).F f).now := by
    rw [h4]
    unfold settleS
    simp only [upd_same]
  refine ⟨h5, ?_, ?_⟩
  · unfold readP
    rw [if_neg (by simp [h5]), if_neg (by omega)]
    generalize ((syncR st f).2.F f).now = s
    have h1 := Lib.size_eq s
    congr 1
    apply ba_ext
    unfold cutB
    rw [show (min (0 : Int) s.size).toNat = 0 by omega, show (min ((0 : Int) + s.size) s.size).toNat = s.size by omega]
    rw [ext_list, List.take_of_length_le (by omega)]
  · rw [h6]
    exact (endS_ok hok).now f
/-- the machine is up, and no crash is scheduled -/
def Up (st : DS) : Prop := st.down = false ∧ st.armed = 0
theorem Up.ends {st : DS} (h : Up st) : endsB st = false ∧ endS st = st := ⟨by simp [endsB, h.2], by simp [endS, h.2]⟩
theorem Up.may {st : DS} (h : Up st) {f : Int} (hf : 0 ≤ f ∧ f ≤ 15) : mayE st f = 0 := by
  unfold mayE
  rw [h.1, if_neg (by decide), if_neg (by omega)]
noncomputable def openJ (st : DS) (f : Int) : Int × Option JS × DS :=
  if f < 0 ∨ 15 < f then (1, none, st) else if (syncR st f).1 ≠ 0 then ((syncR st f).1, none, (syncR st f).2)
  else if (forms (recsOf (L ((syncR st f).2.F f).now))).length < ((syncR st f).2.F f).now.size then
    if (truncR (syncR st f).2 f (forms (recsOf (L ((syncR st f).2.F f).now))).length).1 ≠ 0 then ((truncR (syncR st f).2 f (forms (recsOf (L ((syncR st f).2.F f).now))).length).1, none, (truncR (syncR st f).2 f (forms (recsOf (L ((syncR st f).2.F f).now))).length).2)
    else (0, some ⟨f, recsOf (L ((syncR st f).2.F f).now), false⟩, (truncR (syncR st f).2 f (forms (recsOf (L ((syncR st f).2.F f).now))).length).2)
  else (0, some ⟨f, recsOf (L ((syncR st f).2.F f).now), false⟩, (syncR st f).2)
/-- what Open leaves: the journal's box 57, its records' row 9 -/
def JOpen (q : Int × Option JS × DS) (x : V) (o : Objs) : Prop := ∃ (s3 kk k cm cs : Nat) (lm ls : List ME), (s3 = 1003 ∨ s3 = 20) ∧ DkOk lm ls q.2.2 ∧
  ((q.2.1 = none ∧ x = .tup [.d (.val (.pointer none)), .d (.int q.1)] ∧ o = dsk 1000 1001 1002 s3 k cm cs lm ls q.2.2) ∨ ∃ js : JS, q.2.1 = some js ∧ js.Ok ∧ x = .tup [.box 57 0, .d (.int q.1)] ∧ o = jrn 57 9 kk js 1000 1001 1002 s3 k cm cs lm ls q.2.2)
section
variable {k cm cs : Nat} {lm ls : List ME} {st : DS}
theorem openJ_none {q : Int × Option JS × DS} {e : Int} {su : DS} (hq : q = (e, none, su)) (h : DkOk lm ls su) {s3 : Nat} (hs : s3 = 1003 ∨ s3 = 20) {x : V} {o : Objs} (hx : x = .tup [.d (.val (.pointer none)), .d (.int e)]) (ho : o = dsk 1000 1001 1002 s3 k cm cs lm ls su) : JOpen q x o := by
  subst hq
  exact ⟨s3, 0, k, cm, cs, lm, ls, hs, h, .inl ⟨rfl, hx, ho⟩⟩
theorem openJ_some {q : Int × Option JS × DS} {js : JS} {su : DS} (hq : q = (0, some js, su)) (hj : js.Ok) (h : DkOk lm ls su) {s3 kk : Nat} (hs : s3 = 1003 ∨ s3 = 20) {x : V} {o : Objs} (hx : x = .tup [.box 57 0, .d (.int 0)]) (ho : o = jrn 57 9 kk js 1000 1001 1002 s3 k cm cs lm ls su) : JOpen q x o := by
  subst hq
  exact ⟨s3, kk, k, cm, cs, lm, ls, hs, h, .inr ⟨js, rfl, hj, hx, ho⟩⟩
end
end Go.Proofs.YtfgibalcdjlnhaaGreatDoor
end
