/-
  The reference's journal: Forms, Records. Conditions: none.
  The reference's disk: what it is; New, Down, Size, may, get, Read, fits, pending, Lose, Start. Conditions: none.
  The reference's disk: Read, fits, pending, set, Put, Arm. Conditions: none.
-/
import Derived.Test.YtfgibalcdjlnhaaGreatDoorMat
section
set_option linter.unusedSimpArgs false
set_option linter.unusedVariables false
namespace Go.Proofs.YtfgibalcdjlnhaaGreatDoor
open Go.RowKit Go.ChangeMaps

abbrev txt (l : List ByteArray) : D := .list 1 (l.map fun t => [D.str t])
theorem forms_take_next {l : List ByteArray} {i : Nat} (h : i < l.length) : B (forms (l.take i)) ++ formB l[i] = B (forms (l.take (i + 1))) := by
  apply ba_ext
  show L (B (forms (l.take i)) ++ formB l[i]) = forms (l.take (i + 1))
  rw [L_app, L_B, List.take_succ_eq_append_getElem h, forms_app]
  simp [forms]
theorem forms_take_len (l : List ByteArray) (i : Nat) : (forms (l.take i)).length ≤ (forms l).length := by
  have h : forms l = forms (l.take i) ++ forms (l.drop i) := by rw [← forms_app, List.take_append_drop]
  rw [h, List.length_append]
  omega
attribute [local irreducible] formB sumB
set_option maxHeartbeats 8000000 in
set_option maxRecDepth 20000 in
theorem rforms_any (l : List ByteArray) (hs : ∀ t ∈ l, t.size ≤ 20000) (hl : (forms l).length ≤ 16777216) : PureC 38 [txt l] (· = .str (B (forms l))) := by
  have hn := forms_len l hs
  refine pure_enter Tryz.func38 rfl (by decide) _ Tryz.ntmps38 (le_ok rfl) (fun w Pr hE => ?_)
  dsimp only [slotsOf, Nat.zero_add, Nat.reduceAdd]
  repeat' (first | refine nx ?_ | (apply aq_block_y; decide) | (apply qr_move; refine r_move ?_) | (apply qr_assign; refine r_assign ?_) | (apply at_cond; first | refine c_t ?_ | refine c_f ?_ | (refine aw_cond rfl (fun hb => ?_) (fun hb => ?_) <;> ((try have hq := dX hb); (try (exfalso; omega))))) | (apply qr_lss; refine r_lss ?_) | (apply qr_add; refine r_add ?_) | (apply qr_len; refine r_len ?_) | (apply qr_ix; refine r_ix ?_) | (apply qr_load; refine r_load ?_))
  refine aw_lp (fun N sl ob => ∃ i : Nat, N = l.length - i ∧ i ≤ l.length ∧ sl = [(4, .d (.int i)), (3, .d (.str (B (forms (l.take i))))), (0, .d (txt l))] ∧ ob = []) (⟨0, rfl, Nat.zero_le _, rfl, rfl⟩) ?_
  rintro N sl ob ⟨i, rfl, hi, rfl, rfl⟩
  by_cases hlt : i < l.length
  · have ht := hs _ (List.getElem_mem hlt)
    have hx := forms_take_next hlt
    have hz := forms_take_len l i
    have hz1 : (B (forms (l.take i))).size = (forms (l.take i)).length := L_len (B (forms (l.take i)))
    have hg : (l.map fun t => [D.str t])[i]? = some [D.str l[i]] := by rw [get_map hlt]
    generalize l[i] = t at ht hx hg
    have hfz := formB_size t (by omega)
    generalize hacc : B (forms (l.take i)) = acc at hx hz1
    have hf := rform_any t (by omega)
    repeat' (first | (apply at_op (.indexAddr _ _ _); refine al_y (y_ix (by first | exact ToD.d _ | exact ToD.row _ _ _ _ _ rfl) rfl rfl (by first | with_reducible rfl | exact lit0 | exact lit1 | exact lit2 | exact lit3 | exact lit4 | exact int_s _ | exact int_p _ _ | exact int_nat _ (by omega)) hg) (lt_ok rfl) ?_) | (apply at_call; refine k_call (hf) hE ?_; rintro _ rfl) | refine nx ?_ | (apply aq_block_y; decide) | (apply qr_move; refine r_move ?_) | (apply qr_assign; refine r_assign ?_) | (apply at_cond; first | refine c_t ?_ | refine c_f ?_ | (refine aw_cond rfl (fun hb => ?_) (fun hb => ?_) <;> ((try have hq := dX hb); (try (exfalso; omega))))) | (apply qr_lss; refine r_lss ?_) | (apply qr_add; refine r_add ?_) | (apply qr_len; refine r_len ?_) | (apply qr_ix; refine r_ix ?_) | (apply qr_load; refine r_load ?_))
    rw [hx]
    refine aq_rd (⟨i + 1, rfl, by omega, rfl, rfl⟩) (by omega)
  · obtain rfl : i = l.length := by omega
    rw [List.take_of_length_le (Nat.le_refl _)]
    repeat' (first | refine nx ?_ | (apply aq_block_y; decide) | (apply qr_move; refine r_move ?_) | (apply qr_assign; refine r_assign ?_) | (apply at_cond; first | refine c_t ?_ | refine c_f ?_ | (refine aw_cond rfl (fun hb => ?_) (fun hb => ?_) <;> ((try have hq := dX hb); (try (exfalso; omega))))) | (apply qr_lss; refine r_lss ?_) | (apply qr_add; refine r_add ?_) | (apply qr_len; refine r_len ?_) | (apply qr_ix; refine r_ix ?_) | (apply qr_load; refine r_load ?_))
    refine ret_one (by rfl) (by first | exact ToD.d _ | exact ToD.row _ _ _ _ _ rfl) ?_
    rfl
/-- what a reading says of the rest -/
theorem read_round (q : ByteArray) : (∀ t r b n r2, textS q false = ⟨t, r, b⟩ → numS r b 59 0 = ⟨n, r2, false⟩ → t.size ≤ 20000 → n = sumB t → L q = L (formB t) ++ L r2) ∧
    (∀ t r b n r2 b2, textS q false = ⟨t, r, b⟩ → numS r b 59 0 = ⟨n, r2, b2⟩ → (b2 = true ∨ 20000 < t.size ∨ n ≠ sumB t) → NoForm (L q)) := by
  constructor
  · intro t r b n r2 h1 h2 _ h4
    have hb : b = false := by
      cases b
      · rfl
      · exfalso
        rcases numS_size r true 59 0 with ⟨h, _⟩ | h
        · rw [h2] at h
          cases h
        · rw [h2] at h
          cases h
    subst hb
    obtain ⟨a1, _⟩ := text_to h1
    obtain ⟨a2, _⟩ := int_to h2
    rw [a1, a2, h4, formB_L, List.append_assoc]
  · intro t r b n r2 b2 h1 h2 h3 u hu hp
    obtain ⟨p, hp⟩ := hp
    obtain ⟨a1, a2⟩ := form_read (l := L q) (by omega) hp.symm
    rw [B_L, h1] at a1
    cases a1
    rw [h2] at a2
    cases a2
    rcases h3 with h3 | h3 | h3
    · cases h3
    · omega
    · exact h3 rfl
attribute [local irreducible] textS numS
set_option maxHeartbeats 16000000 in
set_option maxRecDepth 20000 in
theorem rrecords_any (s : ByteArray) (hs : s.size ≤ 100000000) : PureC 37 [.str s] (· = txt (recsOf (L s))) := by
  have hzl := L_len s
  refine pure_enter Tryz.func37 rfl (by decide) _ Tryz.ntmps37 (le_ok rfl) (fun w Pr hE => ?_)
  dsimp only [slotsOf, Nat.zero_add, Nat.reduceAdd]
  repeat' (first | (apply at_call; refine k_ocall [(5, 20)] (ropen_any s) hE ?_; rintro _ _ ⟨rfl, rfl⟩ <;> (intro _ _ h1 h2; simp only [renEqs, Nat.reduceBEq, renL_app, renL_ds, renL_und] at h1 h2; subst h1 h2)) | refine nx ?_ | (apply aq_block_y; decide) | (apply qr_move; refine r_move ?_) | (apply qr_assign; refine r_assign ?_) | (apply at_cond; first | refine c_t ?_ | refine c_f ?_ | (refine aw_cond rfl (fun hb => ?_) (fun hb => ?_) <;> ((try have hq := dX hb); (try (exfalso; omega))))))
  refine aw_adopt 3 3 9 1 rfl rfl (lt_ok rfl) ?_
  refine aw_lp (fun N sl ob => ∃ (rs : List ByteArray) (k : Nat) (q : ByteArray), N = q.size ∧ (∀ t ∈ rs, t.size ≤ 20000) ∧ L s = forms rs ++ L q ∧ sl = [(4, .box 20 0), (3, .row 3 k), (0, .d (.str s))] ∧ ob = [(3, strRow k rs), (20, .box 94 [.d (.str q), .d (.bool false)])]) (⟨[], 0, s, rfl, by simp, rfl, rfl, rfl⟩) ?_
  rintro N sl ob ⟨rs, k, q, rfl, hsm, hpre, rfl, rfl⟩
  have hle := congrArg List.length hpre
  rw [hzl, List.length_append, L_len] at hle
  have hrl := forms_len rs hsm
  have hno : NoForm (L q) → Recs (L s) rs := fun h => recs_of hsm ⟨_, hpre.symm⟩ (by rw [hpre, List.drop_left]; exact h)
  by_cases hlt : 0 < q.size
  · obtain ⟨l1, l2⟩ := read_round q
    have ht := rtextR_any q false (by omega) (by simp)
    have hsz := text_le0 q false
    have hbad := textS_bad (r := q) (b := false) (by simp)
    generalize textS q false = T at ht hsz l1 l2 hbad
    obtain ⟨t, r, b⟩ := T
    dsimp only at ht hsz hbad
    have hn := rnumR_any r b (by omega)
    have hnz := numS_size r b 59 0
    have l1 := l1 t r b
    have l2 := l2 t r b
    generalize numS r b 59 0 = Nq at hn l1 l2 hnz
    obtain ⟨n, r2, b2⟩ := Nq
    dsimp only at hn hnz
    have l1 := l1 n r2 rfl
    have l2 := l2 n r2 b2 rfl rfl
    have hsum := rsum_any t (by omega)
    cases b2
    · by_cases h1 : 20000 < t.size
      · have hrec := hno (l2 (.inr (.inl h1)))
        clear l1 l2
        repeat' (first | (apply at_call; refine k_ocall [(1000, 20)] (rleft_any q false) hE ?_; rintro _ _ ⟨rfl, rfl⟩ <;> (intro _ _ h1 h2; simp only [renEqs, Nat.reduceBEq, renL_app, renL_ds, renL_und] at h1 h2; subst h1 h2)) | (apply at_call; refine k_ocall [(1000, 20)] (ht) hE ?_; rintro _ _ ⟨rfl, rfl⟩ <;> (intro _ _ h1 h2; simp only [renEqs, Nat.reduceBEq, renL_app, renL_ds, renL_und] at h1 h2; subst h1 h2)) | (apply at_call; refine k_ocall [(1000, 20)] (hn) hE ?_; rintro _ _ ⟨rfl, rfl⟩ <;> (intro _ _ h1 h2; simp only [renEqs, Nat.reduceBEq, renL_app, renL_ds, renL_und] at h1 h2; subst h1 h2)) | (apply at_call; refine k_call (hsum) hE ?_; rintro _ rfl) | refine nx ?_ | (apply aq_block_y; decide) | (apply qr_move; refine r_move ?_) | (apply qr_assign; refine r_assign ?_) | (apply at_cond; first | refine c_t ?_ | refine c_f ?_ | (refine aw_cond rfl (fun hb => ?_) (fun hb => ?_) <;> ((try have hq := dX hb); (try (exfalso; omega))))) | (apply at_guard; first | refine g_go ?_ | refine g_nt ?_ | refine g_nf ?_ | refine g_nu ?_ | ((first | refine al_split_t rfl rfl (lt_ok rfl) (fun hb => ?_) (fun hb => ?_) | refine al_split_f rfl rfl (lt_ok rfl) (fun hb => ?_) (fun hb => ?_)) <;> ((try have hq := dX hb); (try (exfalso; omega))))) | (apply qr_pick; refine r_pick ?_) | (apply qr_gtr; refine r_gtr ?_) | (apply qr_neq; refine r_neq ?_) | (apply qr_len; refine r_len ?_) | (apply qr_load; refine r_load ?_) | (apply qr_faddr; refine r_faddr ?_) | (apply qr_nilck; refine r_nilck ?_) | (apply qr_lits; refine r_lits ?_) | (apply qr_appd; refine r_appd ?_))
        repeat' (first | refine nx ?_ | (apply aq_block_y; decide) | (apply qr_move; refine r_move ?_) | (apply qr_assign; refine r_assign ?_) | (apply at_cond; first | refine c_t ?_ | refine c_f ?_ | (refine aw_cond rfl (fun hb => ?_) (fun hb => ?_) <;> ((try have hq := dX hb); (try (exfalso; omega))))))
        refine ret_one (by rfl) (by first | exact ToD.d _ | exact ToD.row _ _ _ _ _ rfl) ?_
        rw [hrec.eq]
      · by_cases h2 : n = sumB t
        · have q2 : (!decide (n = (sumB t : Int))) = false := by simp [h2]
          have hform := l1 rfl (by omega) h2
          have hr2 : r2.size < r.size := by
            rcases hnz with ⟨_, h⟩ | h
            · exact h
            · cases h
          have hsm2 : ∀ x ∈ rs ++ [t], x.size ≤ 20000 := fun x hx => by
            rcases List.mem_append.1 hx with hx | hx
            · exact hsm x hx
            · simp at hx
              subst hx
              omega
          have hst : L s = forms (rs ++ [t]) ++ L r2 := by
            rw [hpre, hform, forms_app]
            simp [forms]
          clear l1 l2 h2
          repeat' (first | (apply at_call; refine k_ocall [(1000, 20)] (rleft_any q false) hE ?_; rintro _ _ ⟨rfl, rfl⟩ <;> (intro _ _ h1 h2; simp only [renEqs, Nat.reduceBEq, renL_app, renL_ds, renL_und] at h1 h2; subst h1 h2)) | (apply at_call; refine k_ocall [(1000, 20)] (ht) hE ?_; rintro _ _ ⟨rfl, rfl⟩ <;> (intro _ _ h1 h2; simp only [renEqs, Nat.reduceBEq, renL_app, renL_ds, renL_und] at h1 h2; subst h1 h2)) | (apply at_call; refine k_ocall [(1000, 20)] (hn) hE ?_; rintro _ _ ⟨rfl, rfl⟩ <;> (intro _ _ h1 h2; simp only [renEqs, Nat.reduceBEq, renL_app, renL_ds, renL_und] at h1 h2; subst h1 h2)) | (apply at_call; refine k_call (hsum) hE ?_; rintro _ rfl) | refine nx ?_ | (apply aq_block_y; decide) | (apply qr_move; refine r_move ?_) | (apply qr_assign; refine r_assign ?_) | (apply at_cond; first | refine c_t ?_ | refine c_f ?_ | (refine aw_cond rfl (fun hb => ?_) (fun hb => ?_) <;> ((try have hq := dX hb); (try (exfalso; omega))))) | (apply at_guard; first | refine g_go ?_ | refine g_nt ?_ | refine g_nf ?_ | refine g_nu ?_ | ((first | refine al_split_t rfl rfl (lt_ok rfl) (fun hb => ?_) (fun hb => ?_) | refine al_split_f rfl rfl (lt_ok rfl) (fun hb => ?_) (fun hb => ?_)) <;> ((try have hq := dX hb); (try (exfalso; omega))))) | (apply qr_pick; refine r_pick ?_) | (apply qr_gtr; refine r_gtr ?_) | (apply qr_neq; refine r_neq ?_) | (apply qr_len; refine r_len ?_) | (apply qr_load; refine r_load ?_) | (apply qr_faddr; refine r_faddr ?_) | (apply qr_nilck; refine r_nilck ?_) | (apply qr_lits; refine r_lits ?_) | (apply qr_appd; refine r_appd ?_))
          rw [show (rs.map fun t => [D.str t]) ++ [[D.str t]] = (rs ++ [t]).map fun t => [D.str t] by rw [List.map_append]; rfl]
          refine aq_rd (⟨rs ++ [t], k + 1, r2, rfl, hsm2, hst, rfl, rfl⟩) (by omega)
        · have q2 : (!decide (n = (sumB t : Int))) = true := by simp [h2]
          have hrec := hno (l2 (.inr (.inr h2)))
          clear l1 l2 h2
          repeat' (first | (apply at_call; refine k_ocall [(1000, 20)] (rleft_any q false) hE ?_; rintro _ _ ⟨rfl, rfl⟩ <;> (intro _ _ h1 h2; simp only [renEqs, Nat.reduceBEq, renL_app, renL_ds, renL_und] at h1 h2; subst h1 h2)) | (apply at_call; refine k_ocall [(1000, 20)] (ht) hE ?_; rintro _ _ ⟨rfl, rfl⟩ <;> (intro _ _ h1 h2; simp only [renEqs, Nat.reduceBEq, renL_app, renL_ds, renL_und] at h1 h2; subst h1 h2)) | (apply at_call; refine k_ocall [(1000, 20)] (hn) hE ?_; rintro _ _ ⟨rfl, rfl⟩ <;> (intro _ _ h1 h2; simp only [renEqs, Nat.reduceBEq, renL_app, renL_ds, renL_und] at h1 h2; subst h1 h2)) | (apply at_call; refine k_call (hsum) hE ?_; rintro _ rfl) | refine nx ?_ | (apply aq_block_y; decide) | (apply qr_move; refine r_move ?_) | (apply qr_assign; refine r_assign ?_) | (apply at_cond; first | refine c_t ?_ | refine c_f ?_ | (refine aw_cond rfl (fun hb => ?_) (fun hb => ?_) <;> ((try have hq := dX hb); (try (exfalso; omega))))) | (apply at_guard; first | refine g_go ?_ | refine g_nt ?_ | refine g_nf ?_ | refine g_nu ?_ | ((first | refine al_split_t rfl rfl (lt_ok rfl) (fun hb => ?_) (fun hb => ?_) | refine al_split_f rfl rfl (lt_ok rfl) (fun hb => ?_) (fun hb => ?_)) <;> ((try have hq := dX hb); (try (exfalso; omega))))) | (apply qr_pick; refine r_pick ?_) | (apply qr_gtr; refine r_gtr ?_) | (apply qr_neq; refine r_neq ?_) | (apply qr_len; refine r_len ?_) | (apply qr_load; refine r_load ?_) | (apply qr_faddr; refine r_faddr ?_) | (apply qr_nilck; refine r_nilck ?_) | (apply qr_lits; refine r_lits ?_) | (apply qr_appd; refine r_appd ?_))
          repeat' (first | refine nx ?_ | (apply aq_block_y; decide) | (apply qr_move; refine r_move ?_) | (apply qr_assign; refine r_assign ?_) | (apply at_cond; first | refine c_t ?_ | refine c_f ?_ | (refine aw_cond rfl (fun hb => ?_) (fun hb => ?_) <;> ((try have hq := dX hb); (try (exfalso; omega))))))
          refine ret_one (by rfl) (by first | exact ToD.d _ | exact ToD.row _ _ _ _ _ rfl) ?_
          rw [hrec.eq]
    · have hrec := hno (l2 (.inl rfl))
      clear l1 l2
      repeat' (first | (apply at_call; refine k_ocall [(1000, 20)] (rleft_any q false) hE ?_; rintro _ _ ⟨rfl, rfl⟩ <;> (intro _ _ h1 h2; simp only [renEqs, Nat.reduceBEq, renL_app, renL_ds, renL_und] at h1 h2; subst h1 h2)) | (apply at_call; refine k_ocall [(1000, 20)] (ht) hE ?_; rintro _ _ ⟨rfl, rfl⟩ <;> (intro _ _ h1 h2; simp only [renEqs, Nat.reduceBEq, renL_app, renL_ds, renL_und] at h1 h2; subst h1 h2)) | (apply at_call; refine k_ocall [(1000, 20)] (hn) hE ?_; rintro _ _ ⟨rfl, rfl⟩ <;> (intro _ _ h1 h2; simp only [renEqs, Nat.reduceBEq, renL_app, renL_ds, renL_und] at h1 h2; subst h1 h2)) | (apply at_call; refine k_call (hsum) hE ?_; rintro _ rfl) | refine nx ?_ | (apply aq_block_y; decide) | (apply qr_move; refine r_move ?_) | (apply qr_assign; refine r_assign ?_) | (apply at_cond; first | refine c_t ?_ | refine c_f ?_ | (refine aw_cond rfl (fun hb => ?_) (fun hb => ?_) <;> ((try have hq := dX hb); (try (exfalso; omega))))) | (apply at_guard; first | refine g_go ?_ | refine g_nt ?_ | refine g_nf ?_ | refine g_nu ?_ | ((first | refine al_split_t rfl rfl (lt_ok rfl) (fun hb => ?_) (fun hb => ?_) | refine al_split_f rfl rfl (lt_ok rfl) (fun hb => ?_) (fun hb => ?_)) <;> ((try have hq := dX hb); (try (exfalso; omega))))) | (apply qr_pick; refine r_pick ?_) | (apply qr_gtr; refine r_gtr ?_) | (apply qr_neq; refine r_neq ?_) | (apply qr_len; refine r_len ?_) | (apply qr_load; refine r_load ?_) | (apply qr_faddr; refine r_faddr ?_) | (apply qr_nilck; refine r_nilck ?_) | (apply qr_lits; refine r_lits ?_) | (apply qr_appd; refine r_appd ?_))
      repeat' (first | refine nx ?_ | (apply aq_block_y; decide) | (apply qr_move; refine r_move ?_) | (apply qr_assign; refine r_assign ?_) | (apply at_cond; first | refine c_t ?_ | refine c_f ?_ | (refine aw_cond rfl (fun hb => ?_) (fun hb => ?_) <;> ((try have hq := dX hb); (try (exfalso; omega))))))
      refine ret_one (by rfl) (by first | exact ToD.d _ | exact ToD.row _ _ _ _ _ rfl) ?_
      rw [hrec.eq]
  · have hq0 : q.size = 0 := by omega
    have hrec := hno (by rw [show L q = [] from List.eq_nil_of_length_eq_zero (by rw [L_len]; exact hq0)]; exact noform_nil)
    repeat' (first | (apply at_call; refine k_ocall [(1000, 20)] (rleft_any q false) hE ?_; rintro _ _ ⟨rfl, rfl⟩ <;> (intro _ _ h1 h2; simp only [renEqs, Nat.reduceBEq, renL_app, renL_ds, renL_und] at h1 h2; subst h1 h2)) | refine nx ?_ | (apply aq_block_y; decide) | (apply qr_move; refine r_move ?_) | (apply qr_assign; refine r_assign ?_) | (apply at_cond; first | refine c_t ?_ | refine c_f ?_ | (refine aw_cond rfl (fun hb => ?_) (fun hb => ?_) <;> ((try have hq := dX hb); (try (exfalso; omega))))) | (apply qr_gtr; refine r_gtr ?_))
    refine ret_one (by rfl) (by first | exact ToD.d _ | exact ToD.row _ _ _ _ _ rfl) ?_
    rw [hrec.eq]
end Go.Proofs.YtfgibalcdjlnhaaGreatDoor
end
section
set_option linter.unusedSimpArgs false
set_option linter.unusedVariables false
namespace Go.Proofs.YtfgibalcdjlnhaaGreatDoor
open Go.RowKit Go.ChangeMaps

/-- a slot that holds a row may be read as a list -/
theorem al_list {E : Entry} {sl : Slots} {ob : Objs} {ops : Array Oper} {rest : List Oper} {Q : Exit → Go.Act → World → Prop} (j : Nat) {d : D} (hd : ToD ob (look sl j) d) (h : AL E ops rest Q ((j, .d d) :: sl) ob) : AL E ops rest Q sl ob := ⟨fun a w ⟨Pr, β, κ, hg⟩ => h.run a w ⟨Pr, β, κ, ⟨hg.below, hg.st0, hg.pr0, hg.prn, hg.prl, hg.size, hg.defers, fun q => by
  by_cases hq : q = j
  · subst hq
    rw [look_eq]
    exact .d _ _ (toD_rep hg hd _ (hg.slots q))
  · rw [look_ne hq]
    exact hg.slots q, hg.objs, hg.apart, hg.own, hg.keeps, hg.fresh⟩⟩⟩
/-- A box's cell holds a row that bears another name: it bears the old one, in its next version. -/
theorem Good.rebind {E : Entry} {sl : Slots} {ob : Objs} {a : Go.Act} {w : World} {Pr : Prot} {β : Nat → Value} {κ : Nat → Nat} (h : Good E sl ob a w Pr β κ) {i j r X e s e' s' k kx : Nat} {T : TypeId} {l : List V} {L L' : List (List D)} (hf : find ob i = some (.box T l)) (hj : l[j]? = some (.row X kx)) (hX : find ob X = some (.row e s kx L')) (hr : find ob r = some (.row e' s' k L)) (hne : X ≠ r) :
    Inv E sl ((i, .box T (l.set j (.row r (k + 1)))) :: (r, .row e s (k + 1) L') :: dropK [X] ob) a w := by
  obtain ⟨hκX, xs, hown, hls, hd, hpr⟩ := h.objs X _ hX
  obtain ⟨hκ, _, hownr, _⟩ := h.objs r _ hr
  have hir : i ≠ r := by rintro rfl; rw [hf] at hr; cases hr
  have hiX : i ≠ X := by rintro rfl; rw [hf] at hX; cases hX
  have h0 : Good E sl (dropK [X] ob) a w Pr β κ := ⟨h.below, h.st0, h.pr0, h.prn, h.prl, h.size, h.defers, h.slots, fun m o hm => h.objs m o (find_dropK hm).2, fun m n om on g h1 h2 => h.apart m n om on g (find_dropK h1).2 (find_dropK h2).2, fun m o g hm => h.own m o g (find_dropK hm).2, h.keeps, h.fresh⟩
  have hG := h0.verup (r := r) (k := k) (v' := β X) (o' := .row e s (k + 1) L') hκ (own_slice hownr) (fun g hg => h.own X _ g hX hg) (fun n on g hn hnr hg hgX => by
    obtain ⟨n1, n2⟩ := find_dropK hn
    have := h.apart n X _ _ g n2 hX hg hgX
    exact n1 (by simp [this])) ⟨updN_same _ _ _, xs, by rw [updV_same]; exact hown, hls, hd, fun g hg => by rw [updV_same] at hg; exact hpr g hg⟩
  have hf' : find ((r, O.row e s (k + 1) L') :: dropK [X] ob) i = some (.box T l) := by rw [find_ne hir]; exact find_drop1 hiX hf
  refine ⟨_, _, _, hG.swap hf' ?_⟩
  obtain ⟨g, cs, q1, q2, q3, q4, q5, q6⟩ := hG.objs i _ hf'
  refine ⟨g, cs, q1, q2, q3, by simp [q4], fun n v x hn hx => ?_, q6⟩
  by_cases hnj : j = n
  · subst hnj
    have hlt := (List.getElem?_eq_some_iff.1 hj).1
    rw [List.getElem?_set_self hlt] at hx
    cases hx
    have hv := (q5 j v _ hn hj).row_inv (by rw [updN_other κ r (k + 1) X hne]; exact hκX.symm)
    rw [updV_other β r (β X) X hne] at hv
    exact .row r (k + 1) _ (by rw [hv]; exact own_slice hown) (by rw [updN_same]; exact Nat.le_refl _) (fun _ => by rw [hv, updV_same])
  · rw [List.getElem?_set_ne hnj] at hx
    exact q5 n v x hn hx
theorem aq_rebind {E : Entry} {sl : Slots} {ob : Objs} {x : Exit} {Q : Exit → Go.Act → World → Prop} (i j r X : Nat) {e s e' s' k kx : Nat} {T : TypeId} {l l' : List V} {L L' : List (List D)} (hf : find ob i = some (.box T l)) (hj : l[j]? = some (.row X kx)) (hX : find ob X = some (.row e s kx L')) (hr : find ob r = some (.row e' s' k L)) (hne : X ≠ r) (hl : l.set j (.row r (k + 1)) = l')
    (h : AQ E x Q sl ((i, .box T l') :: (r, .row e s (k + 1) L') :: dropK [X] ob)) : AQ E x Q sl ob := by
  subst hl
  exact ⟨fun a w ⟨_, _, _, hg⟩ => h.run a w (hg.rebind hf hj hX hr hne)⟩
theorem aq_protect {E : Entry} {sl : Slots} {ob : Objs} {x : Exit} {Q : Exit → Go.Act → World → Prop} (r : Nat) {e s k : Nat} {l : List (List D)} (hf : find ob r = some (.vec e s k l)) (h : AQ E x Q sl ((r, .row e s k l) :: ob)) : AQ E x Q sl ob := ⟨fun a w ⟨_, _, _, hg⟩ => h.run a w (hg.protect hf)⟩
/-- A file of the reference. -/
abbrev RFile := Int × Fl
def rfC (x : RFile) : List D := [.int x.1, .str x.2.now, .str x.2.last]
def rget : List RFile → Int → Fl
  | [], _ => nofile
  | x :: l, f => if x.1 = f then x.2 else rget l f
abbrev rskBox (r k : Nat) (fs : List RFile) (st : DS) : O := .box 64 [.d (.list 3 (fs.map rfC)), .row r k, .d (.int st.lost), .d (.bool st.down), .d (.int st.armed), .d (keepD st.keep)]
abbrev rsecRow (k : Nat) (Q : List Sec) : O := .row 82 2 k (Q.map secC)
abbrev rsk (b r k : Nat) (fs : List RFile) (st : DS) : Objs := [(b, rskBox r k fs st), (r, rsecRow k st.Q)]
structure RkOk (fs : List RFile) (st : DS) : Prop where
  get : ∀ f, rget fs f = st.F f
  nodup : (fs.map Prod.fst).Nodup
  num : ∀ x ∈ fs, 0 ≤ x.1 ∧ x.1 < 16
  ok : st.Ok
theorem files_len {fs : List RFile} (h1 : (fs.map Prod.fst).Nodup) (h2 : ∀ x ∈ fs, 0 ≤ x.1 ∧ x.1 < 16) : fs.length ≤ 16 := by
  have h3 : (fs.map fun x => x.1.toNat).Nodup := by
    refine (List.pairwise_map).2 ?_
    refine List.Pairwise.imp_of_mem ?_ (List.pairwise_map.1 h1)
    intro a b ha hb hne e
    have := h2 a ha
    have := h2 b hb
    exact hne (by omega)
  have := nodup_nats 16 _ h3 (fun x hx => by
    obtain ⟨p, hp, rfl⟩ := List.mem_map.1 hx
    have := h2 p hp
    omega)
  simpa using this
theorem RkOk.len {fs : List RFile} {st : DS} (h : RkOk fs st) : fs.length ≤ 16 := files_len h.nodup h.num
theorem DS.new_rk : RkOk [] DS.new := ⟨fun _ => rfl, by simp, by simp, DS.new_ok.ok⟩
set_option maxHeartbeats 4000000 in
set_option maxRecDepth 20000 in
theorem rnew_any : ObC 7 [] [] [2, 1] (fun x o => x = .box 2 0 ∧ o = rsk 2 1 0 [] DS.new) := by
  refine ob_enter Tryz.func7 rfl (by decide) _ Tryz.ntmps7 (le_ok rfl) rfl (fun w Pr β κ hE => ?_)
  dsimp only [slotsV, Nat.zero_add, Nat.reduceAdd]
  repeat' (first | (apply at_op (.build _ _); refine al_y (y_buildS rfl (by repeat (first | exact PartsS.nil | (apply PartsS.cons; rfl; constructor; rfl))) rfl rfl) (lt_ok rfl) ?_) | (apply at_op (.box _ _); refine al_step (st_box (ev_agg rfl) nofun (by first | (simp only [normV, normList, normMap]; rfl) | rfl) (lt_ok rfl) rfl rfl) rfl ?_) | refine nx ?_ | (apply qr_assign; refine r_assign ?_) | (apply qr_boxed; refine r_boxed ?_) | (apply qr_build; refine r_build ?_))
  refine aq_adoptb 2 1 1 82 2 rfl rfl rfl (lt_ok rfl) rfl rfl ?_
  refine aq_nilcell 2 0 3 rfl rfl rfl ?_
  refine aq_nilcell 2 5 1 rfl rfl rfl ?_
  refine oret1 (rsk 2 1 0 [] DS.new) (by rfl) rv (⟨rfl, rfl⟩) sb okx
section
variable {k : Nat} {fs : List RFile} {st : DS}
set_option maxHeartbeats 4000000 in
set_option maxRecDepth 20000 in
theorem rstart_any : ObC 23 [.box 1000 0] (rsk 1000 1001 k fs st) [] (fun x o => x = .tup [] ∧ o = rsk 1000 1001 k fs { st with down := false }) := by
  refine ob_enter Tryz.func23 rfl (by decide) _ Tryz.ntmps23 (le_ok rfl) rfl (fun w Pr β κ hE => ?_)
  dsimp only [slotsV, Nat.zero_add, Nat.reduceAdd]
  repeat' (first | refine nx ?_ | (apply qr_move; refine r_move ?_) | (apply qr_faddr; refine r_faddr ?_) | (apply qr_nilck; refine r_nilck ?_) | (apply qr_store; refine r_store ?_))
  try refine aq_end ?_
  refine oret0 (rsk 1000 1001 k fs { st with down := false }) (by rfl) (⟨rfl, rfl⟩) sb okx
set_option maxHeartbeats 4000000 in
set_option maxRecDepth 20000 in
theorem rlose_any (n : Int) : ObC 17 [.box 1000 0, .d (.int n)] (rsk 1000 1001 k fs st) [] (fun x o => x = .tup [] ∧ o = rsk 1000 1001 k fs { st with lost := max n 0 }) := by
  refine ob_enter Tryz.func17 rfl (by decide) _ Tryz.ntmps17 (le_ok rfl) rfl (fun w Pr β κ hE => ?_)
  dsimp only [slotsV, Nat.zero_add, Nat.reduceAdd]
  repeat' (first | refine nx ?_ | (apply qr_move; refine r_move ?_) | (apply qr_max; refine r_max ?_) | (apply qr_faddr; refine r_faddr ?_) | (apply qr_nilck; refine r_nilck ?_) | (apply qr_store; refine r_store ?_))
  try refine aq_end ?_
  refine oret0 (rsk 1000 1001 k fs { st with lost := max n 0 }) (by rfl) (⟨rfl, rfl⟩) sb okx
set_option maxHeartbeats 4000000 in
set_option maxRecDepth 20000 in
theorem rmay_any (f : Int) : ObC 47 [.box 1000 0, .d (.int f)] (rsk 1000 1001 k fs st) [] (fun x o => x = .d (.int (mayE st f)) ∧ o = rsk 1000 1001 k fs st) := by
  cases hdn : st.down
  · by_cases h1 : f < 0
    · skip
      refine ob_enter Tryz.func47 rfl (by decide) _ Tryz.ntmps47 (le_ok rfl) rfl (fun w Pr β κ hE => ?_)
      dsimp only [slotsV, Nat.zero_add, Nat.reduceAdd]
      repeat' (first | refine nx ?_ | (apply qr_move; refine r_move ?_) | (apply qr_assign; refine r_assign ?_) | (apply at_cond; first | refine c_t ?_ | refine c_f ?_ | (refine aw_cond rfl (fun hb => ?_) (fun hb => ?_) <;> ((try have hq := dX hb); (try (exfalso; omega))))) | (apply at_guard; first | refine g_go ?_ | refine g_nt ?_ | refine g_nf ?_ | refine g_nu ?_ | ((first | refine al_split_t rfl rfl (lt_ok rfl) (fun hb => ?_) (fun hb => ?_) | refine al_split_f rfl rfl (lt_ok rfl) (fun hb => ?_) (fun hb => ?_)) <;> ((try have hq := dX hb); (try (exfalso; omega))))) | (apply qr_pick; refine r_pick ?_) | (apply qr_lss; refine r_lss ?_) | (apply qr_gtr; refine r_gtr ?_) | (apply qr_load; refine r_load ?_) | (apply qr_faddr; refine r_faddr ?_) | (apply qr_nilck; refine r_nilck ?_))
      refine oret1 (rsk 1000 1001 k fs st) (by rfl) rv (⟨by simp [mayE, hdn, h1], rfl⟩) sb okx
    · by_cases h2 : 15 < f
      · have h3 : 16 ≤ f := h2
        refine ob_enter Tryz.func47 rfl (by decide) _ Tryz.ntmps47 (le_ok rfl) rfl (fun w Pr β κ hE => ?_)
        dsimp only [slotsV, Nat.zero_add, Nat.reduceAdd]
        repeat' (first | refine nx ?_ | (apply qr_move; refine r_move ?_) | (apply qr_assign; refine r_assign ?_) | (apply at_cond; first | refine c_t ?_ | refine c_f ?_ | (refine aw_cond rfl (fun hb => ?_) (fun hb => ?_) <;> ((try have hq := dX hb); (try (exfalso; omega))))) | (apply at_guard; first | refine g_go ?_ | refine g_nt ?_ | refine g_nf ?_ | refine g_nu ?_ | ((first | refine al_split_t rfl rfl (lt_ok rfl) (fun hb => ?_) (fun hb => ?_) | refine al_split_f rfl rfl (lt_ok rfl) (fun hb => ?_) (fun hb => ?_)) <;> ((try have hq := dX hb); (try (exfalso; omega))))) | (apply qr_pick; refine r_pick ?_) | (apply qr_lss; refine r_lss ?_) | (apply qr_gtr; refine r_gtr ?_) | (apply qr_load; refine r_load ?_) | (apply qr_faddr; refine r_faddr ?_) | (apply qr_nilck; refine r_nilck ?_))
        refine oret1 (rsk 1000 1001 k fs st) (by rfl) rv (⟨by simp [mayE, hdn, h3], rfl⟩) sb okx
      · have h3 : ¬ 16 ≤ f := by omega
        refine ob_enter Tryz.func47 rfl (by decide) _ Tryz.ntmps47 (le_ok rfl) rfl (fun w Pr β κ hE => ?_)
        dsimp only [slotsV, Nat.zero_add, Nat.reduceAdd]
        repeat' (first | refine nx ?_ | (apply qr_move; refine r_move ?_) | (apply qr_assign; refine r_assign ?_) | (apply at_cond; first | refine c_t ?_ | refine c_f ?_ | (refine aw_cond rfl (fun hb => ?_) (fun hb => ?_) <;> ((try have hq := dX hb); (try (exfalso; omega))))) | (apply at_guard; first | refine g_go ?_ | refine g_nt ?_ | refine g_nf ?_ | refine g_nu ?_ | ((first | refine al_split_t rfl rfl (lt_ok rfl) (fun hb => ?_) (fun hb => ?_) | refine al_split_f rfl rfl (lt_ok rfl) (fun hb => ?_) (fun hb => ?_)) <;> ((try have hq := dX hb); (try (exfalso; omega))))) | (apply qr_pick; refine r_pick ?_) | (apply qr_lss; refine r_lss ?_) | (apply qr_gtr; refine r_gtr ?_) | (apply qr_load; refine r_load ?_) | (apply qr_faddr; refine r_faddr ?_) | (apply qr_nilck; refine r_nilck ?_))
        refine oret1 (rsk 1000 1001 k fs st) (by rfl) rv (⟨by simp [mayE, hdn, h1, h3], rfl⟩) sb okx
  · skip
    refine ob_enter Tryz.func47 rfl (by decide) _ Tryz.ntmps47 (le_ok rfl) rfl (fun w Pr β κ hE => ?_)
    dsimp only [slotsV, Nat.zero_add, Nat.reduceAdd]
    repeat' (first | refine nx ?_ | (apply qr_move; refine r_move ?_) | (apply qr_assign; refine r_assign ?_) | (apply at_cond; first | refine c_t ?_ | refine c_f ?_ | (refine aw_cond rfl (fun hb => ?_) (fun hb => ?_) <;> ((try have hq := dX hb); (try (exfalso; omega))))) | (apply at_guard; first | refine g_go ?_ | refine g_nt ?_ | refine g_nf ?_ | refine g_nu ?_ | ((first | refine al_split_t rfl rfl (lt_ok rfl) (fun hb => ?_) (fun hb => ?_) | refine al_split_f rfl rfl (lt_ok rfl) (fun hb => ?_) (fun hb => ?_)) <;> ((try have hq := dX hb); (try (exfalso; omega))))) | (apply qr_pick; refine r_pick ?_) | (apply qr_lss; refine r_lss ?_) | (apply qr_gtr; refine r_gtr ?_) | (apply qr_load; refine r_load ?_) | (apply qr_faddr; refine r_faddr ?_) | (apply qr_nilck; refine r_nilck ?_))
    refine oret1 (rsk 1000 1001 k fs st) (by rfl) rv (⟨by simp [mayE, hdn], rfl⟩) sb okx
abbrev rfD (f : Int) (x : Fl) : D := .agg [.int f, .str x.now, .str x.last]
set_option maxHeartbeats 8000000 in
set_option maxRecDepth 20000 in
theorem rget_any (h : RkOk fs st) (f : Int) : ObC 48 [.box 1000 0, .d (.int f)] (rsk 1000 1001 k fs st) [] (fun x o => x = .d (rfD f (st.F f)) ∧ o = rsk 1000 1001 k fs st) := by
  have hlen := h.len
  have hg0 := h.get f
  refine ob_enter Tryz.func48 rfl (by decide) _ Tryz.ntmps48 (le_ok rfl) rfl (fun w Pr β κ hE => ?_)
  dsimp only [slotsV, Nat.zero_add, Nat.reduceAdd]
  repeat' (first | refine nx ?_ | (apply aq_block_y; decide) | (apply qr_move; refine r_move ?_) | (apply qr_assign; refine r_assign ?_) | (apply at_cond; first | refine c_t ?_ | refine c_f ?_ | (refine aw_cond rfl (fun hb => ?_) (fun hb => ?_) <;> ((try have hq := dX hb); (try (exfalso; omega))))) | (apply qr_lss; refine r_lss ?_) | (apply qr_eql; refine r_eql ?_) | (apply qr_add; refine r_add ?_) | (apply qr_len; refine r_len ?_) | (apply qr_ix; refine r_ix ?_) | (apply qr_load; refine r_load ?_) | (apply qr_faddr; refine r_faddr ?_) | (apply qr_nilck; refine r_nilck ?_) | (apply qr_alloc; refine r_alloc ?_) | (apply qr_store; refine r_store ?_) | (apply qr_build; refine r_build ?_))
  refine aw_lp (fun N sl ob => ∃ i : Nat, N = fs.length - i ∧ i ≤ fs.length ∧ rget (fs.drop i) f = st.F f ∧ sl = [(5, .d (.int i)), (4, .box 4 0), (0, .box 1000 0), (1, .d (.int f))] ∧ ob = (4, .box 84 [.d (.int 0), .d (.str ⟨#[]⟩), .d (.str ⟨#[]⟩)]) :: rsk 1000 1001 k fs st) (⟨0, rfl, Nat.zero_le _, hg0, rfl, rfl⟩) ?_
  rintro N sl ob ⟨i, rfl, hi, hg, rfl, rfl⟩
  by_cases hlt : i < fs.length
  · rw [List.drop_eq_getElem_cons hlt] at hg
    have hget : (fs.map rfC)[i]? = some (rfC fs[i]) := get_map hlt
    generalize fs[i] = x at hg hget
    obtain ⟨n, y⟩ := x
    unfold rget at hg
    have hget : (fs.map rfC)[i]? = some [D.int n, .str y.now, .str y.last] := hget
    by_cases hn : n = f
    · subst hn
      rw [if_pos rfl] at hg
      have hg : y = st.F n := hg
      subst hg
      repeat' (first | (apply at_op (.indexAddr _ _ _); refine al_y (y_ix (by first | exact ToD.d _ | exact ToD.row _ _ _ _ _ rfl) rfl rfl (by first | with_reducible rfl | exact lit0 | exact lit1 | exact lit2 | exact lit3 | exact lit4 | exact int_s _ | exact int_p _ _ | exact int_nat _ (by omega)) hget) (lt_ok rfl) ?_) | refine nx ?_ | (apply aq_block_y; decide) | (apply qr_move; refine r_move ?_) | (apply qr_assign; refine r_assign ?_) | (apply at_cond; first | refine c_t ?_ | refine c_f ?_ | (refine aw_cond rfl (fun hb => ?_) (fun hb => ?_) <;> ((try have hq := dX hb); (try (exfalso; omega))))) | (apply qr_lss; refine r_lss ?_) | (apply qr_eql; refine r_eql ?_) | (apply qr_add; refine r_add ?_) | (apply qr_len; refine r_len ?_) | (apply qr_ix; refine r_ix ?_) | (apply qr_load; refine r_load ?_) | (apply qr_faddr; refine r_faddr ?_) | (apply qr_nilck; refine r_nilck ?_) | (apply qr_alloc; refine r_alloc ?_) | (apply qr_store; refine r_store ?_) | (apply qr_build; refine r_build ?_))
      refine oret1 (rsk 1000 1001 k fs st) (by rfl) rv (⟨rfl, rfl⟩) sb okx
    · rw [if_neg hn] at hg
      have hq : decide (n = f) = false := decide_eq_false hn
      repeat' (first | (apply at_op (.indexAddr _ _ _); refine al_y (y_ix (by first | exact ToD.d _ | exact ToD.row _ _ _ _ _ rfl) rfl rfl (by first | with_reducible rfl | exact lit0 | exact lit1 | exact lit2 | exact lit3 | exact lit4 | exact int_s _ | exact int_p _ _ | exact int_nat _ (by omega)) hget) (lt_ok rfl) ?_) | refine nx ?_ | (apply aq_block_y; decide) | (apply qr_move; refine r_move ?_) | (apply qr_assign; refine r_assign ?_) | (apply at_cond; first | refine c_t ?_ | refine c_f ?_ | (refine aw_cond rfl (fun hb => ?_) (fun hb => ?_) <;> ((try have hq := dX hb); (try (exfalso; omega))))) | (apply qr_lss; refine r_lss ?_) | (apply qr_eql; refine r_eql ?_) | (apply qr_add; refine r_add ?_) | (apply qr_len; refine r_len ?_) | (apply qr_ix; refine r_ix ?_) | (apply qr_load; refine r_load ?_) | (apply qr_faddr; refine r_faddr ?_) | (apply qr_nilck; refine r_nilck ?_) | (apply qr_alloc; refine r_alloc ?_) | (apply qr_store; refine r_store ?_) | (apply qr_build; refine r_build ?_))
      refine aq_rd (⟨i + 1, rfl, by omega, hg, rfl, rfl⟩) (by omega)
  · rw [List.drop_of_length_le (by omega)] at hg
    have hg : nofile = st.F f := hg
    rw [← hg]
    repeat' (first | refine nx ?_ | (apply aq_block_y; decide) | (apply qr_move; refine r_move ?_) | (apply qr_assign; refine r_assign ?_) | (apply at_cond; first | refine c_t ?_ | refine c_f ?_ | (refine aw_cond rfl (fun hb => ?_) (fun hb => ?_) <;> ((try have hq := dX hb); (try (exfalso; omega))))) | (apply qr_lss; refine r_lss ?_) | (apply qr_eql; refine r_eql ?_) | (apply qr_add; refine r_add ?_) | (apply qr_len; refine r_len ?_) | (apply qr_ix; refine r_ix ?_) | (apply qr_load; refine r_load ?_) | (apply qr_faddr; refine r_faddr ?_) | (apply qr_nilck; refine r_nilck ?_) | (apply qr_alloc; refine r_alloc ?_) | (apply qr_store; refine r_store ?_) | (apply qr_build; refine r_build ?_))
    refine oret1 (rsk 1000 1001 k fs st) (by rfl) rv (⟨rfl, rfl⟩) sb okx
set_option maxHeartbeats 4000000 in
set_option maxRecDepth 20000 in
theorem rsize_any (h : RkOk fs st) (f : Int) : ObC 29 [.box 1000 0, .d (.int f)] (rsk 1000 1001 k fs st) [] (fun x o => x = .d (.int (st.F f).now.size) ∧ o = rsk 1000 1001 k fs st) := by
  have hg := rget_any (k := k) h f
  refine ob_enter Tryz.func29 rfl (by decide) _ Tryz.ntmps29 (le_ok rfl) rfl (fun w Pr β κ hE => ?_)
  dsimp only [slotsV, Nat.zero_add, Nat.reduceAdd]
  repeat' (first | (apply at_call; refine k_ocall [(1000, 1000), (1001, 1001)] (hg) hE ?_; rintro _ _ ⟨rfl, rfl⟩ <;> (intro _ _ h1 h2; simp only [renEqs, Nat.reduceBEq, renL_app, renL_ds, renL_und] at h1 h2; subst h1 h2)) | refine nx ?_ | (apply qr_move; refine r_move ?_) | (apply qr_assign; refine r_assign ?_) | (apply qr_len; refine r_len ?_) | (apply qr_field; refine r_field ?_))
  refine oret1 (rsk 1000 1001 k fs st) (by rfl) rv (⟨rfl, rfl⟩) sb okx
end
end Go.Proofs.YtfgibalcdjlnhaaGreatDoor
end
section
set_option linter.unusedSimpArgs false
set_option linter.unusedVariables false
namespace Go.Proofs.YtfgibalcdjlnhaaGreatDoor
open Go.RowKit Go.ChangeMaps

section
variable {k : Nat} {fs : List RFile} {st : DS}
theorem rcut_eq (s : ByteArray) {at_ size : Int} (h1 : ¬ at_ < 0) (h2 : ¬ size < 0) (h3 : at_ < s.size) : s.extract at_.toNat (at_ + min size ((s.size : Int) - at_)).toNat = cutB s at_ size := by
  rw [cutB]
  congr 1 <;> omega
theorem rcut_none (s : ByteArray) {at_ size : Int} (h1 : ¬ at_ < 0) (h2 : ¬ size < 0) (h3 : ¬ at_ < s.size) : cutB s at_ size = ⟨#[]⟩ := by
  refine empty_of ?_
  rw [cutB, ByteArray.size_extract]
  omega
set_option maxHeartbeats 8000000 in
set_option maxRecDepth 20000 in
theorem rread_any (h : RkOk fs st) {f at_ size : Int} (hs1 : size ≤ 9223372036854775807) : ObC 28 [.box 1000 0, .d (.int f), .d (.int at_), .d (.int size)] (rsk 1000 1001 k fs st) [] (fun x o => x = .tup [.d (.str (readP st f at_ size).1), .d (.int (readP st f at_ size).2)] ∧ o = rsk 1000 1001 k fs st) := by
  have hm := rmay_any (k := k) (fs := fs) (st := st) f
  have hg := rget_any (k := k) h f
  have hsz := h.ok.now f
  by_cases h0 : mayE st f = 0
  · rw [h0] at hm
    have ht0 : (!decide ((0 : Int) = 0)) = false := rfl
    by_cases h1 : at_ < 0
    · skip
      refine ob_enter Tryz.func28 rfl (by decide) _ Tryz.ntmps28 (le_ok rfl) rfl (fun w Pr β κ hE => ?_)
      dsimp only [slotsV, Nat.zero_add, Nat.reduceAdd]
      repeat' (first | (apply at_call; refine k_ocall [(1000, 1000), (1001, 1001)] (hm) hE ?_; rintro _ _ ⟨rfl, rfl⟩ <;> (intro _ _ h1 h2; simp only [renEqs, Nat.reduceBEq, renL_app, renL_ds, renL_und] at h1 h2; subst h1 h2)) | refine nx ?_ | (apply qr_move; refine r_move ?_) | (apply qr_assign; refine r_assign ?_) | (apply at_cond; first | refine c_t ?_ | refine c_f ?_ | (refine aw_cond rfl (fun hb => ?_) (fun hb => ?_) <;> ((try have hq := dX hb); (try (exfalso; omega))))) | (apply at_guard; first | refine g_go ?_ | refine g_nt ?_ | refine g_nf ?_ | refine g_nu ?_ | ((first | refine al_split_t rfl rfl (lt_ok rfl) (fun hb => ?_) (fun hb => ?_) | refine al_split_f rfl rfl (lt_ok rfl) (fun hb => ?_) (fun hb => ?_)) <;> ((try have hq := dX hb); (try (exfalso; omega))))) | (apply qr_pick; refine r_pick ?_) | (apply qr_lss; refine r_lss ?_) | (apply qr_geq; refine r_geq ?_) | (apply qr_neq; refine r_neq ?_) | (apply qr_add; refine r_add ?_) | (apply qr_sub; refine r_sub ?_) | (apply qr_min; refine r_min ?_) | (apply qr_len; refine r_len ?_) | (apply qr_slice; refine r_slice ?_) | (apply qr_field; refine r_field ?_))
      refine oret2 (rsk 1000 1001 k fs st) (by rfl) rv rv (⟨by simp [readP, h0, h1], rfl⟩) sb okx
    · by_cases h2 : size < 0
      · skip
        refine ob_enter Tryz.func28 rfl (by decide) _ Tryz.ntmps28 (le_ok rfl) rfl (fun w Pr β κ hE => ?_)
        dsimp only [slotsV, Nat.zero_add, Nat.reduceAdd]
        repeat' (first | (apply at_call; refine k_ocall [(1000, 1000), (1001, 1001)] (hm) hE ?_; rintro _ _ ⟨rfl, rfl⟩ <;> (intro _ _ h1 h2; simp only [renEqs, Nat.reduceBEq, renL_app, renL_ds, renL_und] at h1 h2; subst h1 h2)) | refine nx ?_ | (apply qr_move; refine r_move ?_) | (apply qr_assign; refine r_assign ?_) | (apply at_cond; first | refine c_t ?_ | refine c_f ?_ | (refine aw_cond rfl (fun hb => ?_) (fun hb => ?_) <;> ((try have hq := dX hb); (try (exfalso; omega))))) | (apply at_guard; first | refine g_go ?_ | refine g_nt ?_ | refine g_nf ?_ | refine g_nu ?_ | ((first | refine al_split_t rfl rfl (lt_ok rfl) (fun hb => ?_) (fun hb => ?_) | refine al_split_f rfl rfl (lt_ok rfl) (fun hb => ?_) (fun hb => ?_)) <;> ((try have hq := dX hb); (try (exfalso; omega))))) | (apply qr_pick; refine r_pick ?_) | (apply qr_lss; refine r_lss ?_) | (apply qr_geq; refine r_geq ?_) | (apply qr_neq; refine r_neq ?_) | (apply qr_add; refine r_add ?_) | (apply qr_sub; refine r_sub ?_) | (apply qr_min; refine r_min ?_) | (apply qr_len; refine r_len ?_) | (apply qr_slice; refine r_slice ?_) | (apply qr_field; refine r_field ?_))
        refine oret2 (rsk 1000 1001 k fs st) (by rfl) rv rv (⟨by simp [readP, h0, h1, h2], rfl⟩) sb okx
      · have hr : readP st f at_ size = (cutB (st.F f).now at_ size, 0) := by simp [readP, h0, h1, h2]
        rw [hr]
        simp only [rfD] at hg
        generalize (st.F f).now = s at hg hsz
        generalize (st.F f).last = s2 at hg
        by_cases h3 : at_ < s.size
        · have hq : decide ((s.size : Int) ≤ at_) = false := decide_eq_false (by omega)
          refine ob_enter Tryz.func28 rfl (by decide) _ Tryz.ntmps28 (le_ok rfl) rfl (fun w Pr β κ hE => ?_)
          dsimp only [slotsV, Nat.zero_add, Nat.reduceAdd]
          repeat' (first | (apply at_call; refine k_ocall [(1000, 1000), (1001, 1001)] (hm) hE ?_; rintro _ _ ⟨rfl, rfl⟩ <;> (intro _ _ h1 h2; simp only [renEqs, Nat.reduceBEq, renL_app, renL_ds, renL_und] at h1 h2; subst h1 h2)) | (apply at_call; refine k_ocall [(1000, 1000), (1001, 1001)] (hg) hE ?_; rintro _ _ ⟨rfl, rfl⟩ <;> (intro _ _ h1 h2; simp only [renEqs, Nat.reduceBEq, renL_app, renL_ds, renL_und] at h1 h2; subst h1 h2)) | (apply at_op (.slice _ _ (some _) (some _) none); refine al_y (y_sub_s (l := at_.toNat) (h := (at_ + min size ((s.size : Int) - at_)).toNat) rfl (by kernel_rfl) (low_some rfl (by omega)) (high_some rfl (by omega)) (by omega) (by omega)) (lt_ok rfl) ?_) | refine nx ?_ | (apply qr_move; refine r_move ?_) | (apply qr_assign; refine r_assign ?_) | (apply at_cond; first | refine c_t ?_ | refine c_f ?_ | (refine aw_cond rfl (fun hb => ?_) (fun hb => ?_) <;> ((try have hq := dX hb); (try (exfalso; omega))))) | (apply at_guard; first | refine g_go ?_ | refine g_nt ?_ | refine g_nf ?_ | refine g_nu ?_ | ((first | refine al_split_t rfl rfl (lt_ok rfl) (fun hb => ?_) (fun hb => ?_) | refine al_split_f rfl rfl (lt_ok rfl) (fun hb => ?_) (fun hb => ?_)) <;> ((try have hq := dX hb); (try (exfalso; omega))))) | (apply qr_pick; refine r_pick ?_) | (apply qr_lss; refine r_lss ?_) | (apply qr_geq; refine r_geq ?_) | (apply qr_neq; refine r_neq ?_) | (apply qr_add; refine r_add ?_) | (apply qr_sub; refine r_sub ?_) | (apply qr_min; refine r_min ?_) | (apply qr_len; refine r_len ?_) | (apply qr_slice; refine r_slice ?_) | (apply qr_field; refine r_field ?_))
          refine oret2 (rsk 1000 1001 k fs st) (by rfl) rv rv (⟨by rw [rcut_eq s h1 h2 h3], rfl⟩) sb okx
        · have hq : decide ((s.size : Int) ≤ at_) = true := decide_eq_true (by omega)
          refine ob_enter Tryz.func28 rfl (by decide) _ Tryz.ntmps28 (le_ok rfl) rfl (fun w Pr β κ hE => ?_)
          dsimp only [slotsV, Nat.zero_add, Nat.reduceAdd]
          repeat' (first | (apply at_call; refine k_ocall [(1000, 1000), (1001, 1001)] (hm) hE ?_; rintro _ _ ⟨rfl, rfl⟩ <;> (intro _ _ h1 h2; simp only [renEqs, Nat.reduceBEq, renL_app, renL_ds, renL_und] at h1 h2; subst h1 h2)) | (apply at_call; refine k_ocall [(1000, 1000), (1001, 1001)] (hg) hE ?_; rintro _ _ ⟨rfl, rfl⟩ <;> (intro _ _ h1 h2; simp only [renEqs, Nat.reduceBEq, renL_app, renL_ds, renL_und] at h1 h2; subst h1 h2)) | refine nx ?_ | (apply qr_move; refine r_move ?_) | (apply qr_assign; refine r_assign ?_) | (apply at_cond; first | refine c_t ?_ | refine c_f ?_ | (refine aw_cond rfl (fun hb => ?_) (fun hb => ?_) <;> ((try have hq := dX hb); (try (exfalso; omega))))) | (apply at_guard; first | refine g_go ?_ | refine g_nt ?_ | refine g_nf ?_ | refine g_nu ?_ | ((first | refine al_split_t rfl rfl (lt_ok rfl) (fun hb => ?_) (fun hb => ?_) | refine al_split_f rfl rfl (lt_ok rfl) (fun hb => ?_) (fun hb => ?_)) <;> ((try have hq := dX hb); (try (exfalso; omega))))) | (apply qr_pick; refine r_pick ?_) | (apply qr_lss; refine r_lss ?_) | (apply qr_geq; refine r_geq ?_) | (apply qr_neq; refine r_neq ?_) | (apply qr_add; refine r_add ?_) | (apply qr_sub; refine r_sub ?_) | (apply qr_min; refine r_min ?_) | (apply qr_len; refine r_len ?_) | (apply qr_slice; refine r_slice ?_) | (apply qr_field; refine r_field ?_))
          refine oret2 (rsk 1000 1001 k fs st) (by rfl) rv rv (⟨by rw [rcut_none s h1 h2 h3], rfl⟩) sb okx
  · have hq2 : (!decide (mayE st f = 0)) = true := by rw [decide_eq_false h0]; rfl
    refine ob_enter Tryz.func28 rfl (by decide) _ Tryz.ntmps28 (le_ok rfl) rfl (fun w Pr β κ hE => ?_)
    dsimp only [slotsV, Nat.zero_add, Nat.reduceAdd]
    repeat' (first | (apply at_call; refine k_ocall [(1000, 1000), (1001, 1001)] (hm) hE ?_; rintro _ _ ⟨rfl, rfl⟩ <;> (intro _ _ h1 h2; simp only [renEqs, Nat.reduceBEq, renL_app, renL_ds, renL_und] at h1 h2; subst h1 h2)) | refine nx ?_ | (apply qr_move; refine r_move ?_) | (apply qr_assign; refine r_assign ?_) | (apply at_cond; first | refine c_t ?_ | refine c_f ?_ | (refine aw_cond rfl (fun hb => ?_) (fun hb => ?_) <;> ((try have hq := dX hb); (try (exfalso; omega))))) | (apply at_guard; first | refine g_go ?_ | refine g_nt ?_ | refine g_nf ?_ | refine g_nu ?_ | ((first | refine al_split_t rfl rfl (lt_ok rfl) (fun hb => ?_) (fun hb => ?_) | refine al_split_f rfl rfl (lt_ok rfl) (fun hb => ?_) (fun hb => ?_)) <;> ((try have hq := dX hb); (try (exfalso; omega))))) | (apply qr_pick; refine r_pick ?_) | (apply qr_lss; refine r_lss ?_) | (apply qr_geq; refine r_geq ?_) | (apply qr_neq; refine r_neq ?_) | (apply qr_add; refine r_add ?_) | (apply qr_sub; refine r_sub ?_) | (apply qr_min; refine r_min ?_) | (apply qr_len; refine r_len ?_) | (apply qr_slice; refine r_slice ?_) | (apply qr_field; refine r_field ?_))
    refine oret2 (rsk 1000 1001 k fs st) (by rfl) rv rv (⟨by simp [readP, h0], rfl⟩) sb okx
def fitsB (at_ : Int) (s : ByteArray) : Bool := decide (0 ≤ at_ ∧ at_ ≤ 16777216 ∧ at_ + s.size ≤ 16777216)
set_option maxHeartbeats 4000000 in
set_option maxRecDepth 20000 in
theorem rfits_any (at_ : Int) (s : ByteArray) (hs : s.size ≤ 9223372036837998591) : PureC 65 [.int at_, .str s] (· = .bool (fitsB at_ s)) := by
  by_cases h1 : 0 ≤ at_
  · by_cases h2 : at_ ≤ 16777216
    · skip
      refine pure_enter Tryz.func65 rfl (by decide) _ Tryz.ntmps65 (le_ok rfl) (fun w Pr hE => ?_)
      dsimp only [slotsOf, Nat.zero_add, Nat.reduceAdd]
      repeat' (first | refine nx ?_ | (apply qr_move; refine r_move ?_) | (apply qr_assign; refine r_assign ?_) | (apply at_guard; first | refine g_go ?_ | refine g_nt ?_ | refine g_nf ?_ | refine g_nu ?_ | ((first | refine al_split_t rfl rfl (lt_ok rfl) (fun hb => ?_) (fun hb => ?_) | refine al_split_f rfl rfl (lt_ok rfl) (fun hb => ?_) (fun hb => ?_)) <;> ((try have hq := dX hb); (try (exfalso; omega))))) | (apply qr_pick; refine r_pick ?_) | (apply qr_leq; refine r_leq ?_) | (apply qr_geq; refine r_geq ?_) | (apply qr_add; refine r_add ?_) | (apply qr_len; refine r_len ?_))
      refine ret_one (by rfl) (by first | exact ToD.d _ | exact ToD.row _ _ _ _ _ rfl) ?_
      exact congrArg D.bool (decide_eq_decide.2 (by omega))
    · have hf : fitsB at_ s = false := decide_eq_false (by omega)
      rw [hf]
      refine pure_enter Tryz.func65 rfl (by decide) _ Tryz.ntmps65 (le_ok rfl) (fun w Pr hE => ?_)
      dsimp only [slotsOf, Nat.zero_add, Nat.reduceAdd]
      repeat' (first | refine nx ?_ | (apply qr_move; refine r_move ?_) | (apply qr_assign; refine r_assign ?_) | (apply at_guard; first | refine g_go ?_ | refine g_nt ?_ | refine g_nf ?_ | refine g_nu ?_ | ((first | refine al_split_t rfl rfl (lt_ok rfl) (fun hb => ?_) (fun hb => ?_) | refine al_split_f rfl rfl (lt_ok rfl) (fun hb => ?_) (fun hb => ?_)) <;> ((try have hq := dX hb); (try (exfalso; omega))))) | (apply qr_pick; refine r_pick ?_) | (apply qr_leq; refine r_leq ?_) | (apply qr_geq; refine r_geq ?_) | (apply qr_add; refine r_add ?_) | (apply qr_len; refine r_len ?_))
      refine ret_one (by rfl) (by first | exact ToD.d _ | exact ToD.row _ _ _ _ _ rfl) ?_
      rfl
  · have hf : fitsB at_ s = false := decide_eq_false (by omega)
    rw [hf]
    refine pure_enter Tryz.func65 rfl (by decide) _ Tryz.ntmps65 (le_ok rfl) (fun w Pr hE => ?_)
    dsimp only [slotsOf, Nat.zero_add, Nat.reduceAdd]
    repeat' (first | refine nx ?_ | (apply qr_move; refine r_move ?_) | (apply qr_assign; refine r_assign ?_) | (apply at_guard; first | refine g_go ?_ | refine g_nt ?_ | refine g_nf ?_ | refine g_nu ?_ | ((first | refine al_split_t rfl rfl (lt_ok rfl) (fun hb => ?_) (fun hb => ?_) | refine al_split_f rfl rfl (lt_ok rfl) (fun hb => ?_) (fun hb => ?_)) <;> ((try have hq := dX hb); (try (exfalso; omega))))) | (apply qr_pick; refine r_pick ?_) | (apply qr_leq; refine r_leq ?_) | (apply qr_geq; refine r_geq ?_) | (apply qr_add; refine r_add ?_) | (apply qr_len; refine r_len ?_))
    refine ret_one (by rfl) (by first | exact ToD.d _ | exact ToD.row _ _ _ _ _ rfl) ?_
    rfl
theorem take_all3 {α : Type} {P : α → Prop} {l : List α} {i : Nat} (hlt : i < l.length) (hs : ∀ e ∈ l.take i, P e) (h : P l[i]) : ∀ e ∈ l.take (i + 1), P e := fun e he => by
  rw [List.take_succ_eq_append_getElem hlt] at he
  rcases List.mem_append.1 he with he | he
  · exact hs e he
  · simp at he
    subst he
    exact h
set_option maxHeartbeats 8000000 in
set_option maxRecDepth 20000 in
theorem rpending_any (h : st.Q.length ≤ 4194320) (f n : Int) : ObC 83 [.box 1000 0, .d (.int f), .d (.int n)] (rsk 1000 1001 k fs st) [] (fun x o => x = .d (.bool (decide ((f, n) ∈ st.Q))) ∧ o = rsk 1000 1001 k fs st) := by
  refine ob_enter Tryz.func83 rfl (by decide) _ Tryz.ntmps83 (le_ok rfl) rfl (fun w Pr β κ hE => ?_)
  dsimp only [slotsV, Nat.zero_add, Nat.reduceAdd]
  repeat' (first | refine nx ?_ | (apply aq_block_y; decide) | (apply qr_move; refine r_move ?_) | (apply qr_assign; refine r_assign ?_) | (apply at_cond; first | refine c_t ?_ | refine c_f ?_ | (refine aw_cond rfl (fun hb => ?_) (fun hb => ?_) <;> ((try have hq := dX hb); (try (exfalso; omega))))) | (apply at_guard; first | refine g_go ?_ | refine g_nt ?_ | refine g_nf ?_ | refine g_nu ?_ | ((first | refine al_split_t rfl rfl (lt_ok rfl) (fun hb => ?_) (fun hb => ?_) | refine al_split_f rfl rfl (lt_ok rfl) (fun hb => ?_) (fun hb => ?_)) <;> ((try have hq := dX hb); (try (exfalso; omega))))) | (apply qr_pick; refine r_pick ?_) | (apply qr_lss; refine r_lss ?_) | (apply qr_eql; refine r_eql ?_) | (apply qr_add; refine r_add ?_) | (apply qr_len; refine r_len ?_) | (apply qr_ix; refine r_ix ?_) | (apply qr_load; refine r_load ?_) | (apply qr_faddr; refine r_faddr ?_) | (apply qr_nilck; refine r_nilck ?_))
  refine aw_lp (fun N sl ob => ∃ i : Nat, N = st.Q.length - i ∧ i ≤ st.Q.length ∧ (∀ p ∈ st.Q.take i, p ≠ (f, n)) ∧ sl = [(7, .d (.int i)), (6, .d (.bool false)), (0, .box 1000 0), (1, .d (.int f)), (2, .d (.int n))] ∧ ob = rsk 1000 1001 k fs st) (⟨0, rfl, Nat.zero_le _, by simp, rfl, rfl⟩) ?_
  rintro N sl ob ⟨i, rfl, hi, hs, rfl, rfl⟩
  by_cases hlt : i < st.Q.length
  · have hstep := fun h => take_all3 (P := fun p => p ≠ (f, n)) hlt hs h
    have hmem := List.getElem_mem hlt
    have hget : (st.Q.map secC)[i]? = some (secC st.Q[i]) := get_map hlt
    generalize st.Q[i] = p at hstep hget hmem
    obtain ⟨a, b⟩ := p
    have hget : (st.Q.map secC)[i]? = some [D.int a, D.int b] := hget
    by_cases h1 : a = f
    · have hq1 : decide (a = f) = true := decide_eq_true h1
      by_cases h2 : b = n
      · have hq2 : decide (b = n) = true := decide_eq_true h2
        have hin : decide ((f, n) ∈ st.Q) = true := decide_eq_true (by rw [← h1, ← h2]; exact hmem)
        rw [hin]
        repeat' (first | (apply at_op (.indexAddr _ _ _); refine al_y (y_ix (by first | exact ToD.d _ | exact ToD.row _ _ _ _ _ rfl) rfl rfl (by first | with_reducible rfl | exact lit0 | exact lit1 | exact lit2 | exact lit3 | exact lit4 | exact int_s _ | exact int_p _ _ | exact int_nat _ (by omega)) hget) (lt_ok rfl) ?_) | refine nx ?_ | (apply aq_block_y; decide) | (apply qr_move; refine r_move ?_) | (apply qr_assign; refine r_assign ?_) | (apply at_cond; first | refine c_t ?_ | refine c_f ?_ | (refine aw_cond rfl (fun hb => ?_) (fun hb => ?_) <;> ((try have hq := dX hb); (try (exfalso; omega))))) | (apply at_guard; first | refine g_go ?_ | refine g_nt ?_ | refine g_nf ?_ | refine g_nu ?_ | ((first | refine al_split_t rfl rfl (lt_ok rfl) (fun hb => ?_) (fun hb => ?_) | refine al_split_f rfl rfl (lt_ok rfl) (fun hb => ?_) (fun hb => ?_)) <;> ((try have hq := dX hb); (try (exfalso; omega))))) | (apply qr_pick; refine r_pick ?_) | (apply qr_lss; refine r_lss ?_) | (apply qr_eql; refine r_eql ?_) | (apply qr_add; refine r_add ?_) | (apply qr_len; refine r_len ?_) | (apply qr_ix; refine r_ix ?_) | (apply qr_load; refine r_load ?_) | (apply qr_faddr; refine r_faddr ?_) | (apply qr_nilck; refine r_nilck ?_))
        refine oret1 (rsk 1000 1001 k fs st) (by rfl) rv (⟨rfl, rfl⟩) sb okx
      · have hq2 : decide (b = n) = false := decide_eq_false h2
        repeat' (first | (apply at_op (.indexAddr _ _ _); refine al_y (y_ix (by first | exact ToD.d _ | exact ToD.row _ _ _ _ _ rfl) rfl rfl (by first | with_reducible rfl | exact lit0 | exact lit1 | exact lit2 | exact lit3 | exact lit4 | exact int_s _ | exact int_p _ _ | exact int_nat _ (by omega)) hget) (lt_ok rfl) ?_) | refine nx ?_ | (apply aq_block_y; decide) | (apply qr_move; refine r_move ?_) | (apply qr_assign; refine r_assign ?_) | (apply at_cond; first | refine c_t ?_ | refine c_f ?_ | (refine aw_cond rfl (fun hb => ?_) (fun hb => ?_) <;> ((try have hq := dX hb); (try (exfalso; omega))))) | (apply at_guard; first | refine g_go ?_ | refine g_nt ?_ | refine g_nf ?_ | refine g_nu ?_ | ((first | refine al_split_t rfl rfl (lt_ok rfl) (fun hb => ?_) (fun hb => ?_) | refine al_split_f rfl rfl (lt_ok rfl) (fun hb => ?_) (fun hb => ?_)) <;> ((try have hq := dX hb); (try (exfalso; omega))))) | (apply qr_pick; refine r_pick ?_) | (apply qr_lss; refine r_lss ?_) | (apply qr_eql; refine r_eql ?_) | (apply qr_add; refine r_add ?_) | (apply qr_len; refine r_len ?_) | (apply qr_ix; refine r_ix ?_) | (apply qr_load; refine r_load ?_) | (apply qr_faddr; refine r_faddr ?_) | (apply qr_nilck; refine r_nilck ?_))
        refine aq_rd (⟨i + 1, rfl, by omega, hstep (fun e => h2 (Prod.mk.inj e).2), rfl, rfl⟩) (by omega)
    · have hq1 : decide (a = f) = false := decide_eq_false h1
      repeat' (first | (apply at_op (.indexAddr _ _ _); refine al_y (y_ix (by first | exact ToD.d _ | exact ToD.row _ _ _ _ _ rfl) rfl rfl (by first | with_reducible rfl | exact lit0 | exact lit1 | exact lit2 | exact lit3 | exact lit4 | exact int_s _ | exact int_p _ _ | exact int_nat _ (by omega)) hget) (lt_ok rfl) ?_) | refine nx ?_ | (apply aq_block_y; decide) | (apply qr_move; refine r_move ?_) | (apply qr_assign; refine r_assign ?_) | (apply at_cond; first | refine c_t ?_ | refine c_f ?_ | (refine aw_cond rfl (fun hb => ?_) (fun hb => ?_) <;> ((try have hq := dX hb); (try (exfalso; omega))))) | (apply at_guard; first | refine g_go ?_ | refine g_nt ?_ | refine g_nf ?_ | refine g_nu ?_ | ((first | refine al_split_t rfl rfl (lt_ok rfl) (fun hb => ?_) (fun hb => ?_) | refine al_split_f rfl rfl (lt_ok rfl) (fun hb => ?_) (fun hb => ?_)) <;> ((try have hq := dX hb); (try (exfalso; omega))))) | (apply qr_pick; refine r_pick ?_) | (apply qr_lss; refine r_lss ?_) | (apply qr_eql; refine r_eql ?_) | (apply qr_add; refine r_add ?_) | (apply qr_len; refine r_len ?_) | (apply qr_ix; refine r_ix ?_) | (apply qr_load; refine r_load ?_) | (apply qr_faddr; refine r_faddr ?_) | (apply qr_nilck; refine r_nilck ?_))
      refine aq_rd (⟨i + 1, rfl, by omega, hstep (fun e => h1 (Prod.mk.inj e).1), rfl, rfl⟩) (by omega)
  · have hin : decide ((f, n) ∈ st.Q) = false := decide_eq_false fun hm => by
      rw [List.take_of_length_le (by omega)] at hs
      exact hs _ hm rfl
    rw [hin]
    repeat' (first | refine nx ?_ | (apply aq_block_y; decide) | (apply qr_move; refine r_move ?_) | (apply qr_assign; refine r_assign ?_) | (apply at_cond; first | refine c_t ?_ | refine c_f ?_ | (refine aw_cond rfl (fun hb => ?_) (fun hb => ?_) <;> ((try have hq := dX hb); (try (exfalso; omega))))) | (apply at_guard; first | refine g_go ?_ | refine g_nt ?_ | refine g_nf ?_ | refine g_nu ?_ | ((first | refine al_split_t rfl rfl (lt_ok rfl) (fun hb => ?_) (fun hb => ?_) | refine al_split_f rfl rfl (lt_ok rfl) (fun hb => ?_) (fun hb => ?_)) <;> ((try have hq := dX hb); (try (exfalso; omega))))) | (apply qr_pick; refine r_pick ?_) | (apply qr_lss; refine r_lss ?_) | (apply qr_eql; refine r_eql ?_) | (apply qr_add; refine r_add ?_) | (apply qr_len; refine r_len ?_) | (apply qr_ix; refine r_ix ?_) | (apply qr_load; refine r_load ?_) | (apply qr_faddr; refine r_faddr ?_) | (apply qr_nilck; refine r_nilck ?_))
    refine oret1 (rsk 1000 1001 k fs st) (by rfl) rv (⟨rfl, rfl⟩) sb okx
end
end Go.Proofs.YtfgibalcdjlnhaaGreatDoor
end
