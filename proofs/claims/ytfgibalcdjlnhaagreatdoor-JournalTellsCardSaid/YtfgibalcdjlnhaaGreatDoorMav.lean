/-
  The reference's disk: set, Put. Conditions: none.
  The reference's disk: bytes put into a string. Conditions: none.
  The reference's disk: Arm, settle, add. Conditions: none.
  The reference's disk: add. Conditions: none.
  The reference's disk: survive, Crash. Conditions: none.
-/
import Derived.Test.YtfgibalcdjlnhaaGreatDoorMau
section
set_option linter.unusedSimpArgs false
set_option linter.unusedVariables false
namespace Go.Proofs.YtfgibalcdjlnhaaGreatDoor
open Go.RowKit Go.ChangeMaps

def rset (fs : List RFile) (x : RFile) : List RFile := fs.filter (fun y => decide (y.1 ≠ x.1)) ++ [x]
theorem rget_cons (x : RFile) (l : List RFile) (f : Int) : rget (x :: l) f = if x.1 = f then x.2 else rget l f := rfl
theorem rget_nil (f : Int) : rget [] f = nofile := rfl
theorem rget_none : ∀ {fs : List RFile} {f : Int}, (∀ y ∈ fs, y.1 ≠ f) → rget fs f = nofile
  | [], _, _ => rfl
  | y :: l, f, h => by
    rw [rget_cons, if_neg (h y (by simp))]
    exact rget_none fun z hz => h z (by simp [hz])
theorem rget_app : ∀ (A B : List RFile) (f : Int), rget (A ++ B) f = if (∃ y ∈ A, y.1 = f) then rget A f else rget B f
  | [], B, f => by simp
  | y :: A, B, f => by
    rw [List.cons_append, rget_cons, rget_cons]
    by_cases h : y.1 = f
    · rw [if_pos h, if_pos h, if_pos ⟨y, by simp, h⟩]
    · rw [if_neg h, if_neg h, rget_app A B f]
      by_cases h2 : ∃ z ∈ A, z.1 = f
      · obtain ⟨z, h3, h4⟩ := h2
        rw [if_pos ⟨z, h3, h4⟩, if_pos ⟨z, by simp [h3], h4⟩]
      · rw [if_neg h2, if_neg]
        rintro ⟨z, h3, h4⟩
        rcases List.mem_cons.1 h3 with rfl | h3
        · exact h h4
        · exact h2 ⟨z, h3, h4⟩
theorem rget_filter : ∀ (fs : List RFile) (n f : Int), f ≠ n → rget (fs.filter fun y => decide (y.1 ≠ n)) f = rget fs f
  | [], _, _, _ => rfl
  | y :: l, n, f, h => by
    by_cases hy : y.1 = n
    · rw [List.filter_cons_of_neg (by simp [hy]), rget_filter l n f h, rget_cons, if_neg (fun e => h (e.symm.trans hy))]
    · rw [List.filter_cons_of_pos (by simp [hy]), rget_cons, rget_cons, rget_filter l n f h]
theorem rget_set (fs : List RFile) (n f : Int) (x : Fl) : rget (rset fs (n, x)) f = upd (rget fs) n x f := by
  unfold rset
  by_cases h : f = n
  · subst h
    rw [upd_same, rget_app, if_neg, rget_cons, if_pos rfl]
    rintro ⟨y, h1, h2⟩
    simp only [List.mem_filter, decide_eq_true_eq] at h1
    exact h1.2 h2
  · rw [upd_ne _ _ h, rget_app]
    by_cases h2 : ∃ y ∈ fs.filter (fun y => decide (y.1 ≠ n)), y.1 = f
    · rw [if_pos h2, rget_filter fs n f h]
    · rw [if_neg h2, rget_cons, if_neg (fun e => h e.symm), rget_nil]
      refine (rget_none fun y hy e => h2 ⟨y, ?_, e⟩).symm
      simp only [List.mem_filter, decide_eq_true_eq]
      exact ⟨hy, fun e2 => h (e.symm.trans e2)⟩
theorem rset_nodup {fs : List RFile} (h : (fs.map Prod.fst).Nodup) (x : RFile) : ((rset fs x).map Prod.fst).Nodup := by
  unfold rset
  rw [List.map_append, List.nodup_append]
  refine ⟨(List.Nodup.sublist (List.filter_sublist.map _) h), by simp, fun a ha b hb => ?_⟩
  obtain ⟨y, h1, rfl⟩ := List.mem_map.1 ha
  simp only [List.map_cons, List.map_nil, List.mem_singleton] at hb
  simp only [List.mem_filter, decide_eq_true_eq] at h1
  rw [hb]
  exact h1.2
theorem rset_num {fs : List RFile} (h : ∀ y ∈ fs, 0 ≤ y.1 ∧ y.1 < 16) {x : RFile} (hx : 0 ≤ x.1 ∧ x.1 < 16) : ∀ y ∈ rset fs x, 0 ≤ y.1 ∧ y.1 < 16 := fun y hy => by
  rcases List.mem_append.1 hy with hy | hy
  · exact h y (List.mem_filter.1 hy).1
  · simp at hy
    subst hy
    exact hx
theorem filter_take1 {α : Type} {p : α → Bool} {l : List α} {i : Nat} (hlt : i < l.length) : (l.take (i + 1)).filter p = (l.take i).filter p ++ (if p l[i] then [l[i]] else []) := by
  rw [List.take_succ_eq_append_getElem hlt, List.filter_append]
  congr 1
  by_cases h : p l[i] <;> simp [h]
section
variable {k : Nat} {fs : List RFile} {st : DS}
set_option maxHeartbeats 8000000 in
set_option maxRecDepth 20000 in
theorem rset_any (hlen : fs.length ≤ 16) (n : Int) (y : Fl) : ObC 68 [.box 1000 0, .d (rfD n y)] (rsk 1000 1001 k fs st) [] (fun x o => x = .tup [] ∧ o = rsk 1000 1001 k (rset fs (n, y)) st) := by
  refine ob_enter Tryz.func68 rfl (by decide) _ Tryz.ntmps68 (le_ok rfl) rfl (fun w Pr β κ hE => ?_)
  dsimp only [slotsV, Nat.zero_add, Nat.reduceAdd]
  repeat' (first | refine nx ?_ | (apply aq_block_y; decide) | (apply qr_assign; refine r_assign ?_) | (apply at_cond; first | refine c_t ?_ | refine c_f ?_ | (refine aw_cond rfl (fun hb => ?_) (fun hb => ?_) <;> ((try have hq := dX hb); (try (exfalso; omega))))) | (apply qr_boxed; refine r_boxed ?_))
  refine aw_adopt 4 4 84 3 rfl rfl (lt_ok rfl) ?_
  refine aw_lp (fun N sl ob => ∃ i v : Nat, N = fs.length - i ∧ i ≤ fs.length ∧ sl = [(5, .d (.int i)), (4, .row 4 v), (3, .box 3 0), (0, .box 1000 0)] ∧ ob = (4, .row 84 3 v (((fs.take i).filter fun q => decide (q.1 ≠ n)).map rfC)) :: (3, .box 84 [.d (.int n), .d (.str y.now), .d (.str y.last)]) :: rsk 1000 1001 k fs st) (⟨0, 0, rfl, Nat.zero_le _, rfl, rfl⟩) ?_
  rintro N sl ob ⟨i, v, rfl, hi, rfl, rfl⟩
  have hl1 : ((fs.take i).filter fun q => decide (q.1 ≠ n)).length ≤ i := by
    have := List.length_filter_le (fun q : RFile => decide (q.1 ≠ n)) (fs.take i)
    simp at this
    simp
    omega
  by_cases hlt : i < fs.length
  · have hft := filter_take1 (p := fun q : RFile => decide (q.1 ≠ n)) hlt
    have hget : (fs.map rfC)[i]? = some (rfC fs[i]) := get_map hlt
    generalize fs[i] = z at hft hget
    obtain ⟨m, z⟩ := z
    have hget : (fs.map rfC)[i]? = some [D.int m, .str z.now, .str z.last] := hget
    by_cases hm : m = n
    · have hq : (!decide (m = n)) = false := by simp [hm]
      rw [if_neg (by simp [hm]), List.append_nil] at hft
      repeat' (first | refine nx ?_ | (apply aq_block_y; decide) | (apply qr_move; refine r_move ?_) | (apply at_cond; first | refine c_t ?_ | refine c_f ?_ | (refine aw_cond rfl (fun hb => ?_) (fun hb => ?_) <;> ((try have hq := dX hb); (try (exfalso; omega))))) | (apply qr_lss; refine r_lss ?_) | (apply qr_len; refine r_len ?_) | (apply qr_load; refine r_load ?_) | (apply qr_faddr; refine r_faddr ?_) | (apply qr_nilck; refine r_nilck ?_))
      refine aw_mix [(0, true), (1, true), (2, true), (3, true), (4, true), (5, true), (6, true), (7, true), (8, true), (9, true), (10, true)] [] (by kernel_rfl) (by kernel_rfl) (by kernel_rfl) (by decide) ?_
      simp only [planned, tailed, List.filterMap_cons, List.filterMap_nil, List.getElem?_cons_zero, List.getElem?_cons_succ, Option.map_some]
      repeat' (first | apply am_nil | refine m_skip ?_ | refine n_skip ?_ | (apply at_am (.indexAddr _ _ _); first | refine am_y (by first | exact want_none | exact want_yes rfl rfl (by assumption) | exact want_yes rfl rfl (by with_reducible rfl)) (y_ix (by first | exact ToD.d _ | exact ToD.row _ _ _ _ _ rfl) rfl rfl (by first | with_reducible rfl | exact lit0 | exact lit1 | exact lit2 | exact lit3 | exact lit4 | exact int_s _ | exact int_p _ _ | exact int_nat _ (by omega)) hget) (lt_ok rfl) ?_ | refine am_y' (by first | exact want_none | exact want_yes rfl rfl (by assumption) | exact want_yes rfl rfl (by with_reducible rfl)) (y_ix (by first | exact ToD.d _ | exact ToD.row _ _ _ _ _ rfl) rfl rfl (by first | with_reducible rfl | exact lit0 | exact lit1 | exact lit2 | exact lit3 | exact lit4 | exact int_s _ | exact int_p _ _ | exact int_nat _ (by omega)) hget) (lt_ok rfl) ?_) | (apply qm_move; refine m_move ?_) | (apply qm_neq; refine m_neq ?_) | (apply qm_ix; refine m_ix ?_) | (apply qm_load; refine m_load ?_) | (apply qm_faddr; refine m_faddr ?_) | (apply qm_nilck; refine m_nilck ?_) | (refine am_split rfl rfl (fun hb => ?_) (fun hb => ?_) <;> ((try have hq := dX hb); (try (exfalso; omega)))))
      repeat' (first | refine nx ?_ | (apply aq_block_y; decide) | (apply qr_move; refine r_move ?_) | (apply qr_assign; refine r_assign ?_) | (apply at_cond; first | refine c_t ?_ | refine c_f ?_ | (refine aw_cond rfl (fun hb => ?_) (fun hb => ?_) <;> ((try have hq := dX hb); (try (exfalso; omega))))) | (apply qr_neq; refine r_neq ?_) | (apply qr_add; refine r_add ?_) | (apply qr_ix; refine r_ix ?_) | (apply qr_load; refine r_load ?_) | (apply qr_faddr; refine r_faddr ?_) | (apply qr_nilck; refine r_nilck ?_) | (apply qr_lits; refine r_lits ?_) | (apply qr_appd; refine r_appd ?_))
      refine aq_rd (⟨i + 1, v, rfl, by omega, rfl, by rw [hft]⟩) (by omega)
    · have hq : (!decide (m = n)) = true := by simp [hm]
      rw [if_pos (by simp [hm])] at hft
      repeat' (first | refine nx ?_ | (apply aq_block_y; decide) | (apply qr_move; refine r_move ?_) | (apply at_cond; first | refine c_t ?_ | refine c_f ?_ | (refine aw_cond rfl (fun hb => ?_) (fun hb => ?_) <;> ((try have hq := dX hb); (try (exfalso; omega))))) | (apply qr_lss; refine r_lss ?_) | (apply qr_len; refine r_len ?_) | (apply qr_load; refine r_load ?_) | (apply qr_faddr; refine r_faddr ?_) | (apply qr_nilck; refine r_nilck ?_))
      refine aw_mix [(0, true), (1, true), (2, true), (3, true), (4, true), (5, true), (6, true), (7, true), (8, true), (9, true), (10, true)] [] (by kernel_rfl) (by kernel_rfl) (by kernel_rfl) (by decide) ?_
      simp only [planned, tailed, List.filterMap_cons, List.filterMap_nil, List.getElem?_cons_zero, List.getElem?_cons_succ, Option.map_some]
      repeat' (first | apply am_nil | refine m_skip ?_ | refine n_skip ?_ | (apply at_am (.indexAddr _ _ _); first | refine am_y (by first | exact want_none | exact want_yes rfl rfl (by assumption) | exact want_yes rfl rfl (by with_reducible rfl)) (y_ix (by first | exact ToD.d _ | exact ToD.row _ _ _ _ _ rfl) rfl rfl (by first | with_reducible rfl | exact lit0 | exact lit1 | exact lit2 | exact lit3 | exact lit4 | exact int_s _ | exact int_p _ _ | exact int_nat _ (by omega)) hget) (lt_ok rfl) ?_ | refine am_y' (by first | exact want_none | exact want_yes rfl rfl (by assumption) | exact want_yes rfl rfl (by with_reducible rfl)) (y_ix (by first | exact ToD.d _ | exact ToD.row _ _ _ _ _ rfl) rfl rfl (by first | with_reducible rfl | exact lit0 | exact lit1 | exact lit2 | exact lit3 | exact lit4 | exact int_s _ | exact int_p _ _ | exact int_nat _ (by omega)) hget) (lt_ok rfl) ?_) | (apply qm_move; refine m_move ?_) | (apply qm_neq; refine m_neq ?_) | (apply qm_ix; refine m_ix ?_) | (apply qm_load; refine m_load ?_) | (apply qm_faddr; refine m_faddr ?_) | (apply qm_nilck; refine m_nilck ?_) | (refine am_split rfl rfl (fun hb => ?_) (fun hb => ?_) <;> ((try have hq := dX hb); (try (exfalso; omega)))))
      repeat' (first | (apply at_op (.indexAddr _ _ _); refine al_y (y_ix (by first | exact ToD.d _ | exact ToD.row _ _ _ _ _ rfl) rfl rfl (by first | with_reducible rfl | exact lit0 | exact lit1 | exact lit2 | exact lit3 | exact lit4 | exact int_s _ | exact int_p _ _ | exact int_nat _ (by omega)) hget) (lt_ok rfl) ?_) | refine nx ?_ | (apply aq_block_y; decide) | (apply qr_move; refine r_move ?_) | (apply qr_assign; refine r_assign ?_) | (apply at_cond; first | refine c_t ?_ | refine c_f ?_ | (refine aw_cond rfl (fun hb => ?_) (fun hb => ?_) <;> ((try have hq := dX hb); (try (exfalso; omega))))) | (apply qr_neq; refine r_neq ?_) | (apply qr_add; refine r_add ?_) | (apply qr_ix; refine r_ix ?_) | (apply qr_load; refine r_load ?_) | (apply qr_faddr; refine r_faddr ?_) | (apply qr_nilck; refine r_nilck ?_) | (apply qr_lits; refine r_lits ?_) | (apply qr_appd; refine r_appd ?_))
      refine aq_rd (⟨i + 1, v + 1, rfl, by omega, rfl, by rw [hft, List.map_append]⟩) (by omega)
  · rw [List.take_of_length_le (by omega)] at hl1 ⊢
    have hrs : (fs.filter fun q => decide (q.1 ≠ n)).map rfC ++ [[D.int n, .str y.now, .str y.last]] = (rset fs (n, y)).map rfC := by unfold rset; rw [List.map_append]; rfl
    repeat' (first | (apply at_op (.call { callee := .builtin .append, args := _, argTypes := _ }); refine al_step (st_append rfl rfl (by first | exact ToD.d _ | exact ToD.row _ _ _ _ _ rfl) rfl rfl (by simp [D.one, Value.oneCell']) (by decide) (by first | (simp only [List.length_map, List.length_append, List.length_cons, List.length_nil]; omega) | omega) (by first | (simp only [List.length_map, List.length_append, List.length_cons, List.length_nil]; omega) | omega) (lt_ok rfl)) rfl ?_; refine al_list 40 (by first | exact ToD.d _ | exact ToD.row _ _ _ _ _ rfl) ?_) | refine nx ?_ | (apply aq_block_y; decide) | (apply qr_move; refine r_move ?_) | (apply at_cond; first | refine c_t ?_ | refine c_f ?_ | (refine aw_cond rfl (fun hb => ?_) (fun hb => ?_) <;> ((try have hq := dX hb); (try (exfalso; omega))))) | (apply qr_lss; refine r_lss ?_) | (apply qr_len; refine r_len ?_) | (apply qr_load; refine r_load ?_) | (apply qr_faddr; refine r_faddr ?_) | (apply qr_nilck; refine r_nilck ?_) | (apply qr_store; refine r_store ?_) | (apply qr_lits; refine r_lits ?_) | (apply qr_appd; refine r_appd ?_))
    rw [hrs]
    try refine aq_end ?_
    refine oret0 (rsk 1000 1001 k (rset fs (n, y)) st) (by rfl) (⟨rfl, rfl⟩) sb okx
end
end Go.Proofs.YtfgibalcdjlnhaaGreatDoor
end
section
set_option linter.unusedSimpArgs false
set_option linter.unusedVariables false
namespace Go.Proofs.YtfgibalcdjlnhaaGreatDoor
open Go.RowKit Go.ChangeMaps

theorem splice_step (l : List UInt8) (o : Nat) (m : List UInt8) {i : Nat} (hi : i < m.length) (h : o + m.length ≤ l.length) : (splice l o (m.take i)).set (o + i) m[i] = splice l o (m.take (i + 1)) := by
  unfold splice
  have e1 : (m.take i).length = i := by simp; omega
  have e2 : (m.take (i + 1)).length = i + 1 := by simp; omega
  have e3 : (l.take o).length = o := by simp; omega
  rw [e1, e2, List.set_append_right _ _ (by simp; omega), List.drop_eq_getElem_cons (by omega : o + i < l.length)]
  have e4 : o + i - (l.take o ++ m.take i).length = 0 := by rw [List.length_append, e1, e3]; omega
  rw [e4, List.set_cons_zero, List.take_succ_eq_append_getElem hi, show o + (i + 1) = o + i + 1 by omega, List.append_assoc, List.append_assoc, List.append_assoc]
  rfl
theorem bytV_set (l : List UInt8) (q : Nat) (b : UInt8) : (bytV l).set q (.int .u8 (b.toNat : Int)) = bytV (l.set q b) := by
  simp [bytV, List.map_set]
theorem splice_l {l : List UInt8} {o : Nat} {m : List UInt8} (h : o + m.length ≤ l.length) : (bytV (splice l o m)).length = l.length := by rw [bytV_len, splice_len h]
theorem splice_none (l : List UInt8) (o : Nat) : splice l o [] = l := by simp [splice]
theorem splice_zeros (s : List UInt8) (n : Nat) (h : s.length ≤ n) : splice (List.replicate n 0) 0 s = s ++ List.replicate (n - s.length) 0 := by
  simp [splice]
set_option maxHeartbeats 8000000 in
set_option maxRecDepth 20000 in
theorem rput_any (s : ByteArray) (at_ : Nat) (t : ByteArray) (hs : s.size ≤ 16777216) (ht : at_ + t.size ≤ 16777216) : PureC 67 [.str s, .int at_, .str t] (· = .str (putB s at_ t)) := by
  have l1 := Lib.size_eq s
  have l2 := Lib.size_eq t
  by_cases h0 : t.size = 0
  · have e0 := empty_of h0
    have hq : decide (t = ⟨#[]⟩) = true := decide_eq_true e0
    refine pure_enter Tryz.func67 rfl (by decide) _ Tryz.ntmps67 (le_ok rfl) (fun w Pr hE => ?_)
    dsimp only [slotsOf, Nat.zero_add, Nat.reduceAdd]
    repeat' (first | refine nx ?_ | (apply aq_block_y; decide) | (apply qr_move; refine r_move ?_) | (apply qr_assign; refine r_assign ?_) | (apply at_cond; first | refine c_t ?_ | refine c_f ?_ | (refine aw_cond rfl (fun hb => ?_) (fun hb => ?_) <;> ((try have hq := dX hb); (try (exfalso; omega))))) | (apply qr_lss; refine r_lss ?_) | (apply qr_eql; refine r_eql ?_) | (apply qr_add; refine r_add ?_) | (apply qr_conv; refine r_conv ?_) | (apply qr_len; refine r_len ?_) | (apply qr_index; refine r_index ?_) | (apply qr_ix; refine r_ix ?_) | (apply qr_store; refine r_store ?_) | (apply qr_lits; refine r_lits ?_) | (apply qr_appd; refine r_appd ?_))
    refine ret_one (by rfl) (by first | exact ToD.d _ | exact ToD.row _ _ _ _ _ rfl) ?_
    simp [putB, h0]
  · have hq : decide (t = (⟨#[]⟩ : ByteArray)) = false := decide_eq_false fun e => h0 (by rw [e]; rfl)
    have hput : putB s at_ t = ⟨(splice (s.data.toList ++ List.replicate (max s.size (at_ + t.size) - s.size) 0) at_ t.data.toList).toArray⟩ := by
      unfold putB
      rw [if_neg h0, splice_zeros _ _ (by omega), ← l1]
    have hn1 : max s.size (at_ + t.size) ≤ 16777216 := by omega
    have hn2 : s.size ≤ max s.size (at_ + t.size) := by omega
    have hn3 : at_ + t.size ≤ max s.size (at_ + t.size) := by omega
    have hn4 : max s.size (at_ + t.size) = s.size ∨ max s.size (at_ + t.size) = at_ + t.size := by omega
    rw [hput]
    generalize max s.size (at_ + t.size) = n at hn1 hn2 hn3 hn4 ⊢
    clear hput
    refine pure_enter Tryz.func67 rfl (by decide) _ Tryz.ntmps67 (le_ok rfl) (fun w Pr hE => ?_)
    dsimp only [slotsOf, Nat.zero_add, Nat.reduceAdd]
    repeat' (first | (apply at_op (.convert _ _ _); refine al_step (st_bytes rfl Tryz.underlying9 Tryz.underlying96 Tryz.underlying5 (by omega) (lt_ok rfl) rfl) rfl ?_) | refine nx ?_ | (apply aq_block_y; decide) | (apply qr_move; refine r_move ?_) | (apply qr_assign; refine r_assign ?_) | (apply at_cond; first | refine c_t ?_ | refine c_f ?_ | (refine aw_cond rfl (fun hb => ?_) (fun hb => ?_) <;> ((try have hq := dX hb); (try (exfalso; omega))))) | (apply qr_lss; refine r_lss ?_) | (apply qr_eql; refine r_eql ?_) | (apply qr_add; refine r_add ?_) | (apply qr_conv; refine r_conv ?_) | (apply qr_len; refine r_len ?_) | (apply qr_index; refine r_index ?_) | (apply qr_ix; refine r_ix ?_) | (apply qr_store; refine r_store ?_) | (apply qr_lits; refine r_lits ?_) | (apply qr_appd; refine r_appd ?_))
    refine aw_lp (fun N sl ob => ∃ j k : Nat, N = n - (s.size + j) ∧ s.size + j ≤ n ∧ sl = [(7, .row 13 k), (0, .d (.str s)), (1, .d (.int at_)), (2, .d (.str t))] ∧ ob = [(13, .byt 5 k (bytV (s.data.toList ++ List.replicate j 0)))]) (⟨0, 0, rfl, by omega, rfl, by rw [List.replicate_zero, List.append_nil]⟩) ?_
    rintro N sl ob ⟨j, k, rfl, hj, rfl, rfl⟩
    have hbl : (bytV (s.data.toList ++ List.replicate j 0)).length = s.size + j := by rw [bytV_len, List.length_append, List.length_replicate]; omega
    by_cases hlt : s.size + j < at_ + t.size
    · have hb1 : bytV (s.data.toList ++ List.replicate j 0) ++ [Value.int .u8 0] = bytV (s.data.toList ++ List.replicate (j + 1) 0) := by
        rw [List.replicate_succ', ← List.append_assoc, bytV_app (_ ++ _)]
        rfl
      repeat' (first | (apply at_op (.call { callee := .builtin .len, args := _, argTypes := _ }); refine al_y (y_bytlen rfl rfl rfl ⟨_, _, _, _, rfl⟩ hbl) (lt_ok rfl) ?_) | (apply at_op (.call { callee := .builtin .append, args := _, argTypes := _ }); refine al_step (st_bytapp rfl rfl (by first | exact ToD.d _ | exact ToD.row _ _ _ _ _ rfl) rfl rfl rfl (by rw [hbl]; omega) (lt_ok rfl)) rfl ?_) | refine nx ?_ | (apply aq_block_y; decide) | (apply qr_move; refine r_move ?_) | (apply qr_assign; refine r_assign ?_) | (apply at_cond; first | refine c_t ?_ | refine c_f ?_ | (refine aw_cond rfl (fun hb => ?_) (fun hb => ?_) <;> ((try have hq := dX hb); (try (exfalso; omega))))) | (apply qr_lss; refine r_lss ?_) | (apply qr_eql; refine r_eql ?_) | (apply qr_add; refine r_add ?_) | (apply qr_conv; refine r_conv ?_) | (apply qr_len; refine r_len ?_) | (apply qr_index; refine r_index ?_) | (apply qr_ix; refine r_ix ?_) | (apply qr_store; refine r_store ?_) | (apply qr_lits; refine r_lits ?_) | (apply qr_appd; refine r_appd ?_))
      rw [hb1]
      refine aq_rd (⟨j + 1, k + 1, rfl, by omega, rfl, rfl⟩) (by omega)
    · have hje : j = n - s.size := by omega
      have hBl : (s.data.toList ++ List.replicate j 0).length = n := by rw [List.length_append, List.length_replicate]; omega
      rw [← hje]
      clear hje
      generalize hB : s.data.toList ++ List.replicate j 0 = B at hBl hbl
      repeat' (first | (apply at_op (.call { callee := .builtin .len, args := _, argTypes := _ }); refine al_y (y_bytlen rfl rfl rfl ⟨_, _, _, _, rfl⟩ hbl) (lt_ok rfl) ?_) | refine nx ?_ | (apply aq_block_y; decide) | (apply qr_move; refine r_move ?_) | (apply qr_assign; refine r_assign ?_) | (apply at_cond; first | refine c_t ?_ | refine c_f ?_ | (refine aw_cond rfl (fun hb => ?_) (fun hb => ?_) <;> ((try have hq := dX hb); (try (exfalso; omega))))) | (apply qr_lss; refine r_lss ?_) | (apply qr_eql; refine r_eql ?_) | (apply qr_add; refine r_add ?_) | (apply qr_conv; refine r_conv ?_) | (apply qr_len; refine r_len ?_) | (apply qr_index; refine r_index ?_) | (apply qr_ix; refine r_ix ?_) | (apply qr_store; refine r_store ?_) | (apply qr_lits; refine r_lits ?_) | (apply qr_appd; refine r_appd ?_))
      refine aw_lp (fun N sl ob => ∃ i : Nat, N = t.size - i ∧ i ≤ t.size ∧ sl = [(8, .d (.int i)), (7, .row 13 k), (1, .d (.int at_)), (2, .d (.str t))] ∧ ob = [(13, .byt 5 k (bytV (splice B at_ (t.data.toList.take i))))]) (⟨0, rfl, Nat.zero_le _, rfl, by rw [List.take_zero, splice_none]⟩) ?_
      rintro N sl ob ⟨i, rfl, hi, rfl, rfl⟩
      by_cases hlt2 : i < t.size
      · have hst := splice_step B at_ t.data.toList (i := i) (by omega) (by omega)
        have hset : (bytV (splice B at_ (t.data.toList.take i))).set (at_ + i) (.int .u8 ((bAt t i).toNat : Int)) = bytV (splice B at_ (t.data.toList.take (i + 1))) := by
          have hba : bAt t i = t.data.toList[i]'(by omega) := by
            unfold bAt
            rw [List.getD_eq_getElem?_getD, List.getElem?_eq_getElem (by omega)]
            rfl
          rw [hba, bytV_set, hst]
        have hsl : (bytV (splice B at_ (t.data.toList.take i))).length = n := by rw [splice_l (by simp; omega)]; exact hBl
        repeat' (first | (apply at_op (.indexAddr _ _ _); refine al_bytput (q := at_ + i) rfl rfl rfl rfl rfl (by omega) (by rw [hsl]; omega) rfl rfl (lt_ok rfl) ?_) | refine nx ?_ | (apply aq_block_y; decide) | (apply qr_move; refine r_move ?_) | (apply qr_assign; refine r_assign ?_) | (apply at_cond; first | refine c_t ?_ | refine c_f ?_ | (refine aw_cond rfl (fun hb => ?_) (fun hb => ?_) <;> ((try have hq := dX hb); (try (exfalso; omega))))) | (apply qr_lss; refine r_lss ?_) | (apply qr_eql; refine r_eql ?_) | (apply qr_add; refine r_add ?_) | (apply qr_conv; refine r_conv ?_) | (apply qr_len; refine r_len ?_) | (apply qr_index; refine r_index ?_) | (apply qr_ix; refine r_ix ?_) | (apply qr_store; refine r_store ?_) | (apply qr_lits; refine r_lits ?_) | (apply qr_appd; refine r_appd ?_))
        rw [hset]
        refine aq_rd (⟨i + 1, rfl, by omega, rfl, rfl⟩) (by omega)
      · obtain rfl : i = t.size := by omega
        rw [List.take_of_length_le (by omega)]
        repeat' (first | (apply at_op (.convert _ _ _); refine al_step (st_bytstr (L := splice B at_ t.data.toList) rfl rfl rfl Tryz.underlying5 Tryz.underlying9 rfl (lt_ok rfl)) rfl ?_) | refine nx ?_ | (apply aq_block_y; decide) | (apply qr_move; refine r_move ?_) | (apply qr_assign; refine r_assign ?_) | (apply at_cond; first | refine c_t ?_ | refine c_f ?_ | (refine aw_cond rfl (fun hb => ?_) (fun hb => ?_) <;> ((try have hq := dX hb); (try (exfalso; omega))))) | (apply qr_lss; refine r_lss ?_) | (apply qr_eql; refine r_eql ?_) | (apply qr_add; refine r_add ?_) | (apply qr_conv; refine r_conv ?_) | (apply qr_len; refine r_len ?_) | (apply qr_index; refine r_index ?_) | (apply qr_ix; refine r_ix ?_) | (apply qr_store; refine r_store ?_) | (apply qr_lits; refine r_lits ?_) | (apply qr_appd; refine r_appd ?_))
        refine ret_one (by rfl) (by first | exact ToD.d _ | exact ToD.row _ _ _ _ _ rfl) ?_
        rfl
end Go.Proofs.YtfgibalcdjlnhaaGreatDoor
end
section
set_option linter.unusedSimpArgs false
set_option linter.unusedVariables false
namespace Go.Proofs.YtfgibalcdjlnhaaGreatDoor
open Go.RowKit Go.ChangeMaps

section
variable {k : Nat} {fs : List RFile} {st : DS}
set_option maxHeartbeats 4000000 in
set_option maxRecDepth 20000 in
theorem rarm_any (n : Int) (l : List Int) (hl : l.length ≤ 1000000) : ObC 19 [.box 1000 0, .d (.int n), .d (keepD l)] (rsk 1000 1001 k fs st) [] (fun x o => x = .tup [] ∧ o = rsk 1000 1001 k fs { st with armed := max n 0, keep := l }) := by
  refine ob_enter Tryz.func19 rfl (by decide) _ Tryz.ntmps19 (le_ok rfl) rfl (fun w Pr β κ hE => ?_)
  dsimp only [slotsV, Nat.zero_add, Nat.reduceAdd]
  repeat' (first | (apply at_op (.buildSlice _ _ _); refine al_step (st_litR0 rfl (lt_ok rfl) rfl) rfl ?_) | (apply at_op (.call { callee := .builtin .append, args := _, argTypes := _ }); refine al_step (st_append rfl rfl (by first | exact ToD.d _ | exact ToD.row _ _ _ _ _ rfl) rfl rfl (one_ints l) (by decide) (by first | (simp only [List.length_map, List.length_append, List.length_cons, List.length_nil]; omega) | omega) (by first | (simp only [List.length_map, List.length_append, List.length_cons, List.length_nil]; omega) | omega) (lt_ok rfl)) rfl ?_; refine al_list 14 (by first | exact ToD.d _ | exact ToD.row _ _ _ _ _ rfl) ?_) | refine nx ?_ | (apply qr_move; refine r_move ?_) | (apply qr_max; refine r_max ?_) | (apply qr_faddr; refine r_faddr ?_) | (apply qr_nilck; refine r_nilck ?_) | (apply qr_store; refine r_store ?_) | (apply qr_lits; refine r_lits ?_) | (apply qr_appd; refine r_appd ?_))
  try refine aq_end ?_
  refine oret0 (rsk 1000 1001 k fs { st with armed := max n 0, keep := l }) (by rfl) (⟨rfl, rfl⟩) sb okx
set_option maxHeartbeats 8000000 in
set_option maxRecDepth 20000 in
theorem rsettle_any (h : RkOk fs st) (f : Int) (s : ByteArray) : ObC 56 [.box 1000 0, .d (.int f), .d (.str s)] (rsk 1000 1001 k fs st) [] (fun x o => x = .tup [] ∧ ∃ k', o = rsk 1000 1001 k' (rset fs (f, ⟨s, s⟩)) (settleS st f s)) := by
  have hs := rset_any (k := k) (st := st) h.len f ⟨s, s⟩
  have hQ := h.ok.len
  refine ob_enter Tryz.func56 rfl (by decide) _ Tryz.ntmps56 (le_ok rfl) rfl (fun w Pr β κ hE => ?_)
  dsimp only [slotsV, Nat.zero_add, Nat.reduceAdd]
  repeat' (first | (apply at_call; refine k_ocall [(1000, 1000), (1001, 1001)] (hs) hE ?_; rintro _ _ ⟨rfl, rfl⟩ <;> (intro _ _ h1 h2; simp only [renEqs, Nat.reduceBEq, renL_app, renL_ds, renL_und] at h1 h2; subst h1 h2)) | refine nx ?_ | (apply aq_block_y; decide) | (apply qr_move; refine r_move ?_) | (apply qr_assign; refine r_assign ?_) | (apply at_cond; first | refine c_t ?_ | refine c_f ?_ | (refine aw_cond rfl (fun hb => ?_) (fun hb => ?_) <;> ((try have hq := dX hb); (try (exfalso; omega))))) | (apply qr_build; refine r_build ?_))
  refine aw_adopt 6 6 82 2 rfl rfl (lt_ok rfl) ?_
  refine aw_lp (fun N sl ob => ∃ i v : Nat, N = st.Q.length - i ∧ i ≤ st.Q.length ∧ sl = [(7, .d (.int i)), (6, .row 6 v), (0, .box 1000 0), (1, .d (.int f))] ∧ ob = (6, .row 82 2 v ((kept f (st.Q.take i)).map secC)) :: rsk 1000 1001 k (rset fs (f, ⟨s, s⟩)) st) (⟨0, 0, rfl, Nat.zero_le _, rfl, rfl⟩) ?_
  rintro N sl ob ⟨i, v, rfl, hi, rfl, rfl⟩
  have hl1 : (kept f (st.Q.take i)).length ≤ i := by
    have := List.length_filter_le (fun p : Sec => !decide (p.1 = f)) (st.Q.take i)
    simp at this
    simp [kept]
    omega
  by_cases hlt : i < st.Q.length
  · have hft : kept f (st.Q.take (i + 1)) = kept f (st.Q.take i) ++ _ := filter_take1 hlt
    have hget : (st.Q.map secC)[i]? = some (secC st.Q[i]) := get_map hlt
    generalize st.Q[i] = z at hft hget
    obtain ⟨m, n⟩ := z
    have hget : (st.Q.map secC)[i]? = some [D.int m, .int n] := hget
    by_cases hm : m = f
    · have hq : (!decide (m = f)) = false := by simp [hm]
      rw [if_neg (by simp [hm]), List.append_nil] at hft
      repeat' (first | (apply at_op (.indexAddr _ _ _); refine al_y (y_ix (by first | exact ToD.d _ | exact ToD.row _ _ _ _ _ rfl) rfl rfl (by first | with_reducible rfl | exact lit0 | exact lit1 | exact lit2 | exact lit3 | exact lit4 | exact int_s _ | exact int_p _ _ | exact int_nat _ (by omega)) hget) (lt_ok rfl) ?_) | refine nx ?_ | (apply aq_block_y; decide) | (apply qr_move; refine r_move ?_) | (apply qr_assign; refine r_assign ?_) | (apply at_cond; first | refine c_t ?_ | refine c_f ?_ | (refine aw_cond rfl (fun hb => ?_) (fun hb => ?_) <;> ((try have hq := dX hb); (try (exfalso; omega))))) | (apply qr_lss; refine r_lss ?_) | (apply qr_neq; refine r_neq ?_) | (apply qr_add; refine r_add ?_) | (apply qr_len; refine r_len ?_) | (apply qr_ix; refine r_ix ?_) | (apply qr_load; refine r_load ?_) | (apply qr_faddr; refine r_faddr ?_) | (apply qr_nilck; refine r_nilck ?_) | (apply qr_store; refine r_store ?_) | (apply qr_build; refine r_build ?_) | (apply qr_lits; refine r_lits ?_) | (apply qr_appd; refine r_appd ?_))
      refine aq_rd (⟨i + 1, v, rfl, by omega, rfl, by rw [hft]⟩) (by omega)
    · have hq : (!decide (m = f)) = true := by simp [hm]
      rw [if_pos (by simp [hm])] at hft
      repeat' (first | (apply at_op (.indexAddr _ _ _); refine al_y (y_ix (by first | exact ToD.d _ | exact ToD.row _ _ _ _ _ rfl) rfl rfl (by first | with_reducible rfl | exact lit0 | exact lit1 | exact lit2 | exact lit3 | exact lit4 | exact int_s _ | exact int_p _ _ | exact int_nat _ (by omega)) hget) (lt_ok rfl) ?_) | refine nx ?_ | (apply aq_block_y; decide) | (apply qr_move; refine r_move ?_) | (apply qr_assign; refine r_assign ?_) | (apply at_cond; first | refine c_t ?_ | refine c_f ?_ | (refine aw_cond rfl (fun hb => ?_) (fun hb => ?_) <;> ((try have hq := dX hb); (try (exfalso; omega))))) | (apply qr_lss; refine r_lss ?_) | (apply qr_neq; refine r_neq ?_) | (apply qr_add; refine r_add ?_) | (apply qr_len; refine r_len ?_) | (apply qr_ix; refine r_ix ?_) | (apply qr_load; refine r_load ?_) | (apply qr_faddr; refine r_faddr ?_) | (apply qr_nilck; refine r_nilck ?_) | (apply qr_store; refine r_store ?_) | (apply qr_build; refine r_build ?_) | (apply qr_lits; refine r_lits ?_) | (apply qr_appd; refine r_appd ?_))
      refine aq_rd (⟨i + 1, v + 1, rfl, by omega, rfl, by rw [hft, List.map_append]⟩) (by omega)
  · rw [List.take_of_length_le (by omega)] at hl1 ⊢
    repeat' (first | refine nx ?_ | (apply aq_block_y; decide) | (apply qr_move; refine r_move ?_) | (apply qr_assign; refine r_assign ?_) | (apply at_cond; first | refine c_t ?_ | refine c_f ?_ | (refine aw_cond rfl (fun hb => ?_) (fun hb => ?_) <;> ((try have hq := dX hb); (try (exfalso; omega))))) | (apply qr_lss; refine r_lss ?_) | (apply qr_neq; refine r_neq ?_) | (apply qr_add; refine r_add ?_) | (apply qr_len; refine r_len ?_) | (apply qr_ix; refine r_ix ?_) | (apply qr_load; refine r_load ?_) | (apply qr_faddr; refine r_faddr ?_) | (apply qr_nilck; refine r_nilck ?_) | (apply qr_store; refine r_store ?_) | (apply qr_build; refine r_build ?_) | (apply qr_lits; refine r_lits ?_) | (apply qr_appd; refine r_appd ?_))
    refine aq_rebind 1000 1 1001 6 rfl rfl rfl rfl (by decide) rfl ?_
    try refine aq_end ?_
    refine oret0 (rsk 1000 1001 (k + 1) (rset fs (f, ⟨s, s⟩)) (settleS st f s)) (by rfl) (⟨rfl, k + 1, rfl⟩) sb okx
end
end Go.Proofs.YtfgibalcdjlnhaaGreatDoor
end
section
set_option linter.unusedSimpArgs false
set_option linter.unusedVariables false
namespace Go.Proofs.YtfgibalcdjlnhaaGreatDoor
open Go.RowKit Go.ChangeMaps

theorem RkOk.put {fs : List RFile} {st st' : DS} (h : RkOk fs st) {f : Int} (hf : 0 ≤ f ∧ f < 16) {x : Fl} (hF : st'.F = upd st.F f x) (hok : st'.Ok) : RkOk (rset fs (f, x)) st' := by
  refine ⟨fun n => ?_, rset_nodup h.nodup _, rset_num h.num hf, hok⟩
  rw [rget_set, hF]
  by_cases e : n = f
  · rw [e, upd_same, upd_same]
  · rw [upd_ne _ _ e, upd_ne _ _ e, h.get]
def ROut (st : DS) (o : Objs) : Prop := ∃ k fs, RkOk fs st ∧ o = rsk 1000 1001 k fs st
section
variable {k : Nat} {fs : List RFile} {st : DS}
set_option maxHeartbeats 8000000 in
set_option maxRecDepth 20000 in
theorem radd_any (h : RkOk fs st) {f at_ : Int} {s : ByteArray} (hw : wrE st f at_ s = 0) : ObC 66 [.box 1000 0, .d (.int f), .d (.int at_), .d (.str s)] (rsk 1000 1001 k fs st) [] (fun x o => x = .tup [] ∧ ROut (wrS st f at_ s) o) := by
  have hwok := h.ok.wr f at_ s
  by_cases hs0 : s.size = 0
  · have hq : decide (s = ⟨#[]⟩) = true := decide_eq_true (empty_of hs0)
    have hwS : wrS st f at_ s = st := if_pos (.inr hs0)
    rw [hwS]
    refine ob_enter Tryz.func66 rfl (by decide) _ Tryz.ntmps66 (le_ok rfl) rfl (fun w Pr β κ hE => ?_)
    dsimp only [slotsV, Nat.zero_add, Nat.reduceAdd]
    repeat' (first | refine nx ?_ | (apply aq_block_y; decide) | (apply qr_move; refine r_move ?_) | (apply at_cond; first | refine c_t ?_ | refine c_f ?_ | (refine aw_cond rfl (fun hb => ?_) (fun hb => ?_) <;> ((try have hq := dX hb); (try (exfalso; omega))))) | (apply qr_eql; refine r_eql ?_))
    try refine aq_end ?_
    refine oret0 (rsk 1000 1001 k fs st) (by rfl) (⟨rfl, k, fs, h, rfl⟩) sb okx
  · have hq : decide (s = (⟨#[]⟩ : ByteArray)) = false := decide_eq_false fun e => hs0 (by rw [e]; rfl)
    have hwS : wrS st f at_ s = { st with F := upd st.F f ⟨putB (st.F f).now at_.toNat s, (st.F f).last⟩, Q := addSecs f (touch at_ s) (at_ / 64) st.Q } := by
      unfold wrS
      exact if_neg (by rintro (e | e); exact e hw; exact hs0 e)
    rw [hwS] at hwok ⊢
    have hm0 : mayE st f = 0 := by
      apply Decidable.byContradiction
      intro e
      simp [wrE, e] at hw
    obtain ⟨_, hf⟩ := may_ok hm0
    have ha : ¬ at_ < 0 := fun e => by simp [wrE, hm0, e] at hw
    have hb : ¬ (16777216 < at_ ∨ 16777216 - at_ < s.size) := fun e => by simp [wrE, hm0, ha, e] at hw
    obtain ⟨a, rfl⟩ : ∃ a : Nat, at_ = a := ⟨at_.toNat, by omega⟩
    have hput := rput_any (st.F f).now a s (h.ok.now f) (by omega)
    have hg := rget_any (k := k) h f
    rw [Int.toNat_natCast] at hwok ⊢
    simp only [rfD] at hg
    generalize hPB : putB (st.F f).now a s = now' at hput hwok ⊢
    generalize (st.F f).now = now0 at hput hg
    generalize (st.F f).last = last0 at hg hwok ⊢
    have hset := rset_any (k := k) (st := st) h.len f ⟨now', last0⟩
    simp only [rfD] at hset
    refine ob_enter Tryz.func66 rfl (by decide) _ Tryz.ntmps66 (le_ok rfl) rfl (fun w Pr β κ hE => ?_)
    dsimp only [slotsV, Nat.zero_add, Nat.reduceAdd]
    repeat' (first | (apply at_call; refine k_ocall [(1000, 1000), (1001, 1001)] (hg) hE ?_; rintro _ _ ⟨rfl, rfl⟩ <;> (intro _ _ h1 h2; simp only [renEqs, Nat.reduceBEq, renL_app, renL_ds, renL_und] at h1 h2; subst h1 h2)) | (apply at_call; refine k_call (hput) hE ?_; rintro _ rfl) | (apply at_call; refine k_ocall [(1000, 1000), (1001, 1001)] (hset) hE ?_; rintro _ _ ⟨rfl, rfl⟩ <;> (intro _ _ h1 h2; simp only [renEqs, Nat.reduceBEq, renL_app, renL_ds, renL_und] at h1 h2; subst h1 h2)) | refine nx ?_ | (apply aq_block_y; decide) | (apply qr_move; refine r_move ?_) | (apply qr_assign; refine r_assign ?_) | (apply at_cond; first | refine c_t ?_ | refine c_f ?_ | (refine aw_cond rfl (fun hb => ?_) (fun hb => ?_) <;> ((try have hq := dX hb); (try (exfalso; omega))))) | (apply qr_eql; refine r_eql ?_) | (apply qr_quo; refine r_quo ?_) | (apply qr_load; refine r_load ?_) | (apply qr_faddr; refine r_faddr ?_) | (apply qr_alloc; refine r_alloc ?_) | (apply qr_store; refine r_store ?_))
    generalize hQF : addSecs f (touch a s) (a / 64) st.Q = QF at hwok ⊢
    clear hw hwS hput hg hset hPB
    have ht : (a : Int) / 64 + (touch a s : Nat) = ((a : Int) + s.size - 1) / 64 + 1 := by unfold touch; omega
    refine aw_lp (fun N sl ob => ∃ (c : Nat) (n : Int) (Q : List Sec) (kk : Nat), N = c ∧ QOk Q ∧ addSecs f c n Q = QF ∧ 0 ≤ n ∧ n + c = ((a : Int) + s.size - 1) / 64 + 1 ∧ sl = [(9, .d (.int n)), (0, .box 1000 0), (1, .d (.int f)), (2, .d (.int a)), (3, .d (.str s))] ∧ ob = rsk 1000 1001 kk (rset fs (f, ⟨now', last0⟩)) { st with Q := Q }) (⟨touch a s, a / 64, st.Q, k, rfl, h.ok.q, hQF, by omega, ht, rfl, rfl⟩) ?_
    rintro N sl ob ⟨c, n, Q, kk, rfl, hQ, hQF', hn0, hn, rfl, rfl⟩
    have hlen := hQ.len
    have hp := rpending_any (k := kk) (fs := rset fs (f, ⟨now', last0⟩)) (st := { st with Q := Q }) hlen f n
    cases N with
    | zero =>
      have hQ2 : Q = QF := hQF'
      subst hQ2
      repeat' (first | refine nx ?_ | (apply aq_block_y; decide) | (apply qr_move; refine r_move ?_) | (apply qr_assign; refine r_assign ?_) | (apply at_cond; first | refine c_t ?_ | refine c_f ?_ | (refine aw_cond rfl (fun hb => ?_) (fun hb => ?_) <;> ((try have hq := dX hb); (try (exfalso; omega))))) | (apply qr_leq; refine r_leq ?_) | (apply qr_eql; refine r_eql ?_) | (apply qr_add; refine r_add ?_) | (apply qr_sub; refine r_sub ?_) | (apply qr_quo; refine r_quo ?_) | (apply qr_not; refine r_not ?_) | (apply qr_len; refine r_len ?_) | (apply qr_load; refine r_load ?_) | (apply qr_faddr; refine r_faddr ?_) | (apply qr_nilck; refine r_nilck ?_) | (apply qr_alloc; refine r_alloc ?_) | (apply qr_store; refine r_store ?_) | (apply qr_build; refine r_build ?_) | (apply qr_lits; refine r_lits ?_) | (apply qr_appd; refine r_appd ?_))
      try refine aq_end ?_
      refine oret0 (rsk 1000 1001 kk (rset fs (f, ⟨now', last0⟩)) { st with F := upd st.F f ⟨now', last0⟩, Q := Q }) (by rfl) (⟨rfl, kk, _, h.put hf rfl hwok, rfl⟩) sb okx
    | succ c =>
      by_cases hm : (f, n) ∈ Q
      · rw [adds_yes hm] at hQF'
        have hd : (!decide ((f, n) ∈ Q)) = false := by simp [hm]
        repeat' (first | (apply at_call; refine k_ocall [(1000, 1000), (1001, 1001)] (hp) hE ?_; rintro _ _ ⟨rfl, rfl⟩ <;> (intro _ _ h1 h2; simp only [renEqs, Nat.reduceBEq, renL_app, renL_ds, renL_und] at h1 h2; subst h1 h2)) | refine nx ?_ | (apply aq_block_y; decide) | (apply qr_move; refine r_move ?_) | (apply qr_assign; refine r_assign ?_) | (apply at_cond; first | refine c_t ?_ | refine c_f ?_ | (refine aw_cond rfl (fun hb => ?_) (fun hb => ?_) <;> ((try have hq := dX hb); (try (exfalso; omega))))) | (apply qr_leq; refine r_leq ?_) | (apply qr_eql; refine r_eql ?_) | (apply qr_add; refine r_add ?_) | (apply qr_sub; refine r_sub ?_) | (apply qr_quo; refine r_quo ?_) | (apply qr_not; refine r_not ?_) | (apply qr_len; refine r_len ?_) | (apply qr_load; refine r_load ?_) | (apply qr_faddr; refine r_faddr ?_) | (apply qr_nilck; refine r_nilck ?_) | (apply qr_alloc; refine r_alloc ?_) | (apply qr_store; refine r_store ?_) | (apply qr_build; refine r_build ?_) | (apply qr_lits; refine r_lits ?_) | (apply qr_appd; refine r_appd ?_))
        refine aq_rd (⟨c, n + 1, Q, kk, rfl, hQ, hQF', by omega, by omega, rfl, rfl⟩) (by omega)
      · rw [adds_no hm] at hQF'
        have hd : (!decide ((f, n) ∈ Q)) = true := by simp [hm]
        have hQ' := hQ.add hm hf (by show 0 ≤ n ∧ n ≤ 262144; omega)
        repeat' (first | (apply at_call; refine k_ocall [(1000, 1000), (1001, 1001)] (hp) hE ?_; rintro _ _ ⟨rfl, rfl⟩ <;> (intro _ _ h1 h2; simp only [renEqs, Nat.reduceBEq, renL_app, renL_ds, renL_und] at h1 h2; subst h1 h2)) | refine nx ?_ | (apply aq_block_y; decide) | (apply qr_move; refine r_move ?_) | (apply qr_assign; refine r_assign ?_) | (apply at_cond; first | refine c_t ?_ | refine c_f ?_ | (refine aw_cond rfl (fun hb => ?_) (fun hb => ?_) <;> ((try have hq := dX hb); (try (exfalso; omega))))) | (apply qr_leq; refine r_leq ?_) | (apply qr_eql; refine r_eql ?_) | (apply qr_add; refine r_add ?_) | (apply qr_sub; refine r_sub ?_) | (apply qr_quo; refine r_quo ?_) | (apply qr_not; refine r_not ?_) | (apply qr_len; refine r_len ?_) | (apply qr_load; refine r_load ?_) | (apply qr_faddr; refine r_faddr ?_) | (apply qr_nilck; refine r_nilck ?_) | (apply qr_alloc; refine r_alloc ?_) | (apply qr_store; refine r_store ?_) | (apply qr_build; refine r_build ?_) | (apply qr_lits; refine r_lits ?_) | (apply qr_appd; refine r_appd ?_))
        rw [show Q.map secC ++ [[D.int f, D.int n]] = (Q ++ [(f, n)]).map secC by rw [List.map_append]; rfl]
        refine aq_rd (⟨c, n + 1, Q ++ [(f, n)], kk + 1, rfl, hQ', hQF', by omega, by omega, rfl, rfl⟩) (by omega)
end
end Go.Proofs.YtfgibalcdjlnhaaGreatDoor
end
section
set_option linter.unusedSimpArgs false
set_option linter.unusedVariables false
namespace Go.Proofs.YtfgibalcdjlnhaaGreatDoor
open Go.RowKit Go.ChangeMaps

theorem CrF.ok {st : DS} (h : st.Ok) {F : Int → Fl} (c : CrF st F) : ({ st with F := F } : DS).Ok := ⟨fun f => by show (F f).now.size ≤ _; rw [c.now]; exact h.now f, c.last, c.out, h.nodup, h.file, h.num, h.lost0, h.armed0, h.keepl⟩
theorem upd_id (F : Int → Fl) (f : Int) : upd F f (F f) = F := by
  funext n
  by_cases e : n = f
  · rw [e, upd_same]
  · rw [upd_ne _ _ e]
section
variable {k : Nat} {fs : List RFile} {st : DS}
set_option maxHeartbeats 8000000 in
set_option maxRecDepth 20000 in
theorem rsurv_any (h : RkOk fs st) {p : Sec} (hp : 0 ≤ p.1 ∧ p.1 < 16) (hp2 : 0 ≤ p.2 ∧ p.2 ≤ 262144) : ObC 45 [.box 1000 0, .d (.agg [.int p.1, .int p.2])] (rsk 1000 1001 k fs st) [] (fun x o => x = .tup [] ∧ ∃ fs', RkOk fs' { st with F := surv st.F p } ∧ o = rsk 1000 1001 k fs' { st with F := surv st.F p }) := by
  have hok := (CrF.surv h.ok h.ok.crf hp hp2.1).ok h.ok
  have hg := rget_any (k := k) h p.1
  simp only [rfD] at hg
  have hnow := h.ok.now p.1
  have hlast := h.ok.last p.1
  by_cases hc : p.2 * 64 < (st.F p.1).now.size
  · have hq : decide (64 * p.2 < ((st.F p.1).now.size : Int)) = true := decide_eq_true (by omega)
    have hps := part_size (st.F p.1).now p.2 hp2.1 hc
    have hput := rput_any (st.F p.1).last (p.2 * 64).toNat (partB (st.F p.1).now p.2) hlast (by omega)
    rw [show (((p.2 * 64).toNat : Nat) : Int) = 64 * p.2 by omega] at hput
    have hsF : surv st.F p = upd st.F p.1 ⟨(st.F p.1).now, putB (st.F p.1).last (p.2 * 64).toNat (partB (st.F p.1).now p.2)⟩ := if_pos hc
    rw [hsF] at hok ⊢
    have hset := rset_any (k := k) (st := st) h.len p.1 ⟨(st.F p.1).now, putB (st.F p.1).last (p.2 * 64).toNat (partB (st.F p.1).now p.2)⟩
    simp only [rfD] at hset
    have hR := h.put (st' := { st with F := upd st.F p.1 ⟨(st.F p.1).now, putB (st.F p.1).last (p.2 * 64).toNat (partB (st.F p.1).now p.2)⟩ }) hp rfl hok
    refine ob_enter Tryz.func45 rfl (by decide) _ Tryz.ntmps45 (le_ok rfl) rfl (fun w Pr β κ hE => ?_)
    dsimp only [slotsV, Nat.zero_add, Nat.reduceAdd]
    repeat' (first | (apply at_call; refine k_ocall [(1000, 1000), (1001, 1001)] (hg) hE ?_; rintro _ _ ⟨rfl, rfl⟩ <;> (intro _ _ h1 h2; simp only [renEqs, Nat.reduceBEq, renL_app, renL_ds, renL_und] at h1 h2; subst h1 h2)) | refine nx ?_ | (apply qr_move; refine r_move ?_) | (apply at_cond; first | refine c_t ?_ | refine c_f ?_ | (refine aw_cond rfl (fun hb => ?_) (fun hb => ?_) <;> ((try have hq := dX hb); (try (exfalso; omega))))) | (apply qr_lss; refine r_lss ?_) | (apply qr_mul; refine r_mul ?_) | (apply qr_len; refine r_len ?_) | (apply qr_load; refine r_load ?_) | (apply qr_faddr; refine r_faddr ?_) | (apply qr_alloc; refine r_alloc ?_) | (apply qr_boxed; refine r_boxed ?_) | (apply qr_store; refine r_store ?_))
    refine aw_mix [(0, true), (1, true), (2, true), (3, true), (4, true), (5, true), (6, true), (7, true), (8, true), (9, true), (10, true), (11, true), (12, true), (13, true), (14, true), (15, true), (16, true), (17, true), (18, true), (19, false)] [20, 21] (by kernel_rfl) (by kernel_rfl) (by kernel_rfl) (by decide) ?_
    simp only [planned, tailed, List.filterMap_cons, List.filterMap_nil, List.getElem?_cons_zero, List.getElem?_cons_succ, Option.map_some]
    repeat' (first | apply am_nil | refine m_skip ?_ | refine n_skip ?_ | (apply at_am (.slice _ _ _ _ _); refine am_y (by first | exact want_none | exact want_yes rfl rfl (by assumption) | exact want_yes rfl rfl (by with_reducible rfl)) (y_sub_s (l := (p.2 * 64).toNat) (h := (min (p.2 * 64 + 64) (st.F p.1).now.size).toNat) rfl (by kernel_rfl) (low_some rfl (by omega)) (high_some rfl (by omega)) (by omega) (by omega)) (lt_ok rfl) ?_) | (apply at_mcall; refine m_call (hput) hE ?_; rintro _ rfl; (try dsimp only [flat, D.plain, D.plainL])) | (apply qm_add; refine m_add ?_) | (apply qm_mul; refine m_mul ?_) | (apply qm_min; refine m_min ?_) | (apply qm_len; refine m_len ?_) | (apply qm_slice; refine m_slice ?_) | (apply qm_load; refine m_load ?_) | (apply qm_faddr; refine m_faddr ?_) | (refine am_split rfl rfl (fun hb => ?_) (fun hb => ?_) <;> ((try have hq := dX hb); (try (exfalso; omega)))))
    repeat' (first | (apply at_call; refine k_ocall [(1000, 1000), (1001, 1001)] (hset) hE ?_; rintro _ _ ⟨rfl, rfl⟩ <;> (intro _ _ h1 h2; simp only [renEqs, Nat.reduceBEq, renL_app, renL_ds, renL_und] at h1 h2; subst h1 h2)) | refine nx ?_ | (apply qr_move; refine r_move ?_) | (apply at_cond; first | refine c_t ?_ | refine c_f ?_ | (refine aw_cond rfl (fun hb => ?_) (fun hb => ?_) <;> ((try have hq := dX hb); (try (exfalso; omega))))) | (apply qr_lss; refine r_lss ?_) | (apply qr_add; refine r_add ?_) | (apply qr_mul; refine r_mul ?_) | (apply qr_min; refine r_min ?_) | (apply qr_len; refine r_len ?_) | (apply qr_slice; refine r_slice ?_) | (apply qr_load; refine r_load ?_) | (apply qr_faddr; refine r_faddr ?_) | (apply qr_alloc; refine r_alloc ?_) | (apply qr_boxed; refine r_boxed ?_) | (apply qr_store; refine r_store ?_))
    try refine aq_end ?_
    refine oret0 (rsk 1000 1001 k (rset fs (p.1, ⟨(st.F p.1).now, putB (st.F p.1).last (p.2 * 64).toNat (partB (st.F p.1).now p.2)⟩)) { st with F := upd st.F p.1 ⟨(st.F p.1).now, putB (st.F p.1).last (p.2 * 64).toNat (partB (st.F p.1).now p.2)⟩ }) (by rfl) (⟨rfl, _, hR, rfl⟩) sb okx
  · have hq : decide (64 * p.2 < ((st.F p.1).now.size : Int)) = false := decide_eq_false (by omega)
    have hsF : surv st.F p = st.F := if_neg hc
    rw [hsF] at hok ⊢
    have hset := rset_any (k := k) (st := st) h.len p.1 ⟨(st.F p.1).now, (st.F p.1).last⟩
    simp only [rfD] at hset
    have hR := h.put (st' := st) hp (x := ⟨(st.F p.1).now, (st.F p.1).last⟩) (upd_id st.F p.1).symm hok
    refine ob_enter Tryz.func45 rfl (by decide) _ Tryz.ntmps45 (le_ok rfl) rfl (fun w Pr β κ hE => ?_)
    dsimp only [slotsV, Nat.zero_add, Nat.reduceAdd]
    repeat' (first | (apply at_call; refine k_ocall [(1000, 1000), (1001, 1001)] (hg) hE ?_; rintro _ _ ⟨rfl, rfl⟩ <;> (intro _ _ h1 h2; simp only [renEqs, Nat.reduceBEq, renL_app, renL_ds, renL_und] at h1 h2; subst h1 h2)) | (apply at_call; refine k_ocall [(1000, 1000), (1001, 1001)] (hset) hE ?_; rintro _ _ ⟨rfl, rfl⟩ <;> (intro _ _ h1 h2; simp only [renEqs, Nat.reduceBEq, renL_app, renL_ds, renL_und] at h1 h2; subst h1 h2)) | refine nx ?_ | (apply qr_move; refine r_move ?_) | (apply at_cond; first | refine c_t ?_ | refine c_f ?_ | (refine aw_cond rfl (fun hb => ?_) (fun hb => ?_) <;> ((try have hq := dX hb); (try (exfalso; omega))))) | (apply qr_lss; refine r_lss ?_) | (apply qr_add; refine r_add ?_) | (apply qr_mul; refine r_mul ?_) | (apply qr_min; refine r_min ?_) | (apply qr_len; refine r_len ?_) | (apply qr_slice; refine r_slice ?_) | (apply qr_load; refine r_load ?_) | (apply qr_faddr; refine r_faddr ?_) | (apply qr_alloc; refine r_alloc ?_) | (apply qr_boxed; refine r_boxed ?_) | (apply qr_store; refine r_store ?_))
    try refine aq_end ?_
    refine oret0 (rsk 1000 1001 k (rset fs (p.1, ⟨(st.F p.1).now, (st.F p.1).last⟩)) st) (by rfl) (⟨rfl, _, hR, rfl⟩) sb okx
end
end Go.Proofs.YtfgibalcdjlnhaaGreatDoor
end
