/-
  A disk's queue and set: what settle does. Conditions: none.
-/
import Derived.Test.YtabaflklognhaaaDkD
set_option linter.unusedSimpArgs false
set_option linter.unusedVariables false
namespace Go.Proofs.Ytabaflklognhaaa
open Go.RowKit Go.ChangeMaps

abbrev secRow (k : Nat) (Q : List Sec) : O := .vec 70 2 k (Q.map secC)
set_option maxHeartbeats 8000000 in
set_option maxRecDepth 20000 in
theorem index_nil (f : Int) (k : Nat) : ObC 63 [.row 1001 k, .clo (.func 57) [.box 1000 0]] [(1001, secRow k []), (1000, capB f)] [] (fun x o => x = .d (.int (-1)) ∧ o = [(1001, secRow k []), (1000, capB f)]) := by
  refine ob_enter Try.func63 rfl (by decide) _ Try.ntmps63 (le_ok rfl) rfl (fun w Pr β κ hE => ?_)
  dsimp only [slotsV, Nat.zero_add, Nat.reduceAdd]
  repeat' (first | (apply at_op (.call { callee := .builtin .len, args := _, argTypes := _ }); refine al_y (y_veclen (n := 0) rfl rfl rfl ⟨_, _, _, _, rfl⟩ rfl) (lt_ok rfl) ?_) | apply aw_seq | apply aw_region | apply al_nil | apply aq_np | apply aq_then | apply aq_then_x | apply aq_then_r | apply aq_block_x | (apply aq_block_y; decide) | apply aq_block_r | apply aq_block | apply aw_block | apply aw_skip | apply aw_exit | apply aw_ret | (apply at_op (.move _); refine r_move ?_) | (apply at_op (.assign _); refine r_assign ?_) | (apply at_cond; first | refine c_t ?_ | refine c_f ?_ | (refine aw_cond rfl (fun hb => ?_) (fun hb => ?_) <;> ((first | have hq := of_decide_eq_true hb | have hq := of_decide_eq_false hb | have hq := dNT hb | have hq := dNF hb | skip); (try (exfalso; omega))))) | (apply at_op (.binOp .lss _ _ _ _); refine r_lss ?_) | (apply at_op (.binOp .add _ _ _ _); refine r_add ?_) | (apply at_op (.call { callee := .builtin .len, args := _, argTypes := _ }); refine r_len ?_) | (apply at_op (.indexAddr _ _ _); refine r_ix ?_) | (apply at_op (.load _ _); refine r_load ?_))
  refine aw_loop2 (fun N sl ob => N = 0 ∧ sl = [(8, .d (.int 0)), (7, .d (.int 0)), (1, .clo (.func 57) [.box 1000 0]), (0, .row 1001 k)] ∧ ob = [(1001, secRow k []), (1000, capB f)]) (_) _ _ (⟨rfl, rfl, rfl⟩) ?_ ?_ ?_
  · (repeat (first | exact sub_nil | (apply sub_cons; focus (first | rfl | exact vint (by first | omega) | (simp [look]; done)))))
  · (repeat (first | exact obs_nil | (apply obs_cons; focus (first | rfl | (simp [find]; done)))))
  rintro N sl ob ⟨rfl, rfl, rfl⟩
  repeat' (first | apply aw_seq | apply aw_region | apply al_nil | apply aq_np | apply aq_then | apply aq_then_x | apply aq_then_r | apply aq_block_x | (apply aq_block_y; decide) | apply aq_block_r | apply aq_block | apply aw_block | apply aw_skip | apply aw_exit | apply aw_ret | (apply at_op (.move _); refine r_move ?_) | (apply at_op (.assign _); refine r_assign ?_) | (apply at_cond; first | refine c_t ?_ | refine c_f ?_ | (refine aw_cond rfl (fun hb => ?_) (fun hb => ?_) <;> ((first | have hq := of_decide_eq_true hb | have hq := of_decide_eq_false hb | have hq := dNT hb | have hq := dNF hb | skip); (try (exfalso; omega))))) | (apply at_op (.binOp .lss _ _ _ _); refine r_lss ?_) | (apply at_op (.binOp .add _ _ _ _); refine r_add ?_) | (apply at_op (.call { callee := .builtin .len, args := _, argTypes := _ }); refine r_len ?_) | (apply at_op (.indexAddr _ _ _); refine r_ix ?_) | (apply at_op (.load _ _); refine r_load ?_))
  refine oret1 ([(1001, secRow k []), (1000, capB f)]) (by rfl) (by first | exact ResV.x _ _ (ResX.tmp _ _ (by first | exact ToD.d _ | exact ToD.row _ _ _ _ _ rfl | exact ToD.nil _)) | exact ResV.tmp _ _ rfl | exact ResV.x _ _ (ResX.cellA _ _ _ _ _ _ _ rfl rfl rfl (by first | (simp only [normV, normList, normMap]; rfl) | rfl) rfl)) (⟨rfl, rfl⟩) (by (repeat (first | exact obs_nil | (apply obs_cons; focus (first | rfl | (simp [find]; done)))))) (by first | (simp [okOut, V.within, V.withinL, O.within, keys, mem, look, nbeq_def, withinL_app, withinL_ds, withinL_und]; done) | rfl)
set_option maxHeartbeats 8000000 in
set_option maxRecDepth 20000 in
theorem delq_nil (f : Int) (k : Nat) : ObC 56 [.row 1001 k, .clo (.func 57) [.box 1000 0]] [(1001, secRow k []), (1000, capB f)] [] (fun x o => x = .row 1001 k ∧ o = [(1001, secRow k []), (1000, capB f)]) := by
  have hix := index_nil f k
  refine ob_enter Try.func56 rfl (by decide) _ Try.ntmps56 (le_ok rfl) rfl (fun w Pr β κ hE => ?_)
  dsimp only [slotsV, Nat.zero_add, Nat.reduceAdd]
  repeat' (first | (apply at_call; refine k_ocall [(1001, 1001), (1000, 1000)] (hix) hE ?_; rintro _ _ ⟨rfl, rfl⟩ <;> (intro _ _ h1 h2; simp only [renEqs, Nat.reduceBEq, renL_app, renL_ds, renL_und] at h1 h2; subst h1 h2)) | apply aw_seq | apply aw_region | apply al_nil | apply aq_np | apply aq_then | apply aq_then_x | apply aq_then_r | apply aq_block_x | (apply aq_block_y; decide) | apply aq_block_r | apply aq_block | apply aw_block | apply aw_skip | apply aw_exit | apply aw_ret | (apply at_op (.move _); refine r_move ?_) | (apply at_op (.assign _); refine r_assign ?_) | (apply at_cond; first | refine c_t ?_ | refine c_f ?_ | (refine aw_cond rfl (fun hb => ?_) (fun hb => ?_) <;> ((first | have hq := of_decide_eq_true hb | have hq := of_decide_eq_false hb | have hq := dNT hb | have hq := dNF hb | skip); (try (exfalso; omega))))) | (apply at_op (.binOp .lss _ _ _ _); refine r_lss ?_) | (apply at_op (.binOp .eql _ _ _ _); refine r_eql ?_) | (apply at_op (.binOp .add _ _ _ _); refine r_add ?_) | (apply at_op (.unOp .not _ _); refine r_not ?_) | (apply at_op (.call { callee := .builtin .len, args := _, argTypes := _ }); refine r_len ?_) | (apply at_op (.slice _ _ _ _ _); refine r_slice ?_) | (apply at_op (.indexAddr _ _ _); refine r_ix ?_) | (apply at_op (.load _ _); refine r_load ?_) | (apply at_op (.alloc _); refine r_alloc ?_) | (apply at_op (.store _ _ _); refine r_store ?_))
  refine oret1 ([(1001, secRow k []), (1000, capB f)]) (by rfl) (by first | exact ResV.x _ _ (ResX.tmp _ _ (by first | exact ToD.d _ | exact ToD.row _ _ _ _ _ rfl | exact ToD.nil _)) | exact ResV.tmp _ _ rfl | exact ResV.x _ _ (ResX.cellA _ _ _ _ _ _ _ rfl rfl rfl (by first | (simp only [normV, normList, normMap]; rfl) | rfl) rfl)) (⟨rfl, rfl⟩) (by (repeat (first | exact obs_nil | (apply obs_cons; focus (first | rfl | (simp [find]; done)))))) (by first | (simp [okOut, V.within, V.withinL, O.within, keys, mem, look, nbeq_def, withinL_app, withinL_ds, withinL_und]; done) | rfl)
theorem secC_len (Q : List Sec) : ∀ x ∈ Q.map secC, x.length = 2 := by
  intro x hx
  obtain ⟨p, _, rfl⟩ := List.mem_map.1 hx
  rfl
theorem delq_any (f : Int) (Q : List Sec) (k : Nat) (hQ : Q.length ≤ 4194320) : ObC 56 [.row 1001 k, .clo (.func 57) [.box 1000 0]] [(1001, secRow k Q), (1000, capB f)] [] (fun x o => ∃ k', x = .row 1001 k' ∧ o = [(1001, secRow k' (kept f Q)), (1000, capB f)]) := by
  by_cases h0 : Q = []
  · subst h0
    exact (delq_nil f k).mono fun x o ⟨h1, h2⟩ => ⟨k, h1, h2⟩
  · have hpos : 0 < Q.length := List.length_pos_iff.2 h0
    have := ObC.view (f := 56) (rest := [.clo (.func 57) [.box 1000 0]]) (ob1 := [(1000, capB f)]) (r := 1001) (e := 70) (s := 2) (k := k) (L := Q.map secC) (P := fun L' => L' = (kept f Q).map secC) (by simpa using h0) rfl rfl (fun i o hi => by
      by_cases hi0 : i = 1000
      · subst hi0
        rw [find_eq] at hi
        cases hi
        rfl
      · rw [find_ne hi0] at hi
        cases hi) (fun m => by
      have hb := delq_box f Q m hQ hpos
      rw [List.length_map]
      exact hb.mono fun x o ⟨Z, h1, h2, h3⟩ => ⟨(kept f Q).map secC, Z, rfl, secC_len _, h1, by rw [List.length_map]; exact h2, h3⟩)
    exact this.mono fun x o ⟨L', h1, h2, h3⟩ => ⟨k + 1, h2, by rw [h3, h1]⟩
/-- how far the range over the set has come -/
structure DelI (f : Int) (l0 l : List ME) (seen : List Nat) : Prop where
  sub : ∀ q ∈ l, q ∈ l0
  gone : ∀ q ∈ l0, q ∈ l ∨ ∃ p, q.2.1 = secV p ∧ p.1 = f
  seen : ∀ q ∈ l, q.1 ∈ seen → ∀ p, q.2.1 = secV p → p.1 ≠ f
def unseen (l : List ME) (seen : List Nat) : Nat := l.countP fun q => !decide (q.1 ∈ seen)
theorem unseen_lt {l : List ME} {seen : List Nat} {q : ME} (hq : q ∈ l) (hs : q.1 ∉ seen) : unseen l (seen ++ [q.1]) < unseen l seen := by
  have mono : ∀ r : List ME, unseen r (seen ++ [q.1]) ≤ unseen r seen := fun r => List.countP_mono_left fun x _ h => by
    simp at h ⊢
    exact h.1
  induction l with
  | nil => cases hq
  | cons x l ih =>
    unfold unseen
    rw [List.countP_cons, List.countP_cons]
    rcases List.mem_cons.1 hq with rfl | hq
    · have := mono l
      unfold unseen at this
      have e1 : (if (!decide (q.1 ∈ seen ++ [q.1])) = true then 1 else 0) = 0 := by simp
      have e2 : (if (!decide (q.1 ∈ seen)) = true then 1 else 0) = 1 := by simp [hs]
      omega
    · have := ih hq
      unfold unseen at this
      have h2 : (if (!decide (x.1 ∈ seen ++ [q.1])) = true then 1 else 0) ≤ (if (!decide (x.1 ∈ seen)) = true then 1 else 0) := by
        by_cases h1 : x.1 ∈ seen
        · simp [h1]
        · by_cases h2 : x.1 = q.1 <;> simp [h1, h2]
      omega
theorem DelI.start (f : Int) (l : List ME) : DelI f l l [] := ⟨fun _ h => h, fun _ h => .inl h, fun _ _ h => by cases h⟩
theorem DelI.done {f : Int} {l0 l : List ME} {seen : List Nat} {Q : List Sec} (h : DelI f l0 l seen) (hS : SRep l0 Q) (hall : ∀ q ∈ l, q.1 ∈ seen) : SRep l (kept f Q) := by
  refine ⟨fun q hq => ?_, fun p hp => ?_⟩
  · obtain ⟨p, h1, h2, h3⟩ := hS.of q (h.sub q hq)
    refine ⟨p, ?_, h2, h3⟩
    have := h.seen q hq (hall q hq) p h2
    simp [kept, h1, this]
  · have hp2 : p ∈ Q ∧ ¬ p.1 = f := by simpa [kept] using hp
    obtain ⟨q, h1, h2⟩ := hS.all p hp2.1
    rcases h.gone q h1 with h3 | ⟨p', h3, h4⟩
    · exact ⟨q, h3, h2⟩
    · exact absurd (by rw [secV_inj (h2.symm.trans h3)]; exact h4) hp2.2
theorem DelI.keep {f : Int} {l0 l : List ME} {seen : List Nat} (h : DelI f l0 l seen) {t : Type} {c : Nat} (hm : (l.map fun q : ME => q.1).Nodup) {j n : Nat} {p : Sec} {d : D} (hj : l[j]? = some (n, secV p, d)) (hp : ¬ p.1 = f) : DelI f l0 l (seen ++ [n]) := by
  have _ := c
  refine ⟨h.sub, h.gone, fun q hq hs p' hp' => ?_⟩
  rcases List.mem_append.1 hs with hs | hs
  · exact h.seen q hq hs p' hp'
  · simp at hs
    obtain ⟨i, hi⟩ := List.mem_iff_getElem?.1 hq
    have := nodup_one (f := fun q : ME => q.1) hm hi hj hs
    subst this
    rw [hj] at hi
    cases hi
    rw [← secV_inj hp']
    exact hp
theorem erase_mem {α : Type} {l : List α} {j : Nat} {q : α} (h : q ∈ l.eraseIdx j) : ∃ i, i ≠ j ∧ l[i]? = some q := by
  obtain ⟨i, hi⟩ := List.mem_iff_getElem?.1 h
  rw [List.getElem?_eraseIdx] at hi
  split at hi
  · exact ⟨i, by omega, hi⟩
  · exact ⟨i + 1, by omega, hi⟩
theorem mem_erase {α : Type} {l : List α} {i j : Nat} {q : α} (hi : l[i]? = some q) (hne : i ≠ j) : q ∈ l.eraseIdx j := by
  by_cases h : i < j
  · exact List.mem_of_getElem? (i := i) (by rw [List.getElem?_eraseIdx, if_pos h]; exact hi)
  · exact List.mem_of_getElem? (i := i - 1) (by rw [List.getElem?_eraseIdx, if_neg (by omega), show i - 1 + 1 = i by omega]; exact hi)
theorem DelI.drop {f : Int} {l0 l : List ME} {seen : List Nat} (h : DelI f l0 l seen) (hm : (l.map fun q : ME => q.1).Nodup) {j n : Nat} {p : Sec} {d : D} (hj : l[j]? = some (n, secV p, d)) (hp : p.1 = f) : DelI f l0 (l.eraseIdx j) (seen ++ [n]) := by
  refine ⟨fun q hq => ?_, fun q hq => ?_, fun q hq hs p' hp' => ?_⟩
  · obtain ⟨i, _, hi⟩ := erase_mem hq
    exact h.sub q (List.mem_of_getElem? hi)
  · rcases h.gone q hq with h1 | h1
    · obtain ⟨i, hi⟩ := List.mem_iff_getElem?.1 h1
      by_cases hij : i = j
      · subst hij
        rw [hj] at hi
        cases hi
        exact .inr ⟨p, rfl, hp⟩
      · exact .inl (mem_erase hi hij)
    · exact .inr h1
  · obtain ⟨i, hij, hi⟩ := erase_mem hq
    rcases List.mem_append.1 hs with hs | hs
    · exact h.seen q (List.mem_of_getElem? hi) hs p' hp'
    · simp at hs
      exact absurd (nodup_one (f := fun q : ME => q.1) hm hi hj hs) hij
theorem keyD_sec (p : Sec) : keyD (secV p) = .agg [.int p.1, .int p.2] := rfl
def SecKeys (Q : List Sec) : Prop := ∀ p ∈ Q, i64 p.1 ∧ i64 p.2
set_option maxHeartbeats 8000000 in
set_option maxRecDepth 20000 in
theorem delm_any (f : Int) (Q : List Sec) (hk : SecKeys Q) (c : Nat) (l0 : List ME) (hS : SRep l0 Q) : ObC 58 [.mp 1001, .clo (.func 59) [.box 1000 0]] [(1001, .map 53 c l0), (1000, capB f)] [] (fun x o => x = .tup [] ∧ ∃ l', SRep l' (kept f Q) ∧ o = [(1001, .map 53 c l'), (1000, capB f)]) := by
  refine ob_enter Try.func58 rfl (by decide) _ Try.ntmps58 (le_ok rfl) rfl (fun w Pr β κ hE => ?_)
  dsimp only [slotsV, Nat.zero_add, Nat.reduceAdd]
  refine aw_mapok 1001 rfl (fun hm0 => ?_)
  repeat' (first | (apply at_op (.range _ _); refine al_step (st_range setM rfl rfl (lt_ok rfl) rfl (by decide)) rfl ?_) | apply aw_seq | apply aw_region | apply al_nil | apply aq_np | apply aq_then | apply aq_then_x | apply aq_then_r | apply aq_block_x | (apply aq_block_y; decide) | apply aq_block_r | apply aq_block | apply aw_block | apply aw_skip | apply aw_exit | apply aw_ret | (apply at_op (.move _); refine r_move ?_) | (apply at_op (.assign _); refine r_assign ?_) | (apply at_cond; first | refine c_t ?_ | refine c_f ?_ | (refine aw_cond rfl (fun hb => ?_) (fun hb => ?_) <;> ((first | have hq := of_decide_eq_true hb | have hq := of_decide_eq_false hb | have hq := dNT hb | have hq := dNF hb | skip); (try (exfalso; omega))))) | (apply at_op (.extract _ _); refine r_extract ?_) | (apply at_op (.load _ _); refine r_load ?_) | (apply at_op (.alloc _); refine r_alloc ?_) | (apply at_op (.store _ _ _); refine r_store ?_))
  refine aw_loop2 (fun N sl ob => ∃ (l : List ME) (seen : List Nat), N = unseen l0 seen ∧ DelI f l0 l seen ∧ sl = [(7, .box 7 0), (1, .clo (.func 59) [.box 1000 0]), (0, .mp 1001)] ∧ ob = [(7, .iter (.mp 1001) c seen c), (1001, .map 53 c l), (1000, capB f)]) (_) _ _ (⟨l0, [], rfl, DelI.start f l0, rfl, rfl⟩) ?_ ?_ ?_
  · (repeat (first | exact sub_nil | (apply sub_cons; focus (first | rfl | exact vint (by first | omega) | (simp [look]; done)))))
  · (repeat (first | exact obs_nil | (apply obs_cons; focus (first | rfl | (simp [find]; done)))))
  rintro N sl ob ⟨l, seen, rfl, hI, rfl, rfl⟩
  refine aw_mapok 1001 rfl (fun hm => ?_)
  repeat' (first | apply aw_seq | apply aw_region | apply al_nil | apply aq_np | apply aq_then | apply aq_then_x | apply aq_then_r | apply aq_block_x | (apply aq_block_y; decide) | apply aq_block_r | apply aq_block | apply aw_block | apply aw_skip | apply aw_exit | apply aw_ret | (apply at_op (.move _); refine r_move ?_) | (apply at_op (.assign _); refine r_assign ?_) | (apply at_cond; first | refine c_t ?_ | refine c_f ?_ | (refine aw_cond rfl (fun hb => ?_) (fun hb => ?_) <;> ((first | have hq := of_decide_eq_true hb | have hq := of_decide_eq_false hb | have hq := dNT hb | have hq := dNF hb | skip); (try (exfalso; omega))))) | (apply at_op (.extract _ _); refine r_extract ?_) | (apply at_op (.load _ _); refine r_load ?_) | (apply at_op (.alloc _); refine r_alloc ?_) | (apply at_op (.store _ _ _); refine r_store ?_))
  refine al_next rfl rfl rfl (fun q hq => hm0.lt q (hI.sub q hq)) (Nat.le_refl _) (lt_ok rfl) (fun hall => ?_) (fun q hq hns => ?_)
  · have hdone := hI.done hS hall
    repeat' (first | apply aw_seq | apply aw_region | apply al_nil | apply aq_np | apply aq_then | apply aq_then_x | apply aq_then_r | apply aq_block_x | (apply aq_block_y; decide) | apply aq_block_r | apply aq_block | apply aw_block | apply aw_skip | apply aw_exit | apply aw_ret | (apply at_op (.move _); refine r_move ?_) | (apply at_op (.assign _); refine r_assign ?_) | (apply at_cond; first | refine c_t ?_ | refine c_f ?_ | (refine aw_cond rfl (fun hb => ?_) (fun hb => ?_) <;> ((first | have hq := of_decide_eq_true hb | have hq := of_decide_eq_false hb | have hq := dNT hb | have hq := dNF hb | skip); (try (exfalso; omega))))) | (apply at_op (.extract _ _); refine r_extract ?_) | (apply at_op (.load _ _); refine r_load ?_) | (apply at_op (.alloc _); refine r_alloc ?_) | (apply at_op (.store _ _ _); refine r_store ?_))
    try refine aq_end ?_
    refine oret0 ([(1001, .map 53 c l), (1000, capB f)]) (by rfl)  (⟨rfl, l, hdone, rfl⟩) (by (repeat (first | exact obs_nil | (apply obs_cons; focus (first | rfl | (simp [find]; done)))))) (by first | (simp [okOut, V.within, V.withinL, O.within, keys, mem, look, nbeq_def, withinL_app, withinL_ds, withinL_und]; done) | rfl)
  · obtain ⟨p, hpQ, hp1, hp2⟩ := hS.of q (hI.sub q hq)
    obtain ⟨n, kk, d⟩ := q
    have hp1 : kk = secV p := hp1
    have hp2 : d = .bool true := hp2
    subst hp1 hp2
    obtain ⟨j, hj⟩ := List.mem_iff_getElem?.1 hq
    have hlt := unseen_lt (hI.sub _ hq) hns
    have hkey := sec_key (hk p hpQ).1 (hk p hpQ).2
    have hc := clo2_any f p.1 p.2 true
    by_cases he : p.1 = f
    · have hq1 : decide (p.1 = f) = true := decide_eq_true he
      have hdel : Del l (secV p) (l.eraseIdx j) := .old j n _ hj
      repeat' (first | (apply at_op (.entry _); refine al_y (y_entry (c0 := 0) rfl rfl rfl hj) (lt_ok rfl) ?_; simp only [keyD_sec]) | (apply at_call; refine k_clocall2 [(1000, 1000)] (hc) hE ?_; rintro _ _ ⟨rfl, rfl⟩ <;> (intro _ _ h1 h2; simp only [renEqs, Nat.reduceBEq, renL_app, renL_ds, renL_und] at h1 h2; subst h1 h2)) | (apply at_op (.call { callee := .builtin .delete, args := _, argTypes := _ }); refine al_step (st_delete setM rfl rfl rfl hkey rfl hdel) rfl ?_) | apply aw_seq | apply aw_region | apply al_nil | apply aq_np | apply aq_then | apply aq_then_x | apply aq_then_r | apply aq_block_x | (apply aq_block_y; decide) | apply aq_block_r | apply aq_block | apply aw_block | apply aw_skip | apply aw_exit | apply aw_ret | (apply at_op (.move _); refine r_move ?_) | (apply at_op (.assign _); refine r_assign ?_) | (apply at_cond; first | refine c_t ?_ | refine c_f ?_ | (refine aw_cond rfl (fun hb => ?_) (fun hb => ?_) <;> ((first | have hq := of_decide_eq_true hb | have hq := of_decide_eq_false hb | have hq := dNT hb | have hq := dNF hb | skip); (try (exfalso; omega))))) | (apply at_op (.extract _ _); refine r_extract ?_) | (apply at_op (.load _ _); refine r_load ?_) | (apply at_op (.alloc _); refine r_alloc ?_) | (apply at_op (.store _ _ _); refine r_store ?_))
      refine aq_round _ _ _ (⟨_, _, rfl, hI.drop hm.nodup hj he, rfl, rfl⟩) (hlt) ?_ ?_
      · (repeat (first | exact sub_nil | (apply sub_cons; focus (first | rfl | exact vint (by first | omega) | (simp [look]; done)))))
      · (repeat (first | exact obs_nil | (apply obs_cons; focus (first | rfl | (simp [find]; done)))))
    · have hq1 : decide (p.1 = f) = false := decide_eq_false he
      repeat' (first | (apply at_op (.entry _); refine al_y (y_entry (c0 := 0) rfl rfl rfl hj) (lt_ok rfl) ?_; simp only [keyD_sec]) | (apply at_call; refine k_clocall2 [(1000, 1000)] (hc) hE ?_; rintro _ _ ⟨rfl, rfl⟩ <;> (intro _ _ h1 h2; simp only [renEqs, Nat.reduceBEq, renL_app, renL_ds, renL_und] at h1 h2; subst h1 h2)) | (apply at_op (.call { callee := .builtin .delete, args := _, argTypes := _ }); refine al_step (st_delete setM rfl rfl rfl hkey rfl hdel) rfl ?_) | apply aw_seq | apply aw_region | apply al_nil | apply aq_np | apply aq_then | apply aq_then_x | apply aq_then_r | apply aq_block_x | (apply aq_block_y; decide) | apply aq_block_r | apply aq_block | apply aw_block | apply aw_skip | apply aw_exit | apply aw_ret | (apply at_op (.move _); refine r_move ?_) | (apply at_op (.assign _); refine r_assign ?_) | (apply at_cond; first | refine c_t ?_ | refine c_f ?_ | (refine aw_cond rfl (fun hb => ?_) (fun hb => ?_) <;> ((first | have hq := of_decide_eq_true hb | have hq := of_decide_eq_false hb | have hq := dNT hb | have hq := dNF hb | skip); (try (exfalso; omega))))) | (apply at_op (.extract _ _); refine r_extract ?_) | (apply at_op (.load _ _); refine r_load ?_) | (apply at_op (.alloc _); refine r_alloc ?_) | (apply at_op (.store _ _ _); refine r_store ?_))
      refine aq_round _ _ _ (⟨_, _, rfl, hI.keep (t := Nat) (c := c) hm.nodup hj he, rfl, rfl⟩) (hlt) ?_ ?_
      · (repeat (first | exact sub_nil | (apply sub_cons; focus (first | rfl | exact vint (by first | omega) | (simp [look]; done)))))
      · (repeat (first | exact obs_nil | (apply obs_cons; focus (first | rfl | (simp [find]; done)))))
end Go.Proofs.Ytabaflklognhaaa
