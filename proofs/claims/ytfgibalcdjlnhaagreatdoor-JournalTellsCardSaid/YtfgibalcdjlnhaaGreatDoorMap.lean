/-
  A disk's queue and set: what settle does. Conditions: none.
  A disk: settle, write. Conditions: none.
  A disk: write. Conditions: none.
-/
import Derived.Test.YtfgibalcdjlnhaaGreatDoorMao
section
set_option linter.unusedSimpArgs false
set_option linter.unusedVariables false
namespace Go.Proofs.YtfgibalcdjlnhaaGreatDoor
open Go.RowKit Go.ChangeMaps

abbrev secRow (k : Nat) (Q : List Sec) : O := .vec 76 2 k (Q.map secC)
set_option maxHeartbeats 8000000 in
set_option maxRecDepth 20000 in
theorem index_nil (f : Int) (k : Nat) : ObC 84 [.row 1001 k, .clo (.func 70) [.box 1000 0]] [(1001, secRow k []), (1000, capB f)] [] (fun x o => x = .d (.int (-1)) ∧ o = [(1001, secRow k []), (1000, capB f)]) := by
  refine ob_enter Tryz.func84 rfl (by decide) _ Tryz.ntmps84 (le_ok rfl) rfl (fun w Pr β κ hE => ?_)
  dsimp only [slotsV, Nat.zero_add, Nat.reduceAdd]
  repeat' (first | (apply at_op (.call { callee := .builtin .len, args := _, argTypes := _ }); refine al_y (y_veclen (n := 0) rfl rfl rfl ⟨_, _, _, _, rfl⟩ rfl) (lt_ok rfl) ?_) | refine nx ?_ | (apply aq_block_y; decide) | (apply qr_move; refine r_move ?_) | (apply qr_assign; refine r_assign ?_) | (apply at_cond; first | refine c_t ?_ | refine c_f ?_ | (refine aw_cond rfl (fun hb => ?_) (fun hb => ?_) <;> ((try have hq := dX hb); (try (exfalso; omega))))) | (apply qr_lss; refine r_lss ?_) | (apply qr_add; refine r_add ?_) | (apply qr_len; refine r_len ?_) | (apply qr_ix; refine r_ix ?_) | (apply qr_load; refine r_load ?_))
  refine aw_lp (fun N sl ob => N = 0 ∧ sl = [(8, .d (.int 0)), (7, .d (.int 0)), (1, .clo (.func 70) [.box 1000 0]), (0, .row 1001 k)] ∧ ob = [(1001, secRow k []), (1000, capB f)]) (⟨rfl, rfl, rfl⟩) ?_
  rintro N sl ob ⟨rfl, rfl, rfl⟩
  repeat' (first | refine nx ?_ | (apply aq_block_y; decide) | (apply qr_move; refine r_move ?_) | (apply qr_assign; refine r_assign ?_) | (apply at_cond; first | refine c_t ?_ | refine c_f ?_ | (refine aw_cond rfl (fun hb => ?_) (fun hb => ?_) <;> ((try have hq := dX hb); (try (exfalso; omega))))) | (apply qr_lss; refine r_lss ?_) | (apply qr_add; refine r_add ?_) | (apply qr_len; refine r_len ?_) | (apply qr_ix; refine r_ix ?_) | (apply qr_load; refine r_load ?_))
  refine oret1 ([(1001, secRow k []), (1000, capB f)]) (by rfl) rv (⟨rfl, rfl⟩) sb okx
set_option maxHeartbeats 8000000 in
set_option maxRecDepth 20000 in
theorem delq_nil (f : Int) (k : Nat) : ObC 69 [.row 1001 k, .clo (.func 70) [.box 1000 0]] [(1001, secRow k []), (1000, capB f)] [] (fun x o => x = .row 1001 k ∧ o = [(1001, secRow k []), (1000, capB f)]) := by
  have hix := index_nil f k
  refine ob_enter Tryz.func69 rfl (by decide) _ Tryz.ntmps69 (le_ok rfl) rfl (fun w Pr β κ hE => ?_)
  dsimp only [slotsV, Nat.zero_add, Nat.reduceAdd]
  repeat' (first | (apply at_call; refine k_ocall [(1001, 1001), (1000, 1000)] (hix) hE ?_; rintro _ _ ⟨rfl, rfl⟩ <;> (intro _ _ h1 h2; simp only [renEqs, Nat.reduceBEq, renL_app, renL_ds, renL_und] at h1 h2; subst h1 h2)) | refine nx ?_ | (apply aq_block_y; decide) | (apply qr_move; refine r_move ?_) | (apply qr_assign; refine r_assign ?_) | (apply at_cond; first | refine c_t ?_ | refine c_f ?_ | (refine aw_cond rfl (fun hb => ?_) (fun hb => ?_) <;> ((try have hq := dX hb); (try (exfalso; omega))))) | (apply qr_lss; refine r_lss ?_) | (apply qr_eql; refine r_eql ?_) | (apply qr_add; refine r_add ?_) | (apply qr_not; refine r_not ?_) | (apply qr_len; refine r_len ?_) | (apply qr_slice; refine r_slice ?_) | (apply qr_ix; refine r_ix ?_) | (apply qr_load; refine r_load ?_) | (apply qr_alloc; refine r_alloc ?_) | (apply qr_store; refine r_store ?_))
  refine oret1 ([(1001, secRow k []), (1000, capB f)]) (by rfl) rv (⟨rfl, rfl⟩) sb okx
theorem secC_len (Q : List Sec) : ∀ x ∈ Q.map secC, x.length = 2 := by
  intro x hx
  obtain ⟨p, _, rfl⟩ := List.mem_map.1 hx
  rfl
theorem delq_any (f : Int) (Q : List Sec) (k : Nat) (hQ : Q.length ≤ 4194320) : ObC 69 [.row 1001 k, .clo (.func 70) [.box 1000 0]] [(1001, secRow k Q), (1000, capB f)] [] (fun x o => ∃ k', x = .row 1001 k' ∧ o = [(1001, secRow k' (kept f Q)), (1000, capB f)]) := by
  by_cases h0 : Q = []
  · subst h0
    exact (delq_nil f k).mono fun x o ⟨h1, h2⟩ => ⟨k, h1, h2⟩
  · have hpos : 0 < Q.length := List.length_pos_iff.2 h0
    have := ObC.view (f := 69) (rest := [.clo (.func 70) [.box 1000 0]]) (ob1 := [(1000, capB f)]) (r := 1001) (e := 76) (s := 2) (k := k) (L := Q.map secC) (P := fun L' => L' = (kept f Q).map secC) (by simpa using h0) rfl rfl (fun i o hi => by
      by_cases hi0 : i = 1000
      · subst hi0
        rw [find_eq] at hi
        cases hi
        rfl
      · rw [find_ne hi0] at hi
        cases hi) (fun m => by
      have hb := delq_box f Q m hQ hpos
      rw [List.length_map]
      exact hb.mono fun x o ⟨Z, h1, h2, h3⟩ => ⟨(kept f Q).map secC, Z, rfl, secC_len _, h1, by rw [List.length_map]; exact h2, h3⟩)
    exact this.mono fun x o ⟨L', h1, h2, h3⟩ => ⟨k + 1, h2, by rw [h3, h1]⟩
/-- how far the range over the set has come -/
structure DelI (f : Int) (l0 l : List ME) (seen : List Nat) : Prop where
  sub : ∀ q ∈ l, q ∈ l0
  gone : ∀ q ∈ l0, q ∈ l ∨ ∃ p, q.2.1 = secV p ∧ p.1 = f
  seen : ∀ q ∈ l, q.1 ∈ seen → ∀ p, q.2.1 = secV p → p.1 ≠ f
def unseen (l : List ME) (seen : List Nat) : Nat := l.countP fun q => !decide (q.1 ∈ seen)
theorem unseen_lt {l : List ME} {seen : List Nat} {q : ME} (hq : q ∈ l) (hs : q.1 ∉ seen) : unseen l (seen ++ [q.1]) < unseen l seen := by
  have mono : ∀ r : List ME, unseen r (seen ++ [q.1]) ≤ unseen r seen := fun r => List.countP_mono_left fun x _ h => by
    simp at h ⊢
    exact h.1
  induction l with
  | nil => cases hq
  | cons x l ih =>
    unfold unseen
    rw [List.countP_cons, List.countP_cons]
    rcases List.mem_cons.1 hq with rfl | hq
    · have := mono l
      unfold unseen at this
      have e1 : (if (!decide (q.1 ∈ seen ++ [q.1])) = true then 1 else 0) = 0 := by simp
      have e2 : (if (!decide (q.1 ∈ seen)) = true then 1 else 0) = 1 := by simp [hs]
      omega
    · have := ih hq
      unfold unseen at this
      have h2 : (if (!decide (x.1 ∈ seen ++ [q.1])) = true then 1 else 0) ≤ (if (!decide (x.1 ∈ seen)) = true then 1 else 0) := by
        by_cases h1 : x.1 ∈ seen
        · simp [h1]
        · by_cases h2 : x.1 = q.1 <;> simp [h1, h2]
      omega
theorem DelI.start (f : Int) (l : List ME) : DelI f l l [] := ⟨fun _ h => h, fun _ h => .inl h, fun _ _ h => by cases h⟩
theorem DelI.done {f : Int} {l0 l : List ME} {seen : List Nat} {Q : List Sec} (h : DelI f l0 l seen) (hS : SRep l0 Q) (hall : ∀ q ∈ l, q.1 ∈ seen) : SRep l (kept f Q) := by
  refine ⟨fun q hq => ?_, fun p hp => ?_⟩
  · obtain ⟨p, h1, h2, h3⟩ := hS.of q (h.sub q hq)
    refine ⟨p, ?_, h2, h3⟩
    have := h.seen q hq (hall q hq) p h2
    simp [kept, h1, this]
  · have hp2 : p ∈ Q ∧ ¬ p.1 = f := by simpa [kept] using hp
    obtain ⟨q, h1, h2⟩ := hS.all p hp2.1
    rcases h.gone q h1 with h3 | ⟨p', h3, h4⟩
    · exact ⟨q, h3, h2⟩
    · exact absurd (by rw [secV_inj (h2.symm.trans h3)]; exact h4) hp2.2
theorem DelI.keep {f : Int} {l0 l : List ME} {seen : List Nat} (h : DelI f l0 l seen) {t : Type} {c : Nat} (hm : (l.map fun q : ME => q.1).Nodup) {j n : Nat} {p : Sec} {d : D} (hj : l[j]? = some (n, secV p, d)) (hp : ¬ p.1 = f) : DelI f l0 l (seen ++ [n]) := by
  have _ := c
  refine ⟨h.sub, h.gone, fun q hq hs p' hp' => ?_⟩
  rcases List.mem_append.1 hs with hs | hs
  · exact h.seen q hq hs p' hp'
  · simp at hs
    obtain ⟨i, hi⟩ := List.mem_iff_getElem?.1 hq
    have := nodup_one (f := fun q : ME => q.1) hm hi hj hs
    subst this
    rw [hj] at hi
    cases hi
    rw [← secV_inj hp']
    exact hp
theorem erase_mem {α : Type} {l : List α} {j : Nat} {q : α} (h : q ∈ l.eraseIdx j) : ∃ i, i ≠ j ∧ l[i]? = some q := by
  obtain ⟨i, hi⟩ := List.mem_iff_getElem?.1 h
  rw [List.getElem?_eraseIdx] at hi
  split at hi
  · exact ⟨i, by omega, hi⟩
  · exact ⟨i + 1, by omega, hi⟩
theorem mem_erase {α : Type} {l : List α} {i j : Nat} {q : α} (hi : l[i]? = some q) (hne : i ≠ j) : q ∈ l.eraseIdx j := by
  by_cases h : i < j
  · exact List.mem_of_getElem? (i := i) (by rw [List.getElem?_eraseIdx, if_pos h]; exact hi)
  · exact List.mem_of_getElem? (i := i - 1) (by rw [List.getElem?_eraseIdx, if_neg (by omega), show i - 1 + 1 = i by omega]; exact hi)
theorem DelI.drop {f : Int} {l0 l : List ME} {seen : List Nat} (h : DelI f l0 l seen) (hm : (l.map fun q : ME => q.1).Nodup) {j n : Nat} {p : Sec} {d : D} (hj : l[j]? = some (n, secV p, d)) (hp : p.1 = f) : DelI f l0 (l.eraseIdx j) (seen ++ [n]) := by
  refine ⟨fun q hq => ?_, fun q hq => ?_, fun q hq hs p' hp' => ?_⟩
  · obtain ⟨i, _, hi⟩ := erase_mem hq
    exact h.sub q (List.mem_of_getElem? hi)
  · rcases h.gone q hq with h1 | h1
    · obtain ⟨i, hi⟩ := List.mem_iff_getElem?.1 h1
      by_cases hij : i = j
      · subst hij
        rw [hj] at hi
        cases hi
        exact .inr ⟨p, rfl, hp⟩
      · exact .inl (mem_erase hi hij)
    · exact .inr h1
  · obtain ⟨i, hij, hi⟩ := erase_mem hq
    rcases List.mem_append.1 hs with hs | hs
    · exact h.seen q (List.mem_of_getElem? hi) hs p' hp'
    · simp at hs
      exact absurd (nodup_one (f := fun q : ME => q.1) hm hi hj hs) hij
theorem keyD_sec (p : Sec) : keyD (secV p) = .agg [.int p.1, .int p.2] := rfl
def SecKeys (Q : List Sec) : Prop := ∀ p ∈ Q, i64 p.1 ∧ i64 p.2
set_option maxHeartbeats 8000000 in
set_option maxRecDepth 20000 in
theorem delm_any (f : Int) (Q : List Sec) (hk : SecKeys Q) (c : Nat) (l0 : List ME) (hS : SRep l0 Q) : ObC 71 [.mp 1001, .clo (.func 72) [.box 1000 0]] [(1001, .map 57 c l0), (1000, capB f)] [] (fun x o => x = .tup [] ∧ ∃ l', SRep l' (kept f Q) ∧ o = [(1001, .map 57 c l'), (1000, capB f)]) := by
  refine ob_enter Tryz.func71 rfl (by decide) _ Tryz.ntmps71 (le_ok rfl) rfl (fun w Pr β κ hE => ?_)
  dsimp only [slotsV, Nat.zero_add, Nat.reduceAdd]
  refine aw_mapok 1001 rfl (fun hm0 => ?_)
  repeat' (first | (apply at_op (.range _ _); refine al_step (st_range setM rfl rfl (lt_ok rfl) rfl (by decide)) rfl ?_) | refine nx ?_ | (apply aq_block_y; decide) | (apply qr_move; refine r_move ?_) | (apply qr_assign; refine r_assign ?_) | (apply at_cond; first | refine c_t ?_ | refine c_f ?_ | (refine aw_cond rfl (fun hb => ?_) (fun hb => ?_) <;> ((try have hq := dX hb); (try (exfalso; omega))))) | (apply qr_extract; refine r_extract ?_) | (apply qr_load; refine r_load ?_) | (apply qr_alloc; refine r_alloc ?_) | (apply qr_store; refine r_store ?_))
  refine aw_lp (fun N sl ob => ∃ (l : List ME) (seen : List Nat), N = unseen l0 seen ∧ DelI f l0 l seen ∧ sl = [(7, .box 7 0), (1, .clo (.func 72) [.box 1000 0]), (0, .mp 1001)] ∧ ob = [(7, .iter (.mp 1001) c seen c), (1001, .map 57 c l), (1000, capB f)]) (⟨l0, [], rfl, DelI.start f l0, rfl, rfl⟩) ?_
  rintro N sl ob ⟨l, seen, rfl, hI, rfl, rfl⟩
  refine aw_mapok 1001 rfl (fun hm => ?_)
  repeat' (first | refine nx ?_ | (apply aq_block_y; decide) | (apply qr_move; refine r_move ?_) | (apply qr_assign; refine r_assign ?_) | (apply at_cond; first | refine c_t ?_ | refine c_f ?_ | (refine aw_cond rfl (fun hb => ?_) (fun hb => ?_) <;> ((try have hq := dX hb); (try (exfalso; omega))))) | (apply qr_extract; refine r_extract ?_) | (apply qr_load; refine r_load ?_) | (apply qr_alloc; refine r_alloc ?_) | (apply qr_store; refine r_store ?_))
  refine al_next rfl rfl rfl (fun q hq => hm0.lt q (hI.sub q hq)) (Nat.le_refl _) (lt_ok rfl) (fun hall => ?_) (fun q hq hns => ?_)
  · have hdone := hI.done hS hall
    repeat' (first | refine nx ?_ | (apply aq_block_y; decide) | (apply qr_move; refine r_move ?_) | (apply qr_assign; refine r_assign ?_) | (apply at_cond; first | refine c_t ?_ | refine c_f ?_ | (refine aw_cond rfl (fun hb => ?_) (fun hb => ?_) <;> ((try have hq := dX hb); (try (exfalso; omega))))) | (apply qr_extract; refine r_extract ?_) | (apply qr_load; refine r_load ?_) | (apply qr_alloc; refine r_alloc ?_) | (apply qr_store; refine r_store ?_))
    try refine aq_end ?_
    refine oret0 ([(1001, .map 57 c l), (1000, capB f)]) (by rfl) (⟨rfl, l, hdone, rfl⟩) sb okx
  · obtain ⟨p, hpQ, hp1, hp2⟩ := hS.of q (hI.sub q hq)
    obtain ⟨n, kk, d⟩ := q
    have hp1 : kk = secV p := hp1
    have hp2 : d = .bool true := hp2
    subst hp1 hp2
    obtain ⟨j, hj⟩ := List.mem_iff_getElem?.1 hq
    have hlt := unseen_lt (hI.sub _ hq) hns
    have hkey := sec_key (hk p hpQ).1 (hk p hpQ).2
    have hc := clo2_any f p.1 p.2 true
    by_cases he : p.1 = f
    · have hq1 : decide (p.1 = f) = true := decide_eq_true he
      have hdel : Del l (secV p) (l.eraseIdx j) := .old j n _ hj
      repeat' (first | (apply at_op (.entry _); refine al_y (y_entry (c0 := 0) rfl rfl rfl hj) (lt_ok rfl) ?_; simp only [keyD_sec]) | (apply at_call; refine k_clocall2 [(1000, 1000)] (hc) hE ?_; rintro _ _ ⟨rfl, rfl⟩ <;> (intro _ _ h1 h2; simp only [renEqs, Nat.reduceBEq, renL_app, renL_ds, renL_und] at h1 h2; subst h1 h2)) | (apply at_op (.call { callee := .builtin .delete, args := _, argTypes := _ }); refine al_step (st_delete setM rfl rfl rfl hkey rfl hdel) rfl ?_) | refine nx ?_ | (apply aq_block_y; decide) | (apply qr_move; refine r_move ?_) | (apply qr_assign; refine r_assign ?_) | (apply at_cond; first | refine c_t ?_ | refine c_f ?_ | (refine aw_cond rfl (fun hb => ?_) (fun hb => ?_) <;> ((try have hq := dX hb); (try (exfalso; omega))))) | (apply qr_extract; refine r_extract ?_) | (apply qr_load; refine r_load ?_) | (apply qr_alloc; refine r_alloc ?_) | (apply qr_store; refine r_store ?_))
      refine aq_rd (⟨_, _, rfl, hI.drop hm.nodup hj he, rfl, rfl⟩) (hlt)
    · have hq1 : decide (p.1 = f) = false := decide_eq_false he
      repeat' (first | (apply at_op (.entry _); refine al_y (y_entry (c0 := 0) rfl rfl rfl hj) (lt_ok rfl) ?_; simp only [keyD_sec]) | (apply at_call; refine k_clocall2 [(1000, 1000)] (hc) hE ?_; rintro _ _ ⟨rfl, rfl⟩ <;> (intro _ _ h1 h2; simp only [renEqs, Nat.reduceBEq, renL_app, renL_ds, renL_und] at h1 h2; subst h1 h2)) | (apply at_op (.call { callee := .builtin .delete, args := _, argTypes := _ }); refine al_step (st_delete setM rfl rfl rfl hkey rfl hdel) rfl ?_) | refine nx ?_ | (apply aq_block_y; decide) | (apply qr_move; refine r_move ?_) | (apply qr_assign; refine r_assign ?_) | (apply at_cond; first | refine c_t ?_ | refine c_f ?_ | (refine aw_cond rfl (fun hb => ?_) (fun hb => ?_) <;> ((try have hq := dX hb); (try (exfalso; omega))))) | (apply qr_extract; refine r_extract ?_) | (apply qr_load; refine r_load ?_) | (apply qr_alloc; refine r_alloc ?_) | (apply qr_store; refine r_store ?_))
      refine aq_rd (⟨_, _, rfl, hI.keep (t := Nat) (c := c) hm.nodup hj he, rfl, rfl⟩) (hlt)
end Go.Proofs.YtfgibalcdjlnhaaGreatDoor
end
section
set_option linter.unusedSimpArgs false
set_option linter.unusedVariables false
namespace Go.Proofs.YtfgibalcdjlnhaaGreatDoor
open Go.RowKit Go.ChangeMaps

def settleS (st : DS) (f : Int) (s : ByteArray) : DS := { st with F := upd st.F f ⟨s, s⟩, Q := kept f st.Q }
theorem DS.Ok.settle {st : DS} (h : st.Ok) {f : Int} (hf : 0 ≤ f ∧ f < 16) {s : ByteArray} (hs : s.size ≤ 16777216) : (settleS st f s).Ok := by
  refine ⟨fun n => ?_, fun n => ?_, fun n hn => ?_, ?_, fun p hp => ?_, fun p hp => ?_, h.lost0, h.armed0, h.keepl⟩
  · by_cases e : n = f
    · subst e; simp only [settleS, upd_same]; exact hs
    · simp only [settleS, upd_ne _ _ e]; exact h.now n
  · by_cases e : n = f
    · subst e; simp only [settleS, upd_same]; exact hs
    · simp only [settleS, upd_ne _ _ e]; exact h.last n
  · have e : n ≠ f := fun e => hn (e ▸ hf)
    simp only [settleS, upd_ne _ _ e]
    exact h.out n hn
  · exact h.nodup.filter _
  · exact h.file p ((List.mem_filter.1 hp).1)
  · exact h.num p ((List.mem_filter.1 hp).1)
theorem DS.Ok.keys {st : DS} (h : st.Ok) : SecKeys st.Q := fun p hp => by
  have := h.file p hp
  have := h.num p hp
  unfold i64
  omega
/-- What a method leaves of a disk: no new map for the set. -/
def Out (st : DS) (o : Objs) : Prop := ∃ k cm cs lm ls, DkOk lm ls st ∧ o = dsk 1000 1001 1002 1003 k cm cs lm ls st
section
variable {k cm cs : Nat} {lm ls : List ME} {st : DS}
set_option maxHeartbeats 8000000 in
set_option maxRecDepth 20000 in
theorem settle_any (h : DkOk lm ls st) {f : Int} (hf : 0 ≤ f ∧ f < 16) {s : ByteArray} (hs : s.size ≤ 16777216) : ObC 51 [.box 1000 0, .d (.int f), .d (.str s)] (dsk 1000 1001 1002 1003 k cm cs lm ls st) [] (fun x o => x = .tup [] ∧ Out (settleS st f s) o) := by
  have hkey := int_key (n := f) (by unfold i64; omega)
  have hd1 := delq_any f st.Q k h.ok.len
  have hd2 := delm_any f st.Q h.ok.keys cs ls h.s
  have hok := h.ok.settle hf hs
  refine ob_enter Tryz.func51 rfl (by decide) _ Tryz.ntmps51 (le_ok rfl) rfl (fun w Pr β κ hE => ?_)
  dsimp only [slotsV, Nat.zero_add, Nat.reduceAdd]
  refine aw_mapok 1001 rfl (fun hm => ?_)
  obtain ⟨cm', lm', hput, hF⟩ := h.f.put hm hf ⟨s, s⟩
  repeat' (first | refine nx ?_ | (apply qr_move; refine r_move ?_) | (apply qr_func; refine r_func ?_) | (apply qr_load; refine r_load ?_) | (apply qr_faddr; refine r_faddr ?_) | (apply qr_nilck; refine r_nilck ?_) | (apply qr_boxed; refine r_boxed ?_) | (apply qr_store; refine r_store ?_) | (apply qr_build; refine r_build ?_))
  refine aw_mix [(0, true), (1, true), (2, true), (3, true), (4, true), (5, true), (6, true), (7, true)] [8] (by kernel_rfl) (by kernel_rfl) (by kernel_rfl) (by decide) ?_
  simp only [planned, tailed, List.filterMap_cons, List.filterMap_nil, List.getElem?_cons_zero, List.getElem?_cons_succ, Option.map_some]
  repeat' (first | apply am_nil | refine m_skip ?_ | refine n_skip ?_ | (apply qm_move; refine m_move ?_) | (apply qm_load; refine m_load ?_) | (apply qm_faddr; refine m_faddr ?_) | (apply qm_nilck; refine m_nilck ?_) | (apply qm_build; refine m_build ?_) | (refine am_split rfl rfl (fun hb => ?_) (fun hb => ?_) <;> ((try have hq := dX hb); (try (exfalso; omega)))))
  repeat' (first | (apply at_op (.mapUpdate _ _ _ _); refine al_step (st_mapup fileM rfl rfl rfl hkey (ToD.d _) hput) rfl ?_) | (apply at_op (.makeFunc _ _ _); refine al_y (y_clo rfl) (lt_ok rfl) ?_) | (apply at_call; refine k_ocall [(1001, 1002), (1000, 4)] (hd1) hE ?_; rintro _ _ ⟨k', rfl, rfl⟩ <;> (intro _ _ h1 h2; simp only [renEqs, Nat.reduceBEq, renL_app, renL_ds, renL_und] at h1 h2; subst h1 h2)) | (apply at_call; refine k_ocall [(1001, 1003), (1000, 4)] (hd2) hE ?_; rintro _ _ ⟨rfl, ls', hS, rfl⟩ <;> (intro _ _ h1 h2; simp only [renEqs, Nat.reduceBEq, renL_app, renL_ds, renL_und] at h1 h2; subst h1 h2)) | refine nx ?_ | (apply qr_move; refine r_move ?_) | (apply qr_func; refine r_func ?_) | (apply qr_load; refine r_load ?_) | (apply qr_faddr; refine r_faddr ?_) | (apply qr_nilck; refine r_nilck ?_) | (apply qr_boxed; refine r_boxed ?_) | (apply qr_store; refine r_store ?_) | (apply qr_build; refine r_build ?_))
  try refine aq_end ?_
  refine oret0 (dsk 1000 1001 1002 1003 k' cm' cs lm' ls' (settleS st f s)) (by rfl) (⟨rfl, k', cm', cs, lm', ls', ⟨hF, hS, hok⟩, rfl⟩) sb okx
def addSecs (f : Int) : Nat → Int → List Sec → List Sec
  | 0, _, Q => Q
  | c + 1, n, Q => addSecs f c (n + 1) (if (f, n) ∈ Q then Q else Q ++ [(f, n)])
theorem QOk.add {Q : List Sec} (h : QOk Q) {p : Sec} (hp : p ∉ Q) (h1 : 0 ≤ p.1 ∧ p.1 < 16) (h2 : 0 ≤ p.2 ∧ p.2 ≤ 262144) : QOk (Q ++ [p]) := by
  refine ⟨?_, fun q hq => ?_, fun q hq => ?_⟩
  · rw [List.nodup_append]
    exact ⟨h.nodup, by simp, fun x hx y hy => by simp at hy; subst hy; exact fun e => hp (e ▸ hx)⟩
  · rcases List.mem_append.1 hq with hq | hq
    · exact h.file q hq
    · simp at hq; subst hq; exact h1
  · rcases List.mem_append.1 hq with hq | hq
    · exact h.num q hq
    · simp at hq; subst hq; exact h2
theorem QOk.adds {f : Int} (hf : 0 ≤ f ∧ f < 16) : ∀ (c : Nat) (n : Int) (Q : List Sec), QOk Q → 0 ≤ n → n + c ≤ 262145 → QOk (addSecs f c n Q)
  | 0, _, _, h, _, _ => h
  | c + 1, n, Q, h, h0, h1 => by
    unfold addSecs
    by_cases hm : (f, n) ∈ Q
    · rw [if_pos hm]
      exact QOk.adds hf c (n + 1) Q h (by omega) (by omega)
    · rw [if_neg hm]
      exact QOk.adds hf c (n + 1) _ (h.add hm hf (by show 0 ≤ n ∧ n ≤ 262144; omega)) (by omega) (by omega)
def wrE (st : DS) (f at_ : Int) (s : ByteArray) : Int := if mayE st f ≠ 0 then mayE st f else if at_ < 0 then 1 else if 16777216 < at_ ∨ 16777216 - at_ < s.size then 6 else 0
/-- how many sectors a write touches -/
def touch (at_ : Int) (s : ByteArray) : Nat := ((at_ + s.size - 1) / 64 - at_ / 64 + 1).toNat
def wrS (st : DS) (f at_ : Int) (s : ByteArray) : DS := if wrE st f at_ s ≠ 0 ∨ s.size = 0 then st else { st with F := upd st.F f ⟨putB (st.F f).now at_.toNat s, (st.F f).last⟩, Q := addSecs f (touch at_ s) (at_ / 64) st.Q }
theorem may_ok {st : DS} {f : Int} (h : mayE st f = 0) : st.down = false ∧ 0 ≤ f ∧ f < 16 := by
  unfold mayE at h
  cases hd : st.down
  · rw [hd] at h
    by_cases h1 : f < 0 ∨ 16 ≤ f
    · simp [h1] at h
    · exact ⟨rfl, by omega, by omega⟩
  · rw [hd] at h
    simp at h
theorem DS.Ok.wr {st : DS} (h : st.Ok) (f at_ : Int) (s : ByteArray) : (wrS st f at_ s).Ok := by
  unfold wrS
  by_cases hc : wrE st f at_ s ≠ 0 ∨ s.size = 0
  · rw [if_pos hc]
    exact h
  · rw [if_neg hc]
    have h1 : wrE st f at_ s = 0 := by
      apply Decidable.byContradiction
      intro e
      exact hc (.inl e)
    have h2 : s.size ≠ 0 := fun e => hc (.inr e)
    unfold wrE at h1
    by_cases hm : mayE st f = 0
    · obtain ⟨_, hf⟩ := may_ok hm
      rw [if_neg (by simp [hm])] at h1
      by_cases ha : at_ < 0
      · rw [if_pos ha] at h1; cases h1
      · rw [if_neg ha] at h1
        by_cases hb : 16777216 < at_ ∨ 16777216 - at_ < s.size
        · rw [if_pos hb] at h1; cases h1
        · have hq := QOk.adds hf (touch at_ s) (at_ / 64) st.Q h.q (by omega) (by unfold touch; omega)
          refine ⟨fun n => ?_, fun n => ?_, fun n hn => ?_, hq.nodup, hq.file, hq.num, h.lost0, h.armed0, h.keepl⟩
          · by_cases e : n = f
            · subst e
              simp only [upd_same]
              rw [putB_size, if_neg h2]
              have := h.now n
              omega
            · simp only [upd_ne _ _ e]; exact h.now n
          · by_cases e : n = f
            · subst e; simp only [upd_same]; exact h.last n
            · simp only [upd_ne _ _ e]; exact h.last n
          · have e : n ≠ f := fun e => hn (e ▸ hf)
            simp only [upd_ne _ _ e]
            exact h.out n hn
    · rw [if_pos hm] at h1
      exact absurd h1 hm
end
end Go.Proofs.YtfgibalcdjlnhaaGreatDoor
end
section
set_option linter.unusedSimpArgs false
set_option linter.unusedVariables false
namespace Go.Proofs.YtfgibalcdjlnhaaGreatDoor
open Go.RowKit Go.ChangeMaps

section
variable {k cm cs : Nat} {lm ls : List ME} {st : DS}
def errW (st : DS) (f at_ : Int) (s : ByteArray) : Prop := wrE st f at_ s ≠ 0 ∨ s.size = 0
theorem empty_of {s : ByteArray} (h : s.size = 0) : s = ⟨#[]⟩ := by
  have h1 := Lib.size_eq s
  cases s with
  | mk d =>
    have h2 : d.toList.length = 0 := by
      have h3 : (⟨d⟩ : ByteArray).data.toList.length = d.toList.length := rfl
      omega
    have : d.toList = [] := List.eq_nil_of_length_eq_zero h2
    have : d = #[] := by simpa using this
    rw [this]
set_option maxHeartbeats 8000000 in
set_option maxRecDepth 20000 in
theorem write_err (h : DkOk lm ls st) {f at_ : Int} {s : ByteArray} (he : errW st f at_ s) : ObC 50 [.box 1000 0, .d (.int f), .d (.int at_), .d (.str s)] (dsk 1000 1001 1002 1003 k cm cs lm ls st) [] (fun x o => x = .d (.int (wrE st f at_ s)) ∧ o = dsk 1000 1001 1002 1003 k cm cs lm ls st) := by
  have hm := may_any (k := k) (cm := cm) (cs := cs) (lm := lm) (ls := ls) (st := st) f
  by_cases h0 : mayE st f = 0
  · have ht0 : (!decide ((0 : Int) = 0)) = false := rfl
    rw [h0] at hm
    by_cases h1 : at_ < 0
    · skip
      refine ob_enter Tryz.func50 rfl (by decide) _ Tryz.ntmps50 (le_ok rfl) rfl (fun w Pr β κ hE => ?_)
      dsimp only [slotsV, Nat.zero_add, Nat.reduceAdd]
      repeat' (first | (apply at_call; refine k_ocall [(1000, 1000), (1001, 1001), (1002, 1002), (1003, 1003)] (hm) hE ?_; rintro _ _ ⟨rfl, rfl⟩ <;> (intro _ _ h1 h2; simp only [renEqs, Nat.reduceBEq] at h1 h2; subst h1 h2)) | refine nx ?_ | (apply aq_block_y; decide) | (apply qr_move; refine r_move ?_) | (apply qr_assign; refine r_assign ?_) | (apply at_cond; first | refine c_t ?_ | refine c_f ?_ | (refine aw_cond rfl (fun hb => ?_) (fun hb => ?_) <;> ((try have hq := dX hb); (try (exfalso; omega))))) | (apply at_guard; first | refine g_go ?_ | refine g_nt ?_ | refine g_nf ?_ | refine g_nu ?_ | ((first | refine al_split_t rfl rfl (lt_ok rfl) (fun hb => ?_) (fun hb => ?_) | refine al_split_f rfl rfl (lt_ok rfl) (fun hb => ?_) (fun hb => ?_)) <;> ((try have hq := dX hb); (try (exfalso; omega))))) | (apply qr_pick; refine r_pick ?_) | (apply qr_lss; refine r_lss ?_) | (apply qr_gtr; refine r_gtr ?_) | (apply qr_eql; refine r_eql ?_) | (apply qr_neq; refine r_neq ?_) | (apply qr_sub; refine r_sub ?_) | (apply qr_len; refine r_len ?_))
      refine oret1 (dsk 1000 1001 1002 1003 k cm cs lm ls st) (by rfl) (by first | exact ResV.x _ _ (ResX.tmp _ _ (by first | exact ToD.d _ | exact ToD.row _ _ _ _ _ rfl | exact ToD.nil _)) | exact ResV.tmp _ _ rfl | exact ResV.x _ _ (ResX.cellA _ _ _ _ _ _ _ rfl rfl rfl (by first | (simp only [normV, normList, normMap]; rfl) | rfl) rfl)) (⟨by simp [wrE, h0, h1], rfl⟩) (by (repeat (first | exact obs_nil | (apply obs_cons; focus (first | rfl | (simp [find]; done)))))) (by first | rfl | (simp [okOut, V.within, V.withinL, O.within, keys, mem, look, nbeq_def, withinL_app, withinL_ds, withinL_und]; done))
    · by_cases h2 : 16777216 < at_
      · skip
        refine ob_enter Tryz.func50 rfl (by decide) _ Tryz.ntmps50 (le_ok rfl) rfl (fun w Pr β κ hE => ?_)
        dsimp only [slotsV, Nat.zero_add, Nat.reduceAdd]
        repeat' (first | (apply at_call; refine k_ocall [(1000, 1000), (1001, 1001), (1002, 1002), (1003, 1003)] (hm) hE ?_; rintro _ _ ⟨rfl, rfl⟩ <;> (intro _ _ h1 h2; simp only [renEqs, Nat.reduceBEq] at h1 h2; subst h1 h2)) | refine nx ?_ | (apply aq_block_y; decide) | (apply qr_move; refine r_move ?_) | (apply qr_assign; refine r_assign ?_) | (apply at_cond; first | refine c_t ?_ | refine c_f ?_ | (refine aw_cond rfl (fun hb => ?_) (fun hb => ?_) <;> ((try have hq := dX hb); (try (exfalso; omega))))) | (apply at_guard; first | refine g_go ?_ | refine g_nt ?_ | refine g_nf ?_ | refine g_nu ?_ | ((first | refine al_split_t rfl rfl (lt_ok rfl) (fun hb => ?_) (fun hb => ?_) | refine al_split_f rfl rfl (lt_ok rfl) (fun hb => ?_) (fun hb => ?_)) <;> ((try have hq := dX hb); (try (exfalso; omega))))) | (apply qr_pick; refine r_pick ?_) | (apply qr_lss; refine r_lss ?_) | (apply qr_gtr; refine r_gtr ?_) | (apply qr_eql; refine r_eql ?_) | (apply qr_neq; refine r_neq ?_) | (apply qr_sub; refine r_sub ?_) | (apply qr_len; refine r_len ?_))
        refine oret1 (dsk 1000 1001 1002 1003 k cm cs lm ls st) (by rfl) (by first | exact ResV.x _ _ (ResX.tmp _ _ (by first | exact ToD.d _ | exact ToD.row _ _ _ _ _ rfl | exact ToD.nil _)) | exact ResV.tmp _ _ rfl | exact ResV.x _ _ (ResX.cellA _ _ _ _ _ _ _ rfl rfl rfl (by first | (simp only [normV, normList, normMap]; rfl) | rfl) rfl)) (⟨by simp [wrE, h0, h1, h2], rfl⟩) (by (repeat (first | exact obs_nil | (apply obs_cons; focus (first | rfl | (simp [find]; done)))))) (by first | rfl | (simp [okOut, V.within, V.withinL, O.within, keys, mem, look, nbeq_def, withinL_app, withinL_ds, withinL_und]; done))
      · by_cases h3 : 16777216 - at_ < s.size
        · skip
          refine ob_enter Tryz.func50 rfl (by decide) _ Tryz.ntmps50 (le_ok rfl) rfl (fun w Pr β κ hE => ?_)
          dsimp only [slotsV, Nat.zero_add, Nat.reduceAdd]
          repeat' (first | (apply at_call; refine k_ocall [(1000, 1000), (1001, 1001), (1002, 1002), (1003, 1003)] (hm) hE ?_; rintro _ _ ⟨rfl, rfl⟩ <;> (intro _ _ h1 h2; simp only [renEqs, Nat.reduceBEq] at h1 h2; subst h1 h2)) | refine nx ?_ | (apply aq_block_y; decide) | (apply qr_move; refine r_move ?_) | (apply qr_assign; refine r_assign ?_) | (apply at_cond; first | refine c_t ?_ | refine c_f ?_ | (refine aw_cond rfl (fun hb => ?_) (fun hb => ?_) <;> ((try have hq := dX hb); (try (exfalso; omega))))) | (apply at_guard; first | refine g_go ?_ | refine g_nt ?_ | refine g_nf ?_ | refine g_nu ?_ | ((first | refine al_split_t rfl rfl (lt_ok rfl) (fun hb => ?_) (fun hb => ?_) | refine al_split_f rfl rfl (lt_ok rfl) (fun hb => ?_) (fun hb => ?_)) <;> ((try have hq := dX hb); (try (exfalso; omega))))) | (apply qr_pick; refine r_pick ?_) | (apply qr_lss; refine r_lss ?_) | (apply qr_gtr; refine r_gtr ?_) | (apply qr_eql; refine r_eql ?_) | (apply qr_neq; refine r_neq ?_) | (apply qr_sub; refine r_sub ?_) | (apply qr_len; refine r_len ?_))
          refine oret1 (dsk 1000 1001 1002 1003 k cm cs lm ls st) (by rfl) (by first | exact ResV.x _ _ (ResX.tmp _ _ (by first | exact ToD.d _ | exact ToD.row _ _ _ _ _ rfl | exact ToD.nil _)) | exact ResV.tmp _ _ rfl | exact ResV.x _ _ (ResX.cellA _ _ _ _ _ _ _ rfl rfl rfl (by first | (simp only [normV, normList, normMap]; rfl) | rfl) rfl)) (⟨by simp [wrE, h0, h1, h2, h3], rfl⟩) (by (repeat (first | exact obs_nil | (apply obs_cons; focus (first | rfl | (simp [find]; done)))))) (by first | rfl | (simp [okOut, V.within, V.withinL, O.within, keys, mem, look, nbeq_def, withinL_app, withinL_ds, withinL_und]; done))
        · have hw : wrE st f at_ s = 0 := by simp [wrE, h0, h1, h2, h3]
          have hs0 : s.size = 0 := by
            rcases he with he | he
            · exact absurd hw he
            · exact he
          have hq : decide (s = ⟨#[]⟩) = true := decide_eq_true (empty_of hs0)
          refine ob_enter Tryz.func50 rfl (by decide) _ Tryz.ntmps50 (le_ok rfl) rfl (fun w Pr β κ hE => ?_)
          dsimp only [slotsV, Nat.zero_add, Nat.reduceAdd]
          repeat' (first | (apply at_call; refine k_ocall [(1000, 1000), (1001, 1001), (1002, 1002), (1003, 1003)] (hm) hE ?_; rintro _ _ ⟨rfl, rfl⟩ <;> (intro _ _ h1 h2; simp only [renEqs, Nat.reduceBEq] at h1 h2; subst h1 h2)) | refine nx ?_ | (apply aq_block_y; decide) | (apply qr_move; refine r_move ?_) | (apply qr_assign; refine r_assign ?_) | (apply at_cond; first | refine c_t ?_ | refine c_f ?_ | (refine aw_cond rfl (fun hb => ?_) (fun hb => ?_) <;> ((try have hq := dX hb); (try (exfalso; omega))))) | (apply at_guard; first | refine g_go ?_ | refine g_nt ?_ | refine g_nf ?_ | refine g_nu ?_ | ((first | refine al_split_t rfl rfl (lt_ok rfl) (fun hb => ?_) (fun hb => ?_) | refine al_split_f rfl rfl (lt_ok rfl) (fun hb => ?_) (fun hb => ?_)) <;> ((try have hq := dX hb); (try (exfalso; omega))))) | (apply qr_pick; refine r_pick ?_) | (apply qr_lss; refine r_lss ?_) | (apply qr_gtr; refine r_gtr ?_) | (apply qr_eql; refine r_eql ?_) | (apply qr_neq; refine r_neq ?_) | (apply qr_sub; refine r_sub ?_) | (apply qr_len; refine r_len ?_))
          refine oret1 (dsk 1000 1001 1002 1003 k cm cs lm ls st) (by rfl) (by first | exact ResV.x _ _ (ResX.tmp _ _ (by first | exact ToD.d _ | exact ToD.row _ _ _ _ _ rfl | exact ToD.nil _)) | exact ResV.tmp _ _ rfl | exact ResV.x _ _ (ResX.cellA _ _ _ _ _ _ _ rfl rfl rfl (by first | (simp only [normV, normList, normMap]; rfl) | rfl) rfl)) (⟨by rw [hw], rfl⟩) (by (repeat (first | exact obs_nil | (apply obs_cons; focus (first | rfl | (simp [find]; done)))))) (by first | rfl | (simp [okOut, V.within, V.withinL, O.within, keys, mem, look, nbeq_def, withinL_app, withinL_ds, withinL_und]; done))
  · have hq2 : (!decide (mayE st f = 0)) = true := by rw [decide_eq_false h0]; rfl
    refine ob_enter Tryz.func50 rfl (by decide) _ Tryz.ntmps50 (le_ok rfl) rfl (fun w Pr β κ hE => ?_)
    dsimp only [slotsV, Nat.zero_add, Nat.reduceAdd]
    repeat' (first | (apply at_call; refine k_ocall [(1000, 1000), (1001, 1001), (1002, 1002), (1003, 1003)] (hm) hE ?_; rintro _ _ ⟨rfl, rfl⟩ <;> (intro _ _ h1 h2; simp only [renEqs, Nat.reduceBEq] at h1 h2; subst h1 h2)) | refine nx ?_ | (apply aq_block_y; decide) | (apply qr_move; refine r_move ?_) | (apply qr_assign; refine r_assign ?_) | (apply at_cond; first | refine c_t ?_ | refine c_f ?_ | (refine aw_cond rfl (fun hb => ?_) (fun hb => ?_) <;> ((try have hq := dX hb); (try (exfalso; omega))))) | (apply at_guard; first | refine g_go ?_ | refine g_nt ?_ | refine g_nf ?_ | refine g_nu ?_ | ((first | refine al_split_t rfl rfl (lt_ok rfl) (fun hb => ?_) (fun hb => ?_) | refine al_split_f rfl rfl (lt_ok rfl) (fun hb => ?_) (fun hb => ?_)) <;> ((try have hq := dX hb); (try (exfalso; omega))))) | (apply qr_pick; refine r_pick ?_) | (apply qr_lss; refine r_lss ?_) | (apply qr_gtr; refine r_gtr ?_) | (apply qr_eql; refine r_eql ?_) | (apply qr_neq; refine r_neq ?_) | (apply qr_sub; refine r_sub ?_) | (apply qr_len; refine r_len ?_))
    refine oret1 (dsk 1000 1001 1002 1003 k cm cs lm ls st) (by rfl) (by first | exact ResV.x _ _ (ResX.tmp _ _ (by first | exact ToD.d _ | exact ToD.row _ _ _ _ _ rfl | exact ToD.nil _)) | exact ResV.tmp _ _ rfl | exact ResV.x _ _ (ResX.cellA _ _ _ _ _ _ _ rfl rfl rfl (by first | (simp only [normV, normList, normMap]; rfl) | rfl) rfl)) (⟨by simp [wrE, h0], rfl⟩) (by (repeat (first | exact obs_nil | (apply obs_cons; focus (first | rfl | (simp [find]; done)))))) (by first | rfl | (simp [okOut, V.within, V.withinL, O.within, keys, mem, look, nbeq_def, withinL_app, withinL_ds, withinL_und]; done))
/-- one step of a write over its sectors -/
theorem adds_yes {f n : Int} {c : Nat} {Q : List Sec} (h : (f, n) ∈ Q) : addSecs f (c + 1) n Q = addSecs f c (n + 1) Q := by
  rw [addSecs, if_pos h]
theorem adds_no {f n : Int} {c : Nat} {Q : List Sec} (h : (f, n) ∉ Q) : addSecs f (c + 1) n Q = addSecs f c (n + 1) (Q ++ [(f, n)]) := by
  rw [addSecs, if_neg h]
set_option maxHeartbeats 8000000 in
set_option maxRecDepth 20000 in
theorem write_ok (h : DkOk lm ls st) {f at_ : Int} {s : ByteArray} (he : ¬ errW st f at_ s) : ObC 50 [.box 1000 0, .d (.int f), .d (.int at_), .d (.str s)] (dsk 1000 1001 1002 1003 k cm cs lm ls st) [] (fun x o => x = .d (.int 0) ∧ Out (wrS st f at_ s) o) := by
  have hwok := h.ok.wr f at_ s
  have hs0 : s.size ≠ 0 := fun e => he (.inr e)
  have hw0 : wrE st f at_ s = 0 := by
    apply Decidable.byContradiction
    intro e
    exact he (.inl e)
  have hwS : wrS st f at_ s = { st with F := upd st.F f ⟨putB (st.F f).now at_.toNat s, (st.F f).last⟩, Q := addSecs f (touch at_ s) (at_ / 64) st.Q } := by
    unfold wrS
    exact if_neg he
  rw [hwS] at hwok ⊢
  have hm0 : mayE st f = 0 := by
    apply Decidable.byContradiction
    intro e
    simp [wrE, e] at hw0
  obtain ⟨_, hf⟩ := may_ok hm0
  have ha : ¬ at_ < 0 := fun e => by simp [wrE, hm0, e] at hw0
  have hb : ¬ (16777216 < at_ ∨ 16777216 - at_ < s.size) := fun e => by simp [wrE, hm0, ha, e] at hw0
  have hm := may_any (k := k) (cm := cm) (cs := cs) (lm := lm) (ls := ls) (st := st) f
  rw [hm0] at hm
  have ht0 : (!decide ((0 : Int) = 0)) = false := rfl
  have hse : decide (s = (⟨#[]⟩ : ByteArray)) = false := decide_eq_false fun e => hs0 (by rw [e]; rfl)
  have hkey := int_key (n := f) (by unfold i64; omega)
  obtain ⟨bh, hhit⟩ := h.f.hit f
  obtain ⟨a, rfl⟩ : ∃ a : Nat, at_ = a := ⟨at_.toNat, by omega⟩
  have hput := put_any (st.F f).now a s (h.ok.now f) (by omega)
  rw [Int.toNat_natCast] at hwok ⊢
  generalize hPB : putB (st.F f).now a s = now' at hput hwok ⊢
  refine ob_enter Tryz.func50 rfl (by decide) _ Tryz.ntmps50 (le_ok rfl) rfl (fun w Pr β κ hE => ?_)
  dsimp only [slotsV, Nat.zero_add, Nat.reduceAdd]
  refine aw_mapok 1001 rfl (fun hmo => ?_)
  obtain ⟨cm', lm', hpu, hF⟩ := h.f.put hmo hf ⟨now', (st.F f).last⟩
  repeat' (first | (apply at_call; refine k_ocall [(1000, 1000), (1001, 1001), (1002, 1002), (1003, 1003)] (hm) hE ?_; rintro _ _ ⟨rfl, rfl⟩ <;> (intro _ _ h1 h2; simp only [renEqs, Nat.reduceBEq] at h1 h2; subst h1 h2)) | (apply at_op (.lookup _ _ _ _); refine al_y (y_lookup1 fileM rfl rfl rfl hkey hhit) (lt_ok rfl) ?_) | (apply at_call; refine k_call (hput) hE ?_; rintro _ rfl) | refine nx ?_ | (apply aq_block_y; decide) | (apply qr_move; refine r_move ?_) | (apply qr_assign; refine r_assign ?_) | (apply at_cond; first | refine c_t ?_ | refine c_f ?_ | (refine aw_cond rfl (fun hb => ?_) (fun hb => ?_) <;> ((try have hq := dX hb); (try (exfalso; omega))))) | (apply at_guard; first | refine g_go ?_ | refine g_nt ?_ | refine g_nf ?_ | refine g_nu ?_ | ((first | refine al_split_t rfl rfl (lt_ok rfl) (fun hb => ?_) (fun hb => ?_) | refine al_split_f rfl rfl (lt_ok rfl) (fun hb => ?_) (fun hb => ?_)) <;> ((try have hq := dX hb); (try (exfalso; omega))))) | (apply qr_pick; refine r_pick ?_) | (apply qr_lss; refine r_lss ?_) | (apply qr_gtr; refine r_gtr ?_) | (apply qr_eql; refine r_eql ?_) | (apply qr_neq; refine r_neq ?_) | (apply qr_sub; refine r_sub ?_) | (apply qr_len; refine r_len ?_) | (apply qr_load; refine r_load ?_) | (apply qr_faddr; refine r_faddr ?_) | (apply qr_nilck; refine r_nilck ?_) | (apply qr_alloc; refine r_alloc ?_) | (apply qr_store; refine r_store ?_))
  refine aw_mix [(0, true), (1, true), (2, true), (3, true), (4, true), (5, true)] [6] (by kernel_rfl) (by kernel_rfl) (by kernel_rfl) (by decide) ?_
  simp only [planned, tailed, List.filterMap_cons, List.filterMap_nil, List.getElem?_cons_zero, List.getElem?_cons_succ, Option.map_some]
  repeat' (first | apply am_nil | refine m_skip ?_ | refine n_skip ?_ | (apply qm_move; refine m_move ?_) | (apply qm_load; refine m_load ?_) | (apply qm_faddr; refine m_faddr ?_) | (apply qm_nilck; refine m_nilck ?_) | (refine am_split rfl rfl (fun hb => ?_) (fun hb => ?_) <;> ((try have hq := dX hb); (try (exfalso; omega)))))
  repeat' (first | (apply at_op (.mapUpdate _ _ _ _); refine al_step (st_mapup fileM rfl rfl rfl hkey (ToD.d _) hpu) rfl ?_) | refine nx ?_ | (apply aq_block_y; decide) | (apply qr_move; refine r_move ?_) | (apply qr_assign; refine r_assign ?_) | (apply at_cond; first | refine c_t ?_ | refine c_f ?_ | (refine aw_cond rfl (fun hb => ?_) (fun hb => ?_) <;> ((try have hq := dX hb); (try (exfalso; omega))))) | (apply qr_quo; refine r_quo ?_) | (apply qr_load; refine r_load ?_) | (apply qr_faddr; refine r_faddr ?_) | (apply qr_nilck; refine r_nilck ?_))
  generalize hQF : addSecs f (touch a s) (a / 64) st.Q = QF at hwok ⊢
  clear hmo hm hput hhit hPB hw0 hwS
  have ht : (a : Int) / 64 + (touch a s : Nat) = ((a : Int) + s.size - 1) / 64 + 1 := by unfold touch; omega
  refine aw_lp (fun N sl ob => ∃ (c : Nat) (n : Int) (Q : List Sec) (kk cs' : Nat) (ls' : List ME), N = c ∧ QOk Q ∧ SRep ls' Q ∧ addSecs f c n Q = QF ∧ 0 ≤ n ∧ n + c = ((a : Int) + s.size - 1) / 64 + 1 ∧ sl = [(11, .d (.int n)), (10, .box 10 0), (0, .box 1000 0), (1, .d (.int f)), (2, .d (.int a)), (3, .d (.str s))] ∧ ob = [(1000, dskBox 1001 1002 1003 kk st), (1001, .map 56 cm' lm'), (1002, secRow kk Q), (1003, .map 57 cs' ls'), (10, .box 78 [.d (.str now'), .d (.str (st.F f).last)])]) (⟨touch a s, a / 64, st.Q, k, cs, ls, rfl, h.ok.q, h.s, hQF, by omega, ht, rfl, rfl⟩) ?_
  rintro N sl ob ⟨c, n, Q, kk, cs', ls', rfl, hQ, hS, hQF', hn0, hn, rfl, rfl⟩
  have hlen := hQ.len
  cases N with
  | zero =>
    have hQ2 : Q = QF := hQF'
    subst hQ2
    repeat' (first | refine nx ?_ | (apply aq_block_y; decide) | (apply qr_move; refine r_move ?_) | (apply qr_assign; refine r_assign ?_) | (apply at_cond; first | refine c_t ?_ | refine c_f ?_ | (refine aw_cond rfl (fun hb => ?_) (fun hb => ?_) <;> ((try have hq := dX hb); (try (exfalso; omega))))) | (apply at_guard; first | refine g_go ?_ | refine g_nt ?_ | refine g_nf ?_ | refine g_nu ?_ | ((first | refine al_split_t rfl rfl (lt_ok rfl) (fun hb => ?_) (fun hb => ?_) | refine al_split_f rfl rfl (lt_ok rfl) (fun hb => ?_) (fun hb => ?_)) <;> ((try have hq := dX hb); (try (exfalso; omega))))) | (apply qr_pick; refine r_pick ?_) | (apply qr_lss; refine r_lss ?_) | (apply qr_leq; refine r_leq ?_) | (apply qr_gtr; refine r_gtr ?_) | (apply qr_eql; refine r_eql ?_) | (apply qr_neq; refine r_neq ?_) | (apply qr_add; refine r_add ?_) | (apply qr_sub; refine r_sub ?_) | (apply qr_quo; refine r_quo ?_) | (apply qr_not; refine r_not ?_) | (apply qr_len; refine r_len ?_) | (apply qr_extract; refine r_extract ?_) | (apply qr_load; refine r_load ?_) | (apply qr_faddr; refine r_faddr ?_) | (apply qr_nilck; refine r_nilck ?_) | (apply qr_alloc; refine r_alloc ?_) | (apply qr_store; refine r_store ?_) | (apply qr_build; refine r_build ?_) | (apply qr_lits; refine r_lits ?_) | (apply qr_appd; refine r_appd ?_))
    refine oret1 (dsk 1000 1001 1002 1003 kk cm' cs' lm' ls' { st with F := upd st.F f ⟨now', (st.F f).last⟩, Q := Q }) (by rfl) (by first | exact ResV.x _ _ (ResX.tmp _ _ (by first | exact ToD.d _ | exact ToD.row _ _ _ _ _ rfl | exact ToD.nil _)) | exact ResV.tmp _ _ rfl | exact ResV.x _ _ (ResX.cellA _ _ _ _ _ _ _ rfl rfl rfl (by first | (simp only [normV, normList, normMap]; rfl) | rfl) rfl)) (⟨rfl, kk, cm', cs', lm', ls', ⟨hF, hS, hwok⟩, rfl⟩) (by (repeat (first | exact obs_nil | (apply obs_cons; focus (first | rfl | (simp [find]; done)))))) (by first | rfl | (simp [okOut, V.within, V.withinL, O.within, keys, mem, look, nbeq_def, withinL_app, withinL_ds, withinL_und]; done))
  | succ c =>
    have hkey := sec_key (p := (f, n)) (by show i64 f; unfold i64; omega) (by show i64 n; unfold i64; omega)
    by_cases hm : (f, n) ∈ Q
    · obtain ⟨bl, hl⟩ := hS.yes hm
      rw [adds_yes hm] at hQF'
      have hq1 : (!true) = false := rfl
      repeat' (first | refine nx ?_ | (apply aq_block_y; decide) | (apply qr_move; refine r_move ?_) | (apply qr_assign; refine r_assign ?_) | (apply at_cond; first | refine c_t ?_ | refine c_f ?_ | (refine aw_cond rfl (fun hb => ?_) (fun hb => ?_) <;> ((try have hq := dX hb); (try (exfalso; omega))))) | (apply at_guard; first | refine g_go ?_ | refine g_nt ?_ | refine g_nf ?_ | refine g_nu ?_ | ((first | refine al_split_t rfl rfl (lt_ok rfl) (fun hb => ?_) (fun hb => ?_) | refine al_split_f rfl rfl (lt_ok rfl) (fun hb => ?_) (fun hb => ?_)) <;> ((try have hq := dX hb); (try (exfalso; omega))))) | (apply qr_pick; refine r_pick ?_) | (apply qr_lss; refine r_lss ?_) | (apply qr_leq; refine r_leq ?_) | (apply qr_gtr; refine r_gtr ?_) | (apply qr_eql; refine r_eql ?_) | (apply qr_neq; refine r_neq ?_) | (apply qr_add; refine r_add ?_) | (apply qr_sub; refine r_sub ?_) | (apply qr_quo; refine r_quo ?_) | (apply qr_not; refine r_not ?_) | (apply qr_len; refine r_len ?_) | (apply qr_extract; refine r_extract ?_) | (apply qr_load; refine r_load ?_) | (apply qr_faddr; refine r_faddr ?_) | (apply qr_nilck; refine r_nilck ?_) | (apply qr_alloc; refine r_alloc ?_) | (apply qr_store; refine r_store ?_) | (apply qr_build; refine r_build ?_) | (apply qr_lits; refine r_lits ?_) | (apply qr_appd; refine r_appd ?_))
      refine aw_mix [(0, true), (1, true), (2, true), (3, true), (4, true), (5, false), (6, true)] [] (by kernel_rfl) (by kernel_rfl) (by kernel_rfl) (by decide) ?_
      simp only [planned, tailed, List.filterMap_cons, List.filterMap_nil, List.getElem?_cons_zero, List.getElem?_cons_succ, Option.map_some]
      repeat' (first | apply am_nil | refine m_skip ?_ | refine n_skip ?_ | (apply at_am (.lookup _ _ _ _); first | refine am_y (by first | exact want_none | exact want_yes rfl rfl (by assumption) | exact want_yes rfl rfl (by with_reducible rfl)) (y_lookup1 setM rfl rfl rfl hkey hl) (lt_ok rfl) ?_ | refine am_y' (by first | exact want_none | exact want_yes rfl rfl (by assumption) | exact want_yes rfl rfl (by with_reducible rfl)) (y_lookup1 setM rfl rfl rfl hkey hl) (lt_ok rfl) ?_) | (apply qm_move; refine m_move ?_) | (apply qm_not; refine m_not ?_) | (apply qm_load; refine m_load ?_) | (apply qm_faddr; refine m_faddr ?_) | (apply qm_nilck; refine m_nilck ?_) | (refine am_split rfl rfl (fun hb => ?_) (fun hb => ?_) <;> ((try have hq := dX hb); (try (exfalso; omega)))))
      repeat' (first | refine nx ?_ | (apply aq_block_y; decide) | (apply qr_move; refine r_move ?_) | (apply qr_assign; refine r_assign ?_) | (apply at_cond; first | refine c_t ?_ | refine c_f ?_ | (refine aw_cond rfl (fun hb => ?_) (fun hb => ?_) <;> ((try have hq := dX hb); (try (exfalso; omega))))) | (apply at_guard; first | refine g_go ?_ | refine g_nt ?_ | refine g_nf ?_ | refine g_nu ?_ | ((first | refine al_split_t rfl rfl (lt_ok rfl) (fun hb => ?_) (fun hb => ?_) | refine al_split_f rfl rfl (lt_ok rfl) (fun hb => ?_) (fun hb => ?_)) <;> ((try have hq := dX hb); (try (exfalso; omega))))) | (apply qr_pick; refine r_pick ?_) | (apply qr_lss; refine r_lss ?_) | (apply qr_leq; refine r_leq ?_) | (apply qr_gtr; refine r_gtr ?_) | (apply qr_eql; refine r_eql ?_) | (apply qr_neq; refine r_neq ?_) | (apply qr_add; refine r_add ?_) | (apply qr_sub; refine r_sub ?_) | (apply qr_quo; refine r_quo ?_) | (apply qr_not; refine r_not ?_) | (apply qr_len; refine r_len ?_) | (apply qr_extract; refine r_extract ?_) | (apply qr_load; refine r_load ?_) | (apply qr_faddr; refine r_faddr ?_) | (apply qr_nilck; refine r_nilck ?_) | (apply qr_alloc; refine r_alloc ?_) | (apply qr_store; refine r_store ?_) | (apply qr_build; refine r_build ?_) | (apply qr_lits; refine r_lits ?_) | (apply qr_appd; refine r_appd ?_))
      refine aq_rd (⟨c, n + 1, Q, kk, cs', ls', rfl, hQ, hS, hQF', by omega, by omega, rfl, rfl⟩) (by omega)
    · have hnone := hS.none hm
      have hl : Hit ls' (secV (f, n)) (.bool false) (.bool false) false := .no hnone
      rw [adds_no hm] at hQF'
      have hS' := hS.put (f, n) cs'
      have hQ' := hQ.add hm hf (by show 0 ≤ n ∧ n ≤ 262144; omega)
      have hent : (ls' ++ [(cs', secV (f, n), D.bool false)])[ls'.length]? = some (cs', secV (f, n), D.bool false) := by simp
      repeat' (first | refine nx ?_ | (apply aq_block_y; decide) | (apply qr_move; refine r_move ?_) | (apply qr_assign; refine r_assign ?_) | (apply at_cond; first | refine c_t ?_ | refine c_f ?_ | (refine aw_cond rfl (fun hb => ?_) (fun hb => ?_) <;> ((try have hq := dX hb); (try (exfalso; omega))))) | (apply at_guard; first | refine g_go ?_ | refine g_nt ?_ | refine g_nf ?_ | refine g_nu ?_ | ((first | refine al_split_t rfl rfl (lt_ok rfl) (fun hb => ?_) (fun hb => ?_) | refine al_split_f rfl rfl (lt_ok rfl) (fun hb => ?_) (fun hb => ?_)) <;> ((try have hq := dX hb); (try (exfalso; omega))))) | (apply qr_pick; refine r_pick ?_) | (apply qr_lss; refine r_lss ?_) | (apply qr_leq; refine r_leq ?_) | (apply qr_gtr; refine r_gtr ?_) | (apply qr_eql; refine r_eql ?_) | (apply qr_neq; refine r_neq ?_) | (apply qr_add; refine r_add ?_) | (apply qr_sub; refine r_sub ?_) | (apply qr_quo; refine r_quo ?_) | (apply qr_not; refine r_not ?_) | (apply qr_len; refine r_len ?_) | (apply qr_extract; refine r_extract ?_) | (apply qr_load; refine r_load ?_) | (apply qr_faddr; refine r_faddr ?_) | (apply qr_nilck; refine r_nilck ?_) | (apply qr_alloc; refine r_alloc ?_) | (apply qr_store; refine r_store ?_) | (apply qr_build; refine r_build ?_) | (apply qr_lits; refine r_lits ?_) | (apply qr_appd; refine r_appd ?_))
      refine aw_mix [(0, true), (1, true), (2, true), (3, true), (4, true), (5, false), (6, true)] [] (by kernel_rfl) (by kernel_rfl) (by kernel_rfl) (by decide) ?_
      simp only [planned, tailed, List.filterMap_cons, List.filterMap_nil, List.getElem?_cons_zero, List.getElem?_cons_succ, Option.map_some]
      repeat' (first | apply am_nil | refine m_skip ?_ | refine n_skip ?_ | (apply at_am (.lookup _ _ _ _); first | refine am_y (by first | exact want_none | exact want_yes rfl rfl (by assumption) | exact want_yes rfl rfl (by with_reducible rfl)) (y_lookup1 setM rfl rfl rfl hkey hl) (lt_ok rfl) ?_ | refine am_y' (by first | exact want_none | exact want_yes rfl rfl (by assumption) | exact want_yes rfl rfl (by with_reducible rfl)) (y_lookup1 setM rfl rfl rfl hkey hl) (lt_ok rfl) ?_) | (apply qm_move; refine m_move ?_) | (apply qm_not; refine m_not ?_) | (apply qm_load; refine m_load ?_) | (apply qm_faddr; refine m_faddr ?_) | (apply qm_nilck; refine m_nilck ?_) | (refine am_split rfl rfl (fun hb => ?_) (fun hb => ?_) <;> ((try have hq := dX hb); (try (exfalso; omega)))))
      repeat' (first | refine nx ?_ | (apply aq_block_y; decide) | (apply qr_move; refine r_move ?_) | (apply qr_assign; refine r_assign ?_) | (apply at_cond; first | refine c_t ?_ | refine c_f ?_ | (refine aw_cond rfl (fun hb => ?_) (fun hb => ?_) <;> ((try have hq := dX hb); (try (exfalso; omega))))) | (apply at_guard; first | refine g_go ?_ | refine g_nt ?_ | refine g_nf ?_ | refine g_nu ?_ | ((first | refine al_split_t rfl rfl (lt_ok rfl) (fun hb => ?_) (fun hb => ?_) | refine al_split_f rfl rfl (lt_ok rfl) (fun hb => ?_) (fun hb => ?_)) <;> ((try have hq := dX hb); (try (exfalso; omega))))) | (apply qr_pick; refine r_pick ?_) | (apply qr_lss; refine r_lss ?_) | (apply qr_leq; refine r_leq ?_) | (apply qr_gtr; refine r_gtr ?_) | (apply qr_eql; refine r_eql ?_) | (apply qr_neq; refine r_neq ?_) | (apply qr_add; refine r_add ?_) | (apply qr_sub; refine r_sub ?_) | (apply qr_quo; refine r_quo ?_) | (apply qr_not; refine r_not ?_) | (apply qr_len; refine r_len ?_) | (apply qr_extract; refine r_extract ?_) | (apply qr_load; refine r_load ?_) | (apply qr_faddr; refine r_faddr ?_) | (apply qr_nilck; refine r_nilck ?_) | (apply qr_alloc; refine r_alloc ?_) | (apply qr_store; refine r_store ?_) | (apply qr_build; refine r_build ?_) | (apply qr_lits; refine r_lits ?_) | (apply qr_appd; refine r_appd ?_))
      refine aw_tree ((.free 0 (.free 1 (.free 2 (.free 3 (.free 5 (.free 6 (.free 7 (.free 8 (.free 10 (.fork (.alt 4 (.fork (.alt 9 (.only 11 (.only 12 (.free 13 (.free 14 (.only 15 (.only 16 (.free 17 .tail))))))) (.alt 11 (.only 9 (.only 12 (.free 13 (.free 14 (.only 15 (.only 16 (.free 17 .tail))))))) .stop))) (.alt 9 (.fork (.alt 4 (.only 11 (.only 12 (.free 13 (.free 14 (.only 15 (.only 16 (.free 17 .tail))))))) (.alt 11 (.fork (.alt 4 (.only 12 (.free 13 (.free 14 (.only 15 (.only 16 (.free 17 .tail)))))) (.alt 12 (.only 4 (.free 13 (.free 14 (.only 15 (.only 16 (.free 17 .tail)))))) .stop))) .stop))) (.alt 11 (.fork (.alt 4 (.only 9 (.only 12 (.free 13 (.free 14 (.only 15 (.only 16 (.free 17 .tail))))))) (.alt 9 (.fork (.alt 4 (.only 12 (.free 13 (.free 14 (.only 15 (.only 16 (.free 17 .tail)))))) (.alt 12 (.only 4 (.free 13 (.free 14 (.only 15 (.only 16 (.free 17 .tail)))))) .stop))) .stop))) .stop)))))))))))))) [18] ([(12, .box 76 [.d (.int f), .d (.int n)]), (10, .box 78 [.d (.str now'), .d (.str (st.F f).last)]), (1001, .map 56 cm' lm')]) ([(79, .mp 1003), (91, .d (.int cs')), (11, .d (.int n)), (10, .box 10 0), (0, .box 1000 0), (1, .d (.int f)), (2, .d (.int a)), (3, .d (.str s))]) ([(1000, dskBox 1001 1002 1003 (kk + 1) st), (1001, .map 56 cm' lm'), (1002, .vec 76 2 (kk + 1) (Q.map secC ++ [[.int f, .int n]])), (1003, .map 57 (cs' + 1) (ls' ++ [(cs', secV (f, n), D.bool false)])), (10, .box 78 [.d (.str now'), .d (.str (st.F f).last)])]) (by kernel_rfl) (by kernel_rfl) (by kernel_rfl) rfl (by decide) (by (repeat (first | exact obs_nil | (apply obs_cons; focus (first | rfl | (simp [find]; done)))))) (fun hrest => ?_) ?_
      · simp only [tailed, List.filterMap_cons, List.filterMap_nil, List.getElem?_cons_zero, List.getElem?_cons_succ] at hrest
        repeat' (first | apply am_fork | apply am_alt | exact am_stop | refine am_free rfl ?_ | refine am_only rfl ?_ | refine am_leaf hrest (by (repeat (first | exact sub_nil | (apply sub_cons; focus (first | rfl | exact vint (by first | omega) | (simp [look]; done)))))) (by (repeat (first | exact obs_nil | (apply obs_cons; focus (first | rfl | (simp [find]; done)))))) | refine m_skip ?_ | refine n_skip ?_ | (apply at_am (.load _ _); refine am_now (by first | exact want_none | exact want_yes rfl rfl (by assumption) | exact want_yes rfl rfl (by with_reducible rfl)) (y_bload1 rfl rfl rfl rfl) (lt_ok rfl) ?_) | (apply at_am (.call { callee := .builtin .append, args := _, argTypes := _ }); refine am_vappend (by first | exact want_none | exact want_yes rfl rfl (by assumption) | exact want_yes rfl rfl (by with_reducible rfl)) rfl rfl rfl (by first | exact ToD.d _ | exact ToD.row _ _ _ _ _ rfl) rfl rfl (by simp [D.one, Value.oneCell']) (by decide) (by first | (simp only [List.length_map, List.length_append, List.length_cons, List.length_nil]; omega) | omega) (by first | (simp only [List.length_map, List.length_append, List.length_cons, List.length_nil]; omega) | omega) (lt_ok rfl) ?_) | (apply at_am (.mapEntry _ _ _); refine am_mapent setM (by first | exact want_none | exact want_yes rfl rfl (by assumption) | exact want_yes rfl rfl (by with_reducible rfl)) rfl rfl rfl rfl hkey hnone (lt_ok rfl) ?_) | (apply at_am (.store _ _ _); refine am_store (by first | exact want_none | exact want_yes rfl rfl (by assumption) | exact want_yes rfl rfl (by with_reducible rfl)) rfl rfl rfl (ev_row rfl) nofun (by first | (simp only [normV, normList, normMap]; rfl) | rfl) (by simp [V.one, Value.oneCell']) (.inl ⟨rfl, rfl⟩) rfl (le_ok rfl) (by first | (simp only [normV, normList, normMap]; rfl) | rfl) ?_) | (apply qm_move; refine m_move ?_) | (apply qm_extract; refine m_extract ?_) | (apply qm_load; refine m_load ?_) | (apply qn_load; refine n_load ?_) | (apply qm_faddr; refine m_faddr ?_) | (apply qm_nilck; refine m_nilck ?_) | (apply at_am (.buildSlice _ _ _); first | refine am_lit1 (by first | exact want_none | exact want_yes rfl rfl (by assumption) | exact want_yes rfl rfl (by with_reducible rfl)) rfl (by first | exact ToD.d _ | exact ToD.row _ _ _ _ _ rfl) (by first | (simp only [normV, normList, normMap]; rfl) | rfl) rfl (le_ok rfl) (lt_ok rfl) ?_ | refine am_lit (by first | exact want_none | exact want_yes rfl rfl (by assumption) | exact want_yes rfl rfl (by with_reducible rfl)) rfl (by repeat (first | exact PartsD.nil | (apply PartsD.cons; first | exact ToD.d _ | exact ToD.row _ _ _ _ _ rfl))) (by simp [dfill, putD, cellsD, zerosD, Value.cells]; rfl) (by first | (simp only [normV, normList, normMap]; rfl) | rfl) (by decide) (by decide) (lt_ok rfl) ?_) | (apply at_am (.alloc _); refine am_alloc (by first | exact want_none | exact want_yes rfl rfl (by assumption) | exact want_yes rfl rfl (by with_reducible rfl)) rfl (by first | (simp only [normV, normList, normMap]; rfl) | rfl) rfl (lt_ok rfl) rfl rfl rfl ?_) | (apply at_am (.store _ _ _); first | refine am_store (by first | exact want_none | exact want_yes rfl rfl (by assumption) | exact want_yes rfl rfl (by with_reducible rfl)) rfl rfl rfl (ev_d rfl) nofun (by first | (simp only [normV, normList, normMap]; rfl) | rfl) (by simp [V.one, Value.oneCell']) (.inl ⟨rfl, rfl⟩) rfl (le_ok rfl) (by first | (simp only [normV, normList, normMap]; rfl) | rfl) ?_ | refine am_store (by first | exact want_none | exact want_yes rfl rfl (by assumption) | exact want_yes rfl rfl (by with_reducible rfl)) rfl rfl rfl (ev_d rfl) nofun (by first | (simp only [normV, normList, normMap]; rfl) | rfl) (by simp [V.one, Value.oneCell']) (.inr rfl) rfl (le_ok rfl) (by first | (simp only [normV, normList, normMap]; rfl) | rfl) ?_) | (refine am_split rfl rfl (fun hb => ?_) (fun hb => ?_) <;> ((try have hq := dX hb); (try (exfalso; omega)))))
      simp only [tailed, List.filterMap_cons, List.filterMap_nil, List.getElem?_cons_zero, List.getElem?_cons_succ]
      repeat' (first | (apply at_op (.entryStore _ _ _ _); refine al_step (st_entry setM rfl rfl hent rfl (ToD.d _)) rfl ?_) | refine nx ?_ | (apply aq_block_y; decide) | (apply qr_move; refine r_move ?_) | (apply qr_assign; refine r_assign ?_) | (apply at_cond; first | refine c_t ?_ | refine c_f ?_ | (refine aw_cond rfl (fun hb => ?_) (fun hb => ?_) <;> ((try have hq := dX hb); (try (exfalso; omega))))) | (apply at_guard; first | refine g_go ?_ | refine g_nt ?_ | refine g_nf ?_ | refine g_nu ?_ | ((first | refine al_split_t rfl rfl (lt_ok rfl) (fun hb => ?_) (fun hb => ?_) | refine al_split_f rfl rfl (lt_ok rfl) (fun hb => ?_) (fun hb => ?_)) <;> ((try have hq := dX hb); (try (exfalso; omega))))) | (apply qr_pick; refine r_pick ?_) | (apply qr_lss; refine r_lss ?_) | (apply qr_leq; refine r_leq ?_) | (apply qr_gtr; refine r_gtr ?_) | (apply qr_eql; refine r_eql ?_) | (apply qr_neq; refine r_neq ?_) | (apply qr_add; refine r_add ?_) | (apply qr_sub; refine r_sub ?_) | (apply qr_quo; refine r_quo ?_) | (apply qr_not; refine r_not ?_) | (apply qr_len; refine r_len ?_) | (apply qr_extract; refine r_extract ?_) | (apply qr_load; refine r_load ?_) | (apply qr_faddr; refine r_faddr ?_) | (apply qr_nilck; refine r_nilck ?_) | (apply qr_alloc; refine r_alloc ?_) | (apply qr_store; refine r_store ?_) | (apply qr_build; refine r_build ?_) | (apply qr_lits; refine r_lits ?_) | (apply qr_appd; refine r_appd ?_))
      rw [show Q.map secC ++ [[D.int f, D.int n]] = (Q ++ [(f, n)]).map secC by rw [List.map_append]; rfl]
      refine aq_rd (⟨c, n + 1, Q ++ [(f, n)], kk + 1, cs' + 1, _, rfl, hQ', hS', hQF', by omega, by omega, rfl, rfl⟩) (by omega)
end
end Go.Proofs.YtfgibalcdjlnhaaGreatDoor
end
