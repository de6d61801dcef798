/-
  A disk: settle, write. Conditions: none.
-/
import Derived.Test.YtabaflklognhaaaDkE
set_option linter.unusedSimpArgs false
set_option linter.unusedVariables false
namespace Go.Proofs.Ytabaflklognhaaa
open Go.RowKit Go.ChangeMaps

def settleS (st : DS) (f : Int) (s : ByteArray) : DS := { st with F := upd st.F f ⟨s, s⟩, Q := kept f st.Q }
theorem DS.Ok.settle {st : DS} (h : st.Ok) {f : Int} (hf : 0 ≤ f ∧ f < 16) {s : ByteArray} (hs : s.size ≤ 16777216) : (settleS st f s).Ok := by
  refine ⟨fun n => ?_, fun n => ?_, fun n hn => ?_, ?_, fun p hp => ?_, fun p hp => ?_, h.lost0, h.armed0, h.keepl⟩
  · by_cases e : n = f
    · subst e; simp only [settleS, upd_same]; exact hs
    · simp only [settleS, upd_ne _ _ e]; exact h.now n
  · by_cases e : n = f
    · subst e; simp only [settleS, upd_same]; exact hs
    · simp only [settleS, upd_ne _ _ e]; exact h.last n
  · have e : n ≠ f := fun e => hn (e ▸ hf)
    simp only [settleS, upd_ne _ _ e]
    exact h.out n hn
  · exact h.nodup.filter _
  · exact h.file p ((List.mem_filter.1 hp).1)
  · exact h.num p ((List.mem_filter.1 hp).1)
theorem DS.Ok.keys {st : DS} (h : st.Ok) : SecKeys st.Q := fun p hp => by
  have := h.file p hp
  have := h.num p hp
  unfold i64
  omega
/-- What a method leaves of a disk: no new map for the set. -/
def Out (st : DS) (o : Objs) : Prop := ∃ k cm cs lm ls, DkOk lm ls st ∧ o = dsk 1000 1001 1002 1003 k cm cs lm ls st
section
variable {k cm cs : Nat} {lm ls : List ME} {st : DS}
set_option maxHeartbeats 8000000 in
set_option maxRecDepth 20000 in
theorem settle_any (h : DkOk lm ls st) {f : Int} (hf : 0 ≤ f ∧ f < 16) {s : ByteArray} (hs : s.size ≤ 16777216) : ObC 45 [.box 1000 0, .d (.int f), .d (.str s)] (dsk 1000 1001 1002 1003 k cm cs lm ls st) [] (fun x o => x = .tup [] ∧ Out (settleS st f s) o) := by
  have hkey := int_key (n := f) (by unfold i64; omega)
  have hd1 := delq_any f st.Q k h.ok.len
  have hd2 := delm_any f st.Q h.ok.keys cs ls h.s
  have hok := h.ok.settle hf hs
  refine ob_enter Try.func45 rfl (by decide) _ Try.ntmps45 (le_ok rfl) rfl (fun w Pr β κ hE => ?_)
  dsimp only [slotsV, Nat.zero_add, Nat.reduceAdd]
  refine aw_mapok 1001 rfl (fun hm => ?_)
  obtain ⟨cm', lm', hput, hF⟩ := h.f.put hm hf ⟨s, s⟩
  repeat' (first | apply aw_seq | apply aw_region | apply al_nil | apply aq_np | apply aq_then | apply aq_then_x | apply aq_then_r | apply aw_skip | apply aw_exit | apply aw_ret | (apply at_op (.move _); refine r_move ?_) | (apply at_op (.makeFunc _ _ _); refine r_func ?_) | (apply at_op (.load _ _); refine r_load ?_) | (apply at_op (.fieldAddr _ _ _); refine r_faddr ?_) | (apply at_op (.nilCheck _); refine r_nilck ?_) | (apply at_op (.box _ _); refine r_boxed ?_) | (apply at_op (.store _ _ _); refine r_store ?_) | (apply at_op (.build _ _); refine r_build ?_))
  refine aw_mix [(0, true), (1, true), (2, true), (3, true), (4, true), (5, true), (6, true), (7, true)] [8] (by kernel_rfl) (by kernel_rfl) (by kernel_rfl) (by decide) ?_
  simp only [planned, tailed, List.filterMap_cons, List.filterMap_nil, List.getElem?_cons_zero, List.getElem?_cons_succ, Option.map_some]
  repeat' (first | apply am_nil | refine am_skip (by first | exact want_no_t rfl rfl (by assumption) | exact want_no_f rfl rfl (by assumption) | exact want_no_t rfl rfl (by with_reducible rfl) | exact want_no_f rfl rfl (by with_reducible rfl) | exact want_no_u rfl rfl) (lt_ok rfl) ?_ | refine am_skip' (by first | exact want_no_t rfl rfl (by assumption) | exact want_no_f rfl rfl (by assumption) | exact want_no_t rfl rfl (by with_reducible rfl) | exact want_no_f rfl rfl (by with_reducible rfl) | exact want_no_u rfl rfl) (lt_ok rfl) ?_ | (apply at_am (.move _); refine m_move ?_) | (apply at_am (.makeFunc _ _ _); refine n_func ?_) | (apply at_am (.load _ _); refine m_load ?_) | (apply at_am (.fieldAddr _ _ _); refine m_faddr ?_) | (apply at_am (.nilCheck _); refine m_nilck ?_) | (apply at_am (.build _ _); refine m_build ?_) | (refine am_split rfl rfl (fun hb => ?_) (fun hb => ?_) <;> ((first | have hq := of_decide_eq_true hb | have hq := of_decide_eq_false hb | have hq := of_decide_eq_false (not_t hb) | have hq := of_decide_eq_true (not_f hb) | skip); (try (exfalso; omega)))))
  repeat' (first | (apply at_op (.mapUpdate _ _ _ _); refine al_step (st_mapup fileM rfl rfl rfl hkey (ToD.d _) hput) rfl ?_) | (apply at_op (.makeFunc _ _ _); refine al_y (y_clo rfl) (lt_ok rfl) ?_) | (apply at_call; refine k_ocall [(1001, 1002), (1000, 4)] (hd1) hE ?_; rintro _ _ ⟨k', rfl, rfl⟩ <;> (intro _ _ h1 h2; simp only [renEqs, Nat.reduceBEq, renL_app, renL_ds, renL_und] at h1 h2; subst h1 h2)) | (apply at_call; refine k_ocall [(1001, 1003), (1000, 4)] (hd2) hE ?_; rintro _ _ ⟨rfl, ls', hS, rfl⟩ <;> (intro _ _ h1 h2; simp only [renEqs, Nat.reduceBEq, renL_app, renL_ds, renL_und] at h1 h2; subst h1 h2)) | apply aw_seq | apply aw_region | apply al_nil | apply aq_np | apply aq_then | apply aq_then_x | apply aq_then_r | apply aw_skip | apply aw_exit | apply aw_ret | (apply at_op (.move _); refine r_move ?_) | (apply at_op (.makeFunc _ _ _); refine r_func ?_) | (apply at_op (.load _ _); refine r_load ?_) | (apply at_op (.fieldAddr _ _ _); refine r_faddr ?_) | (apply at_op (.nilCheck _); refine r_nilck ?_) | (apply at_op (.box _ _); refine r_boxed ?_) | (apply at_op (.store _ _ _); refine r_store ?_) | (apply at_op (.build _ _); refine r_build ?_))
  try refine aq_end ?_
  refine oret0 (dsk 1000 1001 1002 1003 k' cm' cs lm' ls' (settleS st f s)) (by rfl)  (⟨rfl, k', cm', cs, lm', ls', ⟨hF, hS, hok⟩, rfl⟩) (by (repeat (first | exact obs_nil | (apply obs_cons; focus (first | rfl | (simp [find]; done)))))) (by first | (simp [okOut, V.within, V.withinL, O.within, keys, mem, look, nbeq_def, withinL_app, withinL_ds, withinL_und]; done) | rfl)
def addSecs (f : Int) : Nat → Int → List Sec → List Sec
  | 0, _, Q => Q
  | c + 1, n, Q => addSecs f c (n + 1) (if (f, n) ∈ Q then Q else Q ++ [(f, n)])
theorem QOk.add {Q : List Sec} (h : QOk Q) {p : Sec} (hp : p ∉ Q) (h1 : 0 ≤ p.1 ∧ p.1 < 16) (h2 : 0 ≤ p.2 ∧ p.2 ≤ 262144) : QOk (Q ++ [p]) := by
  refine ⟨?_, fun q hq => ?_, fun q hq => ?_⟩
  · rw [List.nodup_append]
    exact ⟨h.nodup, by simp, fun x hx y hy => by simp at hy; subst hy; exact fun e => hp (e ▸ hx)⟩
  · rcases List.mem_append.1 hq with hq | hq
    · exact h.file q hq
    · simp at hq; subst hq; exact h1
  · rcases List.mem_append.1 hq with hq | hq
    · exact h.num q hq
    · simp at hq; subst hq; exact h2
theorem QOk.adds {f : Int} (hf : 0 ≤ f ∧ f < 16) : ∀ (c : Nat) (n : Int) (Q : List Sec), QOk Q → 0 ≤ n → n + c ≤ 262145 → QOk (addSecs f c n Q)
  | 0, _, _, h, _, _ => h
  | c + 1, n, Q, h, h0, h1 => by
    unfold addSecs
    by_cases hm : (f, n) ∈ Q
    · rw [if_pos hm]
      exact QOk.adds hf c (n + 1) Q h (by omega) (by omega)
    · rw [if_neg hm]
      exact QOk.adds hf c (n + 1) _ (h.add hm hf (by show 0 ≤ n ∧ n ≤ 262144; omega)) (by omega) (by omega)
def wrE (st : DS) (f at_ : Int) (s : ByteArray) : Int := if mayE st f ≠ 0 then mayE st f else if at_ < 0 then 1 else if 16777216 < at_ ∨ 16777216 - at_ < s.size then 6 else 0
/-- how many sectors a write touches -/
def touch (at_ : Int) (s : ByteArray) : Nat := ((at_ + s.size - 1) / 64 - at_ / 64 + 1).toNat
def wrS (st : DS) (f at_ : Int) (s : ByteArray) : DS := if wrE st f at_ s ≠ 0 ∨ s.size = 0 then st else { st with F := upd st.F f ⟨putB (st.F f).now at_.toNat s, (st.F f).last⟩, Q := addSecs f (touch at_ s) (at_ / 64) st.Q }
theorem may_ok {st : DS} {f : Int} (h : mayE st f = 0) : st.down = false ∧ 0 ≤ f ∧ f < 16 := by
  unfold mayE at h
  cases hd : st.down
  · rw [hd] at h
    by_cases h1 : f < 0 ∨ 16 ≤ f
    · simp [h1] at h
    · exact ⟨rfl, by omega, by omega⟩
  · rw [hd] at h
    simp at h
theorem DS.Ok.wr {st : DS} (h : st.Ok) (f at_ : Int) (s : ByteArray) : (wrS st f at_ s).Ok := by
  unfold wrS
  by_cases hc : wrE st f at_ s ≠ 0 ∨ s.size = 0
  · rw [if_pos hc]
    exact h
  · rw [if_neg hc]
    have h1 : wrE st f at_ s = 0 := by
      apply Decidable.byContradiction
      intro e
      exact hc (.inl e)
    have h2 : s.size ≠ 0 := fun e => hc (.inr e)
    unfold wrE at h1
    by_cases hm : mayE st f = 0
    · obtain ⟨_, hf⟩ := may_ok hm
      rw [if_neg (by simp [hm])] at h1
      by_cases ha : at_ < 0
      · rw [if_pos ha] at h1; cases h1
      · rw [if_neg ha] at h1
        by_cases hb : 16777216 < at_ ∨ 16777216 - at_ < s.size
        · rw [if_pos hb] at h1; cases h1
        · have hq := QOk.adds hf (touch at_ s) (at_ / 64) st.Q h.q (by omega) (by unfold touch; omega)
          refine ⟨fun n => ?_, fun n => ?_, fun n hn => ?_, hq.nodup, hq.file, hq.num, h.lost0, h.armed0, h.keepl⟩
          · by_cases e : n = f
            · subst e
              simp only [upd_same]
              rw [putB_size, if_neg h2]
              have := h.now n
              omega
            · simp only [upd_ne _ _ e]; exact h.now n
          · by_cases e : n = f
            · subst e; simp only [upd_same]; exact h.last n
            · simp only [upd_ne _ _ e]; exact h.last n
          · have e : n ≠ f := fun e => hn (e ▸ hf)
            simp only [upd_ne _ _ e]
            exact h.out n hn
    · rw [if_pos hm] at h1
      exact absurd h1 hm
end
end Go.Proofs.Ytabaflklognhaaa
