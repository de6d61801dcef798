/-
  What a disk's state is, step by step: files that are not touched; scheduled crashes. Conditions: none.
-/
import Derived.Test.YtabaflklognhaaaDkO
namespace Go.Proofs.Ytabaflklognhaaa
open Go.RowKit Go.ChangeMaps

/-- a file that is durable, and not pending -/
structure Safe (st : DS) (f : Int) (s : ByteArray) : Prop where
  file : st.F f = ⟨s, s⟩
  none : ∀ p ∈ st.Q, p.1 ≠ f
theorem surv_ne {F : Int → Fl} {p : Sec} {f : Int} (h : p.1 ≠ f) : surv F p f = F f := by
  unfold surv
  split
  · exact upd_ne _ _ (Ne.symm h)
  · rfl
theorem survs_ne (keep : List Int) {f : Int} : ∀ (Q : List Sec) (i : Nat) (F : Int → Fl), (∀ p ∈ Q, p.1 ≠ f) → survs keep i Q F f = F f
  | [], _, _, _ => rfl
  | p :: Q, i, F, h => by
    unfold survs
    rw [survs_ne keep Q (i + 1) _ (fun q hq => h q (by simp [hq]))]
    split
    · exact surv_ne (h p (by simp))
    · rfl
theorem Safe.crash {st : DS} {f : Int} {s : ByteArray} (h : Safe st f s) (keep : List Int) : Safe (crashS st keep) f s := by
  unfold crashS
  cases hd : st.down
  · refine ⟨?_, by simp⟩
    show lastF (survs keep 0 st.Q st.F) f = _
    unfold lastF
    rw [survs_ne keep st.Q 0 st.F h.none, h.file]
  · exact h
theorem Safe.ends {st : DS} {f : Int} {s : ByteArray} (h : Safe st f s) : Safe (endS st) f s := ⟨by rw [(endS_f st).1]; exact h.file, by rw [(endS_f st).2.1]; exact h.none⟩
theorem Safe.settle {st : DS} {f g : Int} {s t : ByteArray} (h : Safe st f s) (hg : g ≠ f) : Safe (settleS st g t) f s :=
  ⟨by show upd st.F g _ f = _; rw [upd_ne _ _ (Ne.symm hg)]; exact h.file, fun p hp => h.none p (List.mem_filter.1 hp).1⟩
theorem adds_mem {g : Int} : ∀ (c : Nat) (n : Int) (Q : List Sec), ∀ p ∈ addSecs g c n Q, p ∈ Q ∨ p.1 = g
  | 0, _, _, _, h => .inl h
  | c + 1, n, Q, p, h => by
    unfold addSecs at h
    rcases adds_mem c (n + 1) _ p h with h1 | h1
    · split at h1
      · exact .inl h1
      · rcases List.mem_append.1 h1 with h2 | h2
        · exact .inl h2
        · simp at h2
          subst h2
          exact .inr rfl
    · exact .inr h1
theorem Safe.wr {st : DS} {f g : Int} {s : ByteArray} (h : Safe st f s) (hg : g ≠ f) (at_ : Int) (t : ByteArray) : Safe (wrS st g at_ t) f s := by
  unfold wrS
  split
  · exact h
  · refine ⟨?_, fun p hp => ?_⟩
    · show upd st.F g _ f = _
      rw [upd_ne _ _ (Ne.symm hg)]
      exact h.file
    · rcases adds_mem _ _ _ p hp with h1 | h1
      · exact h.none p h1
      · rw [h1]; exact hg
theorem Safe.sync {st : DS} {f g : Int} {s : ByteArray} (h : Safe st f s) (hg : g ≠ f) : Safe (syncR st g).2 f s := by
  unfold syncR
  split
  · exact h.ends.crash _
  · split
    · exact h.ends
    · split
      · exact ⟨h.ends.file, h.ends.none⟩
      · exact h.ends.settle hg
theorem Safe.trunc {st : DS} {f g : Int} {s : ByteArray} (h : Safe st f s) (hg : g ≠ f) (size : Int) : Safe (truncR st g size).2 f s := by
  unfold truncR
  split
  · exact h.ends.crash _
  · split
    · exact h.ends
    · split
      · exact h.ends
      · exact h.ends.settle hg
theorem Safe.write {st : DS} {f g : Int} {s : ByteArray} (h : Safe st f s) (hg : g ≠ f) (at_ : Int) (t : ByteArray) : Safe (writeR st g at_ t).2 f s := by
  unfold writeR
  split
  · exact (h.ends.wr hg at_ t).crash _
  · exact h.ends.wr hg at_ t
/-- acts upon other files, and lost syncs -/
theorem Safe.act {st : DS} {f : Int} {s : ByteArray} (h : Safe st f s) {a : Act} (ha : (a.kind % 8 < 4 ∧ a.f ≠ f) ∨ a.kind % 8 = 4) : Safe (doR st a).2 f s := by
  unfold doR
  split
  · exact h.sync (by omega)
  · split
    · exact h.trunc (by omega) _
    · split
      · exact ⟨h.file, h.none⟩
      · rw [if_neg (by omega), if_neg (by omega), if_neg (by omega)]
        exact h.write (by omega) _ _
/-- a sync that succeeds -/
theorem sync_safe {st : DS} {f : Int} (h : (syncR st f).1 = 0) : mayE st f = 0 ∧ Safe (syncR st f).2 f (st.F f).now ∧ (syncR st f).2.down = false := by
  unfold syncR at h ⊢
  by_cases h1 : endsB st = true
  · rw [if_pos h1] at h; cases h
  · rw [if_neg h1] at h ⊢
    by_cases h2 : mayE (endS st) f ≠ 0
    · rw [if_pos h2] at h; exact absurd h h2
    · rw [if_neg h2] at h ⊢
      have h2' : mayE (endS st) f = 0 := by
        apply Decidable.byContradiction
        exact h2
      by_cases h3 : 0 < (endS st).lost
      · rw [if_pos h3] at h; cases h
      · rw [if_neg h3]
        obtain ⟨hd, _⟩ := may_ok h2'
        have e := endS_f st
        refine ⟨?_, ⟨?_, fun p hp => ?_⟩, ?_⟩
        · unfold mayE at h2' ⊢
          rw [← e.2.2.2.2]
          exact h2'
        · show upd _ f _ f = _
          rw [upd_same, e.1]
        · have := (List.mem_filter.1 hp).2
          simpa using this
        · exact hd
theorem Safe.read {st : DS} {f : Int} {s : ByteArray} (h : Safe st f s) (hs : s.size ≤ 16777216) (hm : mayE st f = 0) : readP st f 0 16777216 = (s, 0) := by
  unfold readP
  rw [if_neg (by simp [hm]), if_neg (by omega), h.file, cut_all hs]
end Go.Proofs.Ytabaflklognhaaa
