/-
  What survives of a disk's files. Conditions: none.
-/
import Derived.Test.YtabaflklognhaaaDkO
namespace Go.Proofs.Ytabaflklognhaaa
open Go.RowKit Go.ChangeMaps

/-- what is not pending is durable -/
structure Dur (F : Int → Fl) (Q : List Sec) : Prop where
  le : ∀ f, (F f).last.size ≤ (F f).now.size
  same : ∀ f (i : Nat), (f, (i : Int) / 64) ∉ Q → bt (F f).now i = bt (F f).last i
  reach : ∀ f, (F f).last.size = (F f).now.size ∨ ((F f).now.size ≠ 0 ∧ (f, (((F f).now.size : Int) - 1) / 64) ∈ Q)
theorem adds_keep {f : Int} : ∀ (c : Nat) (n : Int) (Q : List Sec), ∀ p ∈ Q, p ∈ addSecs f c n Q
  | 0, _, _, _, h => h
  | c + 1, n, Q, p, h => by
    unfold addSecs
    apply adds_keep c (n + 1)
    split
    · exact h
    · exact List.mem_append_left _ h
theorem adds_has {f : Int} : ∀ (c : Nat) (n : Int) (Q : List Sec) (m : Int), n ≤ m → m < n + c → (f, m) ∈ addSecs f c n Q
  | 0, _, _, _, h1, h2 => by omega
  | c + 1, n, Q, m, h1, h2 => by
    unfold addSecs
    by_cases e : m = n
    · subst e
      apply adds_keep c (m + 1)
      split
      · assumption
      · exact List.mem_append_right _ (by simp)
    · exact adds_has c (n + 1) _ m (by omega) (by omega)
theorem Dur.new : Dur DS.new.F DS.new.Q := ⟨fun _ => Nat.le_refl _, fun _ _ _ => rfl, fun _ => .inl rfl⟩
theorem Dur.last (F : Int → Fl) (Q : List Sec) : Dur (lastF F) Q := ⟨fun _ => Nat.le_refl _, fun _ _ _ => rfl, fun _ => .inl rfl⟩
theorem Dur.settle {st : DS} (h : Dur st.F st.Q) (g : Int) (s : ByteArray) : Dur (settleS st g s).F (settleS st g s).Q := by
  have hq : ∀ {f n : Int}, f ≠ g → (f, n) ∈ st.Q → (f, n) ∈ kept g st.Q := fun hne hm => List.mem_filter.2 ⟨hm, by simpa using hne⟩
  refine ⟨fun f => ?_, fun f i hi => ?_, fun f => ?_⟩
  · by_cases e : f = g
    · subst e; show (upd _ _ _ _).last.size ≤ (upd _ _ _ _).now.size; rw [upd_same]; exact Nat.le_refl _
    · show (upd _ _ _ _).last.size ≤ (upd _ _ _ _).now.size; rw [upd_ne _ _ e]; exact h.le f
  · by_cases e : f = g
    · subst e; show bt (upd _ _ _ _).now i = bt (upd _ _ _ _).last i; rw [upd_same]
    · show bt (upd _ _ _ _).now i = bt (upd _ _ _ _).last i
      rw [upd_ne _ _ e]
      exact h.same f i (fun hm => hi (hq e hm))
  · by_cases e : f = g
    · subst e; refine .inl ?_; show (upd _ _ _ _).last.size = (upd _ _ _ _).now.size; rw [upd_same]
    · show (upd _ _ _ _).last.size = (upd _ _ _ _).now.size ∨ ((upd _ _ _ _).now.size ≠ 0 ∧ (f, (((upd _ _ _ _).now.size : Int) - 1) / 64) ∈ _)
      rw [upd_ne _ _ e]
      exact (h.reach f).imp id (fun ⟨h1, h2⟩ => ⟨h1, hq e h2⟩)
theorem Dur.wr {st : DS} (h : Dur st.F st.Q) (g at_ : Int) (s : ByteArray) : Dur (wrS st g at_ s).F (wrS st g at_ s).Q := by
  unfold wrS
  by_cases hc : wrE st g at_ s ≠ 0 ∨ s.size = 0
  · rw [if_pos hc]
    exact h
  · rw [if_neg hc]
    have hs : s.size ≠ 0 := fun e => hc (.inr e)
    have h1 : wrE st g at_ s = 0 := by
      apply Decidable.byContradiction
      intro e
      exact hc (.inl e)
    have ha : 0 ≤ at_ := by
      apply Decidable.byContradiction
      intro e
      unfold wrE at h1
      by_cases hm : mayE st g ≠ 0
      · rw [if_pos hm] at h1; exact hm h1
      · rw [if_neg hm, if_pos (by omega)] at h1; cases h1
    obtain ⟨a, rfl⟩ : ∃ a : Nat, at_ = a := ⟨at_.toNat, by omega⟩
    have hz := putB_size (s := (st.F g).now) (at_ := a) (t := s)
    rw [if_neg hs] at hz
    have ht : (a : Int) / 64 + (touch a s : Nat) = ((a : Int) + s.size - 1) / 64 + 1 := by unfold touch; omega
    rw [Int.toNat_natCast]
    refine ⟨fun f => ?_, fun f i hi => ?_, fun f => ?_⟩
    · by_cases e : f = g
      · subst e
        show (upd _ _ _ _).last.size ≤ (upd _ _ _ _).now.size
        rw [upd_same]
        show (st.F f).last.size ≤ (putB _ _ _).size
        have := h.le f
        omega
      · show (upd _ _ _ _).last.size ≤ (upd _ _ _ _).now.size; rw [upd_ne _ _ e]; exact h.le f
    · by_cases e : f = g
      · subst e
        show bt (upd _ _ _ _).now i = bt (upd _ _ _ _).last i
        rw [upd_same]
        show bt (putB _ _ _) i = bt (st.F f).last i
        rw [bt_put]
        by_cases hr : a ≤ i ∧ i < a + s.size
        · exact absurd (adds_has _ _ _ ((i : Int) / 64) (by omega) (by omega)) hi
        · rw [if_neg hr]
          exact h.same f i (fun hm => hi (adds_keep _ _ _ _ hm))
      · show bt (upd _ _ _ _).now i = bt (upd _ _ _ _).last i
        rw [upd_ne _ _ e]
        exact h.same f i (fun hm => hi (adds_keep _ _ _ _ hm))
    · by_cases e : f = g
      · subst e
        show (upd _ _ _ _).last.size = (upd _ _ _ _).now.size ∨ ((upd _ _ _ _).now.size ≠ 0 ∧ (f, (((upd _ _ _ _).now.size : Int) - 1) / 64) ∈ _)
        rw [upd_same]
        show (st.F f).last.size = (putB _ _ _).size ∨ ((putB (st.F f).now a s).size ≠ 0 ∧ (f, (((putB (st.F f).now a s).size : Int) - 1) / 64) ∈ _)
        by_cases hm : (st.F f).now.size < a + s.size
        · refine .inr ⟨by omega, adds_has _ _ _ _ ?_ ?_⟩
          · rw [hz]; omega
          · rw [ht, hz]; omega
        · have hz2 : (putB (st.F f).now a s).size = (st.F f).now.size := by omega
          rw [hz2]
          exact (h.reach f).imp id (fun ⟨h1, h2⟩ => ⟨h1, adds_keep _ _ _ _ h2⟩)
      · show (upd _ _ _ _).last.size = (upd _ _ _ _).now.size ∨ ((upd _ _ _ _).now.size ≠ 0 ∧ (f, (((upd _ _ _ _).now.size : Int) - 1) / 64) ∈ _)
        rw [upd_ne _ _ e]
        exact (h.reach f).imp id (fun ⟨h1, h2⟩ => ⟨h1, adds_keep _ _ _ _ h2⟩)
theorem Dur.crash {st : DS} (h : Dur st.F st.Q) (keep : List Int) : Dur (crashS st keep).F (crashS st keep).Q := by
  unfold crashS
  split
  · exact h
  · exact Dur.last _ _
theorem Dur.ends {st : DS} (h : Dur st.F st.Q) : Dur (endS st).F (endS st).Q := by rw [(endS_f st).1, (endS_f st).2.1]; exact h
theorem Dur.act {st : DS} (h : Dur st.F st.Q) (a : Act) : Dur (doR st a).2.F (doR st a).2.Q := by
  unfold doR
  split
  · unfold syncR
    split
    · exact h.ends.crash _
    · split
      · exact h.ends
      · split
        · exact h.ends
        · exact h.ends.settle _ _
  · split
    · unfold truncR
      split
      · exact h.ends.crash _
      · split
        · exact h.ends
        · split
          · exact h.ends
          · exact h.ends.settle _ _
    · split
      · exact h
      · split
        · exact h
        · split
          · exact h.crash _
          · split
            · exact h
            · unfold writeR
              split
              · exact (h.ends.wr _ _ _).crash _
              · exact h.ends.wr _ _ _
theorem Dur.runs : ∀ (l : List Act) (st : DS), Dur st.F st.Q → Dur (runs st l).F (runs st l).Q
  | [], _, h => h
  | a :: l, st, h => Dur.runs l _ (h.act a)
/-- what the file f is during a crash: the sectors in S are survived -/
structure Mid (now last R : ByteArray) (S : Int → Prop) : Prop where
  lo : last.size ≤ R.size
  hi : R.size ≤ now.size
  yes : ∀ i : Nat, S ((i : Int) / 64) → bt R i = bt now i
  no : ∀ i : Nat, ¬ S ((i : Int) / 64) → bt R i = bt last i
  top : now.size ≠ 0 → S (((now.size : Int) - 1) / 64) → R.size = now.size
theorem Mid.start {now last : ByteArray} (h : last.size ≤ now.size) : Mid now last last (fun _ => False) := ⟨Nat.le_refl _, h, fun _ h => h.elim, fun _ _ => rfl, fun _ h => h.elim⟩
theorem Mid.add {now last R : ByteArray} {S : Int → Prop} (h : Mid now last R S) {n : Int} (hn : 0 ≤ n) : Mid now last (if n * 64 < now.size then putB R (n * 64).toNat (partB now n) else R) (fun m => S m ∨ m = n) := by
  by_cases hc : n * 64 < now.size
  · rw [if_pos hc]
    have hp : (partB now n).size = (min (n * 64 + 64) now.size).toNat - (n * 64).toNat := by
      unfold partB
      rw [ByteArray.size_extract]
      omega
    have hz := putB_size (s := R) (at_ := (n * 64).toNat) (t := partB now n)
    rw [if_neg (by omega)] at hz
    have hsz : (putB R (n * 64).toNat (partB now n)).size ≤ now.size := by have := h.hi; omega
    have hbt : ∀ i : Nat, bt (putB R (n * 64).toNat (partB now n)) i = if (n * 64).toNat ≤ i ∧ i < (n * 64).toNat + (partB now n).size then bt now i else bt R i := fun i => by
      rw [bt_put]
      by_cases hr : (n * 64).toNat ≤ i ∧ i < (n * 64).toNat + (partB now n).size
      · rw [if_pos hr, if_pos hr]
        unfold partB
        rw [bt_ext, if_pos (by omega)]
        congr 1
        omega
      · rw [if_neg hr, if_neg hr]
    refine ⟨by have := h.lo; omega, hsz, fun i hi => ?_, fun i hi => ?_, fun h0 hS => ?_⟩
    · by_cases hin : i < (putB R (n * 64).toNat (partB now n)).size
      · rw [hbt]
        by_cases hr : (n * 64).toNat ≤ i ∧ i < (n * 64).toNat + (partB now n).size
        · rw [if_pos hr]
        · rw [if_neg hr]
          rcases hi with hi | hi
          · exact h.yes i hi
          · have : now.size ≤ i := by omega
            omega
      · by_cases hin2 : i < now.size
        · rcases hi with hi | hi
          · rw [hbt]
            split
            · rfl
            · exact h.yes i hi
          · omega
        · rw [bt_out (by omega), bt_out (by omega)]
    · rw [hbt, if_neg (fun hr => hi (.inr (by omega)))]
      exact h.no i (fun hS => hi (.inl hS))
    · rcases hS with hS | hS
      · have := h.top h0 hS
        omega
      · omega
  · rw [if_neg hc]
    refine ⟨h.lo, h.hi, fun i hi => ?_, fun i hi => h.no i (fun hS => hi (.inl hS)), fun h0 hS => ?_⟩
    · rcases hi with hi | hi
      · exact h.yes i hi
      · have := h.hi
        rw [bt_out (by omega), bt_out (by omega)]
    · rcases hS with hS | hS
      · exact h.top h0 hS
      · omega
theorem surv_off {F : Int → Fl} {p : Sec} {f : Int} (h : ¬ p.1 = f) : surv F p f = F f := by
  unfold surv
  split
  · exact upd_ne _ _ (Ne.symm h)
  · rfl
theorem survs_mid (keep : List Int) (f : Int) (now last : ByteArray) : ∀ (Q : List Sec) (i : Nat) (F : Int → Fl) (S : Int → Prop), (∀ p ∈ Q, 0 ≤ p.2) → (F f).now = now → Mid now last (F f).last S →
    ∃ S' : Int → Prop, Mid now last (survs keep i Q F f).last S' ∧ (∀ n, S n → S' n) ∧ ((∀ j, keepAt keep j = true) → ∀ n, (f, n) ∈ Q → S' n)
  | [], _, F, S, _, _, h => ⟨S, h, fun _ h => h, fun _ n hn => by cases hn⟩
  | p :: Q, i, F, S, h0, hn, h => by
    unfold survs
    cases hk : keepAt keep i
    · obtain ⟨S', h1, h2, h3⟩ := survs_mid keep f now last Q (i + 1) F S (fun q hq => h0 q (by simp [hq])) hn h
      exact ⟨S', by simpa using h1, h2, fun hall => by rw [hall i] at hk; cases hk⟩
    · by_cases hp : p.1 = f
      · have e : (surv F p f) = if p.2 * 64 < now.size then ⟨now, putB (F f).last (p.2 * 64).toNat (partB now p.2)⟩ else F f := by
          unfold surv
          rw [hp, hn]
          split
          · rw [upd_same]
          · rfl
        have hn' : (surv F p f).now = now := by
          rw [e]
          split
          · rfl
          · exact hn
        have hM := h.add (h0 p (by simp))
        have hl : (surv F p f).last = if p.2 * 64 < now.size then putB (F f).last (p.2 * 64).toNat (partB now p.2) else (F f).last := by
          rw [e]
          split <;> rfl
        rw [← hl] at hM
        obtain ⟨S', h1, h2, h3⟩ := survs_mid keep f now last Q (i + 1) (surv F p) _ (fun q hq => h0 q (by simp [hq])) hn' hM
        refine ⟨S', by simpa using h1, fun n hS => h2 n (.inl hS), fun hall n hm => ?_⟩
        rcases List.mem_cons.1 hm with hm | hm
        · exact h2 n (.inr (by rw [← hm]))
        · exact h3 hall n hm
      · have hsn := surv_off hp (F := F)
        obtain ⟨S', h1, h2, h3⟩ := survs_mid keep f now last Q (i + 1) (surv F p) S (fun q hq => h0 q (by simp [hq])) (by rw [hsn]; exact hn) (by rw [hsn]; exact h)
        refine ⟨S', by simpa using h1, h2, fun hall n hm => ?_⟩
        rcases List.mem_cons.1 hm with hm | hm
        · exact absurd (by rw [← hm]) hp
        · exact h3 hall n hm
/-- what a crash leaves of a file -/
theorem after_mid {st : DS} (hD : Dur st.F st.Q) (hok : st.Ok) {f : Int} (hm : mayE st f = 0) (keep : List Int) :
    ∃ (R : ByteArray) (S : Int → Prop), afterP st f keep = (R, 0) ∧ Mid (st.F f).now (st.F f).last R S ∧ ((∀ j, keepAt keep j = true) → R = (st.F f).now) := by
  obtain ⟨hd, hf⟩ := may_ok hm
  obtain ⟨S, h1, _, h3⟩ := survs_mid keep f (st.F f).now (st.F f).last st.Q 0 st.F (fun _ => False) (fun p hp => (hok.num p hp).1) rfl (Mid.start (hD.le f))
  refine ⟨_, S, ?_, h1, fun hall => ?_⟩
  · have e : crashS st keep = { st with F := lastF (survs keep 0 st.Q st.F), Q := [], down := true, armed := 0 } := by unfold crashS; rw [if_neg (by rw [hd]; decide)]
    have hs := h1.hi
    have hn := hok.now f
    unfold afterP readP mayE upS
    rw [if_neg (by simp; omega), if_neg (by omega), e]
    show (cutB (survs keep 0 st.Q st.F f).last 0 16777216, _) = _
    rw [cut_all (by omega)]
  · have hSall : ∀ n, (f, n) ∈ st.Q → S n := h3 hall
    have hsz : (survs keep 0 st.Q st.F f).last.size = (st.F f).now.size := by
      rcases hD.reach f with h4 | ⟨h4, h5⟩
      · have := h1.lo
        have := h1.hi
        omega
      · exact h1.top h4 (hSall _ h5)
    refine ba_eq hsz fun i _ => ?_
    by_cases hS : S ((i : Int) / 64)
    · exact h1.yes i hS
    · rw [h1.no i hS]
      exact (hD.same f i (fun hq => hS (hSall _ hq))).symm
end Go.Proofs.Ytabaflklognhaaa
