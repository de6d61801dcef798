/-
  A disk: Crash. Conditions: none.
-/
import Derived.Test.YtfgibalcdjlnhaaGreatDoorMap
set_option linter.unusedSimpArgs false
set_option linter.unusedVariables false
namespace Go.Proofs.YtfgibalcdjlnhaaGreatDoor
open Go.RowKit Go.ChangeMaps

def keepAt (keep : List Int) (i : Nat) : Bool := decide (keep.getD (i % keep.length) 0 % 2 = 1)
def partB (s : ByteArray) (n : Int) : ByteArray := s.extract (n * 64).toNat (min (n * 64 + 64) s.size).toNat
def surv (F : Int → Fl) (p : Sec) : Int → Fl := if p.2 * 64 < (F p.1).now.size then upd F p.1 ⟨(F p.1).now, putB (F p.1).last (p.2 * 64).toNat (partB (F p.1).now p.2)⟩ else F
def survs (keep : List Int) : Nat → List Sec → (Int → Fl) → Int → Fl
  | _, [], F => F
  | i, p :: Q, F => survs keep (i + 1) Q (if keepAt keep i then surv F p else F)
def lastF (F : Int → Fl) : Int → Fl := fun n => ⟨(F n).last, (F n).last⟩
def crashS (st : DS) (keep : List Int) : DS := if st.down then st else { st with F := lastF (survs keep 0 st.Q st.F), Q := [], down := true, armed := 0 }
/-- what the files are during a crash -/
structure CrF (st : DS) (F : Int → Fl) : Prop where
  now : ∀ n, (F n).now = (st.F n).now
  last : ∀ n, (F n).last.size ≤ 16777216
  out : ∀ n, ¬ (0 ≤ n ∧ n < 16) → F n = nofile
theorem part_size (s : ByteArray) (n : Int) (h : 0 ≤ n) (h1 : n * 64 < s.size) : (n * 64).toNat + (partB s n).size ≤ s.size := by
  unfold partB
  rw [ByteArray.size_extract]
  omega
theorem CrF.surv {st : DS} (hst : st.Ok) {F : Int → Fl} (h : CrF st F) {p : Sec} (hp : 0 ≤ p.1 ∧ p.1 < 16) (hp2 : 0 ≤ p.2) : CrF st (surv F p) := by
  unfold Go.Proofs.YtfgibalcdjlnhaaGreatDoor.surv
  by_cases hc : p.2 * 64 < (F p.1).now.size
  · rw [if_pos hc]
    refine ⟨fun n => ?_, fun n => ?_, fun n hn => ?_⟩
    · by_cases e : n = p.1
      · rw [e, upd_same]; exact h.now p.1
      · rw [upd_ne _ _ e]; exact h.now n
    · by_cases e : n = p.1
      · rw [e, upd_same, putB_size]
        have h1 := part_size _ _ hp2 hc
        have h2 := hst.now p.1
        rw [← h.now] at h2
        have h3 := h.last p.1
        split <;> omega
      · rw [upd_ne _ _ e]; exact h.last n
    · have e : n ≠ p.1 := fun e => hn (e ▸ hp)
      rw [upd_ne _ _ e]
      exact h.out n hn
  · rw [if_neg hc]
    exact h
theorem DS.Ok.crf {st : DS} (h : st.Ok) : CrF st st.F := ⟨fun _ => rfl, h.last, h.out⟩
theorem CrF.survs {st : DS} (hst : st.Ok) (keep : List Int) : ∀ (Q : List Sec) (i : Nat) (F : Int → Fl), (∀ p ∈ Q, 0 ≤ p.1 ∧ p.1 < 16) → (∀ p ∈ Q, 0 ≤ p.2 ∧ p.2 ≤ 262144) → CrF st F → CrF st (survs keep i Q F)
  | [], _, _, _, _, h => h
  | p :: Q, i, F, h1, h2, h => by
    unfold Go.Proofs.YtfgibalcdjlnhaaGreatDoor.survs
    refine CrF.survs hst keep Q (i + 1) _ (fun q hq => h1 q (by simp [hq])) (fun q hq => h2 q (by simp [hq])) ?_
    split
    · exact h.surv hst (h1 p (by simp)) (h2 p (by simp)).1
    · exact h
theorem DS.Ok.crash {st : DS} (h : st.Ok) (keep : List Int) : (crashS st keep).Ok := by
  unfold crashS
  cases hd : st.down
  · have hc := CrF.survs h keep st.Q 0 st.F h.file h.num h.crf
    refine ⟨fun n => hc.last n, fun n => hc.last n, fun n hn => ?_, List.nodup_nil, by simp, by simp, h.lost0, by simp, h.keepl⟩
    show lastF _ n = nofile
    unfold lastF
    rw [hc.out n hn]
  · exact h
/-- how far the range over the files has come -/
structure CrI (F : Int → Fl) (l : List ME) (seen : List Nat) : Prop where
  of : ∀ q ∈ l, ∃ n, q.2.1 = intV n ∧ q.2.2 = (if q.1 ∈ seen then lastF F n else F n).d ∧ 0 ≤ n ∧ n < 16
  all : ∀ n, (∀ q ∈ l, q.2.1 ≠ intV n) → F n = nofile
theorem CrI.start {F : Int → Fl} {l : List ME} (h : FRep l F) : CrI F l [] := ⟨fun q hq => by
  obtain ⟨n, h1, h2, h3⟩ := h.of q hq
  exact ⟨n, h1, by simpa using h2, h3⟩, h.all⟩
theorem CrI.done {F : Int → Fl} {l : List ME} {seen : List Nat} (h : CrI F l seen) (hall : ∀ q ∈ l, q.1 ∈ seen) : FRep l (lastF F) := ⟨fun q hq => by
  obtain ⟨n, h1, h2, h3⟩ := h.of q hq
  rw [if_pos (hall q hq)] at h2
  exact ⟨n, h1, h2, h3⟩, fun n hn => by
  unfold lastF
  rw [h.all n hn]⟩
theorem CrI.step {F : Int → Fl} {l : List ME} {seen : List Nat} (h : CrI F l seen) {c : Nat} (hm : MapOk 56 c l) {j b : Nat} {n : Int} {d : D} (hj : l[j]? = some (b, intV n, d)) (hn : 0 ≤ n ∧ n < 16) : CrI F (l.set j (b, intV n, (lastF F n).d)) (seen ++ [b]) := by
  have hlt := (List.getElem?_eq_some_iff.1 hj).1
  refine ⟨fun q hq => ?_, fun m hmm => h.all m fun q hq e => ?_⟩
  · rcases set_get hq with rfl | ⟨i, hij, hi⟩
    · exact ⟨n, rfl, by simp, hn⟩
    · obtain ⟨m, h1, h2, h3⟩ := h.of q (List.mem_of_getElem? hi)
      refine ⟨m, h1, ?_, h3⟩
      have hqb : q.1 ≠ b := fun e => hij (nodup_one (f := fun q : ME => q.1) hm.nodup hi hj e)
      rw [h2]
      simp [hqb]
  · obtain ⟨i, hi⟩ := List.mem_iff_getElem?.1 hq
    by_cases hij : i = j
    · subst hij
      rw [hj] at hi
      cases hi
      exact hmm (b, intV n, _) (List.mem_of_getElem? (List.getElem?_set_self hlt)) e
    · exact hmm q (List.mem_of_getElem? (by rw [List.getElem?_set_ne (Ne.symm hij)]; exact hi)) e
theorem unseen_map (l : List ME) (seen : List Nat) : unseen l seen = (l.map fun q => q.1).countP fun b => !decide (b ∈ seen) := by
  unfold unseen
  rw [List.countP_map]
  rfl
theorem unseen_set {l : List ME} {j b : Nat} {k : Value} {d d' : D} (hj : l[j]? = some (b, k, d)) (seen : List Nat) : unseen (l.set j (b, k, d')) seen = unseen l seen := by
  rw [unseen_map, unseen_map, nodup_set (f := fun q : ME => q.1) (r := (b, k, d')) hj rfl]
/-- What a method leaves of a disk; the set's map may be a new one. -/
def OutN (X : Nat) (st : DS) (o : Objs) : Prop := ∃ s k cm cs lm ls, (s = 1003 ∨ s = X) ∧ DkOk lm ls st ∧ o = dsk 1000 1001 1002 s k cm cs lm ls st
theorem keep_cases (keep : List Int) (i : Nat) : (keep.length = 0 ∧ keepAt keep i = false) ∨ (0 < keep.length ∧ ∃ v, (keep.map fun n => [D.int n])[i % keep.length]? = some [D.int v] ∧ ((v % 2 = 0 ∧ keepAt keep i = false) ∨ (¬ v % 2 = 0 ∧ keepAt keep i = true))) := by
  rcases Nat.eq_zero_or_pos keep.length with h | h
  · refine .inl ⟨h, ?_⟩
    have : keep = [] := List.eq_nil_of_length_eq_zero h
    subst this
    rfl
  · refine .inr ⟨h, keep[i % keep.length]'(Nat.mod_lt _ h), by rw [get_map (Nat.mod_lt _ h)], ?_⟩
    have hlt := Nat.mod_lt i h
    have e : keep.getD (i % keep.length) 0 = keep[i % keep.length] := by rw [List.getD_eq_getElem?_getD, List.getElem?_eq_getElem hlt]; rfl
    unfold keepAt
    rw [e]
    rcases Int.emod_two_eq (keep[i % keep.length]) with h1 | h1
    · exact .inl ⟨h1, by rw [h1]; rfl⟩
    · exact .inr ⟨by rw [h1]; decide, by rw [h1]; rfl⟩
section
variable {k cm cs : Nat} {lm ls : List ME} {st : DS}
set_option maxHeartbeats 8000000 in
set_option maxRecDepth 20000 in
theorem crash_down (keep : List Int) (hd : st.down = true) : ObC 20 [.box 1000 0, .d (keepD keep)] (dsk 1000 1001 1002 1003 k cm cs lm ls st) [106] (fun x o => x = .tup [] ∧ o = dsk 1000 1001 1002 1003 k cm cs lm ls st) := by
  refine ob_enter Tryz.func20 rfl (by decide) _ Tryz.ntmps20 (le_ok rfl) rfl (fun w Pr β κ hE => ?_)
  dsimp only [slotsV, Nat.zero_add, Nat.reduceAdd]
  repeat' (first | refine nx ?_ | (apply aq_block_y; decide) | (apply qr_move; refine r_move ?_) | (apply at_cond; first | refine c_t ?_ | refine c_f ?_ | (refine aw_cond rfl (fun hb => ?_) (fun hb => ?_) <;> ((try have hq := dX hb); (try (exfalso; omega))))) | (apply qr_load; refine r_load ?_) | (apply qr_faddr; refine r_faddr ?_) | (apply qr_nilck; refine r_nilck ?_))
  try refine aq_end ?_
  refine oret0 (dsk 1000 1001 1002 1003 k cm cs lm ls st) (by rfl) (⟨rfl, rfl⟩) sb okx
abbrev stC (st : DS) : DS := { st with down := true, armed := 0 }
abbrev crObs (k cm : Nat) (lm : List ME) (st : DS) : Objs := [(1000, dskBox 1001 1002 1003 k (stC st)), (1001, .map 56 cm lm), (1002, .row 76 2 k (st.Q.map secC))]
set_option maxHeartbeats 16000000 in
set_option maxRecDepth 20000 in
theorem crash_up (h : DkOk lm ls st) (keep : List Int) (hkl : keep.length ≤ 1000000) (hd : st.down = false) : ObC 20 [.box 1000 0, .d (keepD keep)] (dsk 1000 1001 1002 1003 k cm cs lm ls st) [106] (fun x o => x = .tup [] ∧ ∃ k' cm' cs' lm' ls', DkOk lm' ls' (crashS st keep) ∧ o = dsk 1000 1001 1002 106 k' cm' cs' lm' ls' (crashS st keep)) := by
  have hok := h.ok.crash keep
  have hcr : crashS st keep = { st with F := lastF (survs keep 0 st.Q st.F), Q := [], down := true, armed := 0 } := by unfold crashS; rw [if_neg (by rw [hd]; decide)]
  rw [hcr] at hok ⊢
  have hlen := h.ok.len
  refine ob_enter Tryz.func20 rfl (by decide) _ Tryz.ntmps20 (le_ok rfl) rfl (fun w Pr β κ hE => ?_)
  dsimp only [slotsV, Nat.zero_add, Nat.reduceAdd]
  refine aw_protect 1002 rfl ?_
  repeat' (first | refine nx ?_ | (apply aq_block_y; decide) | (apply qr_move; refine r_move ?_) | (apply at_cond; first | refine c_t ?_ | refine c_f ?_ | (refine aw_cond rfl (fun hb => ?_) (fun hb => ?_) <;> ((try have hq := dX hb); (try (exfalso; omega))))) | (apply qr_len; refine r_len ?_) | (apply qr_load; refine r_load ?_) | (apply qr_faddr; refine r_faddr ?_) | (apply qr_nilck; refine r_nilck ?_) | (apply qr_store; refine r_store ?_))
  generalize hFF : survs keep 0 st.Q st.F = FF at hok ⊢
  refine aw_lp (fun N sl ob => ∃ (i cm' : Nat) (lm' : List ME) (F : Int → Fl), N = st.Q.length - i ∧ i ≤ st.Q.length ∧ FRep lm' F ∧ CrF st F ∧ survs keep i (st.Q.drop i) F = FF ∧ sl = [(25, .d (.int i)), (24, .d (.int st.Q.length)), (23, .row 1002 k), (0, .box 1000 0), (1, .d (keepD keep))] ∧ ob = crObs k cm' lm' st) (⟨0, cm, lm, st.F, rfl, Nat.zero_le _, h.f, h.ok.crf, by rw [List.drop_zero]; exact hFF, rfl, rfl⟩) ?_
  rintro N sl ob ⟨i, cm', lm', F, rfl, hi, hFr, hCr, hsv, rfl, rfl⟩
  by_cases hlt : i < st.Q.length
  · refine aw_mapok 1001 rfl (fun hmo => ?_)
    have hmem := List.getElem_mem hlt
    rw [List.drop_eq_getElem_cons hlt] at hsv
    generalize hp : st.Q[i] = p at hmem hsv
    have hget : (st.Q.map secC)[i]? = some [D.int p.1, D.int p.2] := by rw [get_map hlt, hp]; rfl
    obtain ⟨p1, p2⟩ := h.ok.file p hmem
    obtain ⟨p3, p4⟩ := h.ok.num p hmem
    unfold survs at hsv
    have hkey := int_key (n := p.1) (by unfold i64; omega)
    obtain ⟨bh, hhit⟩ := hFr.hit p.1
    have hsz := h.ok.now p.1
    rw [← hCr.now] at hsz
    have hlz := hCr.last p.1
    repeat' (first | (apply at_op (.indexAddr _ _ _); refine al_y (y_ix (by first | exact ToD.d _ | exact ToD.row _ _ _ _ _ rfl) rfl rfl (by first | with_reducible rfl | exact lit0 | exact lit1 | exact lit2 | exact lit3 | exact lit4 | exact int_s _ | exact int_p _ _ | exact int_nat _ (by omega)) hget) (lt_ok rfl) ?_) | refine nx ?_ | (apply aq_block_y; decide) | (apply qr_move; refine r_move ?_) | (apply qr_assign; refine r_assign ?_) | (apply at_cond; first | refine c_t ?_ | refine c_f ?_ | (refine aw_cond rfl (fun hb => ?_) (fun hb => ?_) <;> ((try have hq := dX hb); (try (exfalso; omega))))) | (apply qr_lss; refine r_lss ?_) | (apply qr_ix; refine r_ix ?_) | (apply qr_load; refine r_load ?_) | (apply qr_alloc; refine r_alloc ?_) | (apply qr_store; refine r_store ?_))
    refine aw_tree ((.free 0 (.free 1 (.free 2 (.free 3 (.free 4 (.free 5 (.free 7 (.free 8 (.free 9 (.fork (.alt 6 (.only 10 (.only 11 .tail)) (.alt 10 (.only 6 (.only 11 .tail)) .stop))))))))))))) [12] ((5, .box 76 [.d (.int p.1), .d (.int p.2)]) :: crObs k cm' lm' st) ([(39, .d (.int (p.2 * 64))), (6, .box 6 0), (5, .box 5 0), (4, .d (.int i)), (25, .d (.int i)), (24, .d (.int st.Q.length)), (23, .row 1002 k), (0, .box 1000 0), (1, .d (keepD keep))]) ((6, .box 78 [.d (.str (F p.1).now), .d (.str (F p.1).last)]) :: (5, .box 76 [.d (.int p.1), .d (.int p.2)]) :: crObs k cm' lm' st) (by kernel_rfl) (by kernel_rfl) (by kernel_rfl) rfl (by decide) (by (repeat (first | exact obs_nil | (apply obs_cons; focus (first | rfl | (simp [find]; done)))))) (fun hrest => ?_) ?_
    · simp only [tailed, List.filterMap_cons, List.filterMap_nil, List.getElem?_cons_zero, List.getElem?_cons_succ] at hrest
      repeat' (first | apply am_fork | apply am_alt | exact am_stop | refine am_free rfl ?_ | refine am_only rfl ?_ | refine am_leaf hrest (by (repeat (first | exact sub_nil | (apply sub_cons; focus (first | rfl | exact vint (by first | omega) | (simp [look]; done)))))) (by (repeat (first | exact obs_nil | (apply obs_cons; focus (first | rfl | (simp [find]; done)))))) | refine m_skip ?_ | refine n_skip ?_ | (apply at_am (.lookup _ _ _ _); first | refine am_y (by first | exact want_none | exact want_yes rfl rfl (by assumption) | exact want_yes rfl rfl (by with_reducible rfl)) (y_lookup1 fileM rfl rfl rfl hkey hhit) (lt_ok rfl) ?_ | refine am_y' (by first | exact want_none | exact want_yes rfl rfl (by assumption) | exact want_yes rfl rfl (by with_reducible rfl)) (y_lookup1 fileM rfl rfl rfl hkey hhit) (lt_ok rfl) ?_) | (apply qm_move; refine m_move ?_) | (apply qm_mul; refine m_mul ?_) | (apply qm_load; refine m_load ?_) | (apply qm_faddr; refine m_faddr ?_) | (apply qm_nilck; refine m_nilck ?_) | (apply at_am (.alloc _); refine am_alloc (by first | exact want_none | exact want_yes rfl rfl (by assumption) | exact want_yes rfl rfl (by with_reducible rfl)) rfl (by first | (simp only [normV, normList, normMap]; rfl) | rfl) rfl (lt_ok rfl) rfl rfl rfl ?_) | (apply at_am (.store _ _ _); first | refine am_store (by first | exact want_none | exact want_yes rfl rfl (by assumption) | exact want_yes rfl rfl (by with_reducible rfl)) rfl rfl rfl (ev_d rfl) nofun (by first | (simp only [normV, normList, normMap]; rfl) | rfl) (by simp [V.one, Value.oneCell']) (.inl ⟨rfl, rfl⟩) rfl (le_ok rfl) (by first | (simp only [normV, normList, normMap]; rfl) | rfl) ?_ | refine am_store (by first | exact want_none | exact want_yes rfl rfl (by assumption) | exact want_yes rfl rfl (by with_reducible rfl)) rfl rfl rfl (ev_d rfl) nofun (by first | (simp only [normV, normList, normMap]; rfl) | rfl) (by simp [V.one, Value.oneCell']) (.inr rfl) rfl (le_ok rfl) (by first | (simp only [normV, normList, normMap]; rfl) | rfl) ?_) | (refine am_split rfl rfl (fun hb => ?_) (fun hb => ?_) <;> ((try have hq := dX hb); (try (exfalso; omega)))))
    simp only [tailed, List.filterMap_cons, List.filterMap_nil, List.getElem?_cons_zero, List.getElem?_cons_succ]
    have hidx : (i : Int) % (keep.length : Int) = ((i % keep.length : Nat) : Int) := (Int.natCast_emod i keep.length).symm
    rcases keep_cases keep i with ⟨hk0, hka⟩ | ⟨hk0, v, hgv, ⟨hv, hka⟩ | ⟨hv, hka⟩⟩
    · have hq0 : decide ((keep.length : Int) = 0) = true := decide_eq_true (by omega)
      clear hk0
      rw [hka, if_neg (by decide)] at hsv
      repeat' (first | (apply at_op (.indexAddr _ _ _); refine al_y (y_ix (by first | exact ToD.d _ | exact ToD.row _ _ _ _ _ rfl) rfl rfl hidx hgv) (lt_ok rfl) ?_) | (apply at_op (.binOp .and _ _ _ _); refine al_y (y_and rfl rfl (i64_and1 _)) (lt_ok rfl) ?_) | refine nx ?_ | (apply aq_block_y; decide) | (apply qr_move; refine r_move ?_) | (apply qr_assign; refine r_assign ?_) | (apply at_cond; first | refine c_t ?_ | refine c_f ?_ | (refine aw_cond rfl (fun hb => ?_) (fun hb => ?_) <;> ((try have hq := dX hb); (try (exfalso; omega))))) | (apply at_guard; first | refine g_go ?_ | refine g_nt ?_ | refine g_nf ?_ | refine g_nu ?_ | ((first | refine al_split_t rfl rfl (lt_ok rfl) (fun hb => ?_) (fun hb => ?_) | refine al_split_f rfl rfl (lt_ok rfl) (fun hb => ?_) (fun hb => ?_)) <;> ((try have hq := dX hb); (try (exfalso; omega))))) | (apply qr_pick; refine r_pick ?_) | (apply qr_lss; refine r_lss ?_) | (apply qr_geq; refine r_geq ?_) | (apply qr_eql; refine r_eql ?_) | (apply qr_add; refine r_add ?_) | (apply qr_mul; refine r_mul ?_) | (apply qr_rem; refine r_rem ?_) | (apply qr_len; refine r_len ?_) | (apply qr_ix; refine r_ix ?_) | (apply qr_load; refine r_load ?_) | (apply qr_faddr; refine r_faddr ?_) | (apply qr_nilck; refine r_nilck ?_) | (apply qr_alloc; refine r_alloc ?_) | (apply qr_store; refine r_store ?_))
      refine aq_rd (⟨i + 1, cm', lm', F, rfl, by omega, hFr, hCr, hsv, rfl, rfl⟩) (by omega)
    · have hq0 : decide ((keep.length : Int) = 0) = false := decide_eq_false (by omega)
      have hq1 : decide (v % 2 = 0) = true := decide_eq_true hv
      rw [hka, if_neg (by decide)] at hsv
      clear hv
      repeat' (first | (apply at_op (.indexAddr _ _ _); refine al_y (y_ix (by first | exact ToD.d _ | exact ToD.row _ _ _ _ _ rfl) rfl rfl hidx hgv) (lt_ok rfl) ?_) | (apply at_op (.binOp .and _ _ _ _); refine al_y (y_and rfl rfl (i64_and1 _)) (lt_ok rfl) ?_) | refine nx ?_ | (apply aq_block_y; decide) | (apply qr_move; refine r_move ?_) | (apply qr_assign; refine r_assign ?_) | (apply at_cond; first | refine c_t ?_ | refine c_f ?_ | (refine aw_cond rfl (fun hb => ?_) (fun hb => ?_) <;> ((try have hq := dX hb); (try (exfalso; omega))))) | (apply at_guard; first | refine g_go ?_ | refine g_nt ?_ | refine g_nf ?_ | refine g_nu ?_ | ((first | refine al_split_t rfl rfl (lt_ok rfl) (fun hb => ?_) (fun hb => ?_) | refine al_split_f rfl rfl (lt_ok rfl) (fun hb => ?_) (fun hb => ?_)) <;> ((try have hq := dX hb); (try (exfalso; omega))))) | (apply qr_pick; refine r_pick ?_) | (apply qr_lss; refine r_lss ?_) | (apply qr_geq; refine r_geq ?_) | (apply qr_eql; refine r_eql ?_) | (apply qr_add; refine r_add ?_) | (apply qr_mul; refine r_mul ?_) | (apply qr_rem; refine r_rem ?_) | (apply qr_len; refine r_len ?_) | (apply qr_ix; refine r_ix ?_) | (apply qr_load; refine r_load ?_) | (apply qr_faddr; refine r_faddr ?_) | (apply qr_nilck; refine r_nilck ?_) | (apply qr_alloc; refine r_alloc ?_) | (apply qr_store; refine r_store ?_))
      refine aq_rd (⟨i + 1, cm', lm', F, rfl, by omega, hFr, hCr, hsv, rfl, rfl⟩) (by omega)
    · have hq0 : decide ((keep.length : Int) = 0) = false := decide_eq_false (by omega)
      have hq1 : decide (v % 2 = 0) = false := decide_eq_false hv
      rw [hka, if_pos rfl] at hsv
      by_cases hat : p.2 * 64 < (F p.1).now.size
      · have hq2 : decide (((F p.1).now.size : Int) ≤ p.2 * 64) = false := decide_eq_false (by omega)
        have hps := part_size (F p.1).now p.2 p3 hat
        have hput := put_any (F p.1).last (p.2 * 64).toNat (partB (F p.1).now p.2) hlz (by omega)
        rw [show (((p.2 * 64).toNat : Nat) : Int) = p.2 * 64 by omega] at hput
        obtain ⟨cm2, lm2, hpu, hF2⟩ := hFr.put hmo ⟨p1, p2⟩ ⟨(F p.1).now, putB (F p.1).last (p.2 * 64).toNat (partB (F p.1).now p.2)⟩
        have hsF : surv F p = upd F p.1 ⟨(F p.1).now, putB (F p.1).last (p.2 * 64).toNat (partB (F p.1).now p.2)⟩ := if_pos hat
        rw [← hsF] at hF2
        have hC2 := hCr.surv h.ok ⟨p1, p2⟩ p3
        repeat' (first | (apply at_op (.indexAddr _ _ _); refine al_y (y_ix (by first | exact ToD.d _ | exact ToD.row _ _ _ _ _ rfl) rfl rfl hidx hgv) (lt_ok rfl) ?_) | (apply at_op (.binOp .and _ _ _ _); refine al_y (y_and rfl rfl (i64_and1 _)) (lt_ok rfl) ?_) | refine nx ?_ | (apply aq_block_y; decide) | (apply qr_move; refine r_move ?_) | (apply qr_assign; refine r_assign ?_) | (apply at_cond; first | refine c_t ?_ | refine c_f ?_ | (refine aw_cond rfl (fun hb => ?_) (fun hb => ?_) <;> ((try have hq := dX hb); (try (exfalso; omega))))) | (apply at_guard; first | refine g_go ?_ | refine g_nt ?_ | refine g_nf ?_ | refine g_nu ?_ | ((first | refine al_split_t rfl rfl (lt_ok rfl) (fun hb => ?_) (fun hb => ?_) | refine al_split_f rfl rfl (lt_ok rfl) (fun hb => ?_) (fun hb => ?_)) <;> ((try have hq := dX hb); (try (exfalso; omega))))) | (apply qr_pick; refine r_pick ?_) | (apply qr_lss; refine r_lss ?_) | (apply qr_geq; refine r_geq ?_) | (apply qr_eql; refine r_eql ?_) | (apply qr_add; refine r_add ?_) | (apply qr_mul; refine r_mul ?_) | (apply qr_rem; refine r_rem ?_) | (apply qr_len; refine r_len ?_) | (apply qr_ix; refine r_ix ?_) | (apply qr_load; refine r_load ?_) | (apply qr_faddr; refine r_faddr ?_) | (apply qr_nilck; refine r_nilck ?_) | (apply qr_alloc; refine r_alloc ?_) | (apply qr_store; refine r_store ?_))
        refine aw_mix [(0, true), (1, true), (2, true), (3, true), (4, true), (5, true), (6, true), (7, true), (8, true), (9, true), (10, true), (11, true), (12, true), (13, false)] [14, 15] (by kernel_rfl) (by kernel_rfl) (by kernel_rfl) (by decide) ?_
        simp only [planned, tailed, List.filterMap_cons, List.filterMap_nil, List.getElem?_cons_zero, List.getElem?_cons_succ, Option.map_some]
        repeat' (first | apply am_nil | refine m_skip ?_ | refine n_skip ?_ | (apply at_am (.slice _ _ _ _ _); refine am_y (by first | exact want_none | exact want_yes rfl rfl (by assumption) | exact want_yes rfl rfl (by with_reducible rfl)) (y_sub_s (l := (p.2 * 64).toNat) (h := (min (p.2 * 64 + 64) (F p.1).now.size).toNat) rfl (by kernel_rfl) (low_some rfl (by omega)) (high_some rfl (by omega)) (by omega) (by omega)) (lt_ok rfl) ?_) | (apply at_mcall; refine m_call (hput) hE ?_; rintro _ rfl; (try dsimp only [flat, D.plain, D.plainL])) | (apply qm_move; refine m_move ?_) | (apply qm_add; refine m_add ?_) | (apply qm_min; refine m_min ?_) | (apply qm_len; refine m_len ?_) | (apply qm_slice; refine m_slice ?_) | (apply qm_load; refine m_load ?_) | (apply qm_faddr; refine m_faddr ?_) | (refine am_split rfl rfl (fun hb => ?_) (fun hb => ?_) <;> ((try have hq := dX hb); (try (exfalso; omega)))))
        repeat' (first | refine nx ?_ | (apply aq_block_y; decide) | (apply qr_move; refine r_move ?_) | (apply at_cond; first | refine c_t ?_ | refine c_f ?_ | (refine aw_cond rfl (fun hb => ?_) (fun hb => ?_) <;> ((try have hq := dX hb); (try (exfalso; omega))))) | (apply qr_add; refine r_add ?_) | (apply qr_min; refine r_min ?_) | (apply qr_len; refine r_len ?_) | (apply qr_slice; refine r_slice ?_) | (apply qr_load; refine r_load ?_) | (apply qr_faddr; refine r_faddr ?_) | (apply qr_store; refine r_store ?_))
        refine aw_mix [(0, true), (1, true), (2, true), (3, true), (4, true), (5, true), (6, true)] [7] (by kernel_rfl) (by kernel_rfl) (by kernel_rfl) (by decide) ?_
        simp only [planned, tailed, List.filterMap_cons, List.filterMap_nil, List.getElem?_cons_zero, List.getElem?_cons_succ, Option.map_some]
        repeat' (first | apply am_nil | refine m_skip ?_ | refine n_skip ?_ | (apply qm_move; refine m_move ?_) | (apply qm_load; refine m_load ?_) | (apply qm_faddr; refine m_faddr ?_) | (apply qm_nilck; refine m_nilck ?_) | (refine am_split rfl rfl (fun hb => ?_) (fun hb => ?_) <;> ((try have hq := dX hb); (try (exfalso; omega)))))
        repeat' (first | (apply at_op (.mapUpdate _ _ _ _); refine al_step (st_mapup fileM rfl rfl rfl hkey (ToD.d _) hpu) rfl ?_) | refine nx ?_ | (apply aq_block_y; decide) | (apply qr_move; refine r_move ?_) | (apply at_cond; first | refine c_t ?_ | refine c_f ?_ | (refine aw_cond rfl (fun hb => ?_) (fun hb => ?_) <;> ((try have hq := dX hb); (try (exfalso; omega))))) | (apply qr_add; refine r_add ?_) | (apply qr_load; refine r_load ?_) | (apply qr_faddr; refine r_faddr ?_) | (apply qr_nilck; refine r_nilck ?_))
        refine aq_rd (⟨i + 1, cm2, lm2, _, rfl, by omega, hF2, hC2, hsv, rfl, rfl⟩) (by omega)
      · have hq2 : decide (((F p.1).now.size : Int) ≤ p.2 * 64) = true := decide_eq_true (by omega)
        have hsF : surv F p = F := if_neg hat
        rw [hsF] at hsv
        repeat' (first | (apply at_op (.indexAddr _ _ _); refine al_y (y_ix (by first | exact ToD.d _ | exact ToD.row _ _ _ _ _ rfl) rfl rfl hidx hgv) (lt_ok rfl) ?_) | (apply at_op (.binOp .and _ _ _ _); refine al_y (y_and rfl rfl (i64_and1 _)) (lt_ok rfl) ?_) | refine nx ?_ | (apply aq_block_y; decide) | (apply qr_move; refine r_move ?_) | (apply qr_assign; refine r_assign ?_) | (apply at_cond; first | refine c_t ?_ | refine c_f ?_ | (refine aw_cond rfl (fun hb => ?_) (fun hb => ?_) <;> ((try have hq := dX hb); (try (exfalso; omega))))) | (apply at_guard; first | refine g_go ?_ | refine g_nt ?_ | refine g_nf ?_ | refine g_nu ?_ | ((first | refine al_split_t rfl rfl (lt_ok rfl) (fun hb => ?_) (fun hb => ?_) | refine al_split_f rfl rfl (lt_ok rfl) (fun hb => ?_) (fun hb => ?_)) <;> ((try have hq := dX hb); (try (exfalso; omega))))) | (apply qr_pick; refine r_pick ?_) | (apply qr_lss; refine r_lss ?_) | (apply qr_geq; refine r_geq ?_) | (apply qr_eql; refine r_eql ?_) | (apply qr_add; refine r_add ?_) | (apply qr_mul; refine r_mul ?_) | (apply qr_rem; refine r_rem ?_) | (apply qr_len; refine r_len ?_) | (apply qr_ix; refine r_ix ?_) | (apply qr_load; refine r_load ?_) | (apply qr_faddr; refine r_faddr ?_) | (apply qr_nilck; refine r_nilck ?_) | (apply qr_alloc; refine r_alloc ?_) | (apply qr_store; refine r_store ?_))
        refine aq_rd (⟨i + 1, cm', lm', F, rfl, by omega, hFr, hCr, hsv, rfl, rfl⟩) (by omega)
  · have hFe : F = FF := by
      rw [List.drop_of_length_le (by omega)] at hsv
      exact hsv
    subst hFe
    refine aw_mapok 1001 rfl (fun hmo => ?_)
    repeat' (first | (apply at_op (.range _ _); refine al_step (st_range fileM rfl rfl (lt_ok rfl) rfl (by decide)) rfl ?_) | refine nx ?_ | (apply aq_block_y; decide) | (apply qr_move; refine r_move ?_) | (apply at_cond; first | refine c_t ?_ | refine c_f ?_ | (refine aw_cond rfl (fun hb => ?_) (fun hb => ?_) <;> ((try have hq := dX hb); (try (exfalso; omega))))) | (apply qr_lss; refine r_lss ?_) | (apply qr_load; refine r_load ?_) | (apply qr_faddr; refine r_faddr ?_) | (apply qr_nilck; refine r_nilck ?_))
    clear hFF hsv hi hlt
    refine aw_lp (fun N sl ob => ∃ (l : List ME) (seen : List Nat), N = unseen l seen ∧ (l.map fun q : ME => q.1) = (lm'.map fun q : ME => q.1) ∧ CrI F l seen ∧ sl = [(88, .box 88 0), (0, .box 1000 0)] ∧ ob = (88, .iter (.mp 1001) cm' seen cm') :: crObs k cm' l st) (⟨lm', [], rfl, rfl, CrI.start hFr, rfl, rfl⟩) ?_
    rintro N sl ob ⟨l, seen, rfl, hbs, hI, rfl, rfl⟩
    refine aw_mapok 1001 rfl (fun hm => ?_)
    repeat' (first | refine nx ?_ | (apply aq_block_y; decide) | (apply qr_assign; refine r_assign ?_) | (apply at_cond; first | refine c_t ?_ | refine c_f ?_ | (refine aw_cond rfl (fun hb => ?_) (fun hb => ?_) <;> ((try have hq := dX hb); (try (exfalso; omega))))) | (apply qr_extract; refine r_extract ?_) | (apply qr_alloc; refine r_alloc ?_) | (apply qr_store; refine r_store ?_))
    refine al_next rfl rfl rfl (fun q hq => hm.lt q hq) (Nat.le_refl _) (lt_ok rfl) (fun hall => ?_) (fun q hq hns => ?_)
    · have hdone := hI.done hall
      repeat' (first | (apply at_op (.makeMap _ _); refine al_step (st_makemap (lt_ok rfl) rfl) rfl ?_) | (apply at_op (.store _ _ _); refine al_step (st_store (n := [.mp 106]) rfl rfl (ev_mp rfl) nofun rfl (by intro z hz; simp at hz; subst hz; rfl) (.inl ⟨rfl, rfl⟩) rfl (le_ok rfl) (by first | (simp only [normV, normList, normMap]; rfl) | rfl)) rfl ?_) | refine nx ?_ | (apply aq_block_y; decide) | (apply qr_move; refine r_move ?_) | (apply qr_assign; refine r_assign ?_) | (apply at_cond; first | refine c_t ?_ | refine c_f ?_ | (refine aw_cond rfl (fun hb => ?_) (fun hb => ?_) <;> ((try have hq := dX hb); (try (exfalso; omega))))) | (apply qr_extract; refine r_extract ?_) | (apply qr_load; refine r_load ?_) | (apply qr_faddr; refine r_faddr ?_) | (apply qr_nilck; refine r_nilck ?_) | (apply qr_alloc; refine r_alloc ?_) | (apply qr_store; refine r_store ?_) | (apply qr_build; refine r_build ?_))
      refine aq_reset 1000 1 1002 rfl rfl rfl rfl ?_
      try refine aq_end ?_
      refine oret0 (dsk 1000 1001 1002 106 (k + 1) cm' 0 l [] { st with F := lastF F, Q := [], down := true, armed := 0 }) (by rfl) (⟨rfl, k + 1, cm', 0, l, [], ⟨hdone, ⟨by simp, by simp⟩, hok⟩, rfl⟩) sb okx
    · obtain ⟨n, hn1, hn2, hn3⟩ := hI.of q hq
      obtain ⟨b, kk, d⟩ := q
      have hn1 : kk = intV n := hn1
      subst hn1
      rw [if_neg hns] at hn2
      have hn2 : d = (F n).d := hn2
      subst hn2
      obtain ⟨j, hj⟩ := List.mem_iff_getElem?.1 hq
      have hkey := int_key (n := n) (by unfold i64; omega)
      have hpu : Put cm' l (intV n) (lastF F n).d cm' (l.set j (b, intV n, (lastF F n).d)) := .old j b _ hj
      have hlt2 := unseen_lt hq hns
      have hst := hI.step hm hj hn3
      have hb2 : ((l.set j (b, intV n, (lastF F n).d)).map fun q : ME => q.1) = (lm'.map fun q : ME => q.1) := by rw [nodup_set (f := fun q : ME => q.1) (r := (b, intV n, (lastF F n).d)) hj rfl]; exact hbs
      repeat' (first | (apply at_op (.entry _); refine al_y (y_entry (c0 := 0) rfl rfl rfl hj) (lt_ok rfl) ?_) | refine nx ?_ | (apply aq_block_y; decide) | (apply qr_move; refine r_move ?_) | (apply qr_assign; refine r_assign ?_) | (apply at_cond; first | refine c_t ?_ | refine c_f ?_ | (refine aw_cond rfl (fun hb => ?_) (fun hb => ?_) <;> ((try have hq := dX hb); (try (exfalso; omega))))) | (apply qr_extract; refine r_extract ?_) | (apply qr_load; refine r_load ?_) | (apply qr_faddr; refine r_faddr ?_) | (apply qr_nilck; refine r_nilck ?_) | (apply qr_alloc; refine r_alloc ?_) | (apply qr_store; refine r_store ?_) | (apply qr_build; refine r_build ?_))
      refine aw_mix [(0, true), (1, true), (2, true), (3, true), (4, true), (5, true), (6, true), (7, true), (8, true), (9, true)] [10] (by kernel_rfl) (by kernel_rfl) (by kernel_rfl) (by decide) ?_
      simp only [planned, tailed, List.filterMap_cons, List.filterMap_nil, List.getElem?_cons_zero, List.getElem?_cons_succ, Option.map_some]
      repeat' (first | apply am_nil | refine m_skip ?_ | refine n_skip ?_ | (apply qm_move; refine m_move ?_) | (apply qm_load; refine m_load ?_) | (apply qm_faddr; refine m_faddr ?_) | (apply qm_nilck; refine m_nilck ?_) | (apply qm_build; refine m_build ?_) | (refine am_split rfl rfl (fun hb => ?_) (fun hb => ?_) <;> ((try have hq := dX hb); (try (exfalso; omega)))))
      repeat' (first | (apply at_op (.mapUpdate _ _ _ _); refine al_step (st_mapup fileM rfl rfl rfl hkey (ToD.d _) hpu) rfl ?_) | refine nx ?_ | (apply aq_block_y; decide) | (apply qr_move; refine r_move ?_) | (apply at_cond; first | refine c_t ?_ | refine c_f ?_ | (refine aw_cond rfl (fun hb => ?_) (fun hb => ?_) <;> ((try have hq := dX hb); (try (exfalso; omega))))) | (apply qr_load; refine r_load ?_) | (apply qr_faddr; refine r_faddr ?_) | (apply qr_nilck; refine r_nilck ?_) | (apply qr_build; refine r_build ?_))
      refine aq_rd (⟨_, seen ++ [b], rfl, hb2, hst, rfl, rfl⟩) ((by rw [unseen_set hj]; exact hlt2))
end
end Go.Proofs.YtfgibalcdjlnhaaGreatDoor
