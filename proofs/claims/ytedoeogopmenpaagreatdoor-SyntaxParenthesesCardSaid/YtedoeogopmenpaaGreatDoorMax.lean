/-
  Conditions: none.
-/
import Derived.Test.YtedoeogopmenpaaGreatDoorMaw
set_option maxHeartbeats 16000000
set_option maxRecDepth 20000
section
set_option linter.unusedSimpArgs false
set_option linter.unusedVariables false
namespace Go.Proofs.YtedoeogopmenpaaGreatDoor
open Go.RowKit
abbrev intB (n : Int) : O := .box 3 [.d (.int n)]
abbrev errB (n : Int) : O := .box 29 [.d (.int n)]
theorem anyT : ∃ ms, Tryz.prog.underlying 20 = some (.interface ms) := ⟨_, Tryz.underlying20⟩
theorem caught_yes (p c a b : Int) : ObC 37 [.d (.val (stopV p c)), .box 1003 0, .box 1004 0] [(1003, intB a), (1004, errB b)] [] (fun x o => x = .d (.bool true) ∧ o = [(1003, intB p), (1004, errB c)]) := by
 refine ob_enter Tryz.func37 rfl (by decide) _ Tryz.ntmps37 (le_ok rfl) rfl (fun w Pr β κ hE => ?_)
 dsimp only [slotsV, Nat.zero_add, Nat.reduceAdd]
 repeat' (first | (apply at_op (.typeAssert _ _ _ _); refine al_y (y_assert rfl Tryz.underlying103 rfl) (lt_ok rfl) ?_) | (apply at_op (.binOp .neq _ _ _ _); refine al_y (y_ifneq rfl anyT) (lt_ok rfl) ?_) | refine nx ?_ | (apply qr_move; refine r_move ?_) | (apply qr_assign; refine r_assign ?_) | (apply at_cond; first | refine c_t ?_ | refine c_f ?_ | (refine aw_cond rfl (fun hb => ?_) (fun hb => ?_) <;> ((try have hq := dX hb); (try (exfalso; omega))))) | (apply at_guard; first | refine g_go ?_ | refine g_nt ?_ | refine g_nf ?_ | refine g_nu ?_ | ((first | refine al_split_t rfl rfl (lt_ok rfl) (fun hb => ?_) (fun hb => ?_) | refine al_split_f rfl rfl (lt_ok rfl) (fun hb => ?_) (fun hb => ?_)) <;> ((try have hq := dX hb); (try (exfalso; omega))))) | (apply qr_pick; refine r_pick ?_) | (apply qr_neq; refine r_neq ?_) | (apply qr_not; refine r_not ?_) | (apply qr_extract; refine r_extract ?_) | (apply qr_alloc; refine r_alloc ?_) | (apply qr_store; refine r_store ?_))
 refine aw_mixo ([(7, .box 103 [.d (.int p), .d (.int c)])]) [(0, true), (1, true), (2, true), (3, true), (4, true), (5, true), (6, true), (7, false)] [8, 9] (by kernel_rfl) (by kernel_rfl) (by kernel_rfl) (by decide) (by (repeat (first | exact obs_nil | (apply obs_cons; focus (first | rfl | (simp [find]; done)))))) ?_
 simp only [planned, tailed, List.filterMap_cons, List.filterMap_nil, List.getElem?_cons_zero, List.getElem?_cons_succ, Option.map_some]
 repeat' (first | apply am_nil | refine m_skip ?_ | refine n_skip ?_ | (apply at_am (.store _ _ _); refine am_store (by first | exact want_none | exact want_yes rfl rfl (by assumption) | exact want_yes rfl rfl (by with_reducible rfl)) rfl rfl rfl (ev_d rfl) nofun (by first | (simp only [normV, normList, normMap]; rfl) | rfl) (by simp [V.one, Value.oneCell']) (.inl ⟨rfl, rfl⟩) rfl (le_ok rfl) (by first | (simp only [normV, normList, normMap]; rfl) | rfl) ?_) | (apply qm_move; refine m_move ?_) | (apply qm_load; refine m_load ?_) | (apply qm_faddr; refine m_faddr ?_) | (apply qm_nilck; refine m_nilck ?_) | (refine am_split rfl rfl (fun hb => ?_) (fun hb => ?_) <;> ((try have hq := dX hb); (try (exfalso; omega)))))
 repeat' (first | refine nx ?_ | (apply qr_move; refine r_move ?_) | (apply qr_assign; refine r_assign ?_) | (apply at_cond; first | refine c_t ?_ | refine c_f ?_ | (refine aw_cond rfl (fun hb => ?_) (fun hb => ?_) <;> ((try have hq := dX hb); (try (exfalso; omega))))) | (apply at_guard; first | refine g_go ?_ | refine g_nt ?_ | refine g_nf ?_ | refine g_nu ?_ | ((first | refine al_split_t rfl rfl (lt_ok rfl) (fun hb => ?_) (fun hb => ?_) | refine al_split_f rfl rfl (lt_ok rfl) (fun hb => ?_) (fun hb => ?_)) <;> ((try have hq := dX hb); (try (exfalso; omega))))) | (apply qr_pick; refine r_pick ?_) | (apply qr_neq; refine r_neq ?_) | (apply qr_not; refine r_not ?_) | (apply qr_extract; refine r_extract ?_) | (apply qr_load; refine r_load ?_) | (apply qr_faddr; refine r_faddr ?_) | (apply qr_nilck; refine r_nilck ?_) | (apply qr_alloc; refine r_alloc ?_) | (apply qr_store; refine r_store ?_))
 refine oret1 ([(1003, intB p), (1004, errB c)]) (by rfl) rv (⟨rfl, rfl⟩) sb okx
theorem stop_zero : ∀ w, (zeroValue 103).run Tryz.prog w = .ok (.agg #[.int .i64 0, .int .i64 0]) w := fun w => Tryz.zeroValue103 w
theorem caught_no (a b : Int) : ObC 37 [.d (.val .nilIface), .box 1003 0, .box 1004 0] [(1003, intB a), (1004, errB b)] [] (fun x o => x = .d (.bool false) ∧ o = [(1003, intB a), (1004, errB b)]) := by
 refine ob_enter Tryz.func37 rfl (by decide) _ Tryz.ntmps37 (le_ok rfl) rfl (fun w Pr β κ hE => ?_)
 dsimp only [slotsV, Nat.zero_add, Nat.reduceAdd]
 repeat' (first | (apply at_op (.typeAssert _ _ _ _); refine al_y (y_assertnil rfl Tryz.underlying103 rfl stop_zero) (lt_ok rfl) ?_) | (apply at_op (.binOp .neq _ _ _ _); refine al_y (y_ifnil rfl anyT) (lt_ok rfl) ?_) | refine nx ?_ | (apply qr_move; refine r_move ?_) | (apply qr_assign; refine r_assign ?_) | (apply at_cond; first | refine c_t ?_ | refine c_f ?_ | (refine aw_cond rfl (fun hb => ?_) (fun hb => ?_) <;> ((try have hq := dX hb); (try (exfalso; omega))))) | (apply at_guard; first | refine g_go ?_ | refine g_nt ?_ | refine g_nf ?_ | refine g_nu ?_ | ((first | refine al_split_t rfl rfl (lt_ok rfl) (fun hb => ?_) (fun hb => ?_) | refine al_split_f rfl rfl (lt_ok rfl) (fun hb => ?_) (fun hb => ?_)) <;> ((try have hq := dX hb); (try (exfalso; omega))))) | (apply qr_pick; refine r_pick ?_) | (apply qr_neq; refine r_neq ?_) | (apply qr_not; refine r_not ?_) | (apply qr_extract; refine r_extract ?_) | (apply qr_alloc; refine r_alloc ?_) | (apply qr_store; refine r_store ?_))
 refine oret1 ([(1003, intB a), (1004, errB b)]) (by rfl) rv (⟨rfl, rfl⟩) sb okx
theorem open_any (s : ByteArray) (hs : s.size ≤ 1000000) : ObC 35 [.d (.str s)] [] [16] (fun x o => x = .tup [.box 16 0, .d (.int (lexV s).2.1), .d (.int (lexV s).2.2)] ∧ o = [(16, psB (lexV s).1 0)]) := by
 have hlex := lex_any s hs
 generalize lexV s = r at hlex ⊢
 obtain ⟨L, p, e⟩ := r
 unfold lexD at hlex
 dsimp only at hlex ⊢
 refine ob_enter Tryz.func35 rfl (by decide) _ Tryz.ntmps35 (le_ok rfl) rfl (fun w Pr β κ hE => ?_)
 dsimp only [slotsV, Nat.zero_add, Nat.reduceAdd]
 repeat' (first | (apply at_call; refine k_call (hlex) hE ?_; rintro _ rfl) | refine nx ?_ | (apply qr_move; refine r_move ?_) | (apply qr_assign; refine r_assign ?_) | (apply qr_extract; refine r_extract ?_) | (apply qr_boxed; refine r_boxed ?_) | (apply qr_build; refine r_build ?_))
 refine oret3 ([(16, psB L 0)]) (by rfl) rv rv rv (⟨rfl, rfl⟩) sb okx
theorem exec_recover {a : Act} {t : Nat} {T : TypeId} {p : String} {af : Array Edge} {w : World} : (execOp a.eval ⟨some t, .call { callee := .builtin .recover, args := #[], argTypes := #[] }, T, p, af, none⟩).run Tryz.prog w = .ok .recover w := by
 simp [execOp, resolve, invoke, builtin]
theorem ops_recover {t : Nat} {T : TypeId} {p : String} {af : Array Edge} {o1 : Oper} (hg : o1.guard = none) {Q : Exit → Act → List Frame → World → Prop} {a : Act} {c₀ : Frame} {cs cs' : List Frame} {w : World} {v : Value} (hr : (recoverD (c₀ :: cs) = some (v, cs')) ∨ (recoverD (c₀ :: cs) = none ∧ v = .nilIface ∧ cs' = c₀ :: cs))
  (h : o1.wp Tryz.prog (a.put (some t) v) w (fun a' w' => Q .normal a' cs' w') (fun e a' w' => Q e a' cs' w')) : wpOpsS Tryz.prog #[⟨some t, .call { callee := .builtin .recover, args := #[], argTypes := #[] }, T, p, af, none⟩, o1] Q (List.range 2) a (c₀ :: cs) w := by
 have hw1 : ∀ ys, Region.wanted o1 ys = true := fun ys => by simp [Region.wanted, hg]
 have h2 : wpOpsS Tryz.prog #[⟨some t, .call { callee := .builtin .recover, args := #[], argTypes := #[] }, T, p, af, none⟩, o1] Q [1] (a.put (some t) v) cs' w := by
  unfold wpOpsS
  simp only [show (#[⟨some t, .call { callee := .builtin .recover, args := #[], argTypes := #[] }, T, p, af, none⟩, o1] : Array Oper)[1]? = some o1 from rfl, hw1, if_true]
  unfold Oper.wp at h
  generalize (execOp (a.put (some t) v).eval o1).run Tryz.prog w = r at h
  split
  ·exact (h : False).elim
  ·exact h
 show wpOpsS _ _ _ [0, 1] _ _ _
 unfold wpOpsS
 simp only [show (#[⟨some t, .call { callee := .builtin .recover, args := #[], argTypes := #[] }, T, p, af, none⟩, o1] : Array Oper)[0]? = some ⟨some t, .call { callee := .builtin .recover, args := #[], argTypes := #[] }, T, p, af, none⟩ from rfl, exec_recover]
 rw [if_pos (by rfl)]
 rcases hr with hr | ⟨hr, rfl, rfl⟩
 ·rw [hr]
  exact h2
 ·rw [hr]
  exact h2
def modeP (p c : Int) (b : Bool) : FrameMode := .panicking [{ v := stopV p c, recovered := b }]
theorem settle_caught (p c : Int) : settle (modeP p c true) = .returning := rfl
abbrev byZ : O := zeroBy
theorem put_all {xs zs : List V} {n : List V} (h : n = zs) (hl : xs.length = zs.length) : put xs 0 n = zs := by
 subst h
 simp only [put, List.take_zero, List.nil_append, Nat.zero_add]
 rw [List.drop_of_length_le (by omega), List.append_nil]
theorem parse1_yes (p c a b : Int) (xs : List V) (hxs : xs.length = ((.d (.str ⟨#[]⟩) :: .d (.val (.slice none 0 0)) :: (fillV [] ++ [.d (.int 0), .d (.int 0), .d (.int 0)]))).length) : ObD 36 [.box 1003 0, .box 1004 0, .box 1002 0] [(1003, intB a), (1004, errB b), (1002, .box 28 xs)] (modeP p c false) (modeP p c true) (fun o => o = [(1003, intB p), (1004, errB c), (1002, .box 28 ((.d (.str ⟨#[]⟩) :: .d (.val (.slice none 0 0)) :: (fillV [] ++ [.d (.int 0), .d (.int 0), .d (.int 0)]))))]) := by
 refine ⟨⟨_, Tryz.func36, by decide, rfl⟩, fun w Pr vs β κ h1 h2 h3 h4 h5 h6 => ?_⟩
 refine callsD_of_wpS Tryz.func36 rfl fun c₀ cs hu => ?_
 have hG := Good.start (N := 6) (args := [.box 1003 0, .box 1004 0, .box 1002 0]) (by decide) rfl h1 h3 h4 h5 h6
 have hE : Fine ⟨w, Pr, 6, [(1003, intB a), (1004, errB b), (1002, .box 28 xs)], β, κ, []⟩ := ⟨h2, h1⟩
 rw [Tryz.ntmps36]
 have hrec : recoverD (c₀ :: cs) = some (stopV p c, { c₀ with mode := modeP p c true } :: cs) := by
  simp only [recoverD, hu]
  rfl
 refine wpS_seq (wpS_region (ops_recover rfl (.inl hrec) ?_))
 have hG2 := hG.put (d := 3) (lt_ok rfl) (v := stopV p c) (x := .d (.val (stopV p c))) (.d _ _ (.val _))
 refine st_ocall [(1003, 1003), (1004, 1004)] (caught_yes p c a b) rfl hE (lt_ok rfl) (.cons (.same _ _ rfl) (.cons (.same _ _ rfl) (.cons (.same _ _ rfl) .nil))) ⟨obs_cons rfl (obs_cons rfl obs_nil), rfl, rfl, rfl, rfl⟩ _ _ ⟨_, _, _, hG2⟩ _ _ (fun a' w' hI => ?_)
 refine wpS_of_wp (AW.run ?_ _ _ hI)
 refine aw_cond_t rfl rfl ?_
 repeat' (first | (apply at_op (.store _ _ _); refine al_step (st_store rfl rfl (ev_d rfl) nofun rfl (by simp [V.one, Value.oneCell', fillV, cellsV, cellsD]) (.inr rfl) rfl (by rw [hxs]; exact le_ok rfl) (put_all rfl hxs)) rfl ?_) | refine nx ?_ | (apply at_cond; first | refine c_t ?_ | refine c_f ?_ | (refine aw_cond rfl (fun hb => ?_) (fun hb => ?_) <;> ((try have hq := dX hb); (try (exfalso; omega))))) | (apply qr_store; refine r_store ?_) | (apply qr_build; refine r_build ?_))
 refine aq_ends (.inr rfl) [(1003, intB p), (1004, errB c), (1002, .box 28 ((.d (.str ⟨#[]⟩) :: .d (.val (.slice none 0 0)) :: (fillV [] ++ [.d (.int 0), .d (.int 0), .d (.int 0)]))))] rfl rfl (by (repeat (first | exact obs_nil | (apply obs_cons; focus (first | rfl | (simp [find]; done)))))) (by rfl)
theorem parse1_no (a b : Int) (X : O) (hX : X.within [1003, 1004, 1002] = true) : ObD 36 [.box 1003 0, .box 1004 0, .box 1002 0] [(1003, intB a), (1004, errB b), (1002, X)] .returning .returning (fun o => o = [(1003, intB a), (1004, errB b), (1002, X)]) := by
 refine ⟨⟨_, Tryz.func36, by decide, rfl⟩, fun w Pr vs β κ h1 h2 h3 h4 h5 h6 => ?_⟩
 refine callsD_of_wpS Tryz.func36 rfl fun c₀ cs hu => ?_
 have hG := Good.start (N := 6) (args := [.box 1003 0, .box 1004 0, .box 1002 0]) (by decide) rfl h1 h3 h4 h5 h6
 have hE : Fine ⟨w, Pr, 6, [(1003, intB a), (1004, errB b), (1002, X)], β, κ, []⟩ := ⟨h2, h1⟩
 rw [Tryz.ntmps36]
 have hc0 : c₀ = { c₀ with mode := .returning } := by cases c₀; simp_all
 have hrec : recoverD (c₀ :: cs) = none := by
  simp only [recoverD, hu]
 refine wpS_seq (wpS_region (ops_recover rfl (.inr ⟨hrec, rfl, rfl⟩) ?_))
 have hG2 := hG.put (d := 3) (lt_ok rfl) (v := .nilIface) (x := .d (.val .nilIface)) (.d _ _ (.val _))
 refine st_ocall [(1003, 1003), (1004, 1004)] (caught_no a b) rfl hE (lt_ok rfl) (.cons (.same _ _ rfl) (.cons (.same _ _ rfl) (.cons (.same _ _ rfl) .nil))) ⟨obs_cons rfl (obs_cons rfl obs_nil), rfl, rfl, rfl, rfl⟩ _ _ ⟨_, _, _, hG2⟩ _ _ (fun a' w' hI => ?_)
 refine wpS_of_wp (AW.run ?_ _ _ hI)
 rw [show (c₀ :: cs : List Frame) = { c₀ with mode := .returning } :: cs by rw [← hc0]]
 refine aw_cond_f rfl rfl (aw_skip ?_)
 refine aq_ends (.inr rfl) [(1003, intB a), (1004, errB b), (1002, X)] rfl rfl (by (repeat (first | exact obs_nil | (apply obs_cons; focus (first | rfl | (simp [find]; done)))))) (by simp [okOut, V.within, V.withinL, keys, mem, nbeq_def, O.within]; exact hX)
theorem parseE1_yes (p c a b : Int) (xs : List V) (hxs : xs.length = (expZ).length) : ObD 41 [.box 1003 0, .box 1004 0, .box 1002 0] [(1003, intB a), (1004, errB b), (1002, .box 26 xs)] (modeP p c false) (modeP p c true) (fun o => o = [(1003, intB p), (1004, errB c), (1002, .box 26 (expZ))]) := by
 refine ⟨⟨_, Tryz.func41, by decide, rfl⟩, fun w Pr vs β κ h1 h2 h3 h4 h5 h6 => ?_⟩
 refine callsD_of_wpS Tryz.func41 rfl fun c₀ cs hu => ?_
 have hG := Good.start (N := 6) (args := [.box 1003 0, .box 1004 0, .box 1002 0]) (by decide) rfl h1 h3 h4 h5 h6
 have hE : Fine ⟨w, Pr, 6, [(1003, intB a), (1004, errB b), (1002, .box 26 xs)], β, κ, []⟩ := ⟨h2, h1⟩
 rw [Tryz.ntmps41]
 have hrec : recoverD (c₀ :: cs) = some (stopV p c, { c₀ with mode := modeP p c true } :: cs) := by
  simp only [recoverD, hu]
  rfl
 refine wpS_seq (wpS_region (ops_recover rfl (.inl hrec) ?_))
 have hG2 := hG.put (d := 3) (lt_ok rfl) (v := stopV p c) (x := .d (.val (stopV p c))) (.d _ _ (.val _))
 refine st_ocall [(1003, 1003), (1004, 1004)] (caught_yes p c a b) rfl hE (lt_ok rfl) (.cons (.same _ _ rfl) (.cons (.same _ _ rfl) (.cons (.same _ _ rfl) .nil))) ⟨obs_cons rfl (obs_cons rfl obs_nil), rfl, rfl, rfl, rfl⟩ _ _ ⟨_, _, _, hG2⟩ _ _ (fun a' w' hI => ?_)
 refine wpS_of_wp (AW.run ?_ _ _ hI)
 refine aw_cond_t rfl rfl ?_
 repeat' (first | (apply at_op (.store _ _ _); refine al_step (st_store rfl rfl (ev_d rfl) nofun rfl (by simp [V.one, Value.oneCell', fillV, cellsV, cellsD]) (.inr rfl) rfl (by rw [hxs]; exact le_ok rfl) (put_all rfl hxs)) rfl ?_) | refine nx ?_ | (apply at_cond; first | refine c_t ?_ | refine c_f ?_ | (refine aw_cond rfl (fun hb => ?_) (fun hb => ?_) <;> ((try have hq := dX hb); (try (exfalso; omega))))) | (apply qr_store; refine r_store ?_) | (apply qr_build; refine r_build ?_))
 refine aq_ends (.inr rfl) [(1003, intB p), (1004, errB c), (1002, .box 26 (expZ))] rfl rfl (by (repeat (first | exact obs_nil | (apply obs_cons; focus (first | rfl | (simp [find]; done)))))) (by rfl)
theorem parseE1_no (a b : Int) (X : O) (hX : X.within [1003, 1004, 1002] = true) : ObD 41 [.box 1003 0, .box 1004 0, .box 1002 0] [(1003, intB a), (1004, errB b), (1002, X)] .returning .returning (fun o => o = [(1003, intB a), (1004, errB b), (1002, X)]) := by
 refine ⟨⟨_, Tryz.func41, by decide, rfl⟩, fun w Pr vs β κ h1 h2 h3 h4 h5 h6 => ?_⟩
 refine callsD_of_wpS Tryz.func41 rfl fun c₀ cs hu => ?_
 have hG := Good.start (N := 6) (args := [.box 1003 0, .box 1004 0, .box 1002 0]) (by decide) rfl h1 h3 h4 h5 h6
 have hE : Fine ⟨w, Pr, 6, [(1003, intB a), (1004, errB b), (1002, X)], β, κ, []⟩ := ⟨h2, h1⟩
 rw [Tryz.ntmps41]
 have hc0 : c₀ = { c₀ with mode := .returning } := by cases c₀; simp_all
 have hrec : recoverD (c₀ :: cs) = none := by
  simp only [recoverD, hu]
 refine wpS_seq (wpS_region (ops_recover rfl (.inr ⟨hrec, rfl, rfl⟩) ?_))
 have hG2 := hG.put (d := 3) (lt_ok rfl) (v := .nilIface) (x := .d (.val .nilIface)) (.d _ _ (.val _))
 refine st_ocall [(1003, 1003), (1004, 1004)] (caught_no a b) rfl hE (lt_ok rfl) (.cons (.same _ _ rfl) (.cons (.same _ _ rfl) (.cons (.same _ _ rfl) .nil))) ⟨obs_cons rfl (obs_cons rfl obs_nil), rfl, rfl, rfl, rfl⟩ _ _ ⟨_, _, _, hG2⟩ _ _ (fun a' w' hI => ?_)
 refine wpS_of_wp (AW.run ?_ _ _ hI)
 rw [show (c₀ :: cs : List Frame) = { c₀ with mode := .returning } :: cs by rw [← hc0]]
 refine aw_cond_f rfl rfl (aw_skip ?_)
 refine aq_ends (.inr rfl) [(1003, intB a), (1004, errB b), (1002, X)] rfl rfl (by (repeat (first | exact obs_nil | (apply obs_cons; focus (first | rfl | (simp [find]; done)))))) (by simp [okOut, V.within, V.withinL, keys, mem, nbeq_def, O.within]; exact hX)
end Go.Proofs.YtedoeogopmenpaaGreatDoor
end
section
set_option linter.unusedSimpArgs false
set_option linter.unusedVariables false
namespace Go.Proofs.YtedoeogopmenpaaGreatDoor
open Go.RowKit
theorem aq_then_p {E : Entry} {sl : Slots} {ob : Objs} {Q : Exit → Act → World → Prop} {K : Act → World → Prop} {c : List PanicEntry} (h : AQ E (.panic c) Q sl ob) : AQ E (.panic c) (Exit.then K Q) sl ob := ⟨h.run⟩
theorem aq_block_p {E : Entry} {sl : Slots} {ob : Objs} {Q : Exit → Act → World → Prop} {id : Nat} {c : List PanicEntry} (h : AQ E (.panic c) Q sl ob) : AQ E (.panic c) (Exit.inBlock id Q) sl ob := ⟨h.run⟩
def parseD (r : By × Int × Int) : D := .tup [.agg (byC r.1), .int r.2.1, .int r.2.2]
theorem parse_any (s : ByteArray) (hs : s.size ≤ 1000000) : PureC 9 [.str s] (· = parseD (parseV s)) := by
 have hopen := open_any s hs
 rcases hL : lexV s with ⟨L, p, e⟩
 have hV : parseV s = if e = 0 then (match bylawsP L with
  | .ok x _ => (x, 0, 0)
  | .bad q c => (By.zero, q, c)) else (By.zero, p, e) := by
  unfold parseV
  rw [hL]
  try rfl
 rw [hL] at hopen
 dsimp only at hopen
 by_cases he : e = 0
 ·subst he
  rw [if_pos rfl] at hV
  obtain ⟨h1, h2, h3, h4, h5, h6, h7⟩ := lex_ready hL
  have r0 := h4.rdy h5
  have at0 : ((atN L L : Nat) : Int) = 0 := by simp [atN]
  have hby := pbylaws r0 h6
  unfold psr at hby
  rw [at0] at hby
  have q0 : (!decide ((0 : Int) = 0)) = false := rfl
  refine pure_enterD Tryz.func9 rfl (by decide) _ Tryz.ntmps9 (le_ok rfl) (fun w Pr hE => ?_)
  dsimp only [slotsOf, Nat.zero_add, Nat.reduceAdd]
  repeat' (first | (apply at_call; refine k_ocall [(16, 18)] (hopen) hE ?_; rintro _ _ ⟨rfl, rfl⟩ <;> (intro _ _ h1 h2; simp only [renEqs, Nat.reduceBEq, renL_app, renL_ds, renL_und] at h1 h2; subst h1 h2)) | (apply at_op (.makeFunc _ _ _); refine al_y (y_clo rfl) (lt_ok rfl) ?_) | refine nx ?_ | apply aq_pq | (apply qr_move; refine r_move ?_) | (apply qr_assign; refine r_assign ?_) | (apply at_cond; first | refine c_t ?_ | refine c_f ?_ | (refine aw_cond rfl (fun hb => ?_) (fun hb => ?_) <;> ((try have hq := dX hb); (try (exfalso; omega))))) | (apply qr_neq; refine r_neq ?_) | (apply qr_extract; refine r_extract ?_) | (apply qr_func; refine r_func ?_) | (apply qr_load; refine r_load ?_) | (apply qr_alloc; refine r_alloc ?_) | (apply qr_store; refine r_store ?_))
  refine al_less (sl' := [(17, .clo (.func 36) [.box 3 0, .box 4 0, .box 2 0]), (5, .box 18 0), (4, .box 4 0), (3, .box 3 0), (2, .box 2 0)]) (ob' := [(18, psB L 0), (2, zeroBy), (3, intB p), (4, errB 0)]) (by (repeat (first | exact sub_nil | (apply sub_cons; focus (first | rfl | exact vint (by first | omega) | (simp [look]; done)))))) (by (repeat (first | exact obs_nil | (apply obs_cons; focus (first | rfl | (simp [find]; done)))))) ?_
  refine al_ren 2 1002 rfl rfl ?_
  refine al_less (sl' := [(17, .clo (.func 36) [.box 3 0, .box 4 0, .box 1002 0]), (5, .box 18 0), (4, .box 4 0), (3, .box 3 0), (2, .box 1002 0)]) (ob' := [(18, psB L 0), (1002, zeroBy), (3, intB p), (4, errB 0)]) (by (repeat (first | exact sub_nil | (apply sub_cons; focus (first | rfl | exact vint (by first | omega) | (simp [look]; done)))))) (by (repeat (first | exact obs_nil | (apply obs_cons; focus (first | rfl | (simp [find]; done)))))) ?_
  refine al_ren 3 1003 rfl rfl ?_
  refine al_less (sl' := [(17, .clo (.func 36) [.box 1003 0, .box 4 0, .box 1002 0]), (5, .box 18 0), (4, .box 4 0), (3, .box 1003 0), (2, .box 1002 0)]) (ob' := [(18, psB L 0), (1002, zeroBy), (1003, intB p), (4, errB 0)]) (by (repeat (first | exact sub_nil | (apply sub_cons; focus (first | rfl | exact vint (by first | omega) | (simp [look]; done)))))) (by (repeat (first | exact obs_nil | (apply obs_cons; focus (first | rfl | (simp [find]; done)))))) ?_
  refine al_ren 4 1004 rfl rfl ?_
  refine al_less (sl' := [(17, .clo (.func 36) [.box 1003 0, .box 1004 0, .box 1002 0]), (5, .box 18 0), (4, .box 1004 0), (3, .box 1003 0), (2, .box 1002 0)]) (ob' := [(18, psB L 0), (1002, zeroBy), (1003, intB p), (1004, errB 0)]) (by (repeat (first | exact sub_nil | (apply sub_cons; focus (first | rfl | exact vint (by first | omega) | (simp [look]; done)))))) (by (repeat (first | exact obs_nil | (apply obs_cons; focus (first | rfl | (simp [find]; done)))))) ?_
  refine al_ren 18 1000 rfl rfl ?_
  refine al_less (sl' := [(17, .clo (.func 36) [.box 1003 0, .box 1004 0, .box 1002 0]), (5, .box 1000 0), (4, .box 1004 0), (3, .box 1003 0), (2, .box 1002 0)]) (ob' := [(1000, psB L 0), (1002, zeroBy), (1003, intB p), (1004, errB 0)]) (by (repeat (first | exact sub_nil | (apply sub_cons; focus (first | rfl | exact vint (by first | omega) | (simp [look]; done)))))) (by (repeat (first | exact obs_nil | (apply obs_cons; focus (first | rfl | (simp [find]; done)))))) ?_
  refine al_defer rfl hE rfl rfl rfl (fun E' cs en eo hN hE' hdf hcl hcs => ?_)
  obtain ⟨w', Pr', n', ob0', β', κ', df'⟩ := E'
  dsimp only at en eo hdf hcs
  subst en eo hdf
  have hE := hE'
  rcases hx : bylawsP L with ⟨x, t⟩ | ⟨q, c⟩
  ·rw [hx] at hV hby
   have hok := out_ok hby rfl
   repeat' (first | (apply at_call; refine k_ocall [(1000, 1000)] (hok) hE ?_; rintro _ _ ⟨rfl, rfl⟩ <;> (intro _ _ h1 h2; simp only [renEqs, Nat.reduceBEq, renL_app, renL_ds, renL_und] at h1 h2; subst h1 h2)) | refine nx ?_ | apply aq_pq | (apply qr_move; refine r_move ?_) | (apply at_cond; first | refine c_t ?_ | refine c_f ?_ | (refine aw_cond rfl (fun hb => ?_) (fun hb => ?_) <;> ((try have hq := dX hb); (try (exfalso; omega))))) | (apply qr_store; refine r_store ?_))
   refine aq_less (sl' := [(4, .box 1004 0), (3, .box 1003 0), (2, .box 1002 0)]) (ob' := [(1003, intB 0), (1004, errB 0), (1002, .box 28 ((byC x).map V.d))]) (by (repeat (first | exact sub_nil | (apply sub_cons; focus (first | rfl | exact vint (by first | omega) | (simp [look]; done)))))) (by (repeat (first | exact obs_nil | (apply obs_cons; focus (first | rfl | (simp [find]; done)))))) ?_
   refine aq_leave (.inl ⟨rfl, rfl⟩) rfl hN hE' rfl hcl hcs rfl (parse1_no 0 0 _ rfl) rfl rfl (fun E'' ob'' k1 k2 hN'' ho => ?_) (fun _ _ => trivial)
   subst ho
   rw [hV]
   exact retN3 hN'' rfl (by first | exact ResX.tmp _ _ (by first | exact ToD.d _ | exact ToD.row _ _ _ _ _ rfl) | exact ResX.cellA _ _ _ _ _ _ _ rfl rfl rfl (by first | (simp only [normV, normList, normMap]; rfl) | rfl) rfl | exact ResX.cell1 _ _ _ _ _ _ rfl rfl rfl (by first | exact ToD.d _ | exact ToD.row _ _ _ _ _ rfl)) (by first | exact ResX.tmp _ _ (by first | exact ToD.d _ | exact ToD.row _ _ _ _ _ rfl) | exact ResX.cellA _ _ _ _ _ _ _ rfl rfl rfl (by first | (simp only [normV, normList, normMap]; rfl) | rfl) rfl | exact ResX.cell1 _ _ _ _ _ _ rfl rfl rfl (by first | exact ToD.d _ | exact ToD.row _ _ _ _ _ rfl)) (by first | exact ResX.tmp _ _ (by first | exact ToD.d _ | exact ToD.row _ _ _ _ _ rfl) | exact ResX.cellA _ _ _ _ _ _ _ rfl rfl rfl (by first | (simp only [normV, normList, normMap]; rfl) | rfl) rfl | exact ResX.cell1 _ _ _ _ _ _ rfl rfl rfl (by first | exact ToD.d _ | exact ToD.row _ _ _ _ _ rfl)) rfl k1
  ·rw [hx] at hV hby
   have hbad := out_bad hby rfl
   repeat' (first | refine nx ?_ | apply aq_pq | (apply qr_move; refine r_move ?_) | (apply at_cond; first | refine c_t ?_ | refine c_f ?_ | (refine aw_cond rfl (fun hb => ?_) (fun hb => ?_) <;> ((try have hq := dX hb); (try (exfalso; omega))))) | (apply qr_store; refine r_store ?_))
   refine al_pcall [(1000, 1000)] hbad rfl hE (lt_ok rfl) (by (repeat (first | refine ArgsV.cons (.same _ _ rfl) ?_ | refine ArgsV.cons (.toD _ _ (by first | exact ToD.d _ | exact ToD.row _ _ _ _ _ rfl | exact ToD.nil _)) ?_)); exact ArgsV.nil) ⟨obs_cons rfl obs_nil, rfl, rfl, rfl, rfl⟩ (fun v hv => ?_) (fun _ _ h => h.elim)
   subst hv
   repeat (first | refine aq_then_p ?_ | refine aq_block_p ?_)
   refine aq_less (sl' := [(4, .box 1004 0), (3, .box 1003 0), (2, .box 1002 0)]) (ob' := [(1003, intB p), (1004, errB 0), (1002, zeroBy)]) (by (repeat (first | exact sub_nil | (apply sub_cons; focus (first | rfl | exact vint (by first | omega) | (simp [look]; done)))))) (by (repeat (first | exact obs_nil | (apply obs_cons; focus (first | rfl | (simp [find]; done)))))) ?_
   refine aq_leave (.inr ⟨_, rfl, rfl⟩) (settle_caught q c) hN hE' rfl hcl hcs rfl (parse1_yes q c p 0 _ rfl) rfl rfl (fun E'' ob'' k1 k2 hN'' ho => ?_) (fun _ _ => trivial)
   subst ho
   rw [hV]
   refine aq_nilcell 1002 1 6 rfl rfl rfl ?_
   refine aq_nilcell 1002 6 5 rfl rfl rfl ?_
   refine aq_nilcell 1002 11 5 rfl rfl rfl ?_
   refine aq_nilcell 1002 16 5 rfl rfl rfl ?_
   refine aq_nilcell 1002 21 5 rfl rfl rfl ?_
   exact retN3 hN'' rfl (by first | exact ResX.tmp _ _ (by first | exact ToD.d _ | exact ToD.row _ _ _ _ _ rfl) | exact ResX.cellA _ _ _ _ _ _ _ rfl rfl rfl (by first | (simp only [normV, normList, normMap]; rfl) | rfl) rfl | exact ResX.cell1 _ _ _ _ _ _ rfl rfl rfl (by first | exact ToD.d _ | exact ToD.row _ _ _ _ _ rfl)) (by first | exact ResX.tmp _ _ (by first | exact ToD.d _ | exact ToD.row _ _ _ _ _ rfl) | exact ResX.cellA _ _ _ _ _ _ _ rfl rfl rfl (by first | (simp only [normV, normList, normMap]; rfl) | rfl) rfl | exact ResX.cell1 _ _ _ _ _ _ rfl rfl rfl (by first | exact ToD.d _ | exact ToD.row _ _ _ _ _ rfl)) (by first | exact ResX.tmp _ _ (by first | exact ToD.d _ | exact ToD.row _ _ _ _ _ rfl) | exact ResX.cellA _ _ _ _ _ _ _ rfl rfl rfl (by first | (simp only [normV, normList, normMap]; rfl) | rfl) rfl | exact ResX.cell1 _ _ _ _ _ _ rfl rfl rfl (by first | exact ToD.d _ | exact ToD.row _ _ _ _ _ rfl)) rfl k1
 ·rw [if_neg he] at hV
  have q0 : (!decide (e = 0)) = true := by simp [he]
  refine pure_enterD Tryz.func9 rfl (by decide) _ Tryz.ntmps9 (le_ok rfl) (fun w Pr hE => ?_)
  dsimp only [slotsOf, Nat.zero_add, Nat.reduceAdd]
  repeat' (first | (apply at_call; refine k_ocall [(16, 18)] (hopen) hE ?_; rintro _ _ ⟨rfl, rfl⟩ <;> (intro _ _ h1 h2; simp only [renEqs, Nat.reduceBEq, renL_app, renL_ds, renL_und] at h1 h2; subst h1 h2)) | refine nx ?_ | apply aq_pq | (apply qr_move; refine r_move ?_) | (apply qr_assign; refine r_assign ?_) | (apply at_cond; first | refine c_t ?_ | refine c_f ?_ | (refine aw_cond rfl (fun hb => ?_) (fun hb => ?_) <;> ((try have hq := dX hb); (try (exfalso; omega))))) | (apply qr_neq; refine r_neq ?_) | (apply qr_extract; refine r_extract ?_) | (apply qr_load; refine r_load ?_) | (apply qr_alloc; refine r_alloc ?_) | (apply qr_store; refine r_store ?_))
  refine aw_mixo ([(3, intB p), (4, errB e)]) [(0, true), (1, true), (2, true), (3, false)] [4, 5] (by kernel_rfl) (by kernel_rfl) (by kernel_rfl) (by decide) (by (repeat (first | exact obs_nil | (apply obs_cons; focus (first | rfl | (simp [find]; done)))))) ?_
  simp only [planned, tailed, List.filterMap_cons, List.filterMap_nil, List.getElem?_cons_zero, List.getElem?_cons_succ, Option.map_some]
  repeat' (first | apply am_nil | refine m_skip ?_ | refine n_skip ?_ | (apply at_am (.store _ _ _); refine am_store (by first | exact want_none | exact want_yes rfl rfl (by assumption) | exact want_yes rfl rfl (by with_reducible rfl)) rfl rfl rfl (ev_d rfl) nofun (by first | (simp only [normV, normList, normMap]; rfl) | rfl) (by simp [V.one, Value.oneCell']) (.inr rfl) rfl (le_ok rfl) (by first | (simp only [normV, normList, normMap]; rfl) | rfl) ?_) | (apply qm_load; refine m_load ?_) | (apply qm_build; refine m_build ?_) | (refine am_split rfl rfl (fun hb => ?_) (fun hb => ?_) <;> ((try have hq := dX hb); (try (exfalso; omega)))))
  repeat' (first | refine nx ?_ | apply aq_pq | (apply at_cond; first | refine c_t ?_ | refine c_f ?_ | (refine aw_cond rfl (fun hb => ?_) (fun hb => ?_) <;> ((try have hq := dX hb); (try (exfalso; omega))))) | (apply qr_load; refine r_load ?_) | (apply qr_store; refine r_store ?_) | (apply qr_build; refine r_build ?_))
  refine aq_nilcell 2 1 6 rfl rfl rfl ?_
  refine aq_nilcell 2 6 5 rfl rfl rfl ?_
  refine aq_nilcell 2 11 5 rfl rfl rfl ?_
  refine aq_nilcell 2 16 5 rfl rfl rfl ?_
  refine aq_nilcell 2 21 5 rfl rfl rfl ?_
  refine aq_d0 (.inl rfl) ?_
  rw [hV]
  refine ret3x (by rfl) (by first | exact ResX.tmp _ _ (by first | exact ToD.d _ | exact ToD.row _ _ _ _ _ rfl) | exact ResX.cellA _ _ _ _ _ _ _ rfl rfl rfl (by first | (simp only [normV, normList, normMap]; rfl) | rfl) rfl | exact ResX.cell1 _ _ _ _ _ _ rfl rfl rfl (by first | exact ToD.d _ | exact ToD.row _ _ _ _ _ rfl)) (by first | exact ResX.tmp _ _ (by first | exact ToD.d _ | exact ToD.row _ _ _ _ _ rfl) | exact ResX.cellA _ _ _ _ _ _ _ rfl rfl rfl (by first | (simp only [normV, normList, normMap]; rfl) | rfl) rfl | exact ResX.cell1 _ _ _ _ _ _ rfl rfl rfl (by first | exact ToD.d _ | exact ToD.row _ _ _ _ _ rfl)) (by first | exact ResX.tmp _ _ (by first | exact ToD.d _ | exact ToD.row _ _ _ _ _ rfl) | exact ResX.cellA _ _ _ _ _ _ _ rfl rfl rfl (by first | (simp only [normV, normList, normMap]; rfl) | rfl) rfl | exact ResX.cell1 _ _ _ _ _ _ rfl rfl rfl (by first | exact ToD.d _ | exact ToD.row _ _ _ _ _ rfl)) ?_
  rfl
end Go.Proofs.YtedoeogopmenpaaGreatDoor
end
section
set_option linter.unusedSimpArgs false
set_option linter.unusedVariables false
namespace Go.Proofs.YtedoeogopmenpaaGreatDoor
open Go.RowKit
def parseED (r : Ex × Int × Int) : D := .tup [.agg (exC r.1), .int r.2.1, .int r.2.2]
theorem parseE_any (s : ByteArray) (hs : s.size ≤ 1000000) : PureC 11 [.str s] (· = parseED (parseEV s)) := by
 have hopen := open_any s hs
 rcases hL : lexV s with ⟨L, p, e⟩
 have hV : parseEV s = if e = 0 then (match allP L with
  | .ok x _ => (x, 0, 0)
  | .bad q c => (Ex.zero, q, c)) else (Ex.zero, p, e) := by
  unfold parseEV
  rw [hL]
  try rfl
 rw [hL] at hopen
 dsimp only at hopen
 by_cases he : e = 0
 ·subst he
  rw [if_pos rfl] at hV
  obtain ⟨h1, h2, h3, h4, h5, h6, h7⟩ := lex_ready hL
  have r0 := h4.rdy h5
  have at0 : ((atN L L : Nat) : Int) = 0 := by simp [atN]
  have hrd := rec_read r0 h6
  unfold psr at hrd
  rw [at0] at hrd
  have q0 : (!decide ((0 : Int) = 0)) = false := rfl
  unfold allP at hV
  refine pure_enterD Tryz.func11 rfl (by decide) _ Tryz.ntmps11 (le_ok rfl) (fun w Pr hE => ?_)
  dsimp only [slotsOf, Nat.zero_add, Nat.reduceAdd]
  repeat' (first | (apply at_call; refine k_ocall [(16, 30)] (hopen) hE ?_; rintro _ _ ⟨rfl, rfl⟩ <;> (intro _ _ h1 h2; simp only [renEqs, Nat.reduceBEq, renL_app, renL_ds, renL_und] at h1 h2; subst h1 h2)) | (apply at_op (.makeFunc _ _ _); refine al_y (y_clo rfl) (lt_ok rfl) ?_) | refine nx ?_ | apply aq_pq | (apply qr_move; refine r_move ?_) | (apply qr_assign; refine r_assign ?_) | (apply at_cond; first | refine c_t ?_ | refine c_f ?_ | (refine aw_cond rfl (fun hb => ?_) (fun hb => ?_) <;> ((try have hq := dX hb); (try (exfalso; omega))))) | (apply qr_neq; refine r_neq ?_) | (apply qr_extract; refine r_extract ?_) | (apply qr_func; refine r_func ?_) | (apply qr_load; refine r_load ?_) | (apply qr_alloc; refine r_alloc ?_) | (apply qr_store; refine r_store ?_))
  refine al_less (sl' := [(18, .clo (.func 41) [.box 3 0, .box 4 0, .box 2 0]), (5, .box 30 0), (4, .box 4 0), (3, .box 3 0), (2, .box 2 0)]) (ob' := [(30, psB L 0), (2, zeroB), (3, intB p), (4, errB 0)]) (by (repeat (first | exact sub_nil | (apply sub_cons; focus (first | rfl | exact vint (by first | omega) | (simp [look]; done)))))) (by (repeat (first | exact obs_nil | (apply obs_cons; focus (first | rfl | (simp [find]; done)))))) ?_
  refine al_ren 2 1002 rfl rfl ?_
  refine al_less (sl' := [(18, .clo (.func 41) [.box 3 0, .box 4 0, .box 1002 0]), (5, .box 30 0), (4, .box 4 0), (3, .box 3 0), (2, .box 1002 0)]) (ob' := [(30, psB L 0), (1002, zeroB), (3, intB p), (4, errB 0)]) (by (repeat (first | exact sub_nil | (apply sub_cons; focus (first | rfl | exact vint (by first | omega) | (simp [look]; done)))))) (by (repeat (first | exact obs_nil | (apply obs_cons; focus (first | rfl | (simp [find]; done)))))) ?_
  refine al_ren 3 1003 rfl rfl ?_
  refine al_less (sl' := [(18, .clo (.func 41) [.box 1003 0, .box 4 0, .box 1002 0]), (5, .box 30 0), (4, .box 4 0), (3, .box 1003 0), (2, .box 1002 0)]) (ob' := [(30, psB L 0), (1002, zeroB), (1003, intB p), (4, errB 0)]) (by (repeat (first | exact sub_nil | (apply sub_cons; focus (first | rfl | exact vint (by first | omega) | (simp [look]; done)))))) (by (repeat (first | exact obs_nil | (apply obs_cons; focus (first | rfl | (simp [find]; done)))))) ?_
  refine al_ren 4 1004 rfl rfl ?_
  refine al_less (sl' := [(18, .clo (.func 41) [.box 1003 0, .box 1004 0, .box 1002 0]), (5, .box 30 0), (4, .box 1004 0), (3, .box 1003 0), (2, .box 1002 0)]) (ob' := [(30, psB L 0), (1002, zeroB), (1003, intB p), (1004, errB 0)]) (by (repeat (first | exact sub_nil | (apply sub_cons; focus (first | rfl | exact vint (by first | omega) | (simp [look]; done)))))) (by (repeat (first | exact obs_nil | (apply obs_cons; focus (first | rfl | (simp [find]; done)))))) ?_
  refine al_ren 30 1000 rfl rfl ?_
  refine al_less (sl' := [(18, .clo (.func 41) [.box 1003 0, .box 1004 0, .box 1002 0]), (5, .box 1000 0), (4, .box 1004 0), (3, .box 1003 0), (2, .box 1002 0)]) (ob' := [(1000, psB L 0), (1002, zeroB), (1003, intB p), (1004, errB 0)]) (by (repeat (first | exact sub_nil | (apply sub_cons; focus (first | rfl | exact vint (by first | omega) | (simp [look]; done)))))) (by (repeat (first | exact obs_nil | (apply obs_cons; focus (first | rfl | (simp [find]; done)))))) ?_
  refine al_defer rfl hE rfl rfl rfl (fun E' cs en eo hN hE' hdf hcl hcs => ?_)
  obtain ⟨w', Pr', n', ob0', β', κ', df'⟩ := E'
  dsimp only at en eo hdf hcs
  subst en eo hdf
  have hE := hE'
  rcases hx : readE L with ⟨x, t⟩ | ⟨q, c⟩
  ·rw [hx, then_ok] at hV
   have hok := out_ok hrd hx
   have r1 := r0.to (readE_suf hx)
   obtain ⟨o, hd⟩ := readE_der hx
   have hlv := hd.levels
   have hwd := hd.wid
   have hlev := levels_any x.levels x (Nat.le_refl _) (by omega) (by omega)
   have hnx := pnext r1
   by_cases hk : (nxt t).k = 3
   ·have c1 := pcheck_y (L := L) (l := t) 12
    rw [← decide_eq_true hk] at c1
    rw [if_pos hk] at hV
    by_cases hv : x.levels ≤ 12
    ·have c2 := pcheck_y (L := L) (l := t) 6
     rw [← decide_eq_true (show (x.levels : Int) ≤ 12 by omega)] at c2
     rw [if_pos hv] at hV
     repeat' (first | (apply at_call; refine k_ocall [(1000, 1000)] (hok) hE ?_; rintro _ _ ⟨rfl, rfl⟩ <;> (intro _ _ h1 h2; simp only [renEqs, Nat.reduceBEq, renL_app, renL_ds, renL_und] at h1 h2; subst h1 h2)) | (apply at_call; refine k_ocall [(1000, 1000)] (hnx) hE ?_; rintro _ _ ⟨rfl, rfl⟩ <;> (intro _ _ h1 h2; simp only [renEqs, Nat.reduceBEq, renL_app, renL_ds, renL_und] at h1 h2; subst h1 h2)) | (apply at_call; refine k_ocall [(1000, 1000)] (c1) hE ?_; rintro _ _ ⟨rfl, rfl⟩ <;> (intro _ _ h1 h2; simp only [renEqs, Nat.reduceBEq, renL_app, renL_ds, renL_und] at h1 h2; subst h1 h2)) | (apply at_call; refine k_call (hlev) hE ?_; rintro _ rfl) | (apply at_call; refine k_ocall [(1000, 1000)] (c2) hE ?_; rintro _ _ ⟨rfl, rfl⟩ <;> (intro _ _ h1 h2; simp only [renEqs, Nat.reduceBEq, renL_app, renL_ds, renL_und] at h1 h2; subst h1 h2)) | refine nx ?_ | apply aq_pq | (apply qr_move; refine r_move ?_) | (apply at_cond; first | refine c_t ?_ | refine c_f ?_ | (refine aw_cond rfl (fun hb => ?_) (fun hb => ?_) <;> ((try have hq := dX hb); (try (exfalso; omega))))) | (apply qr_leq; refine r_leq ?_) | (apply qr_eql; refine r_eql ?_) | (apply qr_load; refine r_load ?_) | (apply qr_field; refine r_field ?_) | (apply qr_alloc; refine r_alloc ?_) | (apply qr_store; refine r_store ?_))
     refine aq_less (sl' := [(4, .box 1004 0), (3, .box 1003 0), (2, .box 1002 0)]) (ob' := [(1003, intB 0), (1004, errB 0), (1002, exB x)]) (by (repeat (first | exact sub_nil | (apply sub_cons; focus (first | rfl | exact vint (by first | omega) | (simp [look]; done)))))) (by (repeat (first | exact obs_nil | (apply obs_cons; focus (first | rfl | (simp [find]; done)))))) ?_
     refine aq_leave (.inl ⟨rfl, rfl⟩) rfl hN hE' rfl hcl hcs rfl (parseE1_no 0 0 _ rfl) rfl rfl (fun E'' ob'' k1 k2 hN'' ho => ?_) (fun _ _ => trivial)
     subst ho
     rw [hV]
     exact retN3 hN'' rfl (by first | exact ResX.tmp _ _ (by first | exact ToD.d _ | exact ToD.row _ _ _ _ _ rfl) | exact ResX.cellA _ _ _ _ _ _ _ rfl rfl rfl (by first | (simp only [normV, normList, normMap]; rfl) | rfl) rfl | exact ResX.cell1 _ _ _ _ _ _ rfl rfl rfl (by first | exact ToD.d _ | exact ToD.row _ _ _ _ _ rfl)) (by first | exact ResX.tmp _ _ (by first | exact ToD.d _ | exact ToD.row _ _ _ _ _ rfl) | exact ResX.cellA _ _ _ _ _ _ _ rfl rfl rfl (by first | (simp only [normV, normList, normMap]; rfl) | rfl) rfl | exact ResX.cell1 _ _ _ _ _ _ rfl rfl rfl (by first | exact ToD.d _ | exact ToD.row _ _ _ _ _ rfl)) (by first | exact ResX.tmp _ _ (by first | exact ToD.d _ | exact ToD.row _ _ _ _ _ rfl) | exact ResX.cellA _ _ _ _ _ _ _ rfl rfl rfl (by first | (simp only [normV, normList, normMap]; rfl) | rfl) rfl | exact ResX.cell1 _ _ _ _ _ _ rfl rfl rfl (by first | exact ToD.d _ | exact ToD.row _ _ _ _ _ rfl)) rfl k1
    ·have c2 := pcheck_n r1 6
     rw [← decide_eq_false (show ¬ (x.levels : Int) ≤ 12 by omega)] at c2
     rw [if_neg hv] at hV
     repeat' (first | (apply at_call; refine k_ocall [(1000, 1000)] (hok) hE ?_; rintro _ _ ⟨rfl, rfl⟩ <;> (intro _ _ h1 h2; simp only [renEqs, Nat.reduceBEq, renL_app, renL_ds, renL_und] at h1 h2; subst h1 h2)) | (apply at_call; refine k_ocall [(1000, 1000)] (hnx) hE ?_; rintro _ _ ⟨rfl, rfl⟩ <;> (intro _ _ h1 h2; simp only [renEqs, Nat.reduceBEq, renL_app, renL_ds, renL_und] at h1 h2; subst h1 h2)) | (apply at_call; refine k_ocall [(1000, 1000)] (c1) hE ?_; rintro _ _ ⟨rfl, rfl⟩ <;> (intro _ _ h1 h2; simp only [renEqs, Nat.reduceBEq, renL_app, renL_ds, renL_und] at h1 h2; subst h1 h2)) | (apply at_call; refine k_call (hlev) hE ?_; rintro _ rfl) | refine nx ?_ | apply aq_pq | (apply qr_move; refine r_move ?_) | (apply at_cond; first | refine c_t ?_ | refine c_f ?_ | (refine aw_cond rfl (fun hb => ?_) (fun hb => ?_) <;> ((try have hq := dX hb); (try (exfalso; omega))))) | (apply qr_leq; refine r_leq ?_) | (apply qr_eql; refine r_eql ?_) | (apply qr_load; refine r_load ?_) | (apply qr_field; refine r_field ?_) | (apply qr_alloc; refine r_alloc ?_) | (apply qr_store; refine r_store ?_))
     refine al_pcall [(1000, 1000)] c2 rfl hE (lt_ok rfl) (by (repeat (first | refine ArgsV.cons (.same _ _ rfl) ?_ | refine ArgsV.cons (.toD _ _ (by first | exact ToD.d _ | exact ToD.row _ _ _ _ _ rfl | exact ToD.nil _)) ?_)); exact ArgsV.nil) ⟨obs_cons rfl obs_nil, rfl, rfl, rfl, rfl⟩ (fun v hv => ?_) (fun _ _ h => h.elim)
     subst hv
     repeat (first | refine aq_then_p ?_ | refine aq_block_p ?_)
     refine aq_less (sl' := [(4, .box 1004 0), (3, .box 1003 0), (2, .box 1002 0)]) (ob' := [(1003, intB p), (1004, errB 0), (1002, zeroB)]) (by (repeat (first | exact sub_nil | (apply sub_cons; focus (first | rfl | exact vint (by first | omega) | (simp [look]; done)))))) (by (repeat (first | exact obs_nil | (apply obs_cons; focus (first | rfl | (simp [find]; done)))))) ?_
     refine aq_leave (.inr ⟨_, rfl, rfl⟩) (settle_caught (nxt t).p 6) hN hE' rfl hcl hcs rfl (parseE1_yes (nxt t).p 6 p 0 _ rfl) rfl rfl (fun E'' ob'' k1 k2 hN'' ho => ?_) (fun _ _ => trivial)
     subst ho
     rw [hV]
     refine aq_nilcell 1002 4 5 rfl rfl rfl ?_
     exact retN3 hN'' rfl (by first | exact ResX.tmp _ _ (by first | exact ToD.d _ | exact ToD.row _ _ _ _ _ rfl) | exact ResX.cellA _ _ _ _ _ _ _ rfl rfl rfl (by first | (simp only [normV, normList, normMap]; rfl) | rfl) rfl | exact ResX.cell1 _ _ _ _ _ _ rfl rfl rfl (by first | exact ToD.d _ | exact ToD.row _ _ _ _ _ rfl)) (by first | exact ResX.tmp _ _ (by first | exact ToD.d _ | exact ToD.row _ _ _ _ _ rfl) | exact ResX.cellA _ _ _ _ _ _ _ rfl rfl rfl (by first | (simp only [normV, normList, normMap]; rfl) | rfl) rfl | exact ResX.cell1 _ _ _ _ _ _ rfl rfl rfl (by first | exact ToD.d _ | exact ToD.row _ _ _ _ _ rfl)) (by first | exact ResX.tmp _ _ (by first | exact ToD.d _ | exact ToD.row _ _ _ _ _ rfl) | exact ResX.cellA _ _ _ _ _ _ _ rfl rfl rfl (by first | (simp only [normV, normList, normMap]; rfl) | rfl) rfl | exact ResX.cell1 _ _ _ _ _ _ rfl rfl rfl (by first | exact ToD.d _ | exact ToD.row _ _ _ _ _ rfl)) rfl k1
   ·have c1 := pcheck_n r1 12
    rw [← decide_eq_false hk] at c1
    rw [if_neg hk] at hV
    repeat' (first | (apply at_call; refine k_ocall [(1000, 1000)] (hok) hE ?_; rintro _ _ ⟨rfl, rfl⟩ <;> (intro _ _ h1 h2; simp only [renEqs, Nat.reduceBEq, renL_app, renL_ds, renL_und] at h1 h2; subst h1 h2)) | (apply at_call; refine k_ocall [(1000, 1000)] (hnx) hE ?_; rintro _ _ ⟨rfl, rfl⟩ <;> (intro _ _ h1 h2; simp only [renEqs, Nat.reduceBEq, renL_app, renL_ds, renL_und] at h1 h2; subst h1 h2)) | refine nx ?_ | apply aq_pq | (apply qr_move; refine r_move ?_) | (apply at_cond; first | refine c_t ?_ | refine c_f ?_ | (refine aw_cond rfl (fun hb => ?_) (fun hb => ?_) <;> ((try have hq := dX hb); (try (exfalso; omega))))) | (apply qr_eql; refine r_eql ?_) | (apply qr_field; refine r_field ?_) | (apply qr_alloc; refine r_alloc ?_) | (apply qr_store; refine r_store ?_))
    refine al_pcall [(1000, 1000)] c1 rfl hE (lt_ok rfl) (by (repeat (first | refine ArgsV.cons (.same _ _ rfl) ?_ | refine ArgsV.cons (.toD _ _ (by first | exact ToD.d _ | exact ToD.row _ _ _ _ _ rfl | exact ToD.nil _)) ?_)); exact ArgsV.nil) ⟨obs_cons rfl obs_nil, rfl, rfl, rfl, rfl⟩ (fun v hv => ?_) (fun _ _ h => h.elim)
    subst hv
    repeat (first | refine aq_then_p ?_ | refine aq_block_p ?_)
    refine aq_less (sl' := [(4, .box 1004 0), (3, .box 1003 0), (2, .box 1002 0)]) (ob' := [(1003, intB p), (1004, errB 0), (1002, zeroB)]) (by (repeat (first | exact sub_nil | (apply sub_cons; focus (first | rfl | exact vint (by first | omega) | (simp [look]; done)))))) (by (repeat (first | exact obs_nil | (apply obs_cons; focus (first | rfl | (simp [find]; done)))))) ?_
    refine aq_leave (.inr ⟨_, rfl, rfl⟩) (settle_caught (nxt t).p 12) hN hE' rfl hcl hcs rfl (parseE1_yes (nxt t).p 12 p 0 _ rfl) rfl rfl (fun E'' ob'' k1 k2 hN'' ho => ?_) (fun _ _ => trivial)
    subst ho
    rw [hV]
    refine aq_nilcell 1002 4 5 rfl rfl rfl ?_
    exact retN3 hN'' rfl (by first | exact ResX.tmp _ _ (by first | exact ToD.d _ | exact ToD.row _ _ _ _ _ rfl) | exact ResX.cellA _ _ _ _ _ _ _ rfl rfl rfl (by first | (simp only [normV, normList, normMap]; rfl) | rfl) rfl | exact ResX.cell1 _ _ _ _ _ _ rfl rfl rfl (by first | exact ToD.d _ | exact ToD.row _ _ _ _ _ rfl)) (by first | exact ResX.tmp _ _ (by first | exact ToD.d _ | exact ToD.row _ _ _ _ _ rfl) | exact ResX.cellA _ _ _ _ _ _ _ rfl rfl rfl (by first | (simp only [normV, normList, normMap]; rfl) | rfl) rfl | exact ResX.cell1 _ _ _ _ _ _ rfl rfl rfl (by first | exact ToD.d _ | exact ToD.row _ _ _ _ _ rfl)) (by first | exact ResX.tmp _ _ (by first | exact ToD.d _ | exact ToD.row _ _ _ _ _ rfl) | exact ResX.cellA _ _ _ _ _ _ _ rfl rfl rfl (by first | (simp only [normV, normList, normMap]; rfl) | rfl) rfl | exact ResX.cell1 _ _ _ _ _ _ rfl rfl rfl (by first | exact ToD.d _ | exact ToD.row _ _ _ _ _ rfl)) rfl k1
  ·rw [hx] at hV
   have hbad := out_bad hrd hx
   repeat' (first | refine nx ?_ | apply aq_pq | (apply qr_move; refine r_move ?_) | (apply at_cond; first | refine c_t ?_ | refine c_f ?_ | (refine aw_cond rfl (fun hb => ?_) (fun hb => ?_) <;> ((try have hq := dX hb); (try (exfalso; omega))))) | (apply qr_alloc; refine r_alloc ?_) | (apply qr_store; refine r_store ?_))
   refine al_pcall [(1000, 1000)] hbad rfl hE (lt_ok rfl) (by (repeat (first | refine ArgsV.cons (.same _ _ rfl) ?_ | refine ArgsV.cons (.toD _ _ (by first | exact ToD.d _ | exact ToD.row _ _ _ _ _ rfl | exact ToD.nil _)) ?_)); exact ArgsV.nil) ⟨obs_cons rfl obs_nil, rfl, rfl, rfl, rfl⟩ (fun v hv => ?_) (fun _ _ h => h.elim)
   subst hv
   repeat (first | refine aq_then_p ?_ | refine aq_block_p ?_)
   refine aq_less (sl' := [(4, .box 1004 0), (3, .box 1003 0), (2, .box 1002 0)]) (ob' := [(1003, intB p), (1004, errB 0), (1002, zeroB)]) (by (repeat (first | exact sub_nil | (apply sub_cons; focus (first | rfl | exact vint (by first | omega) | (simp [look]; done)))))) (by (repeat (first | exact obs_nil | (apply obs_cons; focus (first | rfl | (simp [find]; done)))))) ?_
   refine aq_leave (.inr ⟨_, rfl, rfl⟩) (settle_caught q c) hN hE' rfl hcl hcs rfl (parseE1_yes q c p 0 _ rfl) rfl rfl (fun E'' ob'' k1 k2 hN'' ho => ?_) (fun _ _ => trivial)
   subst ho
   rw [hV]
   refine aq_nilcell 1002 4 5 rfl rfl rfl ?_
   exact retN3 hN'' rfl (by first | exact ResX.tmp _ _ (by first | exact ToD.d _ | exact ToD.row _ _ _ _ _ rfl) | exact ResX.cellA _ _ _ _ _ _ _ rfl rfl rfl (by first | (simp only [normV, normList, normMap]; rfl) | rfl) rfl | exact ResX.cell1 _ _ _ _ _ _ rfl rfl rfl (by first | exact ToD.d _ | exact ToD.row _ _ _ _ _ rfl)) (by first | exact ResX.tmp _ _ (by first | exact ToD.d _ | exact ToD.row _ _ _ _ _ rfl) | exact ResX.cellA _ _ _ _ _ _ _ rfl rfl rfl (by first | (simp only [normV, normList, normMap]; rfl) | rfl) rfl | exact ResX.cell1 _ _ _ _ _ _ rfl rfl rfl (by first | exact ToD.d _ | exact ToD.row _ _ _ _ _ rfl)) (by first | exact ResX.tmp _ _ (by first | exact ToD.d _ | exact ToD.row _ _ _ _ _ rfl) | exact ResX.cellA _ _ _ _ _ _ _ rfl rfl rfl (by first | (simp only [normV, normList, normMap]; rfl) | rfl) rfl | exact ResX.cell1 _ _ _ _ _ _ rfl rfl rfl (by first | exact ToD.d _ | exact ToD.row _ _ _ _ _ rfl)) rfl k1
 ·rw [if_neg he] at hV
  have q0 : (!decide (e = 0)) = true := by simp [he]
  refine pure_enterD Tryz.func11 rfl (by decide) _ Tryz.ntmps11 (le_ok rfl) (fun w Pr hE => ?_)
  dsimp only [slotsOf, Nat.zero_add, Nat.reduceAdd]
  repeat' (first | (apply at_call; refine k_ocall [(16, 30)] (hopen) hE ?_; rintro _ _ ⟨rfl, rfl⟩ <;> (intro _ _ h1 h2; simp only [renEqs, Nat.reduceBEq, renL_app, renL_ds, renL_und] at h1 h2; subst h1 h2)) | refine nx ?_ | apply aq_pq | (apply qr_move; refine r_move ?_) | (apply qr_assign; refine r_assign ?_) | (apply at_cond; first | refine c_t ?_ | refine c_f ?_ | (refine aw_cond rfl (fun hb => ?_) (fun hb => ?_) <;> ((try have hq := dX hb); (try (exfalso; omega))))) | (apply qr_neq; refine r_neq ?_) | (apply qr_extract; refine r_extract ?_) | (apply qr_load; refine r_load ?_) | (apply qr_alloc; refine r_alloc ?_) | (apply qr_store; refine r_store ?_))
  refine aw_mixo ([(3, intB p), (4, errB e)]) [(0, true), (1, true), (2, true), (3, false)] [4, 5] (by kernel_rfl) (by kernel_rfl) (by kernel_rfl) (by decide) (by (repeat (first | exact obs_nil | (apply obs_cons; focus (first | rfl | (simp [find]; done)))))) ?_
  simp only [planned, tailed, List.filterMap_cons, List.filterMap_nil, List.getElem?_cons_zero, List.getElem?_cons_succ, Option.map_some]
  repeat' (first | apply am_nil | refine m_skip ?_ | refine n_skip ?_ | (apply at_am (.store _ _ _); refine am_store (by first | exact want_none | exact want_yes rfl rfl (by assumption) | exact want_yes rfl rfl (by with_reducible rfl)) rfl rfl rfl (ev_d rfl) nofun (by first | (simp only [normV, normList, normMap]; rfl) | rfl) (by simp [V.one, Value.oneCell']) (.inr rfl) rfl (le_ok rfl) (by first | (simp only [normV, normList, normMap]; rfl) | rfl) ?_) | (apply qm_load; refine m_load ?_) | (apply qm_build; refine m_build ?_) | (refine am_split rfl rfl (fun hb => ?_) (fun hb => ?_) <;> ((try have hq := dX hb); (try (exfalso; omega)))))
  repeat' (first | refine nx ?_ | apply aq_pq | (apply at_cond; first | refine c_t ?_ | refine c_f ?_ | (refine aw_cond rfl (fun hb => ?_) (fun hb => ?_) <;> ((try have hq := dX hb); (try (exfalso; omega))))) | (apply qr_load; refine r_load ?_) | (apply qr_store; refine r_store ?_) | (apply qr_build; refine r_build ?_))
  refine aq_nilcell 2 4 5 rfl rfl rfl ?_
  refine aq_d0 (.inl rfl) ?_
  rw [hV]
  refine ret3x (by rfl) (by first | exact ResX.tmp _ _ (by first | exact ToD.d _ | exact ToD.row _ _ _ _ _ rfl) | exact ResX.cellA _ _ _ _ _ _ _ rfl rfl rfl (by first | (simp only [normV, normList, normMap]; rfl) | rfl) rfl | exact ResX.cell1 _ _ _ _ _ _ rfl rfl rfl (by first | exact ToD.d _ | exact ToD.row _ _ _ _ _ rfl)) (by first | exact ResX.tmp _ _ (by first | exact ToD.d _ | exact ToD.row _ _ _ _ _ rfl) | exact ResX.cellA _ _ _ _ _ _ _ rfl rfl rfl (by first | (simp only [normV, normList, normMap]; rfl) | rfl) rfl | exact ResX.cell1 _ _ _ _ _ _ rfl rfl rfl (by first | exact ToD.d _ | exact ToD.row _ _ _ _ _ rfl)) (by first | exact ResX.tmp _ _ (by first | exact ToD.d _ | exact ToD.row _ _ _ _ _ rfl) | exact ResX.cellA _ _ _ _ _ _ _ rfl rfl rfl (by first | (simp only [normV, normList, normMap]; rfl) | rfl) rfl | exact ResX.cell1 _ _ _ _ _ _ rfl rfl rfl (by first | exact ToD.d _ | exact ToD.row _ _ _ _ _ rfl)) ?_
  rfl
end Go.Proofs.YtedoeogopmenpaaGreatDoor
end
section
namespace Go.Proofs.YtedoeogopmenpaaGreatDoor
open Go.RowKit
inductive Wk : D → D → Prop where
 | same (x : D) : Wk x x
 | nil (s : Nat) : Wk (.val (.slice none 0 0)) (.list s [])
 | agg (l m : List D) (hl : l.length = m.length) (h : ∀ (i : Nat) (x y : D), l[i]? = some x → m[i]? = some y → Wk x y) : Wk (.agg l) (.agg m)
 | list (s : Nat) (l m : List (List D)) (hl : l.length = m.length) (h : ∀ (i : Nat) (x y : List D), l[i]? = some x → m[i]? = some y → x.length = y.length) (hd : ∀ (i j : Nat) (e f : List D) (x y : D), l[i]? = some e → m[i]? = some f → e[j]? = some x → f[j]? = some y → Wk x y) : Wk (.list s l) (.list s m)
theorem get_some {α : Type} {l : List α} {i : Nat} (h : i < l.length) : ∃ x, l[i]? = some x := ⟨_, List.getElem?_eq_getElem h⟩
theorem get_lt {α : Type} {l : List α} {i : Nat} {x : α} (h : l[i]? = some x) : i < l.length := (List.getElem?_eq_some_iff.1 h).1
theorem Wk.rep {w : World} {Pr : Prot} {x y : D} (h : Wk x y) : ∀ v, RepD w Pr v x → RepD w Pr v y := by
 induction h with
 | same x => exact fun v h => h
 | nil s =>
  intro v h
  cases h
  exact .nil none 0 s (Nat.zero_le _)
 | agg l m hl hh ih =>
  intro v h
  cases h with
  | agg cs _ hc hd =>
   refine .agg cs m (hc.trans hl) (fun i v d h1 h2 => ?_)
   obtain ⟨z, hz⟩ := get_some (l := l) (i := i) (by rw [hl]; exact get_lt h2)
   exact ih i z d hz h2 v (hd i v z h1 hz)
 | list s l m hl hh hd ih =>
  intro v h
  cases h with
  | nil A c _ hm =>
   obtain rfl : m = [] := List.eq_nil_of_length_eq_zero hl.symm
   exact .nil A c s hm
  | list b o n c _ _ u hn hs hc hm hr hq =>
   refine .list b o n c s m u (hl.symm.trans hn) (fun e he => ?_) hc hm (fun i j e d h1 h2 => ?_) (fun i j e d h1 h2 => ?_)
   ·obtain ⟨i, hi, rfl⟩ := List.mem_iff_getElem.1 he
    have hi2 : i < l.length := by omega
    rw [← hh i l[i] m[i] (List.getElem?_eq_getElem hi2) (List.getElem?_eq_getElem hi)]
    exact hs _ (List.getElem_mem hi2)
   ·obtain ⟨e', he'⟩ := get_some (l := l) (i := i) (by rw [hl]; exact get_lt h1)
    obtain ⟨d', hd'⟩ := get_some (l := e') (i := j) (by rw [hh i e' e he' h1]; exact get_lt h2)
    exact hr i j e' d' he' hd'
   ·obtain ⟨e', he'⟩ := get_some (l := l) (i := i) (by rw [hl]; exact get_lt h1)
    obtain ⟨d', hd'⟩ := get_some (l := e') (i := j) (by rw [hh i e' e he' h1]; exact get_lt h2)
    exact ih i j e' e d' d he' h1 hd' h2 _ (hq i j e' d' he' hd')
theorem PureC.wk {f : FuncId} {x y : D} {Post : D → Prop} (h : PureC f [y] Post) (hw : Wk x y) : PureC f [x] Post :=
 ⟨h.1, fun w Pr vs h1 h2 h3 h4 => h.2 w Pr vs h1 h2 h3 fun i v d hv hd => by
  match i with
  | 0 => cases hd; exact hw.rep v (h4 0 v x hv rfl)
  | i + 1 => simp at hd⟩
theorem wk_cons {x y : D} {l m : List D} (h : Wk x y) (hl : l.length = m.length ∧ ∀ (i : Nat) (x y : D), l[i]? = some x → m[i]? = some y → Wk x y) : (x :: l).length = (y :: m).length ∧ ∀ (i : Nat) (a b : D), (x :: l)[i]? = some a → (y :: m)[i]? = some b → Wk a b :=
 ⟨by simp [hl.1], fun i a b h1 h2 => by
  cases i with
  | zero => cases h1; cases h2; exact h
  | succ i => exact hl.2 i a b h1 h2⟩
theorem wk_nil : ([] : List D).length = ([] : List D).length ∧ ∀ (i : Nat) (a b : D), ([] : List D)[i]? = some a → ([] : List D)[i]? = some b → Wk a b := ⟨rfl, fun i a b h1 _ => by simp at h1⟩
def WkL (l m : List D) : Prop := l.length = m.length ∧ ∀ (i : Nat) (x y : D), l[i]? = some x → m[i]? = some y → Wk x y
theorem wk_agg {l m : List D} (h : WkL l m) : Wk (.agg l) (.agg m) := .agg l m h.1 h.2
theorem wk_two {s : Nat} {a b c d : List D} (h1 : WkL a c) (h2 : WkL b d) : Wk (.list s [a, b]) (.list s [c, d]) := by
 refine .list s _ _ rfl (fun i x y hx hy => ?_) (fun i j e f x y he hf hx hy => ?_)
 ·match i with
  | 0 => cases hx; cases hy; exact h1.1
  | 1 => cases hx; cases hy; exact h2.1
  | i + 2 => simp at hx
 ·match i with
  | 0 => cases he; cases hf; exact h1.2 j x y hx hy
  | 1 => cases he; cases hf; exact h2.2 j x y hx hy
  | i + 2 => simp at he
theorem wkl_args {a b c e : D} {x y : D} (h : Wk x y) : WkL [a, b, c, e, x] [a, b, c, e, y] :=
 wk_cons (.same _) (wk_cons (.same _) (wk_cons (.same _) (wk_cons (.same _) (wk_cons h wk_nil))))
end Go.Proofs.YtedoeogopmenpaaGreatDoor
end
