/-
  What a disk's file is after a crash, read by the laws; the documentation's examples. Conditions: none.
-/
import Derived.Test.YtabaflklognhaaaDkL
set_option linter.unusedSimpArgs false
set_option linter.unusedVariables false
namespace Go.Proofs.Ytabaflklognhaaa
open Go.RowKit Go.ChangeMaps

/-- what a read returns -/
def readP (st : DS) (f at_ size : Int) : ByteArray × Int := if mayE st f ≠ 0 then (⟨#[]⟩, mayE st f) else if at_ < 0 ∨ size < 0 then (⟨#[]⟩, 1) else (cutB (st.F f).now at_ size, 0)
section
variable {k cm cs : Nat} {lm ls : List ME} {st : DS}
theorem readp_any (h : DkOk lm ls st) {f at_ size : Int} (hf : i64 f) : ObC 20 [.box 1000 0, .d (.int f), .d (.int at_), .d (.int size)] (dsk 1000 1001 1002 1003 k cm cs lm ls st) [] (fun x o => x = .tup [.d (.str (readP st f at_ size).1), .d (.int (readP st f at_ size).2)] ∧ o = dsk 1000 1001 1002 1003 k cm cs lm ls st) := by
  refine (read_any h hf).mono fun x o ⟨h1, h2⟩ => ⟨?_, h2⟩
  rw [h1]
  unfold readV readP
  split
  · rfl
  · split <;> rfl
def upS (st : DS) : DS := { st with down := false }
theorem DkOk.up (h : DkOk lm ls st) : DkOk lm ls (upS st) := ⟨h.f, h.s, ⟨h.ok.now, h.ok.last, h.ok.out, h.ok.nodup, h.ok.file, h.ok.num, h.ok.lost0, h.ok.armed0, h.ok.keepl⟩⟩
def afterP (st : DS) (f : Int) (keep : List Int) : ByteArray × Int := readP (upS (crashS st keep)) f 0 16777216
set_option maxHeartbeats 8000000 in
set_option maxRecDepth 20000 in
theorem after_any (h : DkOk lm ls st) {f : Int} (hf : i64 f) {keep : List Int} (hkl : keep.length ≤ 1000000) : ObC 23 [.box 1000 0, .d (.int f), .d (keepD keep)] (dsk 1000 1001 1002 1003 k cm cs lm ls st) [] (fun x o => x = .tup [.d (.str (afterP st f keep).1), .d (.bool (decide ((afterP st f keep).2 = 0)))] ∧ o = dsk 1000 1001 1002 1003 k cm cs lm ls st) := by
  refine ob_enter Try.func23 rfl (by decide) _ Try.ntmps23 (le_ok rfl) rfl (fun w Pr β κ hE => ?_)
  dsimp only [slotsV, Nat.zero_add, Nat.reduceAdd]
  repeat' (first | (apply at_call; refine k_ocall [(1000, 1000), (1001, 1001), (1002, 1002), (1003, 1003), (3, 8), (11, 9), (16, 10), (21, 11)] (copy_any h) hE ?_; rintro _ _ ⟨k2, rfl, rfl⟩ <;> (intro _ _ h1 h2; simp only [renEqs, Nat.reduceBEq, renL_app, renL_ds, renL_und] at h1 h2; subst h1 h2)) | (apply at_op (.binOp .eql _ _ _ _); refine al_y (y_boxnil rfl ptrD) (lt_ok rfl) ?_) | (apply at_call; refine k_ocall [(1000, 8), (1001, 9), (1002, 10), (1003, 11), (106, 17)] (crash_any h hkl) hE ?_; rintro _ _ ⟨rfl, s3, k3, cm3, cs3, lm3, ls3, hs3, hD3, rfl⟩ _ _ rfl rfl; refine disk_merge (b := 8) (m := 9) (r := 10) (s := 11) (Y := 17) (X := 106) hs3 (by decide) rfl rfl rfl rfl rfl ?_; simp only [renEqs, Nat.reduceBEq]) | (apply at_call; refine k_ocall [(1000, 8), (1001, 9), (1002, 10), (1003, 11)] (start_any) hE ?_; rintro _ _ ⟨rfl, rfl⟩ <;> (intro _ _ h1 h2; simp only [renEqs, Nat.reduceBEq, renL_app, renL_ds, renL_und] at h1 h2; subst h1 h2)) | (apply at_call; refine k_ocall [(1000, 8), (1001, 9), (1002, 10), (1003, 11)] (readp_any hD3.up hf) hE ?_; rintro _ _ ⟨rfl, rfl⟩ <;> (intro _ _ h1 h2; simp only [renEqs, Nat.reduceBEq, renL_app, renL_ds, renL_und] at h1 h2; subst h1 h2)) | apply aw_seq | apply aw_region | apply al_nil | apply aq_np | apply aq_then | apply aq_then_x | apply aq_then_r | apply aw_skip | apply aw_exit | apply aw_ret | (apply at_op (.move _); refine r_move ?_) | (apply at_op (.assign _); refine r_assign ?_) | (apply at_cond; first | refine c_t ?_ | refine c_f ?_ | (refine aw_cond rfl (fun hb => ?_) (fun hb => ?_) <;> ((first | have hq := of_decide_eq_true hb | have hq := of_decide_eq_false hb | have hq := dNT hb | have hq := dNF hb | skip); (try (exfalso; omega))))) | (apply at_op (.binOp .eql _ _ _ _); refine r_eql ?_) | (apply at_op (.extract _ _); refine r_extract ?_))
  refine oret2 (dsk 1000 1001 1002 1003 k cm cs lm ls st) (by rfl) (by first | exact ResV.x _ _ (ResX.tmp _ _ (by first | exact ToD.d _ | exact ToD.row _ _ _ _ _ rfl | exact ToD.nil _)) | exact ResV.tmp _ _ rfl | exact ResV.x _ _ (ResX.cellA _ _ _ _ _ _ _ rfl rfl rfl (by first | (simp only [normV, normList, normMap]; rfl) | rfl) rfl)) (by first | exact ResV.x _ _ (ResX.tmp _ _ (by first | exact ToD.d _ | exact ToD.row _ _ _ _ _ rfl | exact ToD.nil _)) | exact ResV.tmp _ _ rfl | exact ResV.x _ _ (ResX.cellA _ _ _ _ _ _ _ rfl rfl rfl (by first | (simp only [normV, normList, normMap]; rfl) | rfl) rfl)) (⟨rfl, rfl⟩) (by (repeat (first | exact obs_nil | (apply obs_cons; focus (first | rfl | (simp [find]; done)))))) (by first | (simp [okOut, V.within, V.withinL, O.within, keys, mem, look, nbeq_def, withinL_app, withinL_ds, withinL_und]; done) | rfl)
end
end Go.Proofs.Ytabaflklognhaaa
