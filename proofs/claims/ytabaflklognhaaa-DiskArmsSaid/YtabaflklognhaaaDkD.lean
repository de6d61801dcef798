/-
  A disk's queue and set: DeleteFunc of slices and maps; settle. Conditions: none.
-/
import Derived.Test.YtabaflklognhaaaDkC
set_option linter.unusedSimpArgs false
set_option linter.unusedVariables false
namespace Go.Proofs.Ytabaflklognhaaa
open Go.RowKit Go.ChangeMaps

def kept (f : Int) (Q : List Sec) : List Sec := Q.filter fun p => !decide (p.1 = f)
theorem kept_snoc (f : Int) {Q : List Sec} {j : Nat} (h : j < Q.length) : kept f (Q.take (j + 1)) = if Q[j].1 = f then kept f (Q.take j) else kept f (Q.take j) ++ [Q[j]] := by
  rw [List.take_succ_eq_append_getElem h]
  unfold kept
  rw [List.filter_append]
  by_cases he : Q[j].1 = f
  · simp [he]
  · simp [he]
theorem kept_all {f : Int} {Q : List Sec} (h : ∀ p ∈ Q, p.1 ≠ f) : kept f Q = Q := by
  unfold kept
  rw [List.filter_eq_self]
  intro p hp
  simp [h p hp]
/-- how far DeleteFunc has come: i places are settled, the places from j on are as they were -/
structure Come (f : Int) (Q : List Sec) (i j : Nat) (B : List D) : Prop where
  lt : i < j
  le : j ≤ Q.length
  len : B.length = 2 * Q.length
  cnt : i = (kept f (Q.take j)).length
  head : B.take (2 * i) = flatD (kept f (Q.take j))
  tail : B.drop (2 * j) = flatD (Q.drop j)
theorem Come.start {f : Int} {Q : List Sec} {i : Nat} (h : i < Q.length) (he : Q[i].1 = f) (hs : ∀ p ∈ Q.take i, p.1 ≠ f) : Come f Q i (i + 1) (flatD Q) := by
  have hk : kept f (Q.take (i + 1)) = Q.take i := by rw [kept_snoc f h, if_pos he, kept_all hs]
  refine ⟨by omega, by omega, flatD_len Q, by rw [hk]; simp; omega, ?_, flatD_drop Q (i + 1)⟩
  rw [hk]
  have e : flatD Q = flatD (Q.take i) ++ flatD (Q.drop i) := by rw [← flatD_app, List.take_append_drop]
  rw [e, List.take_append_of_le_length (by rw [flatD_len]; simp; omega), List.take_of_length_le (by rw [flatD_len]; simp; omega)]
theorem Come.skip {f : Int} {Q : List Sec} {i j : Nat} {B : List D} (h : Come f Q i j B) (hj : j < Q.length) (he : Q[j].1 = f) : Come f Q i (j + 1) B := by
  obtain ⟨h1, h2, h3, h4, h5, h6⟩ := h
  refine ⟨by omega, by omega, h3, ?_, ?_, ?_⟩
  · rw [kept_snoc f hj, if_pos he]; exact h4
  · rw [kept_snoc f hj, if_pos he]; exact h5
  · rw [show 2 * (j + 1) = 2 * j + 2 by omega, ← List.drop_drop, h6, ← flatD_drop, ← flatD_drop, List.drop_drop]
    congr 1
theorem Come.get {f : Int} {Q : List Sec} {i j : Nat} {B : List D} (h : Come f Q i j B) (hj : j < Q.length) : (B.drop (2 * j)).take 2 = [D.int Q[j].1, D.int Q[j].2] := by
  rw [h.tail, ← flatD_drop, flatD_get hj]
theorem Come.move {f : Int} {Q : List Sec} {i j : Nat} {B : List D} (h : Come f Q i j B) (hj : j < Q.length) (he : ¬ Q[j].1 = f) : Come f Q (i + 1) (j + 1) (putD B (2 * i) [D.int Q[j].1, D.int Q[j].2]) := by
  have hk := kept_snoc f hj
  rw [if_neg he] at hk
  obtain ⟨h1, h2, h3, h4, h5, h6⟩ := h
  have hl : (putD B (2 * i) [D.int Q[j].1, D.int Q[j].2]).length = B.length := by simp [putD]; omega
  refine ⟨by omega, by omega, by rw [hl, h3], by rw [hk, List.length_append, ← h4]; rfl, ?_, ?_⟩
  · rw [hk, flatD_app, ← h5, show flatD [Q[j]] = [D.int Q[j].1, D.int Q[j].2] from rfl]
    unfold putD
    rw [show 2 * (i + 1) = (B.take (2 * i) ++ [D.int Q[j].1, D.int Q[j].2]).length by simp; omega, List.take_left]
  · unfold putD
    rw [show 2 * (j + 1) = (B.take (2 * i) ++ [D.int Q[j].1, D.int Q[j].2]).length + 2 * (j - i) by simp; omega, ← List.drop_drop, List.drop_left, List.drop_drop]
    have e : 2 * i + [D.int Q[j].1, D.int Q[j].2].length + 2 * (j - i) = 2 * j + 2 := by simp; omega
    rw [e, ← List.drop_drop, h6, ← flatD_drop, ← flatD_drop, List.drop_drop]
    congr 1
theorem idx_none {f : Int} {Q : List Sec} {r : Int} (h : Idx f Q r) (hn : ∀ p ∈ Q, p.1 ≠ f) : r = -1 := by
  rcases h with ⟨h, _⟩ | ⟨i, hi, _, he, _⟩
  · exact h
  · exact absurd he (hn _ (List.getElem_mem hi))
theorem idx_some {f : Int} {Q : List Sec} {r : Int} (h : Idx f Q r) {i : Nat} (hi : i < Q.length) (he : Q[i].1 = f) (hs : ∀ p ∈ Q.take i, p.1 ≠ f) : r = i := by
  have mem : ∀ {a b : Nat} (hb : b < Q.length), b < a → Q[b] ∈ Q.take a := fun {a b} hb hab => by
    rw [List.mem_take_iff_getElem]
    exact ⟨b, by omega, rfl⟩
  rcases h with ⟨_, hn⟩ | ⟨j, hj, rfl, hje, hjs⟩
  · exact absurd he (hn _ (List.getElem_mem hi))
  · rcases Nat.lt_trichotomy i j with hlt | rfl | hlt
    · exact absurd he (hjs _ (mem hi hlt))
    · rfl
    · exact absurd hje (hs _ (mem hj hlt))
theorem idx_cases (f : Int) (Q : List Sec) : (∀ p ∈ Q, p.1 ≠ f) ∨ ∃ i, ∃ h : i < Q.length, Q[i].1 = f ∧ ∀ p ∈ Q.take i, p.1 ≠ f := by
  induction Q with
  | nil => exact .inl (by simp)
  | cons p Q ih =>
    by_cases h : p.1 = f
    · exact .inr ⟨0, by simp, h, by simp⟩
    · rcases ih with h1 | ⟨i, hi, h1, h2⟩
      · refine .inl fun q hq => ?_
        rcases List.mem_cons.1 hq with rfl | hq
        · exact h
        · exact h1 q hq
      · refine .inr ⟨i + 1, by simpa using hi, by simpa using h1, fun q hq => ?_⟩
        rw [List.take_succ_cons] at hq
        rcases List.mem_cons.1 hq with rfl | hq
        · exact h
        · exact h2 q hq
def DelPost (f : Int) (Q : List Sec) (m : Nat) (x : V) (o : Objs) : Prop := ∃ Z, ((flatD Q).map V.d ++ List.replicate m V.und).length = ((flatD (kept f Q)).map V.d ++ Z).length ∧ x = .sl 1001 0 (kept f Q).length ∧ o = [(1001, .box 70 ((flatD (kept f Q)).map V.d ++ Z)), (1000, capB f)]
set_option maxHeartbeats 16000000 in
set_option maxRecDepth 20000 in
theorem delq_box (f : Int) (Q : List Sec) (m : Nat) (hQ : Q.length ≤ 4194320) (h0 : 0 < Q.length) : ObC 56 [.sl 1001 0 Q.length, .clo (.func 57) [.box 1000 0]] [(1001, rowB (flatD Q) m), (1000, capB f)] [] (DelPost f Q m) := by
  rcases idx_cases f Q with hn | ⟨i, hi, he, hs⟩
  · have hix := (index_any f Q m hQ).mono (Q := fun x o => x = .d (.int (-1)) ∧ o = [(1001, rowB (flatD Q) m), (1000, capB f)]) (fun x o ⟨⟨r, h1, h2⟩, h3⟩ => ⟨by rw [h1, idx_none h2 hn], h3⟩)
    have hq1 : decide ((-1 : Int) = -1) = true := rfl
    refine ob_enter Try.func56 rfl (by decide) _ Try.ntmps56 (le_ok rfl) rfl (fun w Pr β κ hE => ?_)
    dsimp only [slotsV, Nat.zero_add, Nat.reduceAdd]
    repeat' (first | (apply at_call; refine k_ocall [(1001, 1001), (1000, 1000)] (hix) hE ?_; rintro _ _ ⟨rfl, rfl⟩ <;> (intro _ _ h1 h2; simp only [renEqs, Nat.reduceBEq, renL_app, renL_ds, renL_und] at h1 h2; subst h1 h2)) | apply aw_seq | apply aw_region | apply al_nil | apply aq_np | apply aq_then | apply aq_then_x | apply aq_then_r | apply aq_block_x | (apply aq_block_y; decide) | apply aq_block_r | apply aq_block | apply aw_block | apply aw_skip | apply aw_exit | apply aw_ret | (apply at_op (.move _); refine r_move ?_) | (apply at_op (.assign _); refine r_assign ?_) | (apply at_cond; first | refine c_t ?_ | refine c_f ?_ | (refine aw_cond rfl (fun hb => ?_) (fun hb => ?_) <;> ((first | have hq := of_decide_eq_true hb | have hq := of_decide_eq_false hb | have hq := dNT hb | have hq := dNF hb | skip); (try (exfalso; omega))))) | (apply at_op (.binOp .lss _ _ _ _); refine r_lss ?_) | (apply at_op (.binOp .eql _ _ _ _); refine r_eql ?_) | (apply at_op (.binOp .add _ _ _ _); refine r_add ?_) | (apply at_op (.unOp .not _ _); refine r_not ?_) | (apply at_op (.call { callee := .builtin .len, args := _, argTypes := _ }); refine r_len ?_) | (apply at_op (.slice _ _ _ _ _); refine r_slice ?_) | (apply at_op (.indexAddr _ _ _); refine r_ix ?_) | (apply at_op (.load _ _); refine r_load ?_) | (apply at_op (.alloc _); refine r_alloc ?_) | (apply at_op (.store _ _ _); refine r_store ?_))
    refine oret1 ([(1001, rowB (flatD Q) m), (1000, capB f)]) (by rfl) (by first | exact ResV.x _ _ (ResX.tmp _ _ (by first | exact ToD.d _ | exact ToD.row _ _ _ _ _ rfl | exact ToD.nil _)) | exact ResV.tmp _ _ rfl | exact ResV.x _ _ (ResX.cellA _ _ _ _ _ _ _ rfl rfl rfl (by first | (simp only [normV, normList, normMap]; rfl) | rfl) rfl)) (⟨List.replicate m V.und, by rw [kept_all hn], by rw [kept_all hn]; rfl, by rw [kept_all hn]⟩) (by (repeat (first | exact obs_nil | (apply obs_cons; focus (first | rfl | (simp [find]; done)))))) (by first | (simp [okOut, V.within, V.withinL, O.within, keys, mem, look, nbeq_def, withinL_app, withinL_ds, withinL_und]; done) | rfl)
  · have hix := (index_any f Q m hQ).mono (Q := fun x o => x = .d (.int i) ∧ o = [(1001, rowB (flatD Q) m), (1000, capB f)]) (fun x o ⟨⟨r, h1, h2⟩, h3⟩ => ⟨by rw [h1, idx_some h2 hi he hs], h3⟩)
    refine ob_enter Try.func56 rfl (by decide) _ Try.ntmps56 (le_ok rfl) rfl (fun w Pr β κ hE => ?_)
    dsimp only [slotsV, Nat.zero_add, Nat.reduceAdd]
    repeat' (first | (apply at_call; refine k_ocall [(1001, 1001), (1000, 1000)] (hix) hE ?_; rintro _ _ ⟨rfl, rfl⟩ <;> (intro _ _ h1 h2; simp only [renEqs, Nat.reduceBEq, renL_app, renL_ds, renL_und] at h1 h2; subst h1 h2)) | apply aw_seq | apply aw_region | apply al_nil | apply aq_np | apply aq_then | apply aq_then_x | apply aq_then_r | apply aq_block_x | (apply aq_block_y; decide) | apply aq_block_r | apply aq_block | apply aw_block | apply aw_skip | apply aw_exit | apply aw_ret | (apply at_op (.move _); refine r_move ?_) | (apply at_op (.assign _); refine r_assign ?_) | (apply at_cond; first | refine c_t ?_ | refine c_f ?_ | (refine aw_cond rfl (fun hb => ?_) (fun hb => ?_) <;> ((first | have hq := of_decide_eq_true hb | have hq := of_decide_eq_false hb | have hq := dNT hb | have hq := dNF hb | skip); (try (exfalso; omega))))) | (apply at_op (.binOp .lss _ _ _ _); refine r_lss ?_) | (apply at_op (.binOp .eql _ _ _ _); refine r_eql ?_) | (apply at_op (.binOp .add _ _ _ _); refine r_add ?_) | (apply at_op (.unOp .not _ _); refine r_not ?_) | (apply at_op (.call { callee := .builtin .len, args := _, argTypes := _ }); refine r_len ?_) | (apply at_op (.slice _ _ _ _ _); refine r_slice ?_) | (apply at_op (.indexAddr _ _ _); refine r_ix ?_) | (apply at_op (.load _ _); refine r_load ?_) | (apply at_op (.alloc _); refine r_alloc ?_) | (apply at_op (.store _ _ _); refine r_store ?_))
    refine aw_loop2 (fun N sl ob => ∃ (i j : Nat) (B : List D), N = Q.length - j ∧ Come f Q i j B ∧ sl = [(6, .d (.int j)), (5, .d (.int i)), (1, .clo (.func 57) [.box 1000 0]), (0, .sl 1001 0 Q.length)] ∧ ob = [(1001, rowB B m), (1000, capB f)]) (_) _ _ (⟨i, i + 1, _, rfl, Come.start hi he hs, rfl, rfl⟩) ?_ ?_ ?_
    · (repeat (first | exact sub_nil | (apply sub_cons; focus (first | rfl | exact vint (by first | omega) | (simp [look]; done)))))
    · (repeat (first | exact obs_nil | (apply obs_cons; focus (first | rfl | (simp [find]; done)))))
    clear hi he hs hix
    rintro N sl ob ⟨i, j, B, rfl, hC, rfl, rfl⟩
    have c1 := hC.lt
    have c2 := hC.le
    have c3 := hC.len
    by_cases hlt : j < Q.length
    · have hld : unD (((B.map V.d ++ List.replicate m V.und).drop (0 + j * 2)).take 2) = some [D.int Q[j].1, D.int Q[j].2] := by
        rw [unD_part (by omega), show 0 + j * 2 = 2 * j by omega, hC.get hlt]
      have hno : ∀ i, V.hasL i (B.map V.d ++ List.replicate m V.und) = false := fun i => by rw [hasL_app, hasL_ds, hasL_und]; rfl
      have hc := clo1_any f Q[j].1 Q[j].2
      by_cases hf : Q[j].1 = f
      · have hq1 : decide (Q[j].1 = f) = true := decide_eq_true hf
        have hq2 : (!decide (Q[j].1 = f)) = false := by rw [hq1]; rfl
        repeat' (first | (apply at_op (.indexAddr _ _ _); refine al_y (y_slix rfl rfl rfl rfl hlt rfl) (lt_ok rfl) ?_) | (apply at_op (.load _ _); first | refine al_y (y_bloadA rfl rfl rfl hld rfl) (lt_ok rfl) ?_ | refine al_y (y_bloadA rfl rfl rfl (by first | (simp only [normV, normList, normMap]; rfl) | rfl) rfl) (lt_ok rfl) ?_) | (apply at_op (.alloc _); refine al_step (st_alloc rfl (by first | (simp only [normV, normList, normMap]; rfl) | rfl) rfl (lt_ok rfl) (by simp [noneOf, V.has, V.hasL, O.has, hasL_app, hasL_ds, hasL_und, nbeq_def])) rfl ?_) | (apply at_call; refine k_clocall1 [(1000, 1000)] (hc) hE ?_; rintro _ _ ⟨rfl, rfl⟩ <;> (intro _ _ h1 h2; simp only [renEqs, Nat.reduceBEq, renL_app, renL_ds, renL_und] at h1 h2; subst h1 h2)) | apply aw_seq | apply aw_region | apply al_nil | apply aq_np | apply aq_then | apply aq_then_x | apply aq_then_r | apply aq_block_x | (apply aq_block_y; decide) | apply aq_block_r | apply aq_block | apply aw_block | apply aw_skip | apply aw_exit | apply aw_ret | (apply at_op (.move _); refine r_move ?_) | (apply at_op (.assign _); refine r_assign ?_) | (apply at_cond; first | refine c_t ?_ | refine c_f ?_ | (refine aw_cond rfl (fun hb => ?_) (fun hb => ?_) <;> ((first | have hq := of_decide_eq_true hb | have hq := of_decide_eq_false hb | have hq := dNT hb | have hq := dNF hb | skip); (try (exfalso; omega))))) | (apply at_op (.binOp .lss _ _ _ _); refine r_lss ?_) | (apply at_op (.binOp .eql _ _ _ _); refine r_eql ?_) | (apply at_op (.binOp .add _ _ _ _); refine r_add ?_) | (apply at_op (.unOp .not _ _); refine r_not ?_) | (apply at_op (.call { callee := .builtin .len, args := _, argTypes := _ }); refine r_len ?_) | (apply at_op (.slice _ _ _ _ _); refine r_slice ?_) | (apply at_op (.indexAddr _ _ _); refine r_ix ?_) | (apply at_op (.load _ _); refine r_load ?_) | (apply at_op (.alloc _); refine r_alloc ?_) | (apply at_op (.store _ _ _); refine r_store ?_))
        refine aq_round _ _ _ (⟨i, j + 1, B, rfl, hC.skip hlt hf, rfl, rfl⟩) (by omega) ?_ ?_
        · (repeat (first | exact sub_nil | (apply sub_cons; focus (first | rfl | exact vint (by first | omega) | (simp [look]; done)))))
        · (repeat (first | exact obs_nil | (apply obs_cons; focus (first | rfl | (simp [find]; done)))))
      · have hput : Go.Proofs.Ytabaflklognhaaa.put (B.map V.d ++ List.replicate m V.und) (i * 2) [.d (.int Q[j].1), .d (.int Q[j].2)] = (putD B (2 * i) [D.int Q[j].1, D.int Q[j].2]).map V.d ++ List.replicate m V.und := by
          rw [Nat.mul_comm]
          exact put_ds (n := [D.int Q[j].1, D.int Q[j].2]) (by simp; omega)
        have hq1 : decide (Q[j].1 = f) = false := decide_eq_false hf
        have hq2 : (!decide (Q[j].1 = f)) = true := by rw [hq1]; rfl
        repeat' (first | (apply at_op (.indexAddr _ _ _); refine al_y (y_slix rfl rfl rfl rfl hlt rfl) (lt_ok rfl) ?_) | (apply at_op (.load _ _); first | refine al_y (y_bloadA rfl rfl rfl hld rfl) (lt_ok rfl) ?_ | refine al_y (y_bloadA rfl rfl rfl (by first | (simp only [normV, normList, normMap]; rfl) | rfl) rfl) (lt_ok rfl) ?_) | (apply at_op (.alloc _); refine al_step (st_alloc rfl (by first | (simp only [normV, normList, normMap]; rfl) | rfl) rfl (lt_ok rfl) (by simp [noneOf, V.has, V.hasL, O.has, hasL_app, hasL_ds, hasL_und, nbeq_def])) rfl ?_) | (apply at_call; refine k_clocall1 [(1000, 1000)] (hc) hE ?_; rintro _ _ ⟨rfl, rfl⟩ <;> (intro _ _ h1 h2; simp only [renEqs, Nat.reduceBEq, renL_app, renL_ds, renL_und] at h1 h2; subst h1 h2)) | (apply at_op (.store _ _ _); refine al_step (st_store (i := 1001) (n := [.d (.int Q[j].1), .d (.int Q[j].2)]) rfl rfl (ev_d rfl) nofun rfl (by simp [V.one, Value.oneCell']) (.inr rfl) rfl (by simp; omega) hput) rfl ?_) | apply aw_seq | apply aw_region | apply al_nil | apply aq_np | apply aq_then | apply aq_then_x | apply aq_then_r | apply aq_block_x | (apply aq_block_y; decide) | apply aq_block_r | apply aq_block | apply aw_block | apply aw_skip | apply aw_exit | apply aw_ret | (apply at_op (.move _); refine r_move ?_) | (apply at_op (.assign _); refine r_assign ?_) | (apply at_cond; first | refine c_t ?_ | refine c_f ?_ | (refine aw_cond rfl (fun hb => ?_) (fun hb => ?_) <;> ((first | have hq := of_decide_eq_true hb | have hq := of_decide_eq_false hb | have hq := dNT hb | have hq := dNF hb | skip); (try (exfalso; omega))))) | (apply at_op (.binOp .lss _ _ _ _); refine r_lss ?_) | (apply at_op (.binOp .eql _ _ _ _); refine r_eql ?_) | (apply at_op (.binOp .add _ _ _ _); refine r_add ?_) | (apply at_op (.unOp .not _ _); refine r_not ?_) | (apply at_op (.call { callee := .builtin .len, args := _, argTypes := _ }); refine r_len ?_) | (apply at_op (.slice _ _ _ _ _); refine r_slice ?_) | (apply at_op (.indexAddr _ _ _); refine r_ix ?_) | (apply at_op (.load _ _); refine r_load ?_) | (apply at_op (.alloc _); refine r_alloc ?_) | (apply at_op (.store _ _ _); refine r_store ?_))
        refine aq_round _ _ _ (⟨i + 1, j + 1, _, rfl, hC.move hlt hf, rfl, rfl⟩) (by omega) ?_ ?_
        · (repeat (first | exact sub_nil | (apply sub_cons; focus (first | rfl | exact vint (by first | omega) | (simp [look]; done)))))
        · (repeat (first | exact obs_nil | (apply obs_cons; focus (first | rfl | (simp [find]; done)))))
    · have hj : j = Q.length := by omega
      subst hj
      have hk : i = (kept f Q).length := by have := hC.cnt; rwa [List.take_length] at this
      have hh : B.take (2 * i) = flatD (kept f Q) := by have := hC.head; rwa [List.take_length] at this
      have hio : i * 2 + (Q.length - i) * 2 ≤ (B.map V.d ++ List.replicate m V.und).length := by simp; omega
      repeat' (first | (apply at_op (.slice _ _ none (some _) none); refine al_y (y_sub_slH (o := 0) (n := Q.length) (h1 := i) rfl rfl (high_some rfl rfl) (by omega) (by omega)) (lt_ok rfl) ?_) | (apply at_op (.slice _ _ (some _) none none); refine al_y (y_sub_slA (o := 0) (n := Q.length) (l1 := i) (es := 2) (r := i * 2) (q := Q.length - i) rfl rfl (low_some rfl rfl) (by omega) (by decide) (by omega) rfl) (lt_ok rfl) ?_) | (apply at_op (.call { callee := .builtin .clear, args := _, argTypes := _ }); refine al_step (st_clear rfl rfl rfl rfl rfl hio) rfl ?_) | apply aw_seq | apply aw_region | apply al_nil | apply aq_np | apply aq_then | apply aq_then_x | apply aq_then_r | apply aq_block_x | (apply aq_block_y; decide) | apply aq_block_r | apply aq_block | apply aw_block | apply aw_skip | apply aw_exit | apply aw_ret | (apply at_op (.move _); refine r_move ?_) | (apply at_op (.assign _); refine r_assign ?_) | (apply at_cond; first | refine c_t ?_ | refine c_f ?_ | (refine aw_cond rfl (fun hb => ?_) (fun hb => ?_) <;> ((first | have hq := of_decide_eq_true hb | have hq := of_decide_eq_false hb | have hq := dNT hb | have hq := dNF hb | skip); (try (exfalso; omega))))) | (apply at_op (.binOp .lss _ _ _ _); refine r_lss ?_) | (apply at_op (.binOp .eql _ _ _ _); refine r_eql ?_) | (apply at_op (.binOp .add _ _ _ _); refine r_add ?_) | (apply at_op (.unOp .not _ _); refine r_not ?_) | (apply at_op (.call { callee := .builtin .len, args := _, argTypes := _ }); refine r_len ?_) | (apply at_op (.slice _ _ _ _ _); refine r_slice ?_) | (apply at_op (.indexAddr _ _ _); refine r_ix ?_) | (apply at_op (.load _ _); refine r_load ?_) | (apply at_op (.alloc _); refine r_alloc ?_) | (apply at_op (.store _ _ _); refine r_store ?_))
      have hbox : Go.Proofs.Ytabaflklognhaaa.put (B.map V.d ++ List.replicate m V.und) (i * 2) (List.replicate ((Q.length - i) * 2) .und) = (flatD (kept f Q)).map V.d ++ (List.replicate ((Q.length - i) * 2) .und ++ List.replicate m V.und) := by
        unfold Go.Proofs.Ytabaflklognhaaa.put
        rw [List.take_append_of_le_length (by simp; omega), ← List.map_take, Nat.mul_comm, hh, List.drop_append, List.drop_of_length_le (by simp; omega), List.append_assoc]
        congr 2
        rw [List.length_replicate, List.length_map]
        have e : 2 * i + 2 * (Q.length - i) - B.length = 0 := by omega
        have e2 : i * 2 + (Q.length - i) * 2 - B.length = 0 := by omega
        simp [Nat.mul_comm, e]
        omega
      rw [hbox]
      refine oret1 ([(1001, .box 70 ((flatD (kept f Q)).map V.d ++ (List.replicate ((Q.length - i) * 2) .und ++ List.replicate m V.und))), (1000, capB f)]) (by rfl) (by first | exact ResV.x _ _ (ResX.tmp _ _ (by first | exact ToD.d _ | exact ToD.row _ _ _ _ _ rfl | exact ToD.nil _)) | exact ResV.tmp _ _ rfl | exact ResV.x _ _ (ResX.cellA _ _ _ _ _ _ _ rfl rfl rfl (by first | (simp only [normV, normList, normMap]; rfl) | rfl) rfl)) (⟨_, by simp [flatD_len]; omega, by rw [← hk]; rfl, rfl⟩) (by (repeat (first | exact obs_nil | (apply obs_cons; focus (first | rfl | (simp [find]; done)))))) (by first | (simp [okOut, V.within, V.withinL, O.within, keys, mem, look, nbeq_def, withinL_app, withinL_ds, withinL_und]; done) | rfl)
end Go.Proofs.Ytabaflklognhaaa
