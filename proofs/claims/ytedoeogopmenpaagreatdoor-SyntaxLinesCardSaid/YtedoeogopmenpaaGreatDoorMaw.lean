/-
  Conditions: none.
-/
import Derived.Test.YtedoeogopmenpaaGreatDoorMav
set_option maxHeartbeats 16000000
set_option maxRecDepth 20000
section
set_option linter.unusedSimpArgs false
set_option linter.unusedVariables false
namespace Go.Proofs.YtedoeogopmenpaaGreatDoor
open Go.RowKit
structure By.came (x : By) : Prop where
 name : x.name.size ≤ 9223372036854775807
 len : x.lets.length ≤ 9223372036854775807
 lets : ∀ q ∈ x.lets, q.1.size ≤ 9223372036854775807 ∧ q.2.came
 admit : x.admit.came
 fare : x.fare.came
 late : x.late.came
 noshow : x.noshow.came
abbrev FewR (x : By) : D → Prop := fun r => ∃ b : Bool, r = .bool b ∧ (b = true → x.tame ∧ x.lets.length ≤ 22)
theorem few_no {x : By} : FewR x (.bool false) := ⟨false, rfl, fun h => by cases h⟩
theorem few_any (x : By) (hx : x.came) : PureC 17 [.agg (byC x)] (FewR x) := by
 have k1 := fewE_any x.admit hx.admit
 have k2 := fewE_any x.fare hx.fare
 have k3 := fewE_any x.late hx.late
 have k4 := fewE_any x.noshow hx.noshow
 have hml : (x.lets.map letC).length = x.lets.length := List.length_map ..
 have hnz := hx.name
 have hlz := hx.len
 by_cases hl : 22 < x.lets.length
 ·have q0 : decide ((22 : Int) < (x.lets.map letC).length) = true := decide_eq_true (by omega)
  refine pure_enter Tryz.func17 rfl (by decide) _ Tryz.ntmps17 (le_ok rfl) (fun w Pr hE => ?_)
  dsimp only [slotsOf, Nat.zero_add, Nat.reduceAdd]
  repeat' (first | refine nx ?_ | (apply aq_block_y; decide) | (apply qr_move; refine r_move ?_) | (apply qr_assign; refine r_assign ?_) | (apply at_cond; first | refine c_t ?_ | refine c_f ?_ | (refine aw_cond rfl (fun hb => ?_) (fun hb => ?_) <;> ((try have hq := dX hb); (try (exfalso; omega))))) | (apply at_guard; first | refine g_go ?_ | refine g_nt ?_ | refine g_nf ?_ | refine g_nu ?_ | ((first | refine al_split_t rfl rfl (lt_ok rfl) (fun hb => ?_) (fun hb => ?_) | refine al_split_f rfl rfl (lt_ok rfl) (fun hb => ?_) (fun hb => ?_)) <;> ((try have hq := dX hb); (try (exfalso; omega))))) | (apply qr_pick; refine r_pick ?_) | (apply qr_gtr; refine r_gtr ?_) | (apply qr_not; refine r_not ?_) | (apply qr_len; refine r_len ?_) | (apply qr_load; refine r_load ?_) | (apply qr_faddr; refine r_faddr ?_) | (apply qr_boxed; refine r_boxed ?_))
  refine rt1 ?_
  exact few_no
 have q0 : decide ((22 : Int) < (x.lets.map letC).length) = false := decide_eq_false (by omega)
 by_cases hn : 40 < x.name.size
 ·have q1 : decide ((40 : Int) < x.name.size) = true := decide_eq_true (by omega)
  refine pure_enter Tryz.func17 rfl (by decide) _ Tryz.ntmps17 (le_ok rfl) (fun w Pr hE => ?_)
  dsimp only [slotsOf, Nat.zero_add, Nat.reduceAdd]
  repeat' (first | refine nx ?_ | (apply aq_block_y; decide) | (apply qr_move; refine r_move ?_) | (apply qr_assign; refine r_assign ?_) | (apply at_cond; first | refine c_t ?_ | refine c_f ?_ | (refine aw_cond rfl (fun hb => ?_) (fun hb => ?_) <;> ((try have hq := dX hb); (try (exfalso; omega))))) | (apply at_guard; first | refine g_go ?_ | refine g_nt ?_ | refine g_nf ?_ | refine g_nu ?_ | ((first | refine al_split_t rfl rfl (lt_ok rfl) (fun hb => ?_) (fun hb => ?_) | refine al_split_f rfl rfl (lt_ok rfl) (fun hb => ?_) (fun hb => ?_)) <;> ((try have hq := dX hb); (try (exfalso; omega))))) | (apply qr_pick; refine r_pick ?_) | (apply qr_gtr; refine r_gtr ?_) | (apply qr_not; refine r_not ?_) | (apply qr_len; refine r_len ?_) | (apply qr_load; refine r_load ?_) | (apply qr_faddr; refine r_faddr ?_) | (apply qr_boxed; refine r_boxed ?_))
  refine rt1 ?_
  exact few_no
 have q1 : decide ((40 : Int) < x.name.size) = false := decide_eq_false (by omega)
 refine pure_enter Tryz.func17 rfl (by decide) _ Tryz.ntmps17 (le_ok rfl) (fun w Pr hE => ?_)
 dsimp only [slotsOf, Nat.zero_add, Nat.reduceAdd]
 repeat' (first | (apply at_call; refine k_call (k1) hE ?_; (rintro _ ⟨b1, rfl, t1⟩; clear k1; cases b1)) | (apply at_call; refine k_call (k2) hE ?_; (rintro _ ⟨b2, rfl, t2⟩; clear k2; cases b2)) | (apply at_call; refine k_call (k3) hE ?_; (rintro _ ⟨b3, rfl, t3⟩; clear k3; cases b3)) | (apply at_call; refine k_call (k4) hE ?_; (rintro _ ⟨b4, rfl, t4⟩; clear k4; cases b4)) | refine nx ?_ | (apply aq_block_y; decide) | (apply qr_move; refine r_move ?_) | (apply qr_assign; refine r_assign ?_) | (apply at_cond; first | refine c_t ?_ | refine c_f ?_ | (refine aw_cond rfl (fun hb => ?_) (fun hb => ?_) <;> ((try have hq := dX hb); (try (exfalso; omega))))) | (apply at_guard; first | refine g_go ?_ | refine g_nt ?_ | refine g_nf ?_ | refine g_nu ?_ | ((first | refine al_split_t rfl rfl (lt_ok rfl) (fun hb => ?_) (fun hb => ?_) | refine al_split_f rfl rfl (lt_ok rfl) (fun hb => ?_) (fun hb => ?_)) <;> ((try have hq := dX hb); (try (exfalso; omega))))) | (apply qr_pick; refine r_pick ?_) | (apply qr_gtr; refine r_gtr ?_) | (apply qr_not; refine r_not ?_) | (apply qr_len; refine r_len ?_) | (apply qr_load; refine r_load ?_) | (apply qr_faddr; refine r_faddr ?_) | (apply qr_boxed; refine r_boxed ?_))
 ·skip
  refine rt1 ?_
  exact few_no
 ·skip
  refine rt1 ?_
  exact few_no
 ·skip
  refine rt1 ?_
  exact few_no
 ·skip
  refine rt1 ?_
  exact few_no
 have ta1 := t1 rfl
 have ta2 := t2 rfl
 have ta3 := t3 rfl
 have ta4 := t4 rfl
 clear q0 q1
 refine aw_lp (fun N sl ob => ∃ i : Nat, N = x.lets.length - i ∧ i ≤ x.lets.length ∧ (∀ (j : Nat) (hj : j < x.lets.length), j < i → letTame x.lets[j]) ∧ sl = [(3, .d (.int i)), (2, .d (.bool false)), (1, .box 1 0)] ∧ ob = [(1, byO' x)]) (⟨0, rfl, Nat.zero_le _, fun j _ h => by omega, rfl, rfl⟩) ?_
 rintro N sl ob ⟨i, rfl, hi, ha, rfl, rfl⟩
 by_cases hlt : i < x.lets.length
 ·have hg : (x.lets.map letC)[i]? = some (letC x.lets[i]) := by rw [get_map hlt]
  have hcm := hx.lets _ (List.getElem_mem hlt)
  have hc := fewE_any x.lets[i].2 hcm.2
  have q : decide ((i : Int) < (x.lets.map letC).length) = true := decide_eq_true (by omega)
  have hnext : letTame x.lets[i] → ∀ (j : Nat) (hj : j < x.lets.length), j < i + 1 → letTame x.lets[j] := fun h j hj hji => by
   rcases Nat.lt_succ_iff_lt_or_eq.1 hji with h2 | rfl
   ·exact ha j hj h2
   ·exact h
  generalize x.lets[i] = z at hg hc hcm hnext
  have hzz := hcm.1
  by_cases hz : 40 < z.1.size
  ·have q2 : decide ((40 : Int) < z.1.size) = true := decide_eq_true (by omega)
   repeat' (first | (apply at_op (.indexAddr _ _ _); refine al_ixq hg ?_) | refine nx ?_ | (apply aq_block_y; decide) | (apply qr_move; refine r_move ?_) | (apply qr_assign; refine r_assign ?_) | (apply at_cond; first | refine c_t ?_ | refine c_f ?_ | (refine aw_cond rfl (fun hb => ?_) (fun hb => ?_) <;> ((try have hq := dX hb); (try (exfalso; omega))))) | (apply at_guard; first | refine g_go ?_ | refine g_nt ?_ | refine g_nf ?_ | refine g_nu ?_ | ((first | refine al_split_t rfl rfl (lt_ok rfl) (fun hb => ?_) (fun hb => ?_) | refine al_split_f rfl rfl (lt_ok rfl) (fun hb => ?_) (fun hb => ?_)) <;> ((try have hq := dX hb); (try (exfalso; omega))))) | (apply qr_pick; refine r_pick ?_) | (apply qr_lss; refine r_lss ?_) | (apply qr_gtr; refine r_gtr ?_) | (apply qr_not; refine r_not ?_) | (apply qr_len; refine r_len ?_) | (apply qr_ix; refine r_ix ?_) | (apply qr_load; refine r_load ?_) | (apply qr_faddr; refine r_faddr ?_))
   refine rt1 ?_
   exact few_no
  ·have q2 : decide ((40 : Int) < z.1.size) = false := decide_eq_false (by omega)
   repeat' (first | (apply at_op (.indexAddr _ _ _); refine al_ixq hg ?_) | (apply at_call; refine k_call (hc) hE ?_; (rintro _ ⟨b5, rfl, t5⟩; cases b5)) | refine nx ?_ | (apply aq_block_y; decide) | (apply qr_move; refine r_move ?_) | (apply qr_assign; refine r_assign ?_) | (apply at_cond; first | refine c_t ?_ | refine c_f ?_ | (refine aw_cond rfl (fun hb => ?_) (fun hb => ?_) <;> ((try have hq := dX hb); (try (exfalso; omega))))) | (apply at_guard; first | refine g_go ?_ | refine g_nt ?_ | refine g_nf ?_ | refine g_nu ?_ | ((first | refine al_split_t rfl rfl (lt_ok rfl) (fun hb => ?_) (fun hb => ?_) | refine al_split_f rfl rfl (lt_ok rfl) (fun hb => ?_) (fun hb => ?_)) <;> ((try have hq := dX hb); (try (exfalso; omega))))) | (apply qr_pick; refine r_pick ?_) | (apply qr_lss; refine r_lss ?_) | (apply qr_gtr; refine r_gtr ?_) | (apply qr_not; refine r_not ?_) | (apply qr_len; refine r_len ?_) | (apply qr_ix; refine r_ix ?_) | (apply qr_load; refine r_load ?_) | (apply qr_faddr; refine r_faddr ?_))
   ·skip
    refine rt1 ?_
    exact few_no
   repeat' (first | refine nx ?_ | (apply aq_block_y; decide) | (apply qr_move; refine r_move ?_) | (apply qr_assign; refine r_assign ?_) | (apply at_cond; first | refine c_t ?_ | refine c_f ?_ | (refine aw_cond rfl (fun hb => ?_) (fun hb => ?_) <;> ((try have hq := dX hb); (try (exfalso; omega))))) | (apply qr_add; refine r_add ?_))
   refine aq_rd (⟨i + 1, rfl, by omega, hnext ⟨by omega, t5 rfl⟩, rfl, rfl⟩) (by omega)
 ·have q : decide ((i : Int) < (x.lets.map letC).length) = false := decide_eq_false (by omega)
  repeat' (first | refine nx ?_ | (apply aq_block_y; decide) | (apply qr_move; refine r_move ?_) | (apply qr_assign; refine r_assign ?_) | (apply at_cond; first | refine c_t ?_ | refine c_f ?_ | (refine aw_cond rfl (fun hb => ?_) (fun hb => ?_) <;> ((try have hq := dX hb); (try (exfalso; omega))))) | (apply qr_lss; refine r_lss ?_) | (apply qr_len; refine r_len ?_) | (apply qr_load; refine r_load ?_) | (apply qr_faddr; refine r_faddr ?_))
  refine rt1 ?_
  refine ⟨true, rfl, fun _ => ⟨⟨by omega, by omega, fun q hq => ?_, ta1, ta2, ta3, ta4⟩, by omega⟩⟩
  obtain ⟨j, hj, rfl⟩ := List.mem_iff_getElem.1 hq
  exact ha j hj (by omega)
end Go.Proofs.YtedoeogopmenpaaGreatDoor
end
section
namespace Go.Proofs.YtedoeogopmenpaaGreatDoor
open Go.ChangeShapes Go.WideShapes Go.ChangeAt Go.RowKit Go.Deep Go.Joins
section
variable {H : Type} {enc : TypeId × Value → H} {P : Program} {w : World} {base : Nat}
def ShowB (N : Nat) (enc : TypeId × Value → H) (P : Program) (w : World) (base : Nat) (t : TypeId) (c : Nat) {α : Type} (f : α → List D) (Q : α → Prop) : Prop :=
 ∀ (fuel : Nat) (cs : List Value) (x : DataW H × List MemPlace), SizeOf.sizeOf x.1 ≤ N → DataW.trod enc P w base (fun _ => true) true fuel t cs = some x →
  cs.length = c ∧ ∃ a, Q a ∧ (f a).length = c ∧ ∀ (j : Nat) (v : Value) (d : D), cs[j]? = some v → (f a)[j]? = some d → RepD w (fun b _ => b < w.heap.size) v d
theorem Show.b {α : Type} {t : TypeId} {c : Nat} {f : α → List D} {Q : α → Prop} (h : Show enc P w base t c f Q) (N : Nat) : ShowB N enc P w base t c f Q := fun fuel cs x _ hx => h fuel cs x hx
theorem ShowB.all {α : Type} {t : TypeId} {c : Nat} {f : α → List D} {Q : α → Prop} (h : ∀ N, ShowB N enc P w base t c f Q) : Show enc P w base t c f Q := fun fuel cs x hx => h _ fuel cs x (Nat.le_refl _) hx
theorem ShowB.as {N : Nat} {α β : Type} {t : TypeId} {c : Nat} {f : α → List D} {Q : α → Prop} (h : ShowB N enc P w base t c f Q) (g : β → List D) (R : β → Prop) (m : α → β) (hg : ∀ a, g (m a) = f a) (hR : ∀ a, Q a → R (m a)) : ShowB N enc P w base t c g R := by
 intro fuel cs x hN hx
 obtain ⟨h1, a, h2, h3, h4⟩ := h fuel cs x hN hx
 exact ⟨h1, m a, hR a h2, by rw [hg]; exact h3, by rw [hg]; exact h4⟩
theorem slice_size {N : Nat} {l m : List (DataW H)} {x : DataW H} {q : List MemPlace} (h : SizeOf.sizeOf (DataW.slice l m, q).1 ≤ N) (hx : x ∈ l) : SizeOf.sizeOf x ≤ N := by
 have h1 := List.sizeOf_lt_of_mem hx
 have h2 : SizeOf.sizeOf (DataW.slice l m) = 1 + SizeOf.sizeOf l + SizeOf.sizeOf m := by simp
 have h3 : SizeOf.sizeOf (DataW.slice l m) ≤ N := h
 omega
theorem agg_size {N : Nat} {l : List (DataW H)} {x : DataW H} {q : List MemPlace} (h : SizeOf.sizeOf (DataW.agg l, q).1 ≤ N + 1) (hx : x ∈ l) : SizeOf.sizeOf x ≤ N := by
 have h1 := List.sizeOf_lt_of_mem hx
 have h2 : SizeOf.sizeOf (DataW.agg l) = 1 + SizeOf.sizeOf l := by simp
 have h3 : SizeOf.sizeOf (DataW.agg l) ≤ N + 1 := h
 omega
theorem data_pos (x : DataW H) : 1 ≤ SizeOf.sizeOf x := by
 cases x <;> simp <;> omega
theorem showB_one {N : Nat} {α : Type} {t : TypeId} {g : α → D} {Q : α → Prop} (h : ∀ (fuel : Nat) (cs : List Value) (x : DataW H × List MemPlace), SizeOf.sizeOf x.1 ≤ N → DataW.trod enc P w base (fun _ => true) true fuel t cs = some x → ∃ v a, cs = [v] ∧ Q a ∧ RepD w (fun b _ => b < w.heap.size) v (g a)) :
  ShowB N enc P w base t 1 (fun a => [g a]) Q := by
 intro fuel cs x hN hx
 obtain ⟨v, a, rfl, ha, hr⟩ := h fuel cs x hN hx
 refine ⟨rfl, a, ha, rfl, fun j u d h1 h2 => ?_⟩
 cases j with
 | zero => cases h1; cases h2; exact hr
 | succ j => cases h1
theorem showB_list {α : Type} {t e : TypeId} {es : Nat} {f : α → List D} {Q : α → Prop} (ht : P.underlying t = some (.slice e)) (hc : P.cellsOf e = es) (hpos : 0 < es) {N : Nat} (he : ShowB N enc P w base e es f Q) :
  ShowB N enc P w base t 1 (fun l : List α => [.list es (l.map f)]) (fun l => l.length ≤ maxLen ∧ ∀ x ∈ l, Q x) :=
 showB_one (g := fun l : List α => .list es (l.map f)) fun fuel cs x hN hx => by
  rcases open_slice ht hx with ⟨rfl, _⟩ | ⟨a, len, cap, m, k, Dt, Pl, rfl, hb, hl, hm, hmm, hxx, hf⟩
  ·exact ⟨_, [], rfl, ⟨Nat.zero_le _, by simp⟩, .nil _ _ _ (Nat.zero_le _)⟩
  ·refine ⟨.slice (some a) len cap, ?_⟩
   simp only [if_true] at hmm
   subst hmm
   rw [hc] at hf
   rcases Nat.eq_zero_or_pos len with h0 | h0
   ·subst h0
    exact ⟨[], rfl, ⟨Nat.zero_le _, by simp⟩, .nil _ _ _ hm⟩
   have h1 : ∀ i, i < len → ∃ y : α × List Value, Q y.1 ∧ w.cells? base (a.add (i * es)) es = some y.2 ∧ y.2.length = es ∧ (f y.1).length = es ∧ ∀ (j : Nat) (v : Value) (d : D), y.2[j]? = some v → (f y.1)[j]? = some d → RepD w (fun b _ => b < w.heap.size) v d := by
    intro i hi
    obtain ⟨cs, hcell, htr⟩ := hf i (by omega)
    obtain ⟨h2, y, h3, h4, h5⟩ := he _ _ _ (by rw [hxx] at hN; exact slice_size hN (List.mem_map.2 ⟨i, List.mem_range.2 hi, rfl⟩)) htr
    exact ⟨(y, cs), h3, hcell, h2, h4, h5⟩
   haveI : Inhabited (α × List Value) := ⟨Classical.choose (h1 0 h0)⟩
   obtain ⟨g, hg⟩ := choose_lt h1
   obtain ⟨b, o, spot⟩ := a
   have hspot : spot = none := by
    obtain ⟨_, h2, h3, _, _⟩ := hg 0 h0
    have h4 := (World.cells?_some h2).2.2 0 hpos
    rw [List.getElem?_eq_getElem (by omega)] at h4
    simpa [Addr.add] using World.cell?_spot h4
   subst hspot
   have hblk : b < w.heap.size := by
    obtain ⟨_, h2, _⟩ := hg 0 h0
    have := World.cells?_block h2 hpos
    simpa [Addr.add] using this
   refine ⟨(List.range len).map fun i => (g i).1, rfl, ⟨?_, fun x hx => ?_⟩, ?_⟩
   ·simp only [List.length_map, List.length_range]
    omega
   ·obtain ⟨j, hj, rfl⟩ := List.mem_map.1 hx
    exact (hg j (List.mem_range.1 hj)).1
   have hval : ∀ (i j : Nat) (e : List D) (d : D), (((List.range len).map fun i => (g i).1).map f)[i]? = some e → e[j]? = some d → i < len ∧ j < es ∧ e = f (g i).1 ∧ ∃ v, (g i).2[j]? = some v := by
    intro i j e d h2 h3
    rw [List.getElem?_map, List.getElem?_map, Option.map_eq_some_iff] at h2
    obtain ⟨x, h4, rfl⟩ := h2
    rw [Option.map_eq_some_iff] at h4
    obtain ⟨k, h5, rfl⟩ := h4
    have hi : i < len := by have := (List.getElem?_eq_some_iff.1 h5).1; simpa using this
    have hk : k = i := by simpa [hi] using h5.symm
    subst hk
    obtain ⟨_, _, h6, h7, _⟩ := hg k hi
    have hj : j < es := by have := (List.getElem?_eq_some_iff.1 h3).1; omega
    exact ⟨hi, hj, rfl, _, List.getElem?_eq_getElem (by omega)⟩
   refine .list b o len m es _ (fun i j => ((g i).2[j]?).getD undef) (by simp) (fun e he => ?_) hl hm (fun i j e d h2 h3 => ?_) (fun i j e d h2 h3 => ?_)
   ·obtain ⟨x, hx, rfl⟩ := List.mem_map.1 he
    obtain ⟨j, hj, rfl⟩ := List.mem_map.1 hx
    exact (hg j (List.mem_range.1 hj)).2.2.2.1
   ·obtain ⟨hi, hj, rfl, v, hv⟩ := hval i j e d h2 h3
    refine ⟨?_, hblk⟩
    obtain ⟨_, h4, _⟩ := hg i hi
    have h5 := (World.cells?_some h4).2.2 j hj
    rw [hv, add_plain, add_plain] at h5
    rw [hv]
    exact h5
   ·obtain ⟨hi, hj, rfl, v, hv⟩ := hval i j e d h2 h3
    rw [hv]
    exact (hg i hi).2.2.2.2 j v d hv h3
def ShowFsB (N : Nat) (enc : TypeId × Value → H) (P : Program) (w : World) (base : Nat) (o : Nat) (fs : List Field) (c : Nat) {α : Type} (f : α → List D) (Q : α → Prop) : Prop :=
 ∀ (n : Nat) (cs : List Value), (∀ (i : Nat) (fl : Field), fs[i]? = some fl → ∃ y, SizeOf.sizeOf y.1 ≤ N ∧ DataW.trod enc P w base (fun _ => true) true n fl.type ((cs.drop fl.offset).take (P.cellsOf fl.type)) = some y) →
  ∃ a, Q a ∧ (f a).length = c ∧ ∀ (j : Nat) (v : Value) (d : D), cs[o + j]? = some v → (f a)[j]? = some d → RepD w (fun b _ => b < w.heap.size) v d
theorem showsB_nil {N o : Nat} : ShowFsB N enc P w base o [] 0 (fun _ : Unit => []) (fun _ => True) := fun _ _ _ => ⟨(), trivial, rfl, fun j v d _ h => by cases h⟩
theorem showsB_cons {N : Nat} {α β : Type} {fl : Field} {o c c' : Nat} {fs : List Field} {f : α → List D} {Q : α → Prop} {g : β → List D} {R : β → Prop} (h : ShowB N enc P w base fl.type c f Q) (ho : fl.offset = o) (hc : P.cellsOf fl.type = c)
  (hr : ShowFsB N enc P w base (o + c) fs c' g R) : ShowFsB N enc P w base o (fl :: fs) (c + c') (fun x : α × β => f x.1 ++ g x.2) (fun x => Q x.1 ∧ R x.2) := by
 intro n cs hcs
 obtain ⟨y, hN, hy⟩ := hcs 0 fl rfl
 obtain ⟨_, a, h1, h2, h3⟩ := h _ _ _ hN hy
 obtain ⟨b, h4, h5, h6⟩ := hr n cs fun i f hf => hcs (i + 1) f hf
 refine ⟨(a, b), ⟨h1, h4⟩, by simp [h2, h5], fun j v d hv hd => ?_⟩
 have hd : (f a ++ g b)[j]? = some d := hd
 by_cases hj : j < c
 ·rw [List.getElem?_append_left (by omega)] at hd
  refine h3 j v d ?_ hd
  rw [ho, hc, List.getElem?_take, if_pos hj, List.getElem?_drop]
  exact hv
 ·rw [List.getElem?_append_right (by omega), h2] at hd
  refine h6 (j - c) v d ?_ hd
  rw [show o + c + (j - c) = o + j by omega]
  exact hv
theorem showB_struct {N : Nat} {α : Type} {t : TypeId} {fs : Array Field} {c : Nat} {f : α → List D} {Q : α → Prop} (ht : P.underlying t = some (.struct fs)) (hc : P.cellsOf t = c) (h : ShowFsB N enc P w base 0 fs.toList c f Q) : ShowB (N + 1) enc P w base t c f Q := by
 intro fuel cs x hN hx
 obtain ⟨xs, n, _, hxx, hl, hlen, hf⟩ := DataW.trod_struct ht hx
 obtain ⟨a, h1, h2, h3⟩ := h n cs fun i fl hfl => by
  have hfl' : fs[i]? = some fl := by simpa using hfl
  have hi : i < fs.size := (Array.getElem?_eq_some_iff.1 hfl').1
  exact ⟨_, by rw [hxx] at hN; exact agg_size hN (List.mem_map.2 ⟨_, List.getElem_mem (by omega), rfl⟩), (hf i fl hfl').trans (List.getElem?_eq_getElem (by omega))⟩
 exact ⟨hl.trans hc, a, h1, h2, fun j v d hv hd => h3 j v d (by simpa using hv) hd⟩
end
end Go.Proofs.YtedoeogopmenpaaGreatDoor
end
section
namespace Go.Proofs.YtedoeogopmenpaaGreatDoor
open Go.RowKit
theorem num_range {s : ByteArray} (h : numOk s = true) : 0 ≤ numTo s s.size ∧ numTo s s.size ≤ 1000000000000000 := by
 simp only [numOk, Bool.and_eq_true, Bool.or_eq_true, decide_eq_true_eq] at h
 obtain ⟨⟨⟨h1, h2⟩, h3⟩, h4⟩ := h
 have := num_bd (s := s) (k := s.size) fun j hj => pre_lt (by omega)
 exact ⟨this.1, h4⟩
theorem tk_nums {t : Tok} (h : Tk t) (hk : t.k = 1) : 0 ≤ t.n ∧ t.n ≤ 1000000000000000 := by
 obtain ⟨h1, h2, h3⟩ := h
 obtain ⟨_, _, _, _, h4⟩ := tokenV_form h2 h1
 rcases h4 with ⟨k, _⟩ | ⟨_, _, _, _, k, hn⟩ | ⟨k, _⟩
 ·simp only at k; omega
 ·simp only at k hn
  rw [hn]
  exact num_range k
 ·simp only at k; omega
theorem lex_ready {s : ByteArray} {L : List Tok} {p : Int} (h : lexV s = (L, p, 0)) : s.size ≤ 4000 ∧ LexOk s 0 L ∧ p = 0 ∧ Ends L ∧ L.length ≤ 4001 ∧ Texts L ∧ NumsIn L := by
 by_cases hs : s.size ≤ 4000
 ·rcases lexV_case hs with ⟨m, h1, h2⟩ | ⟨a, e, h1, h2, h3⟩
  ·rw [h] at h2
   obtain ⟨rfl, rfl, _⟩ : L = m ∧ p = 0 ∧ (0 : Int) = 0 := by simpa using h2
   have hlen := lexV_len s
   rw [h] at hlen
   obtain ⟨q, rfl, h4, _⟩ := h1.all
   refine ⟨hs, h1, rfl, ⟨q, _, rfl, rfl, fun x hx => (h4 x hx).2.2⟩, by simp only at hlen; omega, fun t ht => ?_, fun t ht hk => ?_⟩
   ·have := lexOk_small h1 hs t ht
    omega
   ·rcases List.mem_append.1 ht with ht | ht
    ·exact tk_nums (h4 t ht) hk
    ·simp only [List.mem_singleton] at ht
     subst ht
     cases hk
  ·rw [h] at h3
   simp only [Prod.mk.injEq] at h3
   exact absurd h3.2.2.symm h2
 ·unfold lexV at h
  rw [if_pos (by omega)] at h
  cases h
theorem Ends.rdy {L : List Tok} (h : Ends L) (hl : L.length ≤ 4001) : Rdy L L := ⟨.refl _, h, by omega⟩
def parseV (s : ByteArray) : By × Int × Int := match lexV s with
 | (L, p, e) => if e = 0 then (match bylawsP L with
  | .ok x _ => (x, 0, 0)
  | .bad q c => (By.zero, q, c)) else (By.zero, p, e)
def allP (l : List Tok) : Rd Ex := (readE l).then fun e t => if (nxt t).k = 3 then (if e.levels ≤ 12 then .ok e t else .bad (nxt t).p 6) else .bad (nxt t).p 12
def parseEV (s : ByteArray) : Ex × Int × Int := match lexV s with
 | (L, p, e) => if e = 0 then (match allP L with
  | .ok x _ => (x, 0, 0)
  | .bad q c => (Ex.zero, q, c)) else (Ex.zero, p, e)
end Go.Proofs.YtedoeogopmenpaaGreatDoor
end
section
namespace Go.Proofs.YtedoeogopmenpaaGreatDoor
open Go.RowKit
def decF : Nat → Nat → List UInt8
 | 0, _ => []
 | k + 1, u => if u < 10 then [UInt8.ofNat (48 + u)] else decF k (u / 10) ++ [UInt8.ofNat (48 + u % 10)]
theorem decF_eq : ∀ (k u : Nat), u < 10 ^ k → 0 < k → Lib.decDigits u = decF k u
 | 0, _, _, h => by omega
 | k + 1, u, h, _ => by
  unfold decF
  by_cases hu : u < 10
  ·rw [if_pos hu, dec_one hu]
  ·rw [if_neg hu, dec_more hu]
   have h1 : u / 10 < 10 ^ k := by rw [Nat.pow_succ] at h; omega
   have hk : 0 < k := by
    rcases Nat.eq_zero_or_pos k with rfl | h
    ·simp at h1; omega
    ·exact h
   rw [decF_eq k (u / 10) h1 hk]
def itoaF (n : Int) : ByteArray := if 0 ≤ n ∧ n < 10000 then ⟨(decF 4 n.toNat).toArray⟩ else itoaB n
theorem itoaB_eq : itoaB = itoaF := by
 funext n
 unfold itoaF
 split
 ·rename_i h
  rw [itoaB_pos h.1, decF_eq 4 n.toNat (by omega) (by omega)]
 ·rfl
def e_one : Ex := .mk 12 0 0 ⟨#[]⟩ [(.mk 10 0 0 ⟨#[]⟩ [(.mk 2 0 0 ⟨#[114, 105, 100, 101]⟩ [] : Ex), (.mk 6 0 0 ⟨#[]⟩ [(.mk 0 2 0 ⟨#[]⟩ [] : Ex), (.mk 3 0 0 ⟨#[102, 97, 118, 111, 117, 114]⟩ [] : Ex)] : Ex)] : Ex)]
def e_sum : Ex := .mk 4 0 0 ⟨#[]⟩ [(.mk 2 0 0 ⟨#[114, 105, 100, 101]⟩ [] : Ex), (.mk 0 5 2 ⟨#[]⟩ [] : Ex)]
def e_mul : Ex := .mk 6 0 0 ⟨#[]⟩ [.mk 0 3 0 ⟨#[]⟩ [], e_sum]
def t_one : ByteArray := ⟨#[110, 111, 116, 40, 116, 114, 105, 112, 32, 114, 105, 100, 101, 60, 50, 42, 109, 101, 109, 98, 101, 114, 32, 102, 97, 118, 111, 117, 114, 41]⟩
def t_text : ByteArray := { data := (([98, 121, 108, 97, 119, 115, 32, 99, 105, 116, 121, 32, 59, 32, 108, 101, 116, 32, 98, 97, 115, 101, 32, 61, 32, 50, 48, 48, 32, 99, 101, 110, 116, 115, 32, 59, 32, 97, 100, 109, 105, 116, 32, 116, 114, 105, 112].append [32, 114, 105, 100, 101, 114, 115, 32, 60, 32, 53, 32, 97, 110, 100, 32, 109, 101, 109, 98, 101, 114, 32, 110, 111, 115, 104, 111, 119, 115, 32, 60, 32, 51, 32, 59, 32, 102, 97, 114, 101, 32, 98, 97, 115, 101, 32, 43]).append ([32, 49, 48, 32, 99, 101, 110, 116, 115, 32, 42, 32, 116, 114, 105, 112, 32, 100, 105, 114, 101, 99, 116, 32, 59, 32, 108, 97, 116, 101, 32, 49, 48, 48, 32, 99, 101, 110, 116, 115, 32, 59, 32, 110, 111, 115, 104].append [111, 119, 32, 51, 48, 48, 32, 99, 101, 110, 116, 115, 32, 59, 32, 113, 117, 111, 116, 97, 32, 52, 32, 59, 32, 115, 104, 97, 114, 101, 32, 53, 48, 32, 59, 32, 99, 104, 97, 110, 103, 101, 32, 54, 48, 48, 32, 59])).toArray }
def t_bad : ByteArray := { data := ([98, 121, 108, 97, 119, 115, 32, 97, 32, 59, 32, 97, 100, 109, 105, 116, 32, 116, 114, 117, 101, 32, 59, 32, 102, 97, 114, 101, 32, 49, 32, 59].append [32, 108, 97, 116, 101, 32, 49, 32, 59, 32, 110, 111, 115, 104, 111, 119, 32, 49, 32, 59, 32, 113, 117, 111, 116, 97, 32, 49, 48, 48, 49, 32, 59]).toArray }
def t_two : ByteArray := ⟨#[49, 32, 99, 101, 110, 116, 115, 32, 50]⟩
def x_one : By := ⟨⟨#[99, 105, 116, 121]⟩, [(⟨#[98, 97, 115, 101]⟩, .mk 0 200 1 ⟨#[]⟩ [])], .mk 13 0 0 ⟨#[]⟩ [(.mk 10 0 0 ⟨#[]⟩ [(.mk 2 0 0 ⟨#[114, 105, 100, 101, 114, 115]⟩ [] : Ex), (.mk 0 5 0 ⟨#[]⟩ [] : Ex)] : Ex), (.mk 10 0 0 ⟨#[]⟩ [(.mk 3 0 0 ⟨#[110, 111, 115, 104, 111, 119, 115]⟩ [] : Ex), (.mk 0 3 0 ⟨#[]⟩ [] : Ex)] : Ex)], .mk 4 0 0 ⟨#[]⟩ [(.mk 1 0 0 ⟨#[98, 97, 115, 101]⟩ [] : Ex), (.mk 6 0 0 ⟨#[]⟩ [(.mk 0 10 1 ⟨#[]⟩ [] : Ex), (.mk 2 0 0 ⟨#[100, 105, 114, 101, 99, 116]⟩ [] : Ex)] : Ex)], .mk 0 100 1 ⟨#[]⟩ [], .mk 0 300 1 ⟨#[]⟩ [], 4, 50, 600⟩
set_option maxRecDepth 100000 in
theorem parse_one : parseEV t_one = (e_one, 0, 0) := by kernel_rfl
set_option maxRecDepth 100000 in
theorem parse_text : parseV t_text = (x_one, 0, 0) := by kernel_rfl
set_option maxRecDepth 100000 in
theorem parse_bad : parseV t_bad = (By.zero, 59, 3) := by kernel_rfl
set_option maxRecDepth 100000 in
theorem parse_two : parseEV t_two = (Ex.zero, 8, 12) := by kernel_rfl
set_option maxRecDepth 100000 in
theorem print_one : e_one.text 0 = ⟨#[110, 111, 116, 32, 116, 114, 105, 112, 32, 114, 105, 100, 101, 32, 60, 32, 50, 32, 42, 32, 109, 101, 109, 98, 101, 114, 32, 102, 97, 118, 111, 117, 114]⟩ := by
 unfold Ex.text
 rw [itoaB_eq]
 kernel_rfl
set_option maxRecDepth 100000 in
theorem print_mul : e_mul.text 0 = ⟨#[51, 32, 42, 32, 40, 32, 116, 114, 105, 112, 32, 114, 105, 100, 101, 32, 43, 32, 53, 32, 109, 105, 110, 117, 116, 101, 115, 32, 41]⟩ := by
 unfold Ex.text
 rw [itoaB_eq]
 kernel_rfl
set_option maxRecDepth 100000 in
theorem print_text : x_one.text.size = t_text.size + 1 := by
 unfold By.text By.lines By.head letL Ex.text
 rw [itoaB_eq]
 kernel_rfl
theorem right_one : e_one.right 12 = true := by kernel_rfl
theorem right_sum : e_sum.right 12 = true := by kernel_rfl
theorem right_mul : e_mul.right 12 = true := by kernel_rfl
theorem right_x : x_one.right = true := by kernel_rfl
theorem right_z : By.zero.right = false := by kernel_rfl
theorem right_n : (Ex.mk 1 0 0 ⟨#[]⟩ []).right 12 = false := by kernel_rfl
theorem name_y : nameV ⟨#[112, 101, 114, 105, 111, 100]⟩ = true := by kernel_rfl
theorem name_n : nameV ⟨#[99, 101, 110, 116, 115]⟩ = false := by kernel_rfl
end Go.Proofs.YtedoeogopmenpaaGreatDoor
end
section
set_option linter.unusedSimpArgs false
set_option linter.unusedVariables false
namespace Go.Proofs.YtedoeogopmenpaaGreatDoor
open Go.RowKit
abbrev intB (n : Int) : O := .box 3 [.d (.int n)]
abbrev errB (n : Int) : O := .box 29 [.d (.int n)]
theorem anyT : ∃ ms, Tryz.prog.underlying 20 = some (.interface ms) := ⟨_, Tryz.underlying20⟩
theorem caught_yes (p c a b : Int) : ObC 37 [.d (.val (stopV p c)), .box 1003 0, .box 1004 0] [(1003, intB a), (1004, errB b)] [] (fun x o => x = .d (.bool true) ∧ o = [(1003, intB p), (1004, errB c)]) := by
 refine ob_enter Tryz.func37 rfl (by decide) _ Tryz.ntmps37 (le_ok rfl) rfl (fun w Pr β κ hE => ?_)
 dsimp only [slotsV, Nat.zero_add, Nat.reduceAdd]
 repeat' (first | (apply at_op (.typeAssert _ _ _ _); refine al_y (y_assert rfl Tryz.underlying103 rfl) (lt_ok rfl) ?_) | (apply at_op (.binOp .neq _ _ _ _); refine al_y (y_ifneq rfl anyT) (lt_ok rfl) ?_) | refine nx ?_ | (apply qr_move; refine r_move ?_) | (apply qr_assign; refine r_assign ?_) | (apply at_cond; first | refine c_t ?_ | refine c_f ?_ | (refine aw_cond rfl (fun hb => ?_) (fun hb => ?_) <;> ((try have hq := dX hb); (try (exfalso; omega))))) | (apply at_guard; first | refine g_go ?_ | refine g_nt ?_ | refine g_nf ?_ | refine g_nu ?_ | ((first | refine al_split_t rfl rfl (lt_ok rfl) (fun hb => ?_) (fun hb => ?_) | refine al_split_f rfl rfl (lt_ok rfl) (fun hb => ?_) (fun hb => ?_)) <;> ((try have hq := dX hb); (try (exfalso; omega))))) | (apply qr_pick; refine r_pick ?_) | (apply qr_neq; refine r_neq ?_) | (apply qr_not; refine r_not ?_) | (apply qr_extract; refine r_extract ?_) | (apply qr_alloc; refine r_alloc ?_) | (apply qr_store; refine r_store ?_))
 refine aw_mixo ([(7, .box 103 [.d (.int p), .d (.int c)])]) [(0, true), (1, true), (2, true), (3, true), (4, true), (5, true), (6, true), (7, false)] [8, 9] (by kernel_rfl) (by kernel_rfl) (by kernel_rfl) (by decide) (by (repeat (first | exact obs_nil | (apply obs_cons; focus (first | rfl | (simp [find]; done)))))) ?_
 simp only [planned, tailed, List.filterMap_cons, List.filterMap_nil, List.getElem?_cons_zero, List.getElem?_cons_succ, Option.map_some]
 repeat' (first | apply am_nil | refine m_skip ?_ | refine n_skip ?_ | (apply at_am (.store _ _ _); refine am_store (by first | exact want_none | exact want_yes rfl rfl (by assumption) | exact want_yes rfl rfl (by with_reducible rfl)) rfl rfl rfl (ev_d rfl) nofun (by first | (simp only [normV, normList, normMap]; rfl) | rfl) (by simp [V.one, Value.oneCell']) (.inl ⟨rfl, rfl⟩) rfl (le_ok rfl) (by first | (simp only [normV, normList, normMap]; rfl) | rfl) ?_) | (apply qm_move; refine m_move ?_) | (apply qm_load; refine m_load ?_) | (apply qm_faddr; refine m_faddr ?_) | (apply qm_nilck; refine m_nilck ?_) | (refine am_split rfl rfl (fun hb => ?_) (fun hb => ?_) <;> ((try have hq := dX hb); (try (exfalso; omega)))))
 repeat' (first | refine nx ?_ | (apply qr_move; refine r_move ?_) | (apply qr_assign; refine r_assign ?_) | (apply at_cond; first | refine c_t ?_ | refine c_f ?_ | (refine aw_cond rfl (fun hb => ?_) (fun hb => ?_) <;> ((try have hq := dX hb); (try (exfalso; omega))))) | (apply at_guard; first | refine g_go ?_ | refine g_nt ?_ | refine g_nf ?_ | refine g_nu ?_ | ((first | refine al_split_t rfl rfl (lt_ok rfl) (fun hb => ?_) (fun hb => ?_) | refine al_split_f rfl rfl (lt_ok rfl) (fun hb => ?_) (fun hb => ?_)) <;> ((try have hq := dX hb); (try (exfalso; omega))))) | (apply qr_pick; refine r_pick ?_) | (apply qr_neq; refine r_neq ?_) | (apply qr_not; refine r_not ?_) | (apply qr_extract; refine r_extract ?_) | (apply qr_load; refine r_load ?_) | (apply qr_faddr; refine r_faddr ?_) | (apply qr_nilck; refine r_nilck ?_) | (apply qr_alloc; refine r_alloc ?_) | (apply qr_store; refine r_store ?_))
 refine oret1 ([(1003, intB p), (1004, errB c)]) (by rfl) rv (⟨rfl, rfl⟩) sb okx
theorem stop_zero : ∀ w, (zeroValue 103).run Tryz.prog w = .ok (.agg #[.int .i64 0, .int .i64 0]) w := fun w => Tryz.zeroValue103 w
theorem caught_no (a b : Int) : ObC 37 [.d (.val .nilIface), .box 1003 0, .box 1004 0] [(1003, intB a), (1004, errB b)] [] (fun x o => x = .d (.bool false) ∧ o = [(1003, intB a), (1004, errB b)]) := by
 refine ob_enter Tryz.func37 rfl (by decide) _ Tryz.ntmps37 (le_ok rfl) rfl (fun w Pr β κ hE => ?_)
 dsimp only [slotsV, Nat.zero_add, Nat.reduceAdd]
 repeat' (first | (apply at_op (.typeAssert _ _ _ _); refine al_y (y_assertnil rfl Tryz.underlying103 rfl stop_zero) (lt_ok rfl) ?_) | (apply at_op (.binOp .neq _ _ _ _); refine al_y (y_ifnil rfl anyT) (lt_ok rfl) ?_) | refine nx ?_ | (apply qr_move; refine r_move ?_) | (apply qr_assign; refine r_assign ?_) | (apply at_cond; first | refine c_t ?_ | refine c_f ?_ | (refine aw_cond rfl (fun hb => ?_) (fun hb => ?_) <;> ((try have hq := dX hb); (try (exfalso; omega))))) | (apply at_guard; first | refine g_go ?_ | refine g_nt ?_ | refine g_nf ?_ | refine g_nu ?_ | ((first | refine al_split_t rfl rfl (lt_ok rfl) (fun hb => ?_) (fun hb => ?_) | refine al_split_f rfl rfl (lt_ok rfl) (fun hb => ?_) (fun hb => ?_)) <;> ((try have hq := dX hb); (try (exfalso; omega))))) | (apply qr_pick; refine r_pick ?_) | (apply qr_neq; refine r_neq ?_) | (apply qr_not; refine r_not ?_) | (apply qr_extract; refine r_extract ?_) | (apply qr_alloc; refine r_alloc ?_) | (apply qr_store; refine r_store ?_))
 refine oret1 ([(1003, intB a), (1004, errB b)]) (by rfl) rv (⟨rfl, rfl⟩) sb okx
theorem open_any (s : ByteArray) (hs : s.size ≤ 1000000) : ObC 35 [.d (.str s)] [] [16] (fun x o => x = .tup [.box 16 0, .d (.int (lexV s).2.1), .d (.int (lexV s).2.2)] ∧ o = [(16, psB (lexV s).1 0)]) := by
 have hlex := lex_any s hs
 generalize lexV s = r at hlex ⊢
 obtain ⟨L, p, e⟩ := r
 unfold lexD at hlex
 dsimp only at hlex ⊢
 refine ob_enter Tryz.func35 rfl (by decide) _ Tryz.ntmps35 (le_ok rfl) rfl (fun w Pr β κ hE => ?_)
 dsimp only [slotsV, Nat.zero_add, Nat.reduceAdd]
 repeat' (first | (apply at_call; refine k_call (hlex) hE ?_; rintro _ rfl) | refine nx ?_ | (apply qr_move; refine r_move ?_) | (apply qr_assign; refine r_assign ?_) | (apply qr_extract; refine r_extract ?_) | (apply qr_boxed; refine r_boxed ?_) | (apply qr_build; refine r_build ?_))
 refine oret3 ([(16, psB L 0)]) (by rfl) rv rv rv (⟨rfl, rfl⟩) sb okx
theorem exec_recover {a : Act} {t : Nat} {T : TypeId} {p : String} {af : Array Edge} {w : World} : (execOp a.eval ⟨some t, .call { callee := .builtin .recover, args := #[], argTypes := #[] }, T, p, af, none⟩).run Tryz.prog w = .ok .recover w := by
 simp [execOp, resolve, invoke, builtin]
theorem ops_recover {t : Nat} {T : TypeId} {p : String} {af : Array Edge} {o1 : Oper} (hg : o1.guard = none) {Q : Exit → Act → List Frame → World → Prop} {a : Act} {c₀ : Frame} {cs cs' : List Frame} {w : World} {v : Value} (hr : (recoverD (c₀ :: cs) = some (v, cs')) ∨ (recoverD (c₀ :: cs) = none ∧ v = .nilIface ∧ cs' = c₀ :: cs))
  (h : o1.wp Tryz.prog (a.put (some t) v) w (fun a' w' => Q .normal a' cs' w') (fun e a' w' => Q e a' cs' w')) : wpOpsS Tryz.prog #[⟨some t, .call { callee := .builtin .recover, args := #[], argTypes := #[] }, T, p, af, none⟩, o1] Q (List.range 2) a (c₀ :: cs) w := by
 have hw1 : ∀ ys, Region.wanted o1 ys = true := fun ys => by simp [Region.wanted, hg]
 have h2 : wpOpsS Tryz.prog #[⟨some t, .call { callee := .builtin .recover, args := #[], argTypes := #[] }, T, p, af, none⟩, o1] Q [1] (a.put (some t) v) cs' w := by
  unfold wpOpsS
  simp only [show (#[⟨some t, .call { callee := .builtin .recover, args := #[], argTypes := #[] }, T, p, af, none⟩, o1] : Array Oper)[1]? = some o1 from rfl, hw1, if_true]
  unfold Oper.wp at h
  generalize (execOp (a.put (some t) v).eval o1).run Tryz.prog w = r at h
  split
  ·exact (h : False).elim
  ·exact h
 show wpOpsS _ _ _ [0, 1] _ _ _
 unfold wpOpsS
 simp only [show (#[⟨some t, .call { callee := .builtin .recover, args := #[], argTypes := #[] }, T, p, af, none⟩, o1] : Array Oper)[0]? = some ⟨some t, .call { callee := .builtin .recover, args := #[], argTypes := #[] }, T, p, af, none⟩ from rfl, exec_recover]
 rw [if_pos (by rfl)]
 rcases hr with hr | ⟨hr, rfl, rfl⟩
 ·rw [hr]
  exact h2
 ·rw [hr]
  exact h2
def modeP (p c : Int) (b : Bool) : FrameMode := .panicking [{ v := stopV p c, recovered := b }]
theorem settle_caught (p c : Int) : settle (modeP p c true) = .returning := rfl
abbrev byZ : O := zeroBy
theorem put_all {xs zs : List V} {n : List V} (h : n = zs) (hl : xs.length = zs.length) : put xs 0 n = zs := by
 subst h
 simp only [put, List.take_zero, List.nil_append, Nat.zero_add]
 rw [List.drop_of_length_le (by omega), List.append_nil]
theorem parse1_yes (p c a b : Int) (xs : List V) (hxs : xs.length = ((.d (.str ⟨#[]⟩) :: .d (.val (.slice none 0 0)) :: (fillV [] ++ [.d (.int 0), .d (.int 0), .d (.int 0)]))).length) : ObD 36 [.box 1003 0, .box 1004 0, .box 1002 0] [(1003, intB a), (1004, errB b), (1002, .box 28 xs)] (modeP p c false) (modeP p c true) (fun o => o = [(1003, intB p), (1004, errB c), (1002, .box 28 ((.d (.str ⟨#[]⟩) :: .d (.val (.slice none 0 0)) :: (fillV [] ++ [.d (.int 0), .d (.int 0), .d (.int 0)]))))]) := by
 refine ⟨⟨_, Tryz.func36, by decide, rfl⟩, fun w Pr vs β κ h1 h2 h3 h4 h5 h6 => ?_⟩
 refine callsD_of_wpS Tryz.func36 rfl fun c₀ cs hu => ?_
 have hG := Good.start (N := 6) (args := [.box 1003 0, .box 1004 0, .box 1002 0]) (by decide) rfl h1 h3 h4 h5 h6
 have hE : Fine ⟨w, Pr, 6, [(1003, intB a), (1004, errB b), (1002, .box 28 xs)], β, κ, []⟩ := ⟨h2, h1⟩
 rw [Tryz.ntmps36]
 have hrec : recoverD (c₀ :: cs) = some (stopV p c, { c₀ with mode := modeP p c true } :: cs) := by
  simp only [recoverD, hu]
  rfl
 refine wpS_seq (wpS_region (ops_recover rfl (.inl hrec) ?_))
 have hG2 := hG.put (d := 3) (lt_ok rfl) (v := stopV p c) (x := .d (.val (stopV p c))) (.d _ _ (.val _))
 refine st_ocall [(1003, 1003), (1004, 1004)] (caught_yes p c a b) rfl hE (lt_ok rfl) (.cons (.same _ _ rfl) (.cons (.same _ _ rfl) (.cons (.same _ _ rfl) .nil))) ⟨obs_cons rfl (obs_cons rfl obs_nil), rfl, rfl, rfl, rfl⟩ _ _ ⟨_, _, _, hG2⟩ _ _ (fun a' w' hI => ?_)
 refine wpS_of_wp (AW.run ?_ _ _ hI)
 refine aw_cond_t rfl rfl ?_
 repeat' (first | (apply at_op (.store _ _ _); refine al_step (st_store rfl rfl (ev_d rfl) nofun rfl (by simp [V.one, Value.oneCell', fillV, cellsV, cellsD]) (.inr rfl) rfl (by rw [hxs]; exact le_ok rfl) (put_all rfl hxs)) rfl ?_) | refine nx ?_ | (apply at_cond; first | refine c_t ?_ | refine c_f ?_ | (refine aw_cond rfl (fun hb => ?_) (fun hb => ?_) <;> ((try have hq := dX hb); (try (exfalso; omega))))) | (apply qr_store; refine r_store ?_) | (apply qr_build; refine r_build ?_))
 refine aq_ends (.inr rfl) [(1003, intB p), (1004, errB c), (1002, .box 28 ((.d (.str ⟨#[]⟩) :: .d (.val (.slice none 0 0)) :: (fillV [] ++ [.d (.int 0), .d (.int 0), .d (.int 0)]))))] rfl rfl (by (repeat (first | exact obs_nil | (apply obs_cons; focus (first | rfl | (simp [find]; done)))))) (by rfl)
theorem parse1_no (a b : Int) (X : O) (hX : X.within [1003, 1004, 1002] = true) : ObD 36 [.box 1003 0, .box 1004 0, .box 1002 0] [(1003, intB a), (1004, errB b), (1002, X)] .returning .returning (fun o => o = [(1003, intB a), (1004, errB b), (1002, X)]) := by
 refine ⟨⟨_, Tryz.func36, by decide, rfl⟩, fun w Pr vs β κ h1 h2 h3 h4 h5 h6 => ?_⟩
 refine callsD_of_wpS Tryz.func36 rfl fun c₀ cs hu => ?_
 have hG := Good.start (N := 6) (args := [.box 1003 0, .box 1004 0, .box 1002 0]) (by decide) rfl h1 h3 h4 h5 h6
 have hE : Fine ⟨w, Pr, 6, [(1003, intB a), (1004, errB b), (1002, X)], β, κ, []⟩ := ⟨h2, h1⟩
 rw [Tryz.ntmps36]
 have hc0 : c₀ = { c₀ with mode := .returning } := by cases c₀; simp_all
 have hrec : recoverD (c₀ :: cs) = none := by
  simp only [recoverD, hu]
 refine wpS_seq (wpS_region (ops_recover rfl (.inr ⟨hrec, rfl, rfl⟩) ?_))
 have hG2 := hG.put (d := 3) (lt_ok rfl) (v := .nilIface) (x := .d (.val .nilIface)) (.d _ _ (.val _))
 refine st_ocall [(1003, 1003), (1004, 1004)] (caught_no a b) rfl hE (lt_ok rfl) (.cons (.same _ _ rfl) (.cons (.same _ _ rfl) (.cons (.same _ _ rfl) .nil))) ⟨obs_cons rfl (obs_cons rfl obs_nil), rfl, rfl, rfl, rfl⟩ _ _ ⟨_, _, _, hG2⟩ _ _ (fun a' w' hI => ?_)
 refine wpS_of_wp (AW.run ?_ _ _ hI)
 rw [show (c₀ :: cs : List Frame) = { c₀ with mode := .returning } :: cs by rw [← hc0]]
 refine aw_cond_f rfl rfl (aw_skip ?_)
 refine aq_ends (.inr rfl) [(1003, intB a), (1004, errB b), (1002, X)] rfl rfl (by (repeat (first | exact obs_nil | (apply obs_cons; focus (first | rfl | (simp [find]; done)))))) (by simp [okOut, V.within, V.withinL, keys, mem, nbeq_def, O.within]; exact hX)
theorem parseE1_yes (p c a b : Int) (xs : List V) (hxs : xs.length = (expZ).length) : ObD 41 [.box 1003 0, .box 1004 0, .box 1002 0] [(1003, intB a), (1004, errB b), (1002, .box 26 xs)] (modeP p c false) (modeP p c true) (fun o => o = [(1003, intB p), (1004, errB c), (1002, .box 26 (expZ))]) := by
 refine ⟨⟨_, Tryz.func41, by decide, rfl⟩, fun w Pr vs β κ h1 h2 h3 h4 h5 h6 => ?_⟩
 refine callsD_of_wpS Tryz.func41 rfl fun c₀ cs hu => ?_
 have hG := Good.start (N := 6) (args := [.box 1003 0, .box 1004 0, .box 1002 0]) (by decide) rfl h1 h3 h4 h5 h6
 have hE : Fine ⟨w, Pr, 6, [(1003, intB a), (1004, errB b), (1002, .box 26 xs)], β, κ, []⟩ := ⟨h2, h1⟩
 rw [Tryz.ntmps41]
 have hrec : recoverD (c₀ :: cs) = some (stopV p c, { c₀ with mode := modeP p c true } :: cs) := by
  simp only [recoverD, hu]
  rfl
 refine wpS_seq (wpS_region (ops_recover rfl (.inl hrec) ?_))
 have hG2 := hG.put (d := 3) (lt_ok rfl) (v := stopV p c) (x := .d (.val (stopV p c))) (.d _ _ (.val _))
 refine st_ocall [(1003, 1003), (1004, 1004)] (caught_yes p c a b) rfl hE (lt_ok rfl) (.cons (.same _ _ rfl) (.cons (.same _ _ rfl) (.cons (.same _ _ rfl) .nil))) ⟨obs_cons rfl (obs_cons rfl obs_nil), rfl, rfl, rfl, rfl⟩ _ _ ⟨_, _, _, hG2⟩ _ _ (fun a' w' hI => ?_)
 refine wpS_of_wp (AW.run ?_ _ _ hI)
 refine aw_cond_t rfl rfl ?_
 repeat' (first | (apply at_op (.store _ _ _); refine al_step (st_store rfl rfl (ev_d rfl) nofun rfl (by simp [V.one, Value.oneCell', fillV, cellsV, cellsD]) (.inr rfl) rfl (by rw [hxs]; exact le_ok rfl) (put_all rfl hxs)) rfl ?_) | refine nx ?_ | (apply at_cond; first | refine c_t ?_ | refine c_f ?_ | (refine aw_cond rfl (fun hb => ?_) (fun hb => ?_) <;> ((try have hq := dX hb); (try (exfalso; omega))))) | (apply qr_store; refine r_store ?_) | (apply qr_build; refine r_build ?_))
 refine aq_ends (.inr rfl) [(1003, intB p), (1004, errB c), (1002, .box 26 (expZ))] rfl rfl (by (repeat (first | exact obs_nil | (apply obs_cons; focus (first | rfl | (simp [find]; done)))))) (by rfl)
theorem parseE1_no (a b : Int) (X : O) (hX : X.within [1003, 1004, 1002] = true) : ObD 41 [.box 1003 0, .box 1004 0, .box 1002 0] [(1003, intB a), (1004, errB b), (1002, X)] .returning .returning (fun o => o = [(1003, intB a), (1004, errB b), (1002, X)]) := by
 refine ⟨⟨_, Tryz.func41, by decide, rfl⟩, fun w Pr vs β κ h1 h2 h3 h4 h5 h6 => ?_⟩
 refine callsD_of_wpS Tryz.func41 rfl fun c₀ cs hu => ?_
 have hG := Good.start (N := 6) (args := [.box 1003 0, .box 1004 0, .box 1002 0]) (by decide) rfl h1 h3 h4 h5 h6
 have hE : Fine ⟨w, Pr, 6, [(1003, intB a), (1004, errB b), (1002, X)], β, κ, []⟩ := ⟨h2, h1⟩
 rw [Tryz.ntmps41]
 have hc0 : c₀ = { c₀ with mode := .returning } := by cases c₀; simp_all
 have hrec : recoverD (c₀ :: cs) = none := by
  simp only [recoverD, hu]
 refine wpS_seq (wpS_region (ops_recover rfl (.inr ⟨hrec, rfl, rfl⟩) ?_))
 have hG2 := hG.put (d := 3) (lt_ok rfl) (v := .nilIface) (x := .d (.val .nilIface)) (.d _ _ (.val _))
 refine st_ocall [(1003, 1003), (1004, 1004)] (caught_no a b) rfl hE (lt_ok rfl) (.cons (.same _ _ rfl) (.cons (.same _ _ rfl) (.cons (.same _ _ rfl) .nil))) ⟨obs_cons rfl (obs_cons rfl obs_nil), rfl, rfl, rfl, rfl⟩ _ _ ⟨_, _, _, hG2⟩ _ _ (fun a' w' hI => ?_)
 refine wpS_of_wp (AW.run ?_ _ _ hI)
 rw [show (c₀ :: cs : List Frame) = { c₀ with mode := .returning } :: cs by rw [← hc0]]
 refine aw_cond_f rfl rfl (aw_skip ?_)
 refine aq_ends (.inr rfl) [(1003, intB a), (1004, errB b), (1002, X)] rfl rfl (by (repeat (first | exact obs_nil | (apply obs_cons; focus (first | rfl | (simp [find]; done)))))) (by simp [okOut, V.within, V.withinL, keys, mem, nbeq_def, O.within]; exact hX)
end Go.Proofs.YtedoeogopmenpaaGreatDoor
end
section
set_option linter.unusedSimpArgs false
set_option linter.unusedVariables false
namespace Go.Proofs.YtedoeogopmenpaaGreatDoor
open Go.RowKit
theorem aq_then_p {E : Entry} {sl : Slots} {ob : Objs} {Q : Exit → Act → World → Prop} {K : Act → World → Prop} {c : List PanicEntry} (h : AQ E (.panic c) Q sl ob) : AQ E (.panic c) (Exit.then K Q) sl ob := ⟨h.run⟩
theorem aq_block_p {E : Entry} {sl : Slots} {ob : Objs} {Q : Exit → Act → World → Prop} {id : Nat} {c : List PanicEntry} (h : AQ E (.panic c) Q sl ob) : AQ E (.panic c) (Exit.inBlock id Q) sl ob := ⟨h.run⟩
def parseD (r : By × Int × Int) : D := .tup [.agg (byC r.1), .int r.2.1, .int r.2.2]
theorem parse_any (s : ByteArray) (hs : s.size ≤ 1000000) : PureC 9 [.str s] (· = parseD (parseV s)) := by
 have hopen := open_any s hs
 rcases hL : lexV s with ⟨L, p, e⟩
 have hV : parseV s = if e = 0 then (match bylawsP L with
  | .ok x _ => (x, 0, 0)
  | .bad q c => (By.zero, q, c)) else (By.zero, p, e) := by
  unfold parseV
  rw [hL]
  try rfl
 rw [hL] at hopen
 dsimp only at hopen
 by_cases he : e = 0
 ·subst he
  rw [if_pos rfl] at hV
  obtain ⟨h1, h2, h3, h4, h5, h6, h7⟩ := lex_ready hL
  have r0 := h4.rdy h5
  have at0 : ((atN L L : Nat) : Int) = 0 := by simp [atN]
  have hby := pbylaws r0 h6
  unfold psr at hby
  rw [at0] at hby
  have q0 : (!decide ((0 : Int) = 0)) = false := rfl
  refine pure_enterD Tryz.func9 rfl (by decide) _ Tryz.ntmps9 (le_ok rfl) (fun w Pr hE => ?_)
  dsimp only [slotsOf, Nat.zero_add, Nat.reduceAdd]
  repeat' (first | (apply at_call; refine k_ocall [(16, 18)] (hopen) hE ?_; rintro _ _ ⟨rfl, rfl⟩ <;> (intro _ _ h1 h2; simp only [renEqs, Nat.reduceBEq, renL_app, renL_ds, renL_und] at h1 h2; subst h1 h2)) | (apply at_op (.makeFunc _ _ _); refine al_y (y_clo rfl) (lt_ok rfl) ?_) | refine nx ?_ | apply aq_pq | (apply qr_move; refine r_move ?_) | (apply qr_assign; refine r_assign ?_) | (apply at_cond; first | refine c_t ?_ | refine c_f ?_ | (refine aw_cond rfl (fun hb => ?_) (fun hb => ?_) <;> ((try have hq := dX hb); (try (exfalso; omega))))) | (apply qr_neq; refine r_neq ?_) | (apply qr_extract; refine r_extract ?_) | (apply qr_func; refine r_func ?_) | (apply qr_load; refine r_load ?_) | (apply qr_alloc; refine r_alloc ?_) | (apply qr_store; refine r_store ?_))
  refine al_less (sl' := [(17, .clo (.func 36) [.box 3 0, .box 4 0, .box 2 0]), (5, .box 18 0), (4, .box 4 0), (3, .box 3 0), (2, .box 2 0)]) (ob' := [(18, psB L 0), (2, zeroBy), (3, intB p), (4, errB 0)]) (by (repeat (first | exact sub_nil | (apply sub_cons; focus (first | rfl | exact vint (by first | omega) | (simp [look]; done)))))) (by (repeat (first | exact obs_nil | (apply obs_cons; focus (first | rfl | (simp [find]; done)))))) ?_
  refine al_ren 2 1002 rfl rfl ?_
  refine al_less (sl' := [(17, .clo (.func 36) [.box 3 0, .box 4 0, .box 1002 0]), (5, .box 18 0), (4, .box 4 0), (3, .box 3 0), (2, .box 1002 0)]) (ob' := [(18, psB L 0), (1002, zeroBy), (3, intB p), (4, errB 0)]) (by (repeat (first | exact sub_nil | (apply sub_cons; focus (first | rfl | exact vint (by first | omega) | (simp [look]; done)))))) (by (repeat (first | exact obs_nil | (apply obs_cons; focus (first | rfl | (simp [find]; done)))))) ?_
  refine al_ren 3 1003 rfl rfl ?_
  refine al_less (sl' := [(17, .clo (.func 36) [.box 1003 0, .box 4 0, .box 1002 0]), (5, .box 18 0), (4, .box 4 0), (3, .box 1003 0), (2, .box 1002 0)]) (ob' := [(18, psB L 0), (1002, zeroBy), (1003, intB p), (4, errB 0)]) (by (repeat (first | exact sub_nil | (apply sub_cons; focus (first | rfl | exact vint (by first | omega) | (simp [look]; done)))))) (by (repeat (first | exact obs_nil | (apply obs_cons; focus (first | rfl | (simp [find]; done)))))) ?_
  refine al_ren 4 1004 rfl rfl ?_
  refine al_less (sl' := [(17, .clo (.func 36) [.box 1003 0, .box 1004 0, .box 1002 0]), (5, .box 18 0), (4, .box 1004 0), (3, .box 1003 0), (2, .box 1002 0)]) (ob' := [(18, psB L 0), (1002, zeroBy), (1003, intB p), (1004, errB 0)]) (by (repeat (first | exact sub_nil | (apply sub_cons; focus (first | rfl | exact vint (by first | omega) | (simp [look]; done)))))) (by (repeat (first | exact obs_nil | (apply obs_cons; focus (first | rfl | (simp [find]; done)))))) ?_
  refine al_ren 18 1000 rfl rfl ?_
  refine al_less (sl' := [(17, .clo (.func 36) [.box 1003 0, .box 1004 0, .box 1002 0]), (5, .box 1000 0), (4, .box 1004 0), (3, .box 1003 0), (2, .box 1002 0)]) (ob' := [(1000, psB L 0), (1002, zeroBy), (1003, intB p), (1004, errB 0)]) (by (repeat (first | exact sub_nil | (apply sub_cons; focus (first | rfl | exact vint (by first | omega) | (simp [look]; done)))))) (by (repeat (first | exact obs_nil | (apply obs_cons; focus (first | rfl | (simp [find]; done)))))) ?_
  refine al_defer rfl hE rfl rfl rfl (fun E' cs en eo hN hE' hdf hcl hcs => ?_)
  obtain ⟨w', Pr', n', ob0', β', κ', df'⟩ := E'
  dsimp only at en eo hdf hcs
  subst en eo hdf
  have hE := hE'
  rcases hx : bylawsP L with ⟨x, t⟩ | ⟨q, c⟩
  ·rw [hx] at hV hby
   have hok := out_ok hby rfl
   repeat' (first | (apply at_call; refine k_ocall [(1000, 1000)] (hok) hE ?_; rintro _ _ ⟨rfl, rfl⟩ <;> (intro _ _ h1 h2; simp only [renEqs, Nat.reduceBEq, renL_app, renL_ds, renL_und] at h1 h2; subst h1 h2)) | refine nx ?_ | apply aq_pq | (apply qr_move; refine r_move ?_) | (apply at_cond; first | refine c_t ?_ | refine c_f ?_ | (refine aw_cond rfl (fun hb => ?_) (fun hb => ?_) <;> ((try have hq := dX hb); (try (exfalso; omega))))) | (apply qr_store; refine r_store ?_))
   refine aq_less (sl' := [(4, .box 1004 0), (3, .box 1003 0), (2, .box 1002 0)]) (ob' := [(1003, intB 0), (1004, errB 0), (1002, .box 28 ((byC x).map V.d))]) (by (repeat (first | exact sub_nil | (apply sub_cons; focus (first | rfl | exact vint (by first | omega) | (simp [look]; done)))))) (by (repeat (first | exact obs_nil | (apply obs_cons; focus (first | rfl | (simp [find]; done)))))) ?_
   refine aq_leave (.inl ⟨rfl, rfl⟩) rfl hN hE' rfl hcl hcs rfl (parse1_no 0 0 _ rfl) rfl rfl (fun E'' ob'' k1 k2 hN'' ho => ?_) (fun _ _ => trivial)
   subst ho
   rw [hV]
   exact retN3 hN'' rfl (by first | exact ResX.tmp _ _ (by first | exact ToD.d _ | exact ToD.row _ _ _ _ _ rfl) | exact ResX.cellA _ _ _ _ _ _ _ rfl rfl rfl (by first | (simp only [normV, normList, normMap]; rfl) | rfl) rfl | exact ResX.cell1 _ _ _ _ _ _ rfl rfl rfl (by first | exact ToD.d _ | exact ToD.row _ _ _ _ _ rfl)) (by first | exact ResX.tmp _ _ (by first | exact ToD.d _ | exact ToD.row _ _ _ _ _ rfl) | exact ResX.cellA _ _ _ _ _ _ _ rfl rfl rfl (by first | (simp only [normV, normList, normMap]; rfl) | rfl) rfl | exact ResX.cell1 _ _ _ _ _ _ rfl rfl rfl (by first | exact ToD.d _ | exact ToD.row _ _ _ _ _ rfl)) (by first | exact ResX.tmp _ _ (by first | exact ToD.d _ | exact ToD.row _ _ _ _ _ rfl) | exact ResX.cellA _ _ _ _ _ _ _ rfl rfl rfl (by first | (simp only [normV, normList, normMap]; rfl) | rfl) rfl | exact ResX.cell1 _ _ _ _ _ _ rfl rfl rfl (by first | exact ToD.d _ | exact ToD.row _ _ _ _ _ rfl)) rfl k1
  ·rw [hx] at hV hby
   have hbad := out_bad hby rfl
   repeat' (first | refine nx ?_ | apply aq_pq | (apply qr_move; refine r_move ?_) | (apply at_cond; first | refine c_t ?_ | refine c_f ?_ | (refine aw_cond rfl (fun hb => ?_) (fun hb => ?_) <;> ((try have hq := dX hb); (try (exfalso; omega))))) | (apply qr_store; refine r_store ?_))
   refine al_pcall [(1000, 1000)] hbad rfl hE (lt_ok rfl) (by (repeat (first | refine ArgsV.cons (.same _ _ rfl) ?_ | refine ArgsV.cons (.toD _ _ (by first | exact ToD.d _ | exact ToD.row _ _ _ _ _ rfl | exact ToD.nil _)) ?_)); exact ArgsV.nil) ⟨obs_cons rfl obs_nil, rfl, rfl, rfl, rfl⟩ (fun v hv => ?_) (fun _ _ h => h.elim)
   subst hv
   repeat (first | refine aq_then_p ?_ | refine aq_block_p ?_)
   refine aq_less (sl' := [(4, .box 1004 0), (3, .box 1003 0), (2, .box 1002 0)]) (ob' := [(1003, intB p), (1004, errB 0), (1002, zeroBy)]) (by (repeat (first | exact sub_nil | (apply sub_cons; focus (first | rfl | exact vint (by first | omega) | (simp [look]; done)))))) (by (repeat (first | exact obs_nil | (apply obs_cons; focus (first | rfl | (simp [find]; done)))))) ?_
   refine aq_leave (.inr ⟨_, rfl, rfl⟩) (settle_caught q c) hN hE' rfl hcl hcs rfl (parse1_yes q c p 0 _ rfl) rfl rfl (fun E'' ob'' k1 k2 hN'' ho => ?_) (fun _ _ => trivial)
   subst ho
   rw [hV]
   refine aq_nilcell 1002 1 6 rfl rfl rfl ?_
   refine aq_nilcell 1002 6 5 rfl rfl rfl ?_
   refine aq_nilcell 1002 11 5 rfl rfl rfl ?_
   refine aq_nilcell 1002 16 5 rfl rfl rfl ?_
   refine aq_nilcell 1002 21 5 rfl rfl rfl ?_
   exact retN3 hN'' rfl (by first | exact ResX.tmp _ _ (by first | exact ToD.d _ | exact ToD.row _ _ _ _ _ rfl) | exact ResX.cellA _ _ _ _ _ _ _ rfl rfl rfl (by first | (simp only [normV, normList, normMap]; rfl) | rfl) rfl | exact ResX.cell1 _ _ _ _ _ _ rfl rfl rfl (by first | exact ToD.d _ | exact ToD.row _ _ _ _ _ rfl)) (by first | exact ResX.tmp _ _ (by first | exact ToD.d _ | exact ToD.row _ _ _ _ _ rfl) | exact ResX.cellA _ _ _ _ _ _ _ rfl rfl rfl (by first | (simp only [normV, normList, normMap]; rfl) | rfl) rfl | exact ResX.cell1 _ _ _ _ _ _ rfl rfl rfl (by first | exact ToD.d _ | exact ToD.row _ _ _ _ _ rfl)) (by first | exact ResX.tmp _ _ (by first | exact ToD.d _ | exact ToD.row _ _ _ _ _ rfl) | exact ResX.cellA _ _ _ _ _ _ _ rfl rfl rfl (by first | (simp only [normV, normList, normMap]; rfl) | rfl) rfl | exact ResX.cell1 _ _ _ _ _ _ rfl rfl rfl (by first | exact ToD.d _ | exact ToD.row _ _ _ _ _ rfl)) rfl k1
 ·rw [if_neg he] at hV
  have q0 : (!decide (e = 0)) = true := by simp [he]
  refine pure_enterD Tryz.func9 rfl (by decide) _ Tryz.ntmps9 (le_ok rfl) (fun w Pr hE => ?_)
  dsimp only [slotsOf, Nat.zero_add, Nat.reduceAdd]
  repeat' (first | (apply at_call; refine k_ocall [(16, 18)] (hopen) hE ?_; rintro _ _ ⟨rfl, rfl⟩ <;> (intro _ _ h1 h2; simp only [renEqs, Nat.reduceBEq, renL_app, renL_ds, renL_und] at h1 h2; subst h1 h2)) | refine nx ?_ | apply aq_pq | (apply qr_move; refine r_move ?_) | (apply qr_assign; refine r_assign ?_) | (apply at_cond; first | refine c_t ?_ | refine c_f ?_ | (refine aw_cond rfl (fun hb => ?_) (fun hb => ?_) <;> ((try have hq := dX hb); (try (exfalso; omega))))) | (apply qr_neq; refine r_neq ?_) | (apply qr_extract; refine r_extract ?_) | (apply qr_load; refine r_load ?_) | (apply qr_alloc; refine r_alloc ?_) | (apply qr_store; refine r_store ?_))
  refine aw_mixo ([(3, intB p), (4, errB e)]) [(0, true), (1, true), (2, true), (3, false)] [4, 5] (by kernel_rfl) (by kernel_rfl) (by kernel_rfl) (by decide) (by (repeat (first | exact obs_nil | (apply obs_cons; focus (first | rfl | (simp [find]; done)))))) ?_
  simp only [planned, tailed, List.filterMap_cons, List.filterMap_nil, List.getElem?_cons_zero, List.getElem?_cons_succ, Option.map_some]
  repeat' (first | apply am_nil | refine m_skip ?_ | refine n_skip ?_ | (apply at_am (.store _ _ _); refine am_store (by first | exact want_none | exact want_yes rfl rfl (by assumption) | exact want_yes rfl rfl (by with_reducible rfl)) rfl rfl rfl (ev_d rfl) nofun (by first | (simp only [normV, normList, normMap]; rfl) | rfl) (by simp [V.one, Value.oneCell']) (.inr rfl) rfl (le_ok rfl) (by first | (simp only [normV, normList, normMap]; rfl) | rfl) ?_) | (apply qm_load; refine m_load ?_) | (apply qm_build; refine m_build ?_) | (refine am_split rfl rfl (fun hb => ?_) (fun hb => ?_) <;> ((try have hq := dX hb); (try (exfalso; omega)))))
  repeat' (first | refine nx ?_ | apply aq_pq | (apply at_cond; first | refine c_t ?_ | refine c_f ?_ | (refine aw_cond rfl (fun hb => ?_) (fun hb => ?_) <;> ((try have hq := dX hb); (try (exfalso; omega))))) | (apply qr_load; refine r_load ?_) | (apply qr_store; refine r_store ?_) | (apply qr_build; refine r_build ?_))
  refine aq_nilcell 2 1 6 rfl rfl rfl ?_
  refine aq_nilcell 2 6 5 rfl rfl rfl ?_
  refine aq_nilcell 2 11 5 rfl rfl rfl ?_
  refine aq_nilcell 2 16 5 rfl rfl rfl ?_
  refine aq_nilcell 2 21 5 rfl rfl rfl ?_
  refine aq_d0 (.inl rfl) ?_
  rw [hV]
  refine ret3x (by rfl) (by first | exact ResX.tmp _ _ (by first | exact ToD.d _ | exact ToD.row _ _ _ _ _ rfl) | exact ResX.cellA _ _ _ _ _ _ _ rfl rfl rfl (by first | (simp only [normV, normList, normMap]; rfl) | rfl) rfl | exact ResX.cell1 _ _ _ _ _ _ rfl rfl rfl (by first | exact ToD.d _ | exact ToD.row _ _ _ _ _ rfl)) (by first | exact ResX.tmp _ _ (by first | exact ToD.d _ | exact ToD.row _ _ _ _ _ rfl) | exact ResX.cellA _ _ _ _ _ _ _ rfl rfl rfl (by first | (simp only [normV, normList, normMap]; rfl) | rfl) rfl | exact ResX.cell1 _ _ _ _ _ _ rfl rfl rfl (by first | exact ToD.d _ | exact ToD.row _ _ _ _ _ rfl)) (by first | exact ResX.tmp _ _ (by first | exact ToD.d _ | exact ToD.row _ _ _ _ _ rfl) | exact ResX.cellA _ _ _ _ _ _ _ rfl rfl rfl (by first | (simp only [normV, normList, normMap]; rfl) | rfl) rfl | exact ResX.cell1 _ _ _ _ _ _ rfl rfl rfl (by first | exact ToD.d _ | exact ToD.row _ _ _ _ _ rfl)) ?_
  rfl
end Go.Proofs.YtedoeogopmenpaaGreatDoor
end
