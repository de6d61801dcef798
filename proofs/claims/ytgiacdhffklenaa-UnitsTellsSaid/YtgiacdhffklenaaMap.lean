/-
  Conditions: none.
-/
import Derived.Test.YtgiacdhffklenaaMao
set_option maxHeartbeats 16000000
set_option maxRecDepth 20000
section
set_option linter.unusedSimpArgs false
set_option linter.unusedVariables false
namespace Go.Proofs.Ytgiacdhffklenaa
open Go.RowKit
structure By.came (x : By) : Prop where
 name : x.name.size ≤ 9223372036854775807
 len : x.lets.length ≤ 9223372036854775807
 lets : ∀ q ∈ x.lets, q.1.size ≤ 9223372036854775807 ∧ q.2.came
 admit : x.admit.came
 fare : x.fare.came
 late : x.late.came
 noshow : x.noshow.came
abbrev FewR (x : By) : D → Prop := fun r => ∃ b : Bool, r = .bool b ∧ (b = true → x.tame ∧ x.lets.length ≤ 22)
theorem few_no {x : By} : FewR x (.bool false) := ⟨false, rfl, fun h => by cases h⟩
theorem few_any (x : By) (hx : x.came) : PureC 9 [.agg (byC x)] (FewR x) := by
 have k1 := fewE_any x.admit hx.admit
 have k2 := fewE_any x.fare hx.fare
 have k3 := fewE_any x.late hx.late
 have k4 := fewE_any x.noshow hx.noshow
 have hml : (x.lets.map letC).length = x.lets.length := List.length_map ..
 have hnz := hx.name
 have hlz := hx.len
 by_cases hl : 22 < x.lets.length
 ·have q0 : decide ((22 : Int) < (x.lets.map letC).length) = true := decide_eq_true (by omega)
  refine pure_enter Try.func9 rfl (by decide) _ Try.ntmps9 (le_ok rfl) (fun w Pr hE => ?_)
  dsimp only [slotsOf, Nat.zero_add, Nat.reduceAdd]
  repeat' (first | refine nx ?_ | (apply aq_block_y; decide) | (apply qr_move; refine r_move ?_) | (apply qr_assign; refine r_assign ?_) | (apply at_cond; first | refine c_t ?_ | refine c_f ?_ | (refine aw_cond rfl (fun hb => ?_) (fun hb => ?_) <;> ((try have hq := dX hb); (try (exfalso; omega))))) | (apply at_guard; first | refine g_go ?_ | refine g_nt ?_ | refine g_nf ?_ | refine g_nu ?_ | ((first | refine al_split_t rfl rfl (lt_ok rfl) (fun hb => ?_) (fun hb => ?_) | refine al_split_f rfl rfl (lt_ok rfl) (fun hb => ?_) (fun hb => ?_)) <;> ((try have hq := dX hb); (try (exfalso; omega))))) | (apply qr_pick; refine r_pick ?_) | (apply qr_gtr; refine r_gtr ?_) | (apply qr_not; refine r_not ?_) | (apply qr_len; refine r_len ?_) | (apply qr_load; refine r_load ?_) | (apply qr_faddr; refine r_faddr ?_) | (apply qr_boxed; refine r_boxed ?_))
  refine rt1 ?_
  exact few_no
 have q0 : decide ((22 : Int) < (x.lets.map letC).length) = false := decide_eq_false (by omega)
 by_cases hn : 40 < x.name.size
 ·have q1 : decide ((40 : Int) < x.name.size) = true := decide_eq_true (by omega)
  refine pure_enter Try.func9 rfl (by decide) _ Try.ntmps9 (le_ok rfl) (fun w Pr hE => ?_)
  dsimp only [slotsOf, Nat.zero_add, Nat.reduceAdd]
  repeat' (first | refine nx ?_ | (apply aq_block_y; decide) | (apply qr_move; refine r_move ?_) | (apply qr_assign; refine r_assign ?_) | (apply at_cond; first | refine c_t ?_ | refine c_f ?_ | (refine aw_cond rfl (fun hb => ?_) (fun hb => ?_) <;> ((try have hq := dX hb); (try (exfalso; omega))))) | (apply at_guard; first | refine g_go ?_ | refine g_nt ?_ | refine g_nf ?_ | refine g_nu ?_ | ((first | refine al_split_t rfl rfl (lt_ok rfl) (fun hb => ?_) (fun hb => ?_) | refine al_split_f rfl rfl (lt_ok rfl) (fun hb => ?_) (fun hb => ?_)) <;> ((try have hq := dX hb); (try (exfalso; omega))))) | (apply qr_pick; refine r_pick ?_) | (apply qr_gtr; refine r_gtr ?_) | (apply qr_not; refine r_not ?_) | (apply qr_len; refine r_len ?_) | (apply qr_load; refine r_load ?_) | (apply qr_faddr; refine r_faddr ?_) | (apply qr_boxed; refine r_boxed ?_))
  refine rt1 ?_
  exact few_no
 have q1 : decide ((40 : Int) < x.name.size) = false := decide_eq_false (by omega)
 refine pure_enter Try.func9 rfl (by decide) _ Try.ntmps9 (le_ok rfl) (fun w Pr hE => ?_)
 dsimp only [slotsOf, Nat.zero_add, Nat.reduceAdd]
 repeat' (first | (apply at_call; refine k_call (k1) hE ?_; (rintro _ ⟨b1, rfl, t1⟩; clear k1; cases b1)) | (apply at_call; refine k_call (k2) hE ?_; (rintro _ ⟨b2, rfl, t2⟩; clear k2; cases b2)) | (apply at_call; refine k_call (k3) hE ?_; (rintro _ ⟨b3, rfl, t3⟩; clear k3; cases b3)) | (apply at_call; refine k_call (k4) hE ?_; (rintro _ ⟨b4, rfl, t4⟩; clear k4; cases b4)) | refine nx ?_ | (apply aq_block_y; decide) | (apply qr_move; refine r_move ?_) | (apply qr_assign; refine r_assign ?_) | (apply at_cond; first | refine c_t ?_ | refine c_f ?_ | (refine aw_cond rfl (fun hb => ?_) (fun hb => ?_) <;> ((try have hq := dX hb); (try (exfalso; omega))))) | (apply at_guard; first | refine g_go ?_ | refine g_nt ?_ | refine g_nf ?_ | refine g_nu ?_ | ((first | refine al_split_t rfl rfl (lt_ok rfl) (fun hb => ?_) (fun hb => ?_) | refine al_split_f rfl rfl (lt_ok rfl) (fun hb => ?_) (fun hb => ?_)) <;> ((try have hq := dX hb); (try (exfalso; omega))))) | (apply qr_pick; refine r_pick ?_) | (apply qr_gtr; refine r_gtr ?_) | (apply qr_not; refine r_not ?_) | (apply qr_len; refine r_len ?_) | (apply qr_load; refine r_load ?_) | (apply qr_faddr; refine r_faddr ?_) | (apply qr_boxed; refine r_boxed ?_))
 ·skip
  refine rt1 ?_
  exact few_no
 ·skip
  refine rt1 ?_
  exact few_no
 ·skip
  refine rt1 ?_
  exact few_no
 ·skip
  refine rt1 ?_
  exact few_no
 have ta1 := t1 rfl
 have ta2 := t2 rfl
 have ta3 := t3 rfl
 have ta4 := t4 rfl
 clear q0 q1
 refine aw_lp (fun N sl ob => ∃ i : Nat, N = x.lets.length - i ∧ i ≤ x.lets.length ∧ (∀ (j : Nat) (hj : j < x.lets.length), j < i → letTame x.lets[j]) ∧ sl = [(3, .d (.int i)), (2, .d (.bool false)), (1, .box 1 0)] ∧ ob = [(1, byO' x)]) (⟨0, rfl, Nat.zero_le _, fun j _ h => by omega, rfl, rfl⟩) ?_
 rintro N sl ob ⟨i, rfl, hi, ha, rfl, rfl⟩
 by_cases hlt : i < x.lets.length
 ·have hg : (x.lets.map letC)[i]? = some (letC x.lets[i]) := by rw [get_map hlt]
  have hcm := hx.lets _ (List.getElem_mem hlt)
  have hc := fewE_any x.lets[i].2 hcm.2
  have q : decide ((i : Int) < (x.lets.map letC).length) = true := decide_eq_true (by omega)
  have hnext : letTame x.lets[i] → ∀ (j : Nat) (hj : j < x.lets.length), j < i + 1 → letTame x.lets[j] := fun h j hj hji => by
   rcases Nat.lt_succ_iff_lt_or_eq.1 hji with h2 | rfl
   ·exact ha j hj h2
   ·exact h
  generalize x.lets[i] = z at hg hc hcm hnext
  have hzz := hcm.1
  by_cases hz : 40 < z.1.size
  ·have q2 : decide ((40 : Int) < z.1.size) = true := decide_eq_true (by omega)
   repeat' (first | (apply at_op (.indexAddr _ _ _); refine al_ixq hg ?_) | refine nx ?_ | (apply aq_block_y; decide) | (apply qr_move; refine r_move ?_) | (apply qr_assign; refine r_assign ?_) | (apply at_cond; first | refine c_t ?_ | refine c_f ?_ | (refine aw_cond rfl (fun hb => ?_) (fun hb => ?_) <;> ((try have hq := dX hb); (try (exfalso; omega))))) | (apply at_guard; first | refine g_go ?_ | refine g_nt ?_ | refine g_nf ?_ | refine g_nu ?_ | ((first | refine al_split_t rfl rfl (lt_ok rfl) (fun hb => ?_) (fun hb => ?_) | refine al_split_f rfl rfl (lt_ok rfl) (fun hb => ?_) (fun hb => ?_)) <;> ((try have hq := dX hb); (try (exfalso; omega))))) | (apply qr_pick; refine r_pick ?_) | (apply qr_lss; refine r_lss ?_) | (apply qr_gtr; refine r_gtr ?_) | (apply qr_not; refine r_not ?_) | (apply qr_len; refine r_len ?_) | (apply qr_ix; refine r_ix ?_) | (apply qr_load; refine r_load ?_) | (apply qr_faddr; refine r_faddr ?_))
   refine rt1 ?_
   exact few_no
  ·have q2 : decide ((40 : Int) < z.1.size) = false := decide_eq_false (by omega)
   repeat' (first | (apply at_op (.indexAddr _ _ _); refine al_ixq hg ?_) | (apply at_call; refine k_call (hc) hE ?_; (rintro _ ⟨b5, rfl, t5⟩; cases b5)) | refine nx ?_ | (apply aq_block_y; decide) | (apply qr_move; refine r_move ?_) | (apply qr_assign; refine r_assign ?_) | (apply at_cond; first | refine c_t ?_ | refine c_f ?_ | (refine aw_cond rfl (fun hb => ?_) (fun hb => ?_) <;> ((try have hq := dX hb); (try (exfalso; omega))))) | (apply at_guard; first | refine g_go ?_ | refine g_nt ?_ | refine g_nf ?_ | refine g_nu ?_ | ((first | refine al_split_t rfl rfl (lt_ok rfl) (fun hb => ?_) (fun hb => ?_) | refine al_split_f rfl rfl (lt_ok rfl) (fun hb => ?_) (fun hb => ?_)) <;> ((try have hq := dX hb); (try (exfalso; omega))))) | (apply qr_pick; refine r_pick ?_) | (apply qr_lss; refine r_lss ?_) | (apply qr_gtr; refine r_gtr ?_) | (apply qr_not; refine r_not ?_) | (apply qr_len; refine r_len ?_) | (apply qr_ix; refine r_ix ?_) | (apply qr_load; refine r_load ?_) | (apply qr_faddr; refine r_faddr ?_))
   ·skip
    refine rt1 ?_
    exact few_no
   repeat' (first | refine nx ?_ | (apply aq_block_y; decide) | (apply qr_move; refine r_move ?_) | (apply qr_assign; refine r_assign ?_) | (apply at_cond; first | refine c_t ?_ | refine c_f ?_ | (refine aw_cond rfl (fun hb => ?_) (fun hb => ?_) <;> ((try have hq := dX hb); (try (exfalso; omega))))) | (apply qr_add; refine r_add ?_))
   refine aq_rd (⟨i + 1, rfl, by omega, hnext ⟨by omega, t5 rfl⟩, rfl, rfl⟩) (by omega)
 ·have q : decide ((i : Int) < (x.lets.map letC).length) = false := decide_eq_false (by omega)
  repeat' (first | refine nx ?_ | (apply aq_block_y; decide) | (apply qr_move; refine r_move ?_) | (apply qr_assign; refine r_assign ?_) | (apply at_cond; first | refine c_t ?_ | refine c_f ?_ | (refine aw_cond rfl (fun hb => ?_) (fun hb => ?_) <;> ((try have hq := dX hb); (try (exfalso; omega))))) | (apply qr_lss; refine r_lss ?_) | (apply qr_len; refine r_len ?_) | (apply qr_load; refine r_load ?_) | (apply qr_faddr; refine r_faddr ?_))
  refine rt1 ?_
  refine ⟨true, rfl, fun _ => ⟨⟨by omega, by omega, fun q hq => ?_, ta1, ta2, ta3, ta4⟩, by omega⟩⟩
  obtain ⟨j, hj, rfl⟩ := List.mem_iff_getElem.1 hq
  exact ha j hj (by omega)
end Go.Proofs.Ytgiacdhffklenaa
end
section
namespace Go.Proofs.Ytgiacdhffklenaa
open Go.ChangeShapes Go.WideShapes Go.ChangeAt Go.RowKit Go.Deep Go.Joins
section
variable {H : Type} {enc : TypeId × Value → H} {P : Program} {w : World} {base : Nat}
def ShowB (N : Nat) (enc : TypeId × Value → H) (P : Program) (w : World) (base : Nat) (t : TypeId) (c : Nat) {α : Type} (f : α → List D) (Q : α → Prop) : Prop :=
 ∀ (fuel : Nat) (cs : List Value) (x : DataW H × List MemPlace), SizeOf.sizeOf x.1 ≤ N → DataW.trod enc P w base (fun _ => true) true fuel t cs = some x →
  cs.length = c ∧ ∃ a, Q a ∧ (f a).length = c ∧ ∀ (j : Nat) (v : Value) (d : D), cs[j]? = some v → (f a)[j]? = some d → RepD w (fun b _ => b < w.heap.size) v d
theorem Show.b {α : Type} {t : TypeId} {c : Nat} {f : α → List D} {Q : α → Prop} (h : Show enc P w base t c f Q) (N : Nat) : ShowB N enc P w base t c f Q := fun fuel cs x _ hx => h fuel cs x hx
theorem ShowB.all {α : Type} {t : TypeId} {c : Nat} {f : α → List D} {Q : α → Prop} (h : ∀ N, ShowB N enc P w base t c f Q) : Show enc P w base t c f Q := fun fuel cs x hx => h _ fuel cs x (Nat.le_refl _) hx
theorem ShowB.as {N : Nat} {α β : Type} {t : TypeId} {c : Nat} {f : α → List D} {Q : α → Prop} (h : ShowB N enc P w base t c f Q) (g : β → List D) (R : β → Prop) (m : α → β) (hg : ∀ a, g (m a) = f a) (hR : ∀ a, Q a → R (m a)) : ShowB N enc P w base t c g R := by
 intro fuel cs x hN hx
 obtain ⟨h1, a, h2, h3, h4⟩ := h fuel cs x hN hx
 exact ⟨h1, m a, hR a h2, by rw [hg]; exact h3, by rw [hg]; exact h4⟩
theorem slice_size {N : Nat} {l m : List (DataW H)} {x : DataW H} {q : List MemPlace} (h : SizeOf.sizeOf (DataW.slice l m, q).1 ≤ N) (hx : x ∈ l) : SizeOf.sizeOf x ≤ N := by
 have h1 := List.sizeOf_lt_of_mem hx
 have h2 : SizeOf.sizeOf (DataW.slice l m) = 1 + SizeOf.sizeOf l + SizeOf.sizeOf m := by simp
 have h3 : SizeOf.sizeOf (DataW.slice l m) ≤ N := h
 omega
theorem agg_size {N : Nat} {l : List (DataW H)} {x : DataW H} {q : List MemPlace} (h : SizeOf.sizeOf (DataW.agg l, q).1 ≤ N + 1) (hx : x ∈ l) : SizeOf.sizeOf x ≤ N := by
 have h1 := List.sizeOf_lt_of_mem hx
 have h2 : SizeOf.sizeOf (DataW.agg l) = 1 + SizeOf.sizeOf l := by simp
 have h3 : SizeOf.sizeOf (DataW.agg l) ≤ N + 1 := h
 omega
theorem data_pos (x : DataW H) : 1 ≤ SizeOf.sizeOf x := by
 cases x <;> simp <;> omega
theorem showB_one {N : Nat} {α : Type} {t : TypeId} {g : α → D} {Q : α → Prop} (h : ∀ (fuel : Nat) (cs : List Value) (x : DataW H × List MemPlace), SizeOf.sizeOf x.1 ≤ N → DataW.trod enc P w base (fun _ => true) true fuel t cs = some x → ∃ v a, cs = [v] ∧ Q a ∧ RepD w (fun b _ => b < w.heap.size) v (g a)) :
  ShowB N enc P w base t 1 (fun a => [g a]) Q := by
 intro fuel cs x hN hx
 obtain ⟨v, a, rfl, ha, hr⟩ := h fuel cs x hN hx
 refine ⟨rfl, a, ha, rfl, fun j u d h1 h2 => ?_⟩
 cases j with
 | zero => cases h1; cases h2; exact hr
 | succ j => cases h1
theorem showB_list {α : Type} {t e : TypeId} {es : Nat} {f : α → List D} {Q : α → Prop} (ht : P.underlying t = some (.slice e)) (hc : P.cellsOf e = es) (hpos : 0 < es) {N : Nat} (he : ShowB N enc P w base e es f Q) :
  ShowB N enc P w base t 1 (fun l : List α => [.list es (l.map f)]) (fun l => l.length ≤ maxLen ∧ ∀ x ∈ l, Q x) :=
 showB_one (g := fun l : List α => .list es (l.map f)) fun fuel cs x hN hx => by
  rcases open_slice ht hx with ⟨rfl, _⟩ | ⟨a, len, cap, m, k, Dt, Pl, rfl, hb, hl, hm, hmm, hxx, hf⟩
  ·exact ⟨_, [], rfl, ⟨Nat.zero_le _, by simp⟩, .nil _ _ _ (Nat.zero_le _)⟩
  ·refine ⟨.slice (some a) len cap, ?_⟩
   simp only [if_true] at hmm
   subst hmm
   rw [hc] at hf
   rcases Nat.eq_zero_or_pos len with h0 | h0
   ·subst h0
    exact ⟨[], rfl, ⟨Nat.zero_le _, by simp⟩, .nil _ _ _ hm⟩
   have h1 : ∀ i, i < len → ∃ y : α × List Value, Q y.1 ∧ w.cells? base (a.add (i * es)) es = some y.2 ∧ y.2.length = es ∧ (f y.1).length = es ∧ ∀ (j : Nat) (v : Value) (d : D), y.2[j]? = some v → (f y.1)[j]? = some d → RepD w (fun b _ => b < w.heap.size) v d := by
    intro i hi
    obtain ⟨cs, hcell, htr⟩ := hf i (by omega)
    obtain ⟨h2, y, h3, h4, h5⟩ := he _ _ _ (by rw [hxx] at hN; exact slice_size hN (List.mem_map.2 ⟨i, List.mem_range.2 hi, rfl⟩)) htr
    exact ⟨(y, cs), h3, hcell, h2, h4, h5⟩
   haveI : Inhabited (α × List Value) := ⟨Classical.choose (h1 0 h0)⟩
   obtain ⟨g, hg⟩ := choose_lt h1
   obtain ⟨b, o, spot⟩ := a
   have hspot : spot = none := by
    obtain ⟨_, h2, h3, _, _⟩ := hg 0 h0
    have h4 := (World.cells?_some h2).2.2 0 hpos
    rw [List.getElem?_eq_getElem (by omega)] at h4
    simpa [Addr.add] using World.cell?_spot h4
   subst hspot
   have hblk : b < w.heap.size := by
    obtain ⟨_, h2, _⟩ := hg 0 h0
    have := World.cells?_block h2 hpos
    simpa [Addr.add] using this
   refine ⟨(List.range len).map fun i => (g i).1, rfl, ⟨?_, fun x hx => ?_⟩, ?_⟩
   ·simp only [List.length_map, List.length_range]
    omega
   ·obtain ⟨j, hj, rfl⟩ := List.mem_map.1 hx
    exact (hg j (List.mem_range.1 hj)).1
   have hval : ∀ (i j : Nat) (e : List D) (d : D), (((List.range len).map fun i => (g i).1).map f)[i]? = some e → e[j]? = some d → i < len ∧ j < es ∧ e = f (g i).1 ∧ ∃ v, (g i).2[j]? = some v := by
    intro i j e d h2 h3
    rw [List.getElem?_map, List.getElem?_map, Option.map_eq_some_iff] at h2
    obtain ⟨x, h4, rfl⟩ := h2
    rw [Option.map_eq_some_iff] at h4
    obtain ⟨k, h5, rfl⟩ := h4
    have hi : i < len := by have := (List.getElem?_eq_some_iff.1 h5).1; simpa using this
    have hk : k = i := by simpa [hi] using h5.symm
    subst hk
    obtain ⟨_, _, h6, h7, _⟩ := hg k hi
    have hj : j < es := by have := (List.getElem?_eq_some_iff.1 h3).1; omega
    exact ⟨hi, hj, rfl, _, List.getElem?_eq_getElem (by omega)⟩
   refine .list b o len m es _ (fun i j => ((g i).2[j]?).getD undef) (by simp) (fun e he => ?_) hl hm (fun i j e d h2 h3 => ?_) (fun i j e d h2 h3 => ?_)
   ·obtain ⟨x, hx, rfl⟩ := List.mem_map.1 he
    obtain ⟨j, hj, rfl⟩ := List.mem_map.1 hx
    exact (hg j (List.mem_range.1 hj)).2.2.2.1
   ·obtain ⟨hi, hj, rfl, v, hv⟩ := hval i j e d h2 h3
    refine ⟨?_, hblk⟩
    obtain ⟨_, h4, _⟩ := hg i hi
    have h5 := (World.cells?_some h4).2.2 j hj
    rw [hv, add_plain, add_plain] at h5
    rw [hv]
    exact h5
   ·obtain ⟨hi, hj, rfl, v, hv⟩ := hval i j e d h2 h3
    rw [hv]
    exact (hg i hi).2.2.2.2 j v d hv h3
def ShowFsB (N : Nat) (enc : TypeId × Value → H) (P : Program) (w : World) (base : Nat) (o : Nat) (fs : List Field) (c : Nat) {α : Type} (f : α → List D) (Q : α → Prop) : Prop :=
 ∀ (n : Nat) (cs : List Value), (∀ (i : Nat) (fl : Field), fs[i]? = some fl → ∃ y, SizeOf.sizeOf y.1 ≤ N ∧ DataW.trod enc P w base (fun _ => true) true n fl.type ((cs.drop fl.offset).take (P.cellsOf fl.type)) = some y) →
  ∃ a, Q a ∧ (f a).length = c ∧ ∀ (j : Nat) (v : Value) (d : D), cs[o + j]? = some v → (f a)[j]? = some d → RepD w (fun b _ => b < w.heap.size) v d
theorem showsB_nil {N o : Nat} : ShowFsB N enc P w base o [] 0 (fun _ : Unit => []) (fun _ => True) := fun _ _ _ => ⟨(), trivial, rfl, fun j v d _ h => by cases h⟩
theorem showsB_cons {N : Nat} {α β : Type} {fl : Field} {o c c' : Nat} {fs : List Field} {f : α → List D} {Q : α → Prop} {g : β → List D} {R : β → Prop} (h : ShowB N enc P w base fl.type c f Q) (ho : fl.offset = o) (hc : P.cellsOf fl.type = c)
  (hr : ShowFsB N enc P w base (o + c) fs c' g R) : ShowFsB N enc P w base o (fl :: fs) (c + c') (fun x : α × β => f x.1 ++ g x.2) (fun x => Q x.1 ∧ R x.2) := by
 intro n cs hcs
 obtain ⟨y, hN, hy⟩ := hcs 0 fl rfl
 obtain ⟨_, a, h1, h2, h3⟩ := h _ _ _ hN hy
 obtain ⟨b, h4, h5, h6⟩ := hr n cs fun i f hf => hcs (i + 1) f hf
 refine ⟨(a, b), ⟨h1, h4⟩, by simp [h2, h5], fun j v d hv hd => ?_⟩
 have hd : (f a ++ g b)[j]? = some d := hd
 by_cases hj : j < c
 ·rw [List.getElem?_append_left (by omega)] at hd
  refine h3 j v d ?_ hd
  rw [ho, hc, List.getElem?_take, if_pos hj, List.getElem?_drop]
  exact hv
 ·rw [List.getElem?_append_right (by omega), h2] at hd
  refine h6 (j - c) v d ?_ hd
  rw [show o + c + (j - c) = o + j by omega]
  exact hv
theorem showB_struct {N : Nat} {α : Type} {t : TypeId} {fs : Array Field} {c : Nat} {f : α → List D} {Q : α → Prop} (ht : P.underlying t = some (.struct fs)) (hc : P.cellsOf t = c) (h : ShowFsB N enc P w base 0 fs.toList c f Q) : ShowB (N + 1) enc P w base t c f Q := by
 intro fuel cs x hN hx
 obtain ⟨xs, n, _, hxx, hl, hlen, hf⟩ := DataW.trod_struct ht hx
 obtain ⟨a, h1, h2, h3⟩ := h n cs fun i fl hfl => by
  have hfl' : fs[i]? = some fl := by simpa using hfl
  have hi : i < fs.size := (Array.getElem?_eq_some_iff.1 hfl').1
  exact ⟨_, by rw [hxx] at hN; exact agg_size hN (List.mem_map.2 ⟨_, List.getElem_mem (by omega), rfl⟩), (hf i fl hfl').trans (List.getElem?_eq_getElem (by omega))⟩
 exact ⟨hl.trans hc, a, h1, h2, fun j v d hv hd => h3 j v d (by simpa using hv) hd⟩
end
end Go.Proofs.Ytgiacdhffklenaa
end
section
namespace Go.Proofs.Ytgiacdhffklenaa
abbrev u_direct : ByteArray := ⟨#[100, 105, 114, 101, 99, 116]⟩
abbrev u_ride : ByteArray := ⟨#[114, 105, 100, 101]⟩
abbrev u_delay : ByteArray := ⟨#[100, 101, 108, 97, 121]⟩
abbrev u_notice : ByteArray := ⟨#[110, 111, 116, 105, 99, 101]⟩
abbrev u_seats : ByteArray := ⟨#[115, 101, 97, 116, 115]⟩
abbrev u_chairs : ByteArray := ⟨#[99, 104, 97, 105, 114, 115]⟩
abbrev u_bags : ByteArray := ⟨#[98, 97, 103, 115]⟩
abbrev u_riders : ByteArray := ⟨#[114, 105, 100, 101, 114, 115]⟩
abbrev u_favour : ByteArray := ⟨#[102, 97, 118, 111, 117, 114]⟩
abbrev u_balance : ByteArray := ⟨#[98, 97, 108, 97, 110, 99, 101]⟩
abbrev u_trips : ByteArray := ⟨#[116, 114, 105, 112, 115]⟩
abbrev u_noshows : ByteArray := ⟨#[110, 111, 115, 104, 111, 119, 115]⟩
def tripU (s : ByteArray) : Int := if s = u_direct ∨ s = u_ride ∨ s = u_delay ∨ s = u_notice then 2 else if s = u_seats ∨ s = u_chairs ∨ s = u_bags ∨ s = u_riders then 0 else -1
def memberU (s : ByteArray) : Int := if s = u_favour then 2 else if s = u_balance then 1 else if s = u_trips ∨ s = u_noshows then 0 else -1
inductive UR where
 | ok (u : Int)
 | bad (p : List Int) (e : Int)
def scopeU (sc : List (ByteArray × Int)) (s : ByteArray) : Int := match sc.find? (fun q => decide (q.1 = s)) with
 | some q => q.2
 | none => -1
def pairU (op a b : Int) : Int :=
 if op = 4 ∨ op = 5 ∨ op = 8 ∨ op = 9 then (if a = b ∧ a ≠ 3 then a else -1)
 else if op = 6 then (if a = 0 ∧ b ≠ 3 then b else if b = 0 ∧ a ≠ 3 then a else -1)
 else if op = 7 then (if b = 0 ∧ a ≠ 3 then a else if (a = b ∧ a ≠ 3) ∧ a ≠ 0 then 0 else -1)
 else if op = 10 then (if a = b ∧ a ≠ 3 then 3 else -1)
 else if op = 11 then (if a = b then 3 else -1) else -1
def joinU (op : Int) (l : List Int) : Int :=
 if op = 12 ∨ op = 13 ∨ op = 14 then (if l.any (fun u => !decide (u = 3)) then -1 else 3)
 else if op = 15 then (if l.getD 0 0 = 3 ∧ l.getD 1 0 = l.getD 2 0 then l.getD 1 0 else -1)
 else if l.length = 2 then pairU op (l.getD 0 0) (l.getD 1 0) else -1
def nameU (u : Int) : UR := if u = -1 then .bad [] 14 else .ok u
def partsU (op : Int) : List Int ⊕ (List Int × Int) → UR
 | .inl l => if joinU op l = -1 then .bad [] 13 else .ok (joinU op l)
 | .inr q => .bad q.1 q.2
def consU (i : Int) : UR → List Int ⊕ (List Int × Int) → List Int ⊕ (List Int × Int)
 | .bad p e, _ => .inr (i :: p, e)
 | .ok u, .inl l => .inl (u :: l)
 | .ok _, .inr q => .inr q
mutual
def Ex.unitU (sc : List (ByteArray × Int)) : Ex → UR
 | .mk op _ u s a => if op = 0 then .ok u else if op = 2 then nameU (tripU s) else if op = 3 then nameU (memberU s) else if op = 1 then nameU (scopeU sc s) else partsU op (Ex.unitsL sc 0 a)
def Ex.unitsL (sc : List (ByteArray × Int)) : Int → List Ex → List Int ⊕ (List Int × Int)
 | _, [] => .inl []
 | i, x :: r => consU i (x.unitU sc) (Ex.unitsL sc (i + 1) r)
end
theorem unit_eq (sc : List (ByteArray × Int)) (e : Ex) : e.unitU sc = if e.op = 0 then .ok e.unit else if e.op = 2 then nameU (tripU e.str) else if e.op = 3 then nameU (memberU e.str) else if e.op = 1 then nameU (scopeU sc e.str) else partsU e.op (Ex.unitsL sc 0 e.args) := by
 cases e
 rfl
def UR.un : UR → Int
 | .ok u => u
 | .bad _ _ => -1
def scopedU (ls : List (ByteArray × Ex)) : List (ByteArray × Int) := ls.foldl (fun sc q => sc ++ [(q.1, (q.2.unitU sc).un)]) []
theorem scoped_snoc (ls : List (ByteArray × Ex)) (q : ByteArray × Ex) : scopedU (ls ++ [q]) = scopedU ls ++ [(q.1, (q.2.unitU (scopedU ls)).un)] := by
 unfold scopedU
 rw [List.foldl_append]
 rfl
theorem scoped_len (ls : List (ByteArray × Ex)) : (scopedU ls).length = ls.length := by
 have key : ∀ (sc : List (ByteArray × Int)), (ls.foldl (fun sc q => sc ++ [(q.1, (q.2.unitU sc).un)]) sc).length = sc.length + ls.length := by
  induction ls with
  | nil => intro sc; rfl
  | cons q r ih =>
   intro sc
   rw [List.foldl_cons, ih, List.length_append, List.length_cons]
   simp only [List.length_cons, List.length_nil]
   omega
 have := key []
 unfold scopedU
 rw [this]
 simp
def wrongL (ls : List (ByteArray × Ex)) : Bool := ls.any fun q => !q.2.right 12
def ofU (ls : List (ByteArray × Ex)) (e : Ex) : Int × List Int × Int :=
 if !e.right 12 || (decide (20 < (ls.length : Int)) || wrongL ls) then (0, [], 1) else match e.unitU (scopedU ls) with
 | .ok u => (u, [], 0)
 | .bad p c => (0, p, c)
theorem name_ok {u v : Int} (h : nameU u = .ok v) : u ≠ -1 ∧ v = u := by
 unfold nameU at h
 split at h
 ·cases h
 ·cases h
  exact ⟨‹_›, rfl⟩
theorem parts_ok {op v : Int} {x : List Int ⊕ (List Int × Int)} (h : partsU op x = .ok v) : ∃ l, x = .inl l ∧ joinU op l ≠ -1 ∧ v = joinU op l := by
 cases x with
 | inl l =>
  simp only [partsU] at h
  split at h
  ·cases h
  ·cases h
   exact ⟨l, rfl, ‹_›, rfl⟩
 | inr q => cases h
theorem cons_ok {i : Int} {x : UR} {y : List Int ⊕ (List Int × Int)} {l : List Int} (h : consU i x y = .inl l) : ∃ u m, x = .ok u ∧ y = .inl m ∧ l = u :: m := by
 cases x with
 | bad p e => cases h
 | ok u =>
  cases y with
  | inl m => cases h; exact ⟨u, m, rfl, rfl, rfl⟩
  | inr q => cases h
abbrev nilE : Ex := .mk 0 0 0 ⟨#[]⟩ []
def atP : Ex → List Int → Option Ex
 | e, [] => some e
 | e, i :: p => if i < 0 ∨ (e.args.length : Int) ≤ i then none else atP (e.args.getD i.toNat nilE) p
def withP : Ex → List Int → Ex → Ex
 | _, [], x => x
 | e, i :: p, x => if i < 0 ∨ (e.args.length : Int) ≤ i then e else .mk e.op e.num e.unit e.str (e.args.set i.toNat (withP (e.args.getD i.toNat nilE) p x))
theorem getD_arg {a : List Ex} {k : Nat} (h : k < a.length) : a.getD k nilE = a[k] := by
 rw [List.getD_eq_getElem?_getD, List.getElem?_eq_getElem h]
 rfl
theorem units_ok (sc : List (ByteArray × Int)) : ∀ (i : Int) (a : List Ex) (l : List Int), Ex.unitsL sc i a = .inl l → l.length = a.length ∧ ∀ (j : Nat) (h : j < a.length), ∃ u, a[j].unitU sc = .ok u ∧ l[j]? = some u
 | i, [], l, h => by
  cases h
  exact ⟨rfl, fun j h => by simp at h⟩
 | i, x :: r, l, h => by
  simp only [Ex.unitsL] at h
  obtain ⟨u, m, h1, h2, rfl⟩ := cons_ok h
  obtain ⟨k1, k2⟩ := units_ok sc (i + 1) r m h2
  refine ⟨by simp [k1], fun j hj => ?_⟩
  cases j with
  | zero => exact ⟨u, h1, rfl⟩
  | succ j => exact k2 j (by simpa using hj)
theorem units_bad (sc : List (ByteArray × Int)) : ∀ (i : Int) (a : List Ex) (p : List Int) (c : Int), Ex.unitsL sc i a = .inr (p, c) → ∃ (k : Nat) (q : List Int) (h : k < a.length), p = (i + k) :: q ∧ a[k].unitU sc = .bad q c ∧ ∀ (j : Nat) (hj : j < a.length), j < k → ∃ u, a[j].unitU sc = .ok u
 | i, [], p, c, h => by cases h
 | i, x :: r, p, c, h => by
  simp only [Ex.unitsL] at h
  cases hx : x.unitU sc with
  | bad q e =>
   rw [hx] at h
   cases h
   exact ⟨0, q, by simp, by simp, hx, fun j hj h => by omega⟩
  | ok u =>
   rw [hx] at h
   cases hr : Ex.unitsL sc (i + 1) r with
   | inl l => rw [hr] at h; cases h
   | inr q =>
    rw [hr] at h
    cases h
    obtain ⟨k, q, hk, h1, h2, h3⟩ := units_bad sc (i + 1) r p c hr
    refine ⟨k + 1, q, by simpa using hk, by rw [h1]; congr 1; omega, h2, fun j hj hjk => ?_⟩
    cases j with
    | zero => exact ⟨u, hx⟩
    | succ j => exact h3 j (by simpa using hj) (by omega)
def Placed (sc : List (ByteArray × Int)) : Ex → List Int → Int → Prop
 | e, [], c => e.unitU sc = .bad [] c ∧ (∀ x ∈ e.args, ∃ u, x.unitU sc = .ok u) ∧ (c = 14 → e.op = 1 ∨ e.op = 2 ∨ e.op = 3) ∧ (c = 13 ∨ c = 14)
 | e, i :: p, c => ∃ (k : Nat) (h : k < e.args.length), i = k ∧ (∀ (j : Nat) (hj : j < e.args.length), j < k → ∃ u, e.args[j].unitU sc = .ok u) ∧ Placed sc e.args[k] p c
theorem right_args {e : Ex} {d : Nat} (h : e.right (d + 1) = true) : (e.op = 0 ∨ e.op = 1 ∨ e.op = 2 ∨ e.op = 3 → e.args = []) ∧ ∀ x ∈ e.args, x.right d = true := by
 rcases right_shape h with ⟨n, u, rfl, _⟩ | ⟨op, s, ho, rfl, _⟩ | ⟨x, rfl, hx⟩ | ⟨x, y, z, rfl, hx, hy, hz⟩ | ⟨op, x, y, ho, rfl, hx, hy⟩ | ⟨op, x, y, t, g, ho, rfl, hx, hy⟩
 ·exact ⟨fun _ => rfl, fun x hx => by cases hx⟩
 ·exact ⟨fun _ => rfl, fun x hx => by cases hx⟩
 ·refine ⟨fun h => by simp [Ex.op] at h, fun y hy => ?_⟩
  simp only [Ex.args, List.mem_singleton] at hy
  subst hy
  exact hx
 ·refine ⟨fun h => by simp [Ex.op] at h, fun w hw => ?_⟩
  simp only [Ex.args, List.mem_cons, List.not_mem_nil, or_false] at hw
  rcases hw with rfl | rfl | rfl <;> assumption
 ·refine ⟨fun h => ?_, fun w hw => ?_⟩
  ·simp only [two, Ex.op] at h; omega
  ·simp only [two, Ex.args, List.mem_cons, List.not_mem_nil, or_false] at hw
   rcases hw with rfl | rfl <;> assumption
 ·refine ⟨fun h => ?_, fun w hw => ?_⟩
  ·simp only [two, Ex.op] at h
   rcases opInfo_cases ho with ⟨rfl, _⟩ | ⟨rfl, _⟩ | ⟨rfl, _⟩ | ⟨rfl, _⟩ | ⟨rfl, _⟩ | ⟨rfl, _⟩ | ⟨rfl, _⟩ | ⟨rfl, _⟩ <;> simp at h
  ·simp only [two, Ex.args, List.mem_cons, List.not_mem_nil, or_false] at hw
   rcases hw with rfl | rfl <;> assumption
theorem name_bad {u c : Int} {p : List Int} (h : nameU u = .bad p c) : p = [] ∧ c = 14 := by
 unfold nameU at h
 split at h
 ·cases h; exact ⟨rfl, rfl⟩
 ·cases h
theorem placed : ∀ (d : Nat) (sc : List (ByteArray × Int)) (e : Ex) (p : List Int) (c : Int), e.right d = true → e.unitU sc = .bad p c → Placed sc e p c ∧ p.length < d
 | 0, sc, e, p, c, h, _ => by rw [right_zero] at h; cases h
 | d + 1, sc, e, p, c, h, hb => by
  obtain ⟨ha, hs⟩ := right_args h
  have leaf : (e.op = 1 ∨ e.op = 2 ∨ e.op = 3) → p = [] ∧ c = 14 → Placed sc e p c ∧ p.length < d + 1 := by
   rintro ho ⟨rfl, rfl⟩
   refine ⟨⟨hb, fun x hx => ?_, fun _ => ho, .inr rfl⟩, by simp⟩
   rw [ha (by omega)] at hx
   cases hx
  have hb2 := hb
  rw [unit_eq] at hb2
  split at hb2
  ·cases hb2
  ·split at hb2
   ·rename_i h2; exact leaf (.inr (.inl h2)) (name_bad hb2)
   ·split at hb2
    ·rename_i h3; exact leaf (.inr (.inr h3)) (name_bad hb2)
    ·split at hb2
     ·rename_i h1; exact leaf (.inl h1) (name_bad hb2)
     ·cases hu : Ex.unitsL sc 0 e.args with
      | inl l =>
       rw [hu] at hb2
       simp only [partsU] at hb2
       split at hb2
       ·cases hb2
        refine ⟨⟨hb, fun x hx => ?_, fun h => by omega, .inl rfl⟩, by simp⟩
        obtain ⟨j, hj, rfl⟩ := List.getElem_of_mem hx
        obtain ⟨u, h1, _⟩ := (units_ok sc 0 _ _ hu).2 j hj
        exact ⟨u, h1⟩
       ·cases hb2
      | inr q =>
       rw [hu] at hb2
       cases hb2
       obtain ⟨k, q', hk, h1, h2, h3⟩ := units_bad sc 0 _ _ _ hu
       obtain ⟨h4, h5⟩ := placed d sc e.args[k] q' q.2 (hs _ (List.getElem_mem hk)) h2
       rw [h1]
       refine ⟨⟨k, hk, by omega, h3, h4⟩, by simp; omega⟩
theorem placed_at : ∀ (p : List Int) (sc : List (ByteArray × Int)) (e : Ex) (c : Int), Placed sc e p c → ∃ part, atP e p = some part ∧ Placed sc part [] c
 | [], sc, e, c, h => ⟨e, rfl, h⟩
 | i :: p, sc, e, c, ⟨k, hk, hi, _, h⟩ => by
  obtain ⟨part, h1, h2⟩ := placed_at p sc _ c h
  refine ⟨part, ?_, h2⟩
  simp only [atP]
  rw [if_neg (by omega), show i.toNat = k by omega, getD_arg hk]
  exact h1
end Go.Proofs.Ytgiacdhffklenaa
end
section
set_option linter.unusedSimpArgs false
set_option linter.unusedVariables false
namespace Go.Proofs.Ytgiacdhffklenaa
open Go.RowKit
def knownD (u : Int) : D := .tup [.int (if u = -1 then 0 else u), .bool (!decide (u = -1))]
theorem utrip_any (s : ByteArray) : PureC 12 [.str s] (· = knownD (tripU s)) := by
 refine pure_enter Try.func12 rfl (by decide) _ Try.ntmps12 (le_ok rfl) (fun w Pr hE => ?_)
 dsimp only [slotsOf, Nat.zero_add, Nat.reduceAdd]
 repeat' (first | refine nx ?_ | (apply aq_block_y; decide) | (apply qr_move; refine r_move ?_) | (apply qr_assign; refine r_assign ?_) | (apply at_cond; first | refine c_t ?_ | refine c_f ?_ | (refine aw_cond rfl (fun hb => ?_) (fun hb => ?_) <;> ((try have hq := dX hb); (try (exfalso; omega))))) | (apply qr_eql; refine r_eql ?_))
 all_goals refine ret_two (by rfl) (by first | exact ToD.d _ | exact ToD.row _ _ _ _ _ rfl) (by first | exact ToD.d _ | exact ToD.row _ _ _ _ _ rfl) ?_
 all_goals
  unfold tripU knownD
  simp only [decide_eq_true_eq, decide_eq_false_iff_not] at *
  simp [*]
theorem umember_any (s : ByteArray) : PureC 14 [.str s] (· = knownD (memberU s)) := by
 refine pure_enter Try.func14 rfl (by decide) _ Try.ntmps14 (le_ok rfl) (fun w Pr hE => ?_)
 dsimp only [slotsOf, Nat.zero_add, Nat.reduceAdd]
 repeat' (first | refine nx ?_ | (apply aq_block_y; decide) | (apply qr_move; refine r_move ?_) | (apply qr_assign; refine r_assign ?_) | (apply at_cond; first | refine c_t ?_ | refine c_f ?_ | (refine aw_cond rfl (fun hb => ?_) (fun hb => ?_) <;> ((try have hq := dX hb); (try (exfalso; omega))))) | (apply qr_eql; refine r_eql ?_))
 all_goals refine ret_two (by rfl) (by first | exact ToD.d _ | exact ToD.row _ _ _ _ _ rfl) (by first | exact ToD.d _ | exact ToD.row _ _ _ _ _ rfl) ?_
 all_goals
  unfold memberU knownD
  simp only [decide_eq_true_eq, decide_eq_false_iff_not] at *
  simp [*]
theorem pair_any (op a b : Int) : PureC 71 [.int op, .int a, .int b] (· = .int (pairU op a b)) := by
 refine pure_enter Try.func71 rfl (by decide) _ Try.ntmps71 (le_ok rfl) (fun w Pr hE => ?_)
 dsimp only [slotsOf, Nat.zero_add, Nat.reduceAdd]
 repeat' (first | refine nx ?_ | (apply aq_block_y; decide) | (apply qr_move; refine r_move ?_) | (apply qr_assign; refine r_assign ?_) | (apply at_cond; first | refine c_t ?_ | refine c_f ?_ | (refine aw_cond rfl (fun hb => ?_) (fun hb => ?_) <;> ((try have hq := dX hb); (try (exfalso; omega))))) | (apply at_guard; first | refine g_go ?_ | refine g_nt ?_ | refine g_nf ?_ | refine g_nu ?_ | ((first | refine al_split_t rfl rfl (lt_ok rfl) (fun hb => ?_) (fun hb => ?_) | refine al_split_f rfl rfl (lt_ok rfl) (fun hb => ?_) (fun hb => ?_)) <;> ((try have hq := dX hb); (try (exfalso; omega))))) | (apply qr_pick; refine r_pick ?_) | (apply qr_eql; refine r_eql ?_) | (apply qr_neq; refine r_neq ?_))
 all_goals refine rt1 ?_
 all_goals
  unfold pairU
  simp only [decide_eq_true_eq, decide_eq_false_iff_not, Bool.not_eq_true', Bool.not_eq_false', decide_eq_true_eq] at *
  (repeat' split) <;> first | rfl | (exfalso; omega)
theorem scope_at {sc : List (ByteArray × Int)} {s : ByteArray} {i : Nat} (hi : i < sc.length) (h : sc[i].1 = s) (hn : ∀ (j : Nat) (hj : j < sc.length), j < i → sc[j].1 ≠ s) : scopeU sc s = sc[i].2 := by
 induction sc generalizing i with
 | nil => simp at hi
 | cons q r ih =>
  cases i with
  | zero =>
   have h0 : q.1 = s := by simpa using h
   simp [scopeU, h0]
  | succ i =>
   have h0 : q.1 ≠ s := hn 0 (by simp) (by omega)
   have := ih (i := i) (by simpa using hi) (by simpa using h) (fun j hj hji => hn (j + 1) (by simpa using hj) (by omega))
   simp only [scopeU, List.find?_cons, h0, decide_false] at this ⊢
   simpa using this
theorem scope_no {sc : List (ByteArray × Int)} {s : ByteArray} (hn : ∀ (j : Nat) (hj : j < sc.length), sc[j].1 ≠ s) : scopeU sc s = -1 := by
 unfold scopeU
 have : sc.find? (fun q => decide (q.1 = s)) = none := by
  rw [List.find?_eq_none]
  intro q hq
  obtain ⟨j, hj, rfl⟩ := List.getElem_of_mem hq
  simpa using hn j hj
 rw [this]
abbrev nmB (s : ByteArray) : Objs := [(1001, .box 9 [.d (.str s)])]
theorem name1_any (q : ByteArray × Ex) (s : ByteArray) : ObC 68 [.d (.agg (letC q)), .box 1001 0] (nmB s) [] (fun x o => x = .d (.bool (decide (q.1 = s))) ∧ o = nmB s) := by
 refine ob_enter Try.func68 rfl (by decide) _ Try.ntmps68 (le_ok rfl) rfl (fun w Pr β κ hE => ?_)
 dsimp only [slotsV, Nat.zero_add, Nat.reduceAdd]
 repeat' (first | refine nx ?_ | apply aw_scope | apply aw_label | apply aq_ng_n | apply aq_ng_r | apply aq_ng_x | (apply qr_assign; refine r_assign ?_) | (apply qr_eql; refine r_eql ?_) | (apply qr_load; refine r_load ?_) | (apply qr_faddr; refine r_faddr ?_) | (apply qr_boxed; refine r_boxed ?_))
 refine oret1 (nmB s) (by rfl) rv (⟨rfl, rfl⟩) sb okx
def FirstN (ls : List (ByteArray × Ex)) (s : ByteArray) (r : Int) : Prop := (r = -1 ∧ ∀ (j : Nat) (hj : j < ls.length), ls[j].1 ≠ s) ∨ ∃ (i : Nat) (hi : i < ls.length), r = i ∧ ls[i].1 = s ∧ ∀ (j : Nat) (hj : j < ls.length), j < i → ls[j].1 ≠ s
theorem lindex (ls : List (ByteArray × Ex)) (s : ByteArray) (hl : ls.length ≤ 100000) : ObC 41 [.d (letsD ls), .clo (.func 68) [.box 1001 0]] (nmB s) [] (fun x o => (∃ r, x = .d (.int r) ∧ FirstN ls s r) ∧ o = nmB s) := by
 have hlen : (ls.map letC).length = ls.length := List.length_map ..
 refine ob_enter Try.func41 rfl (by decide) _ Try.ntmps41 (le_ok rfl) rfl (fun w Pr β κ hE => ?_)
 dsimp only [slotsV, Nat.zero_add, Nat.reduceAdd]
 repeat' (first | refine nx ?_ | (apply aq_block_y; decide) | (apply qr_move; refine r_move ?_) | (apply qr_assign; refine r_assign ?_) | (apply at_cond; first | refine c_t ?_ | refine c_f ?_ | (refine aw_cond rfl (fun hb => ?_) (fun hb => ?_) <;> ((try have hq := dX hb); (try (exfalso; omega))))) | (apply qr_lss; refine r_lss ?_) | (apply qr_add; refine r_add ?_) | (apply qr_len; refine r_len ?_) | (apply qr_ix; refine r_ix ?_) | (apply qr_load; refine r_load ?_))
 refine aw_lp (fun N sl ob => ∃ i : Nat, N = ls.length - i ∧ i ≤ ls.length ∧ (∀ (j : Nat) (hj : j < ls.length), j < i → ls[j].1 ≠ s) ∧ sl = [(8, .d (.int i)), (7, .d (.int ls.length)), (1, .clo (.func 68) [.box 1001 0]), (0, .d (letsD ls))] ∧ ob = nmB s) (⟨0, rfl, Nat.zero_le _, fun j hj h => by omega, rfl, rfl⟩) ?_
 rintro N sl ob ⟨i, rfl, hi, hs, rfl, rfl⟩
 by_cases hlt : i < ls.length
 ·have hg : (ls.map letC)[i]? = some (letC ls[i]) := by rw [get_map hlt]
  have hc := name1_any ls[i] s
  by_cases hT : ls[i].1 = s
  ·rw [decide_eq_true hT] at hc
   generalize hz : ls[i] = z at hg hc
   repeat' (first | (apply at_op (.indexAddr _ _ _); refine al_ixq hg ?_) | (apply at_call; refine k_clocall1 [(1001, 1001)] (hc) hE ?_; rintro _ _ ⟨rfl, rfl⟩ <;> (intro _ _ h1 h2; simp only [renEqs, Nat.reduceBEq, renL_app, renL_ds, renL_und] at h1 h2; subst h1 h2)) | refine nx ?_ | (apply aq_block_y; decide) | (apply qr_move; refine r_move ?_) | (apply qr_assign; refine r_assign ?_) | (apply at_cond; first | refine c_t ?_ | refine c_f ?_ | (refine aw_cond rfl (fun hb => ?_) (fun hb => ?_) <;> ((try have hq := dX hb); (try (exfalso; omega))))) | (apply qr_lss; refine r_lss ?_) | (apply qr_add; refine r_add ?_) | (apply qr_len; refine r_len ?_) | (apply qr_ix; refine r_ix ?_) | (apply qr_load; refine r_load ?_))
   refine oret1 (nmB s) (by rfl) rv (⟨⟨i, rfl, .inr ⟨i, hlt, rfl, hT, hs⟩⟩, rfl⟩) sb okx
  ·rw [decide_eq_false hT] at hc
   have hnext : ∀ (j : Nat) (hj : j < ls.length), j < i + 1 → ls[j].1 ≠ s := fun j hj hji => by
    rcases Nat.lt_succ_iff_lt_or_eq.1 hji with h | rfl
    ·exact hs j hj h
    ·exact hT
   generalize ls[i] = z at hg hc
   repeat' (first | (apply at_op (.indexAddr _ _ _); refine al_ixq hg ?_) | (apply at_call; refine k_clocall1 [(1001, 1001)] (hc) hE ?_; rintro _ _ ⟨rfl, rfl⟩ <;> (intro _ _ h1 h2; simp only [renEqs, Nat.reduceBEq, renL_app, renL_ds, renL_und] at h1 h2; subst h1 h2)) | refine nx ?_ | (apply aq_block_y; decide) | (apply qr_move; refine r_move ?_) | (apply qr_assign; refine r_assign ?_) | (apply at_cond; first | refine c_t ?_ | refine c_f ?_ | (refine aw_cond rfl (fun hb => ?_) (fun hb => ?_) <;> ((try have hq := dX hb); (try (exfalso; omega))))) | (apply qr_lss; refine r_lss ?_) | (apply qr_add; refine r_add ?_) | (apply qr_len; refine r_len ?_) | (apply qr_ix; refine r_ix ?_) | (apply qr_load; refine r_load ?_))
   refine aq_rd (⟨i + 1, rfl, by omega, hnext, rfl, rfl⟩) (by omega)
 ·skip
  repeat' (first | refine nx ?_ | (apply aq_block_y; decide) | (apply qr_move; refine r_move ?_) | (apply qr_assign; refine r_assign ?_) | (apply at_cond; first | refine c_t ?_ | refine c_f ?_ | (refine aw_cond rfl (fun hb => ?_) (fun hb => ?_) <;> ((try have hq := dX hb); (try (exfalso; omega))))) | (apply qr_lss; refine r_lss ?_) | (apply qr_add; refine r_add ?_) | (apply qr_len; refine r_len ?_) | (apply qr_ix; refine r_ix ?_) | (apply qr_load; refine r_load ?_))
  refine oret1 (nmB s) (by rfl) rv (⟨⟨-1, rfl, .inl ⟨rfl, fun j hj => hs j hj (by omega)⟩⟩, rfl⟩) sb okx
structure ScOk (ls : List (ByteArray × Ex)) (sc : List (ByteArray × Int)) : Prop where
 names : ls.map (·.1) = sc.map (·.1)
 len : ls.length ≤ 1000
theorem ScOk.length {ls : List (ByteArray × Ex)} {sc : List (ByteArray × Int)} (h : ScOk ls sc) : ls.length = sc.length := by
 have := congrArg List.length h.names
 simpa using this
theorem ScOk.at {ls : List (ByteArray × Ex)} {sc : List (ByteArray × Int)} (h : ScOk ls sc) {i : Nat} (hi : i < ls.length) (hi' : i < sc.length) : ls[i].1 = sc[i].1 := by
 have := congrArg (fun l => l[i]?) h.names
 simpa [hi, hi'] using this
abbrev scD (ls : List (ByteArray × Ex)) (sc : List (ByteArray × Int)) : D := .agg [letsD ls, intsD (sc.map (·.2))]
theorem scname_any {ls : List (ByteArray × Ex)} {sc : List (ByteArray × Int)} (h : ScOk ls sc) (s : ByteArray) : PureC 57 [scD ls sc, .str s] (· = .int (scopeU sc s)) := by
 have hlen := h.length
 have hl := h.len
 have hc := lindex ls s (by omega)
 obtain ⟨us, hus⟩ : ∃ us, us = (sc.map (·.2)).map fun n => [D.int n] := ⟨_, rfl⟩
 unfold scD intsD
 rw [← hus]
 refine pure_enter Try.func57 rfl (by decide) _ Try.ntmps57 (le_ok rfl) (fun w Pr hE => ?_)
 dsimp only [slotsOf, Nat.zero_add, Nat.reduceAdd]
 repeat' (first | (apply at_op (.makeFunc _ _ _); refine al_y (y_clo rfl) (lt_ok rfl) ?_) | (apply at_call; refine k_ocall [(1001, 3)] (hc) hE ?_; rintro _ _ ⟨⟨r, rfl, hr⟩, rfl⟩ <;> (intro _ _ h1 h2; simp only [renEqs, Nat.reduceBEq, renL_app, renL_ds, renL_und] at h1 h2; subst h1 h2)) | refine nx ?_ | apply aw_scope | apply aw_label | apply aq_ng_n | apply aq_ng_r | apply aq_ng_x | (apply qr_assign; refine r_assign ?_) | (apply at_cond; first | refine c_t ?_ | refine c_f ?_ | (refine aw_cond rfl (fun hb => ?_) (fun hb => ?_) <;> ((try have hq := dX hb); (try (exfalso; omega))))) | (apply qr_func; refine r_func ?_) | (apply qr_load; refine r_load ?_) | (apply qr_faddr; refine r_faddr ?_) | (apply qr_boxed; refine r_boxed ?_))
 rcases hr with ⟨rfl, hno⟩ | ⟨i, hi, rfl, he, hno⟩
 ·skip
  repeat' (first | refine nx ?_ | apply aw_scope | apply aw_label | apply aq_ng_n | apply aq_ng_r | apply aq_ng_x | (apply qr_move; refine r_move ?_) | (apply qr_assign; refine r_assign ?_) | (apply at_cond; first | refine c_t ?_ | refine c_f ?_ | (refine aw_cond rfl (fun hb => ?_) (fun hb => ?_) <;> ((try have hq := dX hb); (try (exfalso; omega))))) | (apply qr_lss; refine r_lss ?_) | (apply qr_func; refine r_func ?_) | (apply qr_ix; refine r_ix ?_) | (apply qr_load; refine r_load ?_) | (apply qr_faddr; refine r_faddr ?_) | (apply qr_boxed; refine r_boxed ?_))
  refine rt1 ?_
  rw [scope_no fun j hj => by rw [← h.at (by omega) hj]; exact hno j (by omega)]
 ·have hg : us[i]? = some [D.int (sc[i]'(by omega)).2] := by rw [hus]; simp [show i < sc.length by omega]
  have hres := scope_at (sc := sc) (s := s) (i := i) (by omega) (by rw [← h.at hi (by omega)]; exact he) (fun j hj hji => by rw [← h.at (by omega) hj]; exact hno j (by omega) hji)
  generalize (sc[i]'(by omega)).2 = u at hg hres
  repeat' (first | (apply at_op (.indexAddr _ _ _); refine al_ixq hg ?_) | refine nx ?_ | apply aw_scope | apply aw_label | apply aq_ng_n | apply aq_ng_r | apply aq_ng_x | (apply qr_move; refine r_move ?_) | (apply qr_assign; refine r_assign ?_) | (apply at_cond; first | refine c_t ?_ | refine c_f ?_ | (refine aw_cond rfl (fun hb => ?_) (fun hb => ?_) <;> ((try have hq := dX hb); (try (exfalso; omega))))) | (apply qr_lss; refine r_lss ?_) | (apply qr_func; refine r_func ?_) | (apply qr_ix; refine r_ix ?_) | (apply qr_load; refine r_load ?_) | (apply qr_faddr; refine r_faddr ?_) | (apply qr_boxed; refine r_boxed ?_))
  refine rt1 ?_
  rw [hres]
end Go.Proofs.Ytgiacdhffklenaa
end
