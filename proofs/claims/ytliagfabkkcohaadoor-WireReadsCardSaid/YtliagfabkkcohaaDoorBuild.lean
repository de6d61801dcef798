/-
  Builders of strings, over abstract states. Conditions: none.
-/
import Derived.Test.YtliagfabkkcohaaDoorAbsStr
import Derived.Test.YtliagfabkkcohaaDoorAbsMix
import Derived.Test.YtliagfabkkcohaaDoorAbsMore
import Derived.Test.YtliagfabkkcohaaDoorShelf
set_option linter.unusedSimpArgs false
set_option linter.unusedVariables false
namespace Go.Proofs.YtliagfabkkcohaaDoor
open Go.RowKit

/-- a builder and its bytes; it has written before, or not -/
abbrev bldA : Bool → V
  | true => .box 1000 0
  | false => .d (.val (.pointer none))
abbrev bld (A : V) (k : Nat) (l : List (List D)) : Objs := [(1000, .box 67 [A, .row 1001 k]), (1001, .row 5 1 k l)]
theorem bld_find {A : V} {k : Nat} {l : List (List D)} {i : Nat} {o : O} (h : find (bld A k l) i = some o) : (i = 1000 ∧ o = .box 67 [A, .row 1001 k]) ∨ (i = 1001 ∧ o = .row 5 1 k l) := by
  by_cases h1 : i = 1000
  · subst h1
    rw [find_eq] at h
    cases h
    exact .inl ⟨rfl, rfl⟩
  · rw [find_ne h1] at h
    by_cases h2 : i = 1001
    · subst h2
      rw [find_eq] at h
      cases h
      exact .inr ⟨rfl, rfl⟩
    · rw [find_ne h2] at h
      cases h
theorem copycheck_any (used : Bool) (k : Nat) (l : List (List D)) : ObC 66 [.box 1000 0] (bld (bldA used) k l) [] (fun x o => x = .tup [] ∧ o = bld (.box 1000 0) k l) := by
  refine ⟨⟨_, Tryd.func66, by decide, rfl⟩, fun w Pr vs β κ hp hE hl hv ho hap => ?_⟩
  match vs, hl with
  | [v], _ =>
    have h1 := hv 0 v _ rfl rfl
    have hO := ho 1000 _ rfl
    have hR := ho 1001 _ rfl
    obtain ⟨b, cs, q1, _, q3, q4, q5, q6⟩ := hO
    cases h1 with
    | box _ _ g hb =>
      rw [q1] at hb
      simp only [Value.pointer.injEq, Option.some.injEq, Addr.mk.injEq, and_true] at hb
      subst hb
      match cs, q4 with
      | [c0, c1], _ =>
        have r0 := q5 0 c0 _ rfl rfl
        have r1 := q5 1 c1 _ rfl rfl
        have hcell : w.cell? ⟨b, 0, none⟩ = some c0 := by
          rw [cell_of_row w b 0 _ _ (0, 0) q3]
          rfl
        have wof : ∀ i o, find (bld (.box 1000 0) k l) i = some o → i ∈ keys (bld (bldA used) k l) ++ [] ∧ o.within (keys (bld (bldA used) k l) ++ []) = true := by
          intro i o hi
          rcases bld_find hi with ⟨rfl, rfl⟩ | ⟨rfl, rfl⟩
          · exact ⟨by simp [keys], rfl⟩
          · exact ⟨by simp [keys], rfl⟩
        have own : ∀ i o g, find (bld (.box 1000 0) k l) i = some o → blk (β i) = some g → Lent (bld (bldA used) k l) β g ∨ w.heap.size ≤ g := by
          intro i o g hi hg
          rcases bld_find hi with ⟨rfl, rfl⟩ | ⟨rfl, rfl⟩
          · exact .inl ⟨1000, _, rfl, hg⟩
          · exact .inl ⟨1001, _, rfl, hg⟩
        have hapart : ∀ i j oi oj g, find (bld (.box 1000 0) k l) i = some oi → find (bld (.box 1000 0) k l) j = some oj → blk (β i) = some g → blk (β j) = some g → i = j := by
          intro i j oi oj g hi hj h2 h3
          have : ∀ i oi, find (bld (.box 1000 0) k l) i = some oi → ∃ o, find (bld (bldA used) k l) i = some o := by
            intro i oi hi
            rcases bld_find hi with ⟨rfl, rfl⟩ | ⟨rfl, rfl⟩ <;> exact ⟨_, rfl⟩
          obtain ⟨_, hi'⟩ := this i oi hi
          obtain ⟨_, hj'⟩ := this j oj hj
          exact hap i j _ _ g hi' hj' h2 h3
        have hself : RepV w Pr β κ (.pointer (some ⟨b, 0, none⟩)) (.box 1000 0) := .box 1000 0 b q1
        cases used with
        | true =>
          cases r0 with
          | box _ _ g hg =>
            rw [q1] at hg
            simp only [Value.pointer.injEq, Option.some.injEq, Addr.mk.injEq, and_true] at hg
            subst hg
            refine (Any.Builder_copyCheck_used Tryd.lays240 Tryd.X72_240 b w hcell).mono fun e w' ⟨he, hw⟩ => ?_
            subst hw
            exact ⟨_, _, _, Pr, β, κ, he, ⟨rfl, rfl⟩, Under.refl _ _, fun _ _ _ => rfl, fun _ _ h => h, fun _ _ h => .inl h, hp, .tup [] [] rfl (by simp), ho, hap, own, fun _ _ _ => .inl ⟨rfl, rfl⟩, rfl, wof⟩
        | false =>
          have e0 := r0.val_inv
          subst e0
          refine (Any.Builder_copyCheck_fresh Tryd.lays240 Tryd.X72_240 b w hcell (by simp [World.shape?, q3]; rfl) (by simp [World.frozen?, q3])).mono fun e w' ⟨he, hw⟩ => ?_
          subst hw
          have hoth : ∀ k, k ≠ b → (w.setCell ⟨b, 0, none⟩ (.pointer (some ⟨b, 0, none⟩))).heap[k]? = w.heap[k]? := fun k hk => Below.heap_setCell w _ _ k hk
          have hnew : (w.setCell ⟨b, 0, none⟩ (.pointer (some ⟨b, 0, none⟩))).heap[b]? = some (.cells #[.pointer (some ⟨b, 0, none⟩), c1] 67 (0, 0)) := by
            simp only [World.setCell, Array.getElem?_modify, if_true, q3, Option.map_some]
            rfl
          have hst : Stays Pr w (w.setCell ⟨b, 0, none⟩ (.pointer (some ⟨b, 0, none⟩))) := fun b' o hb' => World.cell?_of_block (a := ⟨b', o, none⟩) (hoth b' (by rintro rfl; exact q6 o hb'))
          refine ⟨_, _, _, Pr, β, κ, he, ⟨rfl, rfl⟩, ⟨rfl, rfl, rfl, by simp [World.setCell], fun k _ hn => hoth k (fun e => hn ⟨1000, _, rfl, by rw [q1, e]; rfl⟩)⟩, hst, fun _ _ h => h, fun _ _ h => .inl h, fun b' o h => by simpa [World.setCell] using hp b' o h, .tup [] [] rfl (by simp), fun i o hi => ?_, hapart, own, fun _ _ _ => .inl ⟨rfl, rfl⟩, rfl, wof⟩
          rcases bld_find hi with ⟨rfl, rfl⟩ | ⟨rfl, rfl⟩
          · refine ⟨b, [.pointer (some ⟨b, 0, none⟩), c1], q1, Nat.zero_le _, hnew, rfl, fun j v x hj hx => ?_, q6⟩
            match j with
            | 0 => cases hj; cases hx; exact .box 1000 0 b q1
            | 1 => cases hj; cases hx; exact r1.keep hst (fun _ _ h => h)
          · refine hR.keep hst (fun _ _ h => h) (fun _ _ h => .inl h) (fun g hg => hoth g ?_)
            rintro rfl
            have := hap 1000 1001 _ _ g rfl rfl (by rw [q1]; rfl) hg
            cases this
set_option maxRecDepth 20000 in
theorem writestring_any (used : Bool) (k : Nat) (l : List (List D)) (s : ByteArray) (hm : l.length + s.size ≤ 140737488355328) : ObC 59 [.box 1000 0, .d (.str s)] (bld (bldA used) k l) [] (fun x o => x = .tup [.d (.int s.size), .d (.val .nilIface)] ∧ o = bld (.box 1000 0) (k + 1) (l ++ bytesD s)) := by
  cases used
  · skip
    refine ob_enter Tryd.func59 rfl (by decide) _ Tryd.ntmps59 (le_ok rfl) rfl (fun w Pr β κ hE => ?_)
    dsimp only [slotsV, Nat.zero_add, Nat.reduceAdd]
    repeat' (first | (apply at_op (.call { callee := .value _, args := _, argTypes := _ }); refine al_ocall [(1000, 1000), (1001, 1001)] (copycheck_any false k l) rfl hE (lt_ok rfl) (by (repeat (first | refine ArgsV.cons (.same _ _ rfl) ?_ | refine ArgsV.cons (.toD _ _ (by first | exact ToD.d _ | exact ToD.row _ _ _ _ _ rfl | exact ToD.nil _)) ?_)); exact ArgsV.nil) ⟨(obs_cons rfl (obs_cons rfl obs_nil)), rfl, rfl, rfl, rfl⟩ ?_; (all_goals (try first | omega | assumption)); rintro _ _ ⟨rfl, rfl⟩; intro _ _ h1 h2; simp only [V.ren, V.renL, O.ren, renO, rn, dropK, keys, mem, List.map_cons, List.map_nil, List.any_cons, List.any_nil, List.cons_append, List.nil_append, nbeq_def, Nat.reduceBEq, cond_true, cond_false, Bool.or_false, Bool.false_or, Bool.true_or] at h1 h2; subst h1 h2) | (apply at_op (.call { callee := .builtin .append, args := _, argTypes := _ }); refine al_step (st_append_s rfl rfl rfl rfl rfl (by kernel_rfl) hm (lt_ok rfl)) rfl ?_) | apply aw_seq | apply aw_region | apply al_nil | apply aq_np | apply aq_then | apply aq_then_x | apply aq_then_r | apply aw_skip | apply aw_exit | apply aw_ret | (apply at_op (.move _); refine al_y (y_moveC (by constructor)) (lt_ok rfl) ?_) | (apply at_op (.assign _); refine al_y (y_assignC (by constructor)) (lt_ok rfl) ?_) | (apply at_op (.call { callee := .builtin .len, args := _, argTypes := _ }); first | refine al_y (y_slen rfl rfl (by kernel_rfl)) (lt_ok rfl) ?_ | refine al_y (y_llen (by first | exact ToD.d _ | exact ToD.row _ _ _ _ _ rfl) rfl ⟨_, _, _, _, rfl⟩ (by first | (simp only [List.length_map, List.length_append, List.length_cons, List.length_nil]; rfl) | rfl)) (lt_ok rfl) ?_ | refine al_y (y_sllen rfl rfl ⟨_, _, _, _, rfl⟩) (lt_ok rfl) ?_) | (apply at_op (.load _ _); first | refine al_y (y_load1 rfl rfl rfl) (lt_ok rfl) ?_ | refine al_y (y_loadA rfl rfl (take_all rfl rfl) rfl) (lt_ok rfl) ?_ | refine al_y (y_loadA rfl rfl rfl rfl) (lt_ok rfl) ?_ | refine al_y (y_bload1 rfl rfl rfl rfl) (lt_ok rfl) ?_ | refine al_y (y_bloadA rfl rfl rfl (by first | (simp only [normV, normList, normMap]; rfl) | rfl) rfl) (lt_ok rfl) ?_ | refine al_y (y_glob hE (by unfold laidG; first | exact List.Mem.head _ | exact .tail _ (.head _) | exact .tail _ (.tail _ (.head _))) rfl rfl) (lt_ok rfl) ?_) | (apply at_op (.fieldAddr _ _ _); first | refine al_y (y_fbox rfl rfl rfl) (lt_ok rfl) ?_ | refine al_y (y_faddr rfl rfl rfl) (lt_ok rfl) ?_) | (apply at_op (.nilCheck _); first | refine al_y (y_nilbox rfl) (lt_ok rfl) ?_ | refine al_y (y_nilep rfl) (lt_ok rfl) ?_) | (apply at_op (.store _ _ _); first | refine al_step (st_store rfl rfl (ev_d rfl) nofun (by first | (simp only [normV, normList, normMap]; rfl) | rfl) (by simp [V.one, Value.oneCell']) (.inl ⟨rfl, rfl⟩) rfl (le_ok rfl) (by first | (simp only [normV, normList, normMap]; rfl) | rfl)) rfl ?_ | refine al_step (st_store rfl rfl (ev_d rfl) nofun (by first | (simp only [normV, normList, normMap]; rfl) | rfl) (by simp [V.one, Value.oneCell']) (.inr rfl) rfl (le_ok rfl) (by first | (simp only [normV, normList, normMap]; rfl) | rfl)) rfl ?_ | refine al_step (st_store rfl rfl (ev_row rfl) nofun (by first | (simp only [normV, normList, normMap]; rfl) | rfl) (by simp [V.one, Value.oneCell']) (.inl ⟨rfl, rfl⟩) rfl (le_ok rfl) (by first | (simp only [normV, normList, normMap]; rfl) | rfl)) rfl ?_ | refine al_step (st_store rfl rfl (ev_box rfl) nofun (by first | (simp only [normV, normList, normMap]; rfl) | rfl) (by simp [V.one, Value.oneCell']) (.inl ⟨rfl, rfl⟩) rfl (le_ok rfl) (by first | (simp only [normV, normList, normMap]; rfl) | rfl)) rfl ?_) | (apply at_op (.call { callee := .builtin .append, args := _, argTypes := _ }); refine al_step (st_append rfl rfl (by first | exact ToD.d _ | exact ToD.row _ _ _ _ _ rfl) rfl rfl (by simp [D.one, Value.oneCell']) (by decide) (by first | (simp only [List.length_map, List.length_append, List.length_cons, List.length_nil]; omega) | omega) (by first | (simp only [List.length_map, List.length_append, List.length_cons, List.length_nil]; omega) | omega) (lt_ok rfl)) rfl ?_))
    refine oret2 (bld (.box 1000 0) (k + 1) (l ++ bytesD s)) (by rfl) (by first | exact ResV.x _ _ (ResX.tmp _ _ (by first | exact ToD.d _ | exact ToD.row _ _ _ _ _ rfl | exact ToD.nil _)) | exact ResV.tmp _ _ rfl | exact ResV.x _ _ (ResX.cellA _ _ _ _ _ _ _ rfl rfl rfl (by first | (simp only [normV, normList, normMap]; rfl) | rfl) rfl)) (by first | exact ResV.x _ _ (ResX.tmp _ _ (by first | exact ToD.d _ | exact ToD.row _ _ _ _ _ rfl | exact ToD.nil _)) | exact ResV.tmp _ _ rfl | exact ResV.x _ _ (ResX.cellA _ _ _ _ _ _ _ rfl rfl rfl (by first | (simp only [normV, normList, normMap]; rfl) | rfl) rfl)) (⟨rfl, rfl⟩) (by (repeat (first | exact obs_nil | (apply obs_cons; focus (first | rfl | (simp [find]; done)))))) (by rfl)
  · skip
    refine ob_enter Tryd.func59 rfl (by decide) _ Tryd.ntmps59 (le_ok rfl) rfl (fun w Pr β κ hE => ?_)
    dsimp only [slotsV, Nat.zero_add, Nat.reduceAdd]
    repeat' (first | (apply at_op (.call { callee := .value _, args := _, argTypes := _ }); refine al_ocall [(1000, 1000), (1001, 1001)] (copycheck_any true k l) rfl hE (lt_ok rfl) (by (repeat (first | refine ArgsV.cons (.same _ _ rfl) ?_ | refine ArgsV.cons (.toD _ _ (by first | exact ToD.d _ | exact ToD.row _ _ _ _ _ rfl | exact ToD.nil _)) ?_)); exact ArgsV.nil) ⟨(obs_cons rfl (obs_cons rfl obs_nil)), rfl, rfl, rfl, rfl⟩ ?_; (all_goals (try first | omega | assumption)); rintro _ _ ⟨rfl, rfl⟩; intro _ _ h1 h2; simp only [V.ren, V.renL, O.ren, renO, rn, dropK, keys, mem, List.map_cons, List.map_nil, List.any_cons, List.any_nil, List.cons_append, List.nil_append, nbeq_def, Nat.reduceBEq, cond_true, cond_false, Bool.or_false, Bool.false_or, Bool.true_or] at h1 h2; subst h1 h2) | (apply at_op (.call { callee := .builtin .append, args := _, argTypes := _ }); refine al_step (st_append_s rfl rfl rfl rfl rfl (by kernel_rfl) hm (lt_ok rfl)) rfl ?_) | apply aw_seq | apply aw_region | apply al_nil | apply aq_np | apply aq_then | apply aq_then_x | apply aq_then_r | apply aw_skip | apply aw_exit | apply aw_ret | (apply at_op (.move _); refine al_y (y_moveC (by constructor)) (lt_ok rfl) ?_) | (apply at_op (.assign _); refine al_y (y_assignC (by constructor)) (lt_ok rfl) ?_) | (apply at_op (.call { callee := .builtin .len, args := _, argTypes := _ }); first | refine al_y (y_slen rfl rfl (by kernel_rfl)) (lt_ok rfl) ?_ | refine al_y (y_llen (by first | exact ToD.d _ | exact ToD.row _ _ _ _ _ rfl) rfl ⟨_, _, _, _, rfl⟩ (by first | (simp only [List.length_map, List.length_append, List.length_cons, List.length_nil]; rfl) | rfl)) (lt_ok rfl) ?_ | refine al_y (y_sllen rfl rfl ⟨_, _, _, _, rfl⟩) (lt_ok rfl) ?_) | (apply at_op (.load _ _); first | refine al_y (y_load1 rfl rfl rfl) (lt_ok rfl) ?_ | refine al_y (y_loadA rfl rfl (take_all rfl rfl) rfl) (lt_ok rfl) ?_ | refine al_y (y_loadA rfl rfl rfl rfl) (lt_ok rfl) ?_ | refine al_y (y_bload1 rfl rfl rfl rfl) (lt_ok rfl) ?_ | refine al_y (y_bloadA rfl rfl rfl (by first | (simp only [normV, normList, normMap]; rfl) | rfl) rfl) (lt_ok rfl) ?_ | refine al_y (y_glob hE (by unfold laidG; first | exact List.Mem.head _ | exact .tail _ (.head _) | exact .tail _ (.tail _ (.head _))) rfl rfl) (lt_ok rfl) ?_) | (apply at_op (.fieldAddr _ _ _); first | refine al_y (y_fbox rfl rfl rfl) (lt_ok rfl) ?_ | refine al_y (y_faddr rfl rfl rfl) (lt_ok rfl) ?_) | (apply at_op (.nilCheck _); first | refine al_y (y_nilbox rfl) (lt_ok rfl) ?_ | refine al_y (y_nilep rfl) (lt_ok rfl) ?_) | (apply at_op (.store _ _ _); first | refine al_step (st_store rfl rfl (ev_d rfl) nofun (by first | (simp only [normV, normList, normMap]; rfl) | rfl) (by simp [V.one, Value.oneCell']) (.inl ⟨rfl, rfl⟩) rfl (le_ok rfl) (by first | (simp only [normV, normList, normMap]; rfl) | rfl)) rfl ?_ | refine al_step (st_store rfl rfl (ev_d rfl) nofun (by first | (simp only [normV, normList, normMap]; rfl) | rfl) (by simp [V.one, Value.oneCell']) (.inr rfl) rfl (le_ok rfl) (by first | (simp only [normV, normList, normMap]; rfl) | rfl)) rfl ?_ | refine al_step (st_store rfl rfl (ev_row rfl) nofun (by first | (simp only [normV, normList, normMap]; rfl) | rfl) (by simp [V.one, Value.oneCell']) (.inl ⟨rfl, rfl⟩) rfl (le_ok rfl) (by first | (simp only [normV, normList, normMap]; rfl) | rfl)) rfl ?_ | refine al_step (st_store rfl rfl (ev_box rfl) nofun (by first | (simp only [normV, normList, normMap]; rfl) | rfl) (by simp [V.one, Value.oneCell']) (.inl ⟨rfl, rfl⟩) rfl (le_ok rfl) (by first | (simp only [normV, normList, normMap]; rfl) | rfl)) rfl ?_) | (apply at_op (.call { callee := .builtin .append, args := _, argTypes := _ }); refine al_step (st_append rfl rfl (by first | exact ToD.d _ | exact ToD.row _ _ _ _ _ rfl) rfl rfl (by simp [D.one, Value.oneCell']) (by decide) (by first | (simp only [List.length_map, List.length_append, List.length_cons, List.length_nil]; omega) | omega) (by first | (simp only [List.length_map, List.length_append, List.length_cons, List.length_nil]; omega) | omega) (lt_ok rfl)) rfl ?_))
    refine oret2 (bld (.box 1000 0) (k + 1) (l ++ bytesD s)) (by rfl) (by first | exact ResV.x _ _ (ResX.tmp _ _ (by first | exact ToD.d _ | exact ToD.row _ _ _ _ _ rfl | exact ToD.nil _)) | exact ResV.tmp _ _ rfl | exact ResV.x _ _ (ResX.cellA _ _ _ _ _ _ _ rfl rfl rfl (by first | (simp only [normV, normList, normMap]; rfl) | rfl) rfl)) (by first | exact ResV.x _ _ (ResX.tmp _ _ (by first | exact ToD.d _ | exact ToD.row _ _ _ _ _ rfl | exact ToD.nil _)) | exact ResV.tmp _ _ rfl | exact ResV.x _ _ (ResX.cellA _ _ _ _ _ _ _ rfl rfl rfl (by first | (simp only [normV, normList, normMap]; rfl) | rfl) rfl)) (⟨rfl, rfl⟩) (by (repeat (first | exact obs_nil | (apply obs_cons; focus (first | rfl | (simp [find]; done)))))) (by rfl)
end Go.Proofs.YtliagfabkkcohaaDoor
