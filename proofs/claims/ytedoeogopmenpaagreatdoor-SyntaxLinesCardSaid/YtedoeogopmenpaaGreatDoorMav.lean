/-
  Conditions: none.
-/
import Derived.Lib.UnsafeStr
import Derived.Test.YtedoeogopmenpaaGreatDoorMau
set_option maxHeartbeats 16000000
set_option maxRecDepth 20000
section
set_option linter.unusedSimpArgs false
set_option linter.unusedVariables false
namespace Go.Proofs.YtedoeogopmenpaaGreatDoor
open Go.RowKit
abbrev bldA : Bool → V
 | true => .box 1000 0
 | false => .d (.val (.pointer none))
abbrev bld (A : V) (k : Nat) (l : List (List D)) : Objs := [(1000, .box 77 [A, .row 1001 k]), (1001, .row 5 1 k l)]
theorem bld_find {A : V} {k : Nat} {l : List (List D)} {i : Nat} {o : O} (h : find (bld A k l) i = some o) : (i = 1000 ∧ o = .box 77 [A, .row 1001 k]) ∨ (i = 1001 ∧ o = .row 5 1 k l) := by
 by_cases h1 : i = 1000
 ·subst h1
  rw [find_eq] at h
  cases h
  exact .inl ⟨rfl, rfl⟩
 ·rw [find_ne h1] at h
  by_cases h2 : i = 1001
  ·subst h2
   rw [find_eq] at h
   cases h
   exact .inr ⟨rfl, rfl⟩
  ·rw [find_ne h2] at h
   cases h
theorem copycheck_any (used : Bool) (k : Nat) (l : List (List D)) : ObC 105 [.box 1000 0] (bld (bldA used) k l) [] (fun x o => x = .tup [] ∧ o = bld (.box 1000 0) k l) := by
 refine ⟨⟨_, Tryz.func105, by decide, rfl⟩, fun w Pr vs β κ hp hE hl hv ho hap => ?_⟩
 match vs, hl with
 | [v], _ =>
  have h1 := hv 0 v _ rfl rfl
  have hO := ho 1000 _ rfl
  have hR := ho 1001 _ rfl
  obtain ⟨b, cs, q1, _, q3, q4, q5, q6⟩ := hO
  cases h1 with
  | box _ _ g hb =>
   rw [q1] at hb
   simp only [Value.pointer.injEq, Option.some.injEq, Addr.mk.injEq, and_true] at hb
   subst hb
   match cs, q4 with
   | [c0, c1], _ =>
    have r0 := q5 0 c0 _ rfl rfl
    have r1 := q5 1 c1 _ rfl rfl
    have hcell : w.cell? ⟨b, 0, none⟩ = some c0 := by
     rw [cell_of_row w b 0 _ _ (0, 0) q3]
     rfl
    have wof : ∀ i o, find (bld (.box 1000 0) k l) i = some o → i ∈ keys (bld (bldA used) k l) ++ [] ∧ o.within (keys (bld (bldA used) k l) ++ []) = true := by
     intro i o hi
     rcases bld_find hi with ⟨rfl, rfl⟩ | ⟨rfl, rfl⟩
     ·exact ⟨by simp [keys], rfl⟩
     ·exact ⟨by simp [keys], rfl⟩
    have own : ∀ i o g, find (bld (.box 1000 0) k l) i = some o → blk (β i) = some g → Lent (bld (bldA used) k l) β g ∨ w.heap.size ≤ g := by
     intro i o g hi hg
     rcases bld_find hi with ⟨rfl, rfl⟩ | ⟨rfl, rfl⟩
     ·exact .inl ⟨1000, _, rfl, hg⟩
     ·exact .inl ⟨1001, _, rfl, hg⟩
    have hapart : ∀ i j oi oj g, find (bld (.box 1000 0) k l) i = some oi → find (bld (.box 1000 0) k l) j = some oj → blk (β i) = some g → blk (β j) = some g → i = j := by
     intro i j oi oj g hi hj h2 h3
     have : ∀ i oi, find (bld (.box 1000 0) k l) i = some oi → ∃ o, find (bld (bldA used) k l) i = some o := by
      intro i oi hi
      rcases bld_find hi with ⟨rfl, rfl⟩ | ⟨rfl, rfl⟩ <;> exact ⟨_, rfl⟩
     obtain ⟨_, hi'⟩ := this i oi hi
     obtain ⟨_, hj'⟩ := this j oj hj
     exact hap i j _ _ g hi' hj' h2 h3
    have hself : RepV w Pr β κ (.pointer (some ⟨b, 0, none⟩)) (.box 1000 0) := .box 1000 0 b q1
    cases used with
    | true =>
     cases r0 with
     | box _ _ g hg =>
      rw [q1] at hg
      simp only [Value.pointer.injEq, Option.some.injEq, Addr.mk.injEq, and_true] at hg
      subst hg
      refine (Any.Builder_copyCheck_used Tryz.lays240 Tryz.X72_240 b w hcell).mono fun e w' ⟨he, hw⟩ => ?_
      subst hw
      exact ⟨_, _, _, Pr, β, κ, he, ⟨rfl, rfl⟩, Under.refl _ _, fun _ _ _ => rfl, fun _ _ h => h, fun _ _ h => .inl h, hp, .tup [] [] rfl (by simp), ho, hap, own, fun _ _ _ => .inl ⟨rfl, rfl⟩, rfl, wof⟩
    | false =>
     have e0 := r0.val_inv
     subst e0
     refine (Any.Builder_copyCheck_fresh Tryz.lays240 Tryz.X72_240 b w hcell (by simp [World.shape?, q3]; rfl) (by simp [World.frozen?, q3])).mono fun e w' ⟨he, hw⟩ => ?_
     subst hw
     have hoth : ∀ k, k ≠ b → (w.setCell ⟨b, 0, none⟩ (.pointer (some ⟨b, 0, none⟩))).heap[k]? = w.heap[k]? := fun k hk => Below.heap_setCell w _ _ k hk
     have hnew : (w.setCell ⟨b, 0, none⟩ (.pointer (some ⟨b, 0, none⟩))).heap[b]? = some (.cells #[.pointer (some ⟨b, 0, none⟩), c1] 77 (0, 0)) := by
      simp only [World.setCell, Array.getElem?_modify, if_true, q3, Option.map_some]
      rfl
     have hst : Stays Pr w (w.setCell ⟨b, 0, none⟩ (.pointer (some ⟨b, 0, none⟩))) := fun b' o hb' => World.cell?_of_block (a := ⟨b', o, none⟩) (hoth b' (by rintro rfl; exact q6 o hb'))
     refine ⟨_, _, _, Pr, β, κ, he, ⟨rfl, rfl⟩, ⟨rfl, rfl, rfl, by simp [World.setCell], fun k _ hn => hoth k (fun e => hn ⟨1000, _, rfl, by rw [q1, e]; rfl⟩)⟩, hst, fun _ _ h => h, fun _ _ h => .inl h, fun b' o h => by simpa [World.setCell] using hp b' o h, .tup [] [] rfl (by simp), fun i o hi => ?_, hapart, own, fun _ _ _ => .inl ⟨rfl, rfl⟩, rfl, wof⟩
     rcases bld_find hi with ⟨rfl, rfl⟩ | ⟨rfl, rfl⟩
     ·refine ⟨b, [.pointer (some ⟨b, 0, none⟩), c1], q1, Nat.zero_le _, hnew, rfl, fun j v x hj hx => ?_, q6⟩
      match j with
      | 0 => cases hj; cases hx; exact .box 1000 0 b q1
      | 1 => cases hj; cases hx; exact r1.keep hst (fun _ _ h => h)
     ·refine hR.keep hst (fun _ _ h => h) (fun _ _ h => .inl h) (fun g hg => hoth g ?_)
      rintro rfl
      have := hap 1000 1001 _ _ g rfl rfl (by rw [q1]; rfl) hg
      cases this
theorem writestring_any (used : Bool) (k : Nat) (l : List (List D)) (s : ByteArray) (hm : l.length + s.size ≤ 140737488355328) : ObC 53 [.box 1000 0, .d (.str s)] (bld (bldA used) k l) [] (fun x o => x = .tup [.d (.int s.size), .d (.val .nilIface)] ∧ o = bld (.box 1000 0) (k + 1) (l ++ bytesD s)) := by
 cases used
 ·skip
  refine ob_enter Tryz.func53 rfl (by decide) _ Tryz.ntmps53 (le_ok rfl) rfl (fun w Pr β κ hE => ?_)
  dsimp only [slotsV, Nat.zero_add, Nat.reduceAdd]
  repeat' (first | (apply at_op (.call { callee := .value _, args := _, argTypes := _ }); refine al_ocall [(1000, 1000), (1001, 1001)] (copycheck_any false k l) rfl hE (lt_ok rfl) (by (repeat (first | refine ArgsV.cons (.same _ _ rfl) ?_ | refine ArgsV.cons (.toD _ _ (by first | exact ToD.d _ | exact ToD.row _ _ _ _ _ rfl | exact ToD.nil _)) ?_)); exact ArgsV.nil) ⟨(obs_cons rfl (obs_cons rfl obs_nil)), rfl, rfl, rfl, rfl⟩ ?_; (all_goals (try first | omega | assumption)); rintro _ _ ⟨rfl, rfl⟩ <;> (intro _ _ h1 h2; simp only [V.ren, V.renL, O.ren, renO, rn, dropK, keys, mem, List.map_cons, List.map_nil, List.any_cons, List.any_nil, List.cons_append, List.nil_append, nbeq_def, Nat.reduceBEq, cond_true, cond_false, Bool.or_false, Bool.false_or, Bool.true_or] at h1 h2; subst h1 h2)) | (apply at_op (.call { callee := .builtin .append, args := _, argTypes := _ }); refine al_step (st_append_s rfl rfl rfl rfl rfl (by kernel_rfl) hm (lt_ok rfl)) rfl ?_) | apply aw_seq | apply aw_region | apply al_nil | apply aq_np | apply aq_then | apply aq_then_x | apply aq_then_r | apply aw_skip | apply aw_exit | apply aw_ret | (apply at_op (.move _); refine al_y (y_moveC (by constructor)) (lt_ok rfl) ?_) | (apply at_op (.assign _); refine al_y (y_assignC (by constructor)) (lt_ok rfl) ?_) | (apply at_op (.call { callee := .builtin .len, args := _, argTypes := _ }); first | refine al_y (y_slen rfl rfl (by kernel_rfl)) (lt_ok rfl) ?_ | refine al_y (y_llen (by first | exact ToD.d _ | exact ToD.row _ _ _ _ _ rfl) rfl ⟨_, _, _, _, rfl⟩ (by first | (simp only [List.length_map, List.length_append, List.length_cons, List.length_nil]; rfl) | rfl)) (lt_ok rfl) ?_ | refine al_y (y_sllen rfl rfl ⟨_, _, _, _, rfl⟩) (lt_ok rfl) ?_) | (apply at_op (.load _ _); first | refine al_y (y_load1 rfl rfl rfl) (lt_ok rfl) ?_ | refine al_y (y_loadA rfl rfl (take_all rfl rfl) rfl) (lt_ok rfl) ?_ | refine al_y (y_loadA rfl rfl rfl rfl) (lt_ok rfl) ?_ | refine al_y (y_bload1 rfl rfl rfl rfl) (lt_ok rfl) ?_ | refine al_y (y_bloadA rfl rfl rfl (by first | (simp only [normV, normList, normMap]; rfl) | rfl) rfl) (lt_ok rfl) ?_ | refine al_y (y_glob hE (by unfold laidG; first | exact List.Mem.head _ | exact .tail _ (.head _) | exact .tail _ (.tail _ (.head _))) rfl rfl) (lt_ok rfl) ?_) | (apply at_op (.fieldAddr _ _ _); first | refine al_y (y_fbox rfl rfl rfl) (lt_ok rfl) ?_ | refine al_y (y_faddr rfl rfl rfl) (lt_ok rfl) ?_) | (apply at_op (.nilCheck _); first | refine al_y (y_nilbox rfl) (lt_ok rfl) ?_ | refine al_y (y_nilep rfl) (lt_ok rfl) ?_) | (apply at_op (.store _ _ _); first | refine al_step (st_store rfl rfl (ev_d rfl) nofun (by first | (simp only [normV, normList, normMap]; rfl) | rfl) (by simp [V.one, Value.oneCell']) (.inl ⟨rfl, rfl⟩) rfl (le_ok rfl) (by first | (simp only [normV, normList, normMap]; rfl) | rfl)) rfl ?_ | refine al_step (st_store rfl rfl (ev_d rfl) nofun (by first | (simp only [normV, normList, normMap]; rfl) | rfl) (by simp [V.one, Value.oneCell']) (.inr rfl) rfl (le_ok rfl) (by first | (simp only [normV, normList, normMap]; rfl) | rfl)) rfl ?_ | refine al_step (st_store rfl rfl (ev_row rfl) nofun (by first | (simp only [normV, normList, normMap]; rfl) | rfl) (by simp [V.one, Value.oneCell']) (.inl ⟨rfl, rfl⟩) rfl (le_ok rfl) (by first | (simp only [normV, normList, normMap]; rfl) | rfl)) rfl ?_ | refine al_step (st_store rfl rfl (ev_box rfl) nofun (by first | (simp only [normV, normList, normMap]; rfl) | rfl) (by simp [V.one, Value.oneCell']) (.inl ⟨rfl, rfl⟩) rfl (le_ok rfl) (by first | (simp only [normV, normList, normMap]; rfl) | rfl)) rfl ?_) | (apply at_op (.call { callee := .builtin .append, args := _, argTypes := _ }); refine al_step (st_append rfl rfl (by first | exact ToD.d _ | exact ToD.row _ _ _ _ _ rfl) rfl rfl (by simp [D.one, Value.oneCell']) (by decide) (by first | (simp only [List.length_map, List.length_append, List.length_cons, List.length_nil]; omega) | omega) (by first | (simp only [List.length_map, List.length_append, List.length_cons, List.length_nil]; omega) | omega) (lt_ok rfl)) rfl ?_))
  refine oret2 (bld (.box 1000 0) (k + 1) (l ++ bytesD s)) (by rfl) (by first | exact ResV.x _ _ (ResX.tmp _ _ (by first | exact ToD.d _ | exact ToD.row _ _ _ _ _ rfl | exact ToD.nil _)) | exact ResV.tmp _ _ rfl | exact ResV.x _ _ (ResX.cellA _ _ _ _ _ _ _ rfl rfl rfl (by first | (simp only [normV, normList, normMap]; rfl) | rfl) rfl)) (by first | exact ResV.x _ _ (ResX.tmp _ _ (by first | exact ToD.d _ | exact ToD.row _ _ _ _ _ rfl | exact ToD.nil _)) | exact ResV.tmp _ _ rfl | exact ResV.x _ _ (ResX.cellA _ _ _ _ _ _ _ rfl rfl rfl (by first | (simp only [normV, normList, normMap]; rfl) | rfl) rfl)) (⟨rfl, rfl⟩) (by (repeat (first | exact obs_nil | (apply obs_cons; focus (first | rfl | (simp [find]; done)))))) (by first | rfl | (simp [okOut, V.within, V.withinL, O.within, keys, mem, look, nbeq_def, withinL_app, withinL_ds, withinL_und]; done))
 ·skip
  refine ob_enter Tryz.func53 rfl (by decide) _ Tryz.ntmps53 (le_ok rfl) rfl (fun w Pr β κ hE => ?_)
  dsimp only [slotsV, Nat.zero_add, Nat.reduceAdd]
  repeat' (first | (apply at_op (.call { callee := .value _, args := _, argTypes := _ }); refine al_ocall [(1000, 1000), (1001, 1001)] (copycheck_any true k l) rfl hE (lt_ok rfl) (by (repeat (first | refine ArgsV.cons (.same _ _ rfl) ?_ | refine ArgsV.cons (.toD _ _ (by first | exact ToD.d _ | exact ToD.row _ _ _ _ _ rfl | exact ToD.nil _)) ?_)); exact ArgsV.nil) ⟨(obs_cons rfl (obs_cons rfl obs_nil)), rfl, rfl, rfl, rfl⟩ ?_; (all_goals (try first | omega | assumption)); rintro _ _ ⟨rfl, rfl⟩ <;> (intro _ _ h1 h2; simp only [V.ren, V.renL, O.ren, renO, rn, dropK, keys, mem, List.map_cons, List.map_nil, List.any_cons, List.any_nil, List.cons_append, List.nil_append, nbeq_def, Nat.reduceBEq, cond_true, cond_false, Bool.or_false, Bool.false_or, Bool.true_or] at h1 h2; subst h1 h2)) | (apply at_op (.call { callee := .builtin .append, args := _, argTypes := _ }); refine al_step (st_append_s rfl rfl rfl rfl rfl (by kernel_rfl) hm (lt_ok rfl)) rfl ?_) | apply aw_seq | apply aw_region | apply al_nil | apply aq_np | apply aq_then | apply aq_then_x | apply aq_then_r | apply aw_skip | apply aw_exit | apply aw_ret | (apply at_op (.move _); refine al_y (y_moveC (by constructor)) (lt_ok rfl) ?_) | (apply at_op (.assign _); refine al_y (y_assignC (by constructor)) (lt_ok rfl) ?_) | (apply at_op (.call { callee := .builtin .len, args := _, argTypes := _ }); first | refine al_y (y_slen rfl rfl (by kernel_rfl)) (lt_ok rfl) ?_ | refine al_y (y_llen (by first | exact ToD.d _ | exact ToD.row _ _ _ _ _ rfl) rfl ⟨_, _, _, _, rfl⟩ (by first | (simp only [List.length_map, List.length_append, List.length_cons, List.length_nil]; rfl) | rfl)) (lt_ok rfl) ?_ | refine al_y (y_sllen rfl rfl ⟨_, _, _, _, rfl⟩) (lt_ok rfl) ?_) | (apply at_op (.load _ _); first | refine al_y (y_load1 rfl rfl rfl) (lt_ok rfl) ?_ | refine al_y (y_loadA rfl rfl (take_all rfl rfl) rfl) (lt_ok rfl) ?_ | refine al_y (y_loadA rfl rfl rfl rfl) (lt_ok rfl) ?_ | refine al_y (y_bload1 rfl rfl rfl rfl) (lt_ok rfl) ?_ | refine al_y (y_bloadA rfl rfl rfl (by first | (simp only [normV, normList, normMap]; rfl) | rfl) rfl) (lt_ok rfl) ?_ | refine al_y (y_glob hE (by unfold laidG; first | exact List.Mem.head _ | exact .tail _ (.head _) | exact .tail _ (.tail _ (.head _))) rfl rfl) (lt_ok rfl) ?_) | (apply at_op (.fieldAddr _ _ _); first | refine al_y (y_fbox rfl rfl rfl) (lt_ok rfl) ?_ | refine al_y (y_faddr rfl rfl rfl) (lt_ok rfl) ?_) | (apply at_op (.nilCheck _); first | refine al_y (y_nilbox rfl) (lt_ok rfl) ?_ | refine al_y (y_nilep rfl) (lt_ok rfl) ?_) | (apply at_op (.store _ _ _); first | refine al_step (st_store rfl rfl (ev_d rfl) nofun (by first | (simp only [normV, normList, normMap]; rfl) | rfl) (by simp [V.one, Value.oneCell']) (.inl ⟨rfl, rfl⟩) rfl (le_ok rfl) (by first | (simp only [normV, normList, normMap]; rfl) | rfl)) rfl ?_ | refine al_step (st_store rfl rfl (ev_d rfl) nofun (by first | (simp only [normV, normList, normMap]; rfl) | rfl) (by simp [V.one, Value.oneCell']) (.inr rfl) rfl (le_ok rfl) (by first | (simp only [normV, normList, normMap]; rfl) | rfl)) rfl ?_ | refine al_step (st_store rfl rfl (ev_row rfl) nofun (by first | (simp only [normV, normList, normMap]; rfl) | rfl) (by simp [V.one, Value.oneCell']) (.inl ⟨rfl, rfl⟩) rfl (le_ok rfl) (by first | (simp only [normV, normList, normMap]; rfl) | rfl)) rfl ?_ | refine al_step (st_store rfl rfl (ev_box rfl) nofun (by first | (simp only [normV, normList, normMap]; rfl) | rfl) (by simp [V.one, Value.oneCell']) (.inl ⟨rfl, rfl⟩) rfl (le_ok rfl) (by first | (simp only [normV, normList, normMap]; rfl) | rfl)) rfl ?_) | (apply at_op (.call { callee := .builtin .append, args := _, argTypes := _ }); refine al_step (st_append rfl rfl (by first | exact ToD.d _ | exact ToD.row _ _ _ _ _ rfl) rfl rfl (by simp [D.one, Value.oneCell']) (by decide) (by first | (simp only [List.length_map, List.length_append, List.length_cons, List.length_nil]; omega) | omega) (by first | (simp only [List.length_map, List.length_append, List.length_cons, List.length_nil]; omega) | omega) (lt_ok rfl)) rfl ?_))
  refine oret2 (bld (.box 1000 0) (k + 1) (l ++ bytesD s)) (by rfl) (by first | exact ResV.x _ _ (ResX.tmp _ _ (by first | exact ToD.d _ | exact ToD.row _ _ _ _ _ rfl | exact ToD.nil _)) | exact ResV.tmp _ _ rfl | exact ResV.x _ _ (ResX.cellA _ _ _ _ _ _ _ rfl rfl rfl (by first | (simp only [normV, normList, normMap]; rfl) | rfl) rfl)) (by first | exact ResV.x _ _ (ResX.tmp _ _ (by first | exact ToD.d _ | exact ToD.row _ _ _ _ _ rfl | exact ToD.nil _)) | exact ResV.tmp _ _ rfl | exact ResV.x _ _ (ResX.cellA _ _ _ _ _ _ _ rfl rfl rfl (by first | (simp only [normV, normList, normMap]; rfl) | rfl) rfl)) (⟨rfl, rfl⟩) (by (repeat (first | exact obs_nil | (apply obs_cons; focus (first | rfl | (simp [find]; done)))))) (by first | rfl | (simp [okOut, V.within, V.withinL, O.within, keys, mem, look, nbeq_def, withinL_app, withinL_ds, withinL_und]; done))
end Go.Proofs.YtedoeogopmenpaaGreatDoor
end
section
namespace Go.Proofs.YtedoeogopmenpaaGreatDoor
open Go.RowKit
set_option maxRecDepth 100000 in
theorem string_run (b g cap : Nat) (p : Value) (cur : Array Value) (l : List UInt8) (w : World) (hl : l ≠ []) (hbk : w.heap[b]? = some (.cells #[p, .slice (some ⟨g, 0, none⟩) l.length cap] 77 (0, 0))) (hg : w.heap[g]? = some (.cells cur 5 (0, 0)))
  (hcap : l.length ≤ cap) (hcm : cap ≤ maxLen) (hcs : cur.size = cap) (hcell : ∀ (j : Nat) (x : UInt8), l[j]? = some x → w.cell? ⟨g, j, none⟩ = some (.int .u8 x.toNat)) :
  Calls Tryz.prog 58 #[.pointer (some ⟨b, 0, none⟩)] w fun e w' => e = .returned (.string ⟨l.toArray⟩) ∧ w' = w.drew.freeze ⟨g, 0, none⟩ l.length := by
 have hl0 : l.length ≠ 0 := by simpa using hl
 have c1 : w.drew.cell? ⟨b, 1, none⟩ = some (.slice (some ⟨g, 0, none⟩) l.length cap) := by
  have : w.drew.heap[b]? = some (.cells #[p, .slice (some ⟨g, 0, none⟩) l.length cap] 77 (0, 0)) := hbk
  rw [Lib.cell_of_heap this]; rfl
 have hSD : (Builtin.unsafeSliceData_ #[75] 128 #[.slice (some ⟨g, 0, none⟩) l.length cap]).run Tryz.prog w.drew = .ok (.pointer (some ⟨g, 0, none⟩)) w.drew := Lib.run_unsafeSliceData_row _ _ _ _ _ _ (by omega)
 have hUS : (Builtin.unsafeString_ #[128, 3] 9 #[.pointer (some ⟨g, 0, none⟩), .int .i64 l.length]).run Tryz.prog w.drew = .ok (.string ⟨l.toArray⟩) (w.drew.freeze ⟨g, 0, none⟩ l.length) := by
  refine Lib.run_unsafeString_row w.drew 128 3 9 5 (by kernel_rfl) (by kernel_rfl) g cur.size (by have hg' : w.drew.heap[g]? = some (.cells cur 5 (0, 0)) := hg; simp [World.shape?, hg']) l hl (by omega) (by unfold maxLen at hcm; omega) ?_
  intro j x hx
  have := hcell j x hx
  rw [Addr.add_lit, Nat.zero_add]
  exact this
 have mixed : Tryz.prog.follows .mixedOrders = true := follows_mixed
 go_enter Tryz.func58, Tryz.ntmps58
 go_wp2
 go_region_o
 all_goals (go_wp2; go_ret; exact ⟨rfl, rfl⟩)
theorem freeze_cell (w : World) (a : Addr) (n : Nat) (q : Addr) : (w.freeze a n).cell? q = w.cell? q := by
 unfold World.freeze
 by_cases hn : n = 0
 ·rw [if_pos hn]
 ·rw [if_neg hn]
  simp only [World.cell?, Array.getElem?_modify]
  by_cases h : a.block = q.block
  ·rw [if_pos h, ← h]
   cases hw : w.heap[a.block]? with
   | none => rfl
   | some o => cases o <;> rfl
  ·rw [if_neg h]
def byteD (l : List UInt8) : List (List D) := l.map fun c => [.val (.int .u8 c.toNat)]
theorem byteD_app (l : List UInt8) (s : ByteArray) : byteD l ++ bytesD s = byteD (l ++ s.data.toList) := by simp [byteD, bytesD]
theorem string_any (k : Nat) (l : List UInt8) (hl : l ≠ []) : ObC 58 [.box 1000 0] (bld (.box 1000 0) k (byteD l)) [] (fun x o => x = .d (.str ⟨l.toArray⟩) ∧ o = []) := by
 refine ⟨⟨_, Tryz.func58, by decide, rfl⟩, fun w Pr vs β κ hp hE hln hv ho hap => ?_⟩
 match vs, hln with
 | [v], _ =>
  have h1 := hv 0 v _ rfl rfl
  obtain ⟨b, cs, q1, _, q3, q4, q5, q6⟩ := ho 1000 _ rfl
  obtain ⟨hκ, xs, hown, hls, hrp, hpr⟩ := ho 1001 _ rfl
  cases h1 with
  | box _ _ g hb =>
   rw [q1] at hb
   simp only [Value.pointer.injEq, Option.some.injEq, Addr.mk.injEq, and_true] at hb
   subst hb
   match cs, q4 with
   | [c0, c1], _ =>
    have r1 := q5 1 c1 _ rfl rfl
    have hc1 : c1 = β 1001 := r1.row_inv hκ.symm
    have hlen : (byteD l).length = l.length := by simp [byteD]
    rw [hlen] at hown
    rcases hown.2 with ⟨_, h0⟩ | ⟨g, cap, cur, hv1, _, hg, hnc, hcm, hcs, htk⟩
    ·exact absurd (List.eq_nil_of_length_eq_zero h0) hl
    ·rw [hv1] at hc1 hown hpr
     subst hc1
     have hcell : ∀ (j : Nat) (x : UInt8), l[j]? = some x → w.cell? ⟨g, j, none⟩ = some (.int .u8 x.toNat) := by
      intro j x hj
      have hjl : j < l.length := (List.getElem?_eq_some_iff.1 hj).1
      obtain ⟨u, hu, hr⟩ := hrp j 0 [.val (.int .u8 x.toNat)] _ (by simp [byteD, hj]) rfl
      cases hr
      rw [hown.cellAt j (by omega)]
      simpa using hu
     refine (string_run b g cap c0 cur l w hl q3 hg hnc hcm (by simpa using hcs) hcell).mono fun e w' ⟨he, hw⟩ => ?_
     subst hw
     have hst : Stays Pr w (w.drew.freeze ⟨g, 0, none⟩ l.length) := fun b' o _ => by rw [freeze_cell]; rfl
     have hsz : (w.drew.freeze ⟨g, 0, none⟩ l.length).heap.size = w.heap.size := by
      unfold World.freeze
      split
      ·rfl
      ·simp only [Array.size_modify]
       rfl
     refine ⟨_, _, [], Pr, β, κ, he, ⟨rfl, rfl⟩, ⟨?_, ?_, ?_, by omega, fun j hj hn => ?_⟩, hst, fun _ _ h => h, fun _ _ h => .inl h, fun b' o h => by rw [hsz]; exact hp b' o h, .d _ _ (.val _), fun i o h => by simp [find] at h, fun i j oi oj g h => by simp [find] at h, fun i o g h => by simp [find] at h, fun _ _ _ => .inl ⟨rfl, rfl⟩, rfl, fun i o h => by simp [find] at h⟩
     ·unfold World.freeze; split <;> rfl
     ·unfold World.freeze; split <;> rfl
     ·unfold World.freeze; split <;> rfl
     ·have hne : j ≠ g := fun e => hn ⟨1001, _, rfl, by rw [hv1, e]; rfl⟩
      unfold World.freeze
      split
      ·rfl
      ·simp only [Array.getElem?_modify]
       rw [if_neg (Ne.symm hne)]
       rfl
theorem writestring_b (used : Bool) (k : Nat) (l : List UInt8) (s : ByteArray) (hm : l.length + s.size ≤ 140737488355328) : ObC 53 [.box 1000 0, .d (.str s)] (bld (bldA used) k (byteD l)) [] (fun x o => x = .tup [.d (.int s.size), .d (.val .nilIface)] ∧ o = bld (.box 1000 0) (k + 1) (byteD (l ++ s.data.toList))) :=
 (writestring_any used k (byteD l) s (by simpa [byteD] using hm)).mono fun x o h => by rw [← byteD_app]; exact h
end Go.Proofs.YtedoeogopmenpaaGreatDoor
end
section
set_option linter.unusedSimpArgs false
set_option linter.unusedVariables false
namespace Go.Proofs.YtedoeogopmenpaaGreatDoor
open Go.RowKit
def lineV (ws : List ByteArray) : ByteArray := jn ws ++ ⟨#[32, 59, 10]⟩
def catL (ls : List (List ByteArray)) : List UInt8 := (ls.map fun w => (lineV w).data.toList).flatten
theorem catL_snoc (ls : List (List ByteArray)) (w : List ByteArray) : catL (ls ++ [w]) = catL ls ++ (lineV w).data.toList := by simp [catL]
def Fit (ls : List (List ByteArray)) : Prop := ls.length ≤ 40 ∧ ∀ w ∈ ls, (lineV w).size ≤ 3355444000000
theorem Fit.left {a b : List (List ByteArray)} (h : Fit (a ++ b)) : Fit a := ⟨by have := h.1; rw [List.length_append] at this; omega, fun w hw => h.2 w (by simp [hw])⟩
theorem lineV_len (w : List ByteArray) : (lineV w).data.toList.length = (lineV w).size := by simp
theorem cat_len {ls : List (List ByteArray)} (h : ∀ w ∈ ls, (lineV w).size ≤ 3355444000000) : (catL ls).length ≤ ls.length * 3355444000000 := by
 induction ls with
 | nil => simp [catL]
 | cons w r ih =>
  have h1 := ih fun x hx => h x (by simp [hx])
  have h2 := h w (by simp)
  have e : catL (w :: r) = (lineV w).data.toList ++ catL r := by simp [catL]
  rw [e, List.length_append, lineV_len, List.length_cons, Nat.add_mul]
  omega
theorem Fit.len {ls : List (List ByteArray)} (h : Fit ls) : (catL ls).length ≤ 134217760000000 := by
 have h1 := cat_len h.2
 have h2 := h.1
 have : ls.length * 3355444000000 ≤ 40 * 3355444000000 := Nat.mul_le_mul_right _ h2
 omega
theorem line_size (w : List ByteArray) : (lineV w).size = (jn w).size + 3 := by
 rw [lineV, ByteArray.size_append]
 rfl
theorem Fit.last {ls : List (List ByteArray)} {w : List ByteArray} (h : Fit (ls ++ [w])) : (jn w).size ≤ 3355444000000 := by
 have h1 := h.2 w (by simp)
 have := line_size w
 omega
theorem line_any (used : Bool) (k : Nat) (P : List (List ByteArray)) (ws : List ByteArray) (hw : ws.length ≤ 100) (hF : Fit (P ++ [ws])) : ObC 52 [.d (strsD ws), .box 1000 0] (bld (bldA used) k (byteD (catL P))) [] (fun x o => x = .tup [] ∧ o = bld (.box 1000 0) (k + 1) (byteD (catL (P ++ [ws])))) := by
 have hj := hF.last
 have hl := hF.len
 rw [catL_snoc] at hl ⊢
 rw [List.length_append, lineV_len] at hl
 have hjn := join_any ws (by omega) (by omega)
 have hwr := writestring_b used k (catL P) (lineV ws) (by omega)
 have l1 : ByteArray.size ⟨#[32, 59, 10]⟩ = 3 := rfl
 unfold lineV at hwr ⊢
 unfold blank1 at hjn
 cases used
 ·skip
  refine ob_enter Tryz.func52 rfl (by decide) _ Tryz.ntmps52 (le_ok rfl) rfl (fun w Pr β κ hE => ?_)
  dsimp only [slotsV, Nat.zero_add, Nat.reduceAdd]
  repeat' (first | (apply at_call; refine k_call (hjn) hE ?_; rintro _ rfl) | (apply at_call; refine k_ocall [(1000, 1000), (1001, 1001)] (hwr) hE ?_; rintro _ _ ⟨rfl, rfl⟩ <;> (intro _ _ h1 h2; simp only [renEqs, Nat.reduceBEq, renL_app, renL_ds, renL_und] at h1 h2; subst h1 h2)) | refine nx ?_ | (apply qr_move; refine r_move ?_) | (apply qr_add; refine r_add ?_))
  try refine aq_end ?_
  refine oret0 (bld (.box 1000 0) (k + 1) (byteD (catL P ++ (jn ws ++ ⟨#[32, 59, 10]⟩).data.toList))) (by rfl) (⟨rfl, rfl⟩) sb okx
 ·skip
  refine ob_enter Tryz.func52 rfl (by decide) _ Tryz.ntmps52 (le_ok rfl) rfl (fun w Pr β κ hE => ?_)
  dsimp only [slotsV, Nat.zero_add, Nat.reduceAdd]
  repeat' (first | (apply at_call; refine k_call (hjn) hE ?_; rintro _ rfl) | (apply at_call; refine k_ocall [(1000, 1000), (1001, 1001)] (hwr) hE ?_; rintro _ _ ⟨rfl, rfl⟩ <;> (intro _ _ h1 h2; simp only [renEqs, Nat.reduceBEq, renL_app, renL_ds, renL_und] at h1 h2; subst h1 h2)) | refine nx ?_ | (apply qr_move; refine r_move ?_) | (apply qr_add; refine r_add ?_))
  try refine aq_end ?_
  refine oret0 (bld (.box 1000 0) (k + 1) (byteD (catL P ++ (jn ws ++ ⟨#[32, 59, 10]⟩).data.toList))) (by rfl) (⟨rfl, rfl⟩) sb okx
end Go.Proofs.YtedoeogopmenpaaGreatDoor
end
section
set_option linter.unusedSimpArgs false
set_option linter.unusedVariables false
namespace Go.Proofs.YtedoeogopmenpaaGreatDoor
open Go.RowKit
abbrev letL (q : ByteArray × Ex) : List ByteArray := [w_let, q.1, w_is, q.2.text 0]
def By.head (x : By) (i : Nat) : List (List ByteArray) := [[w_bylaws, x.name]] ++ (x.lets.take i).map letL
def By.lines (x : By) : List (List ByteArray) := x.head x.lets.length ++ [[w_admit, x.admit.text 0]] ++ [[w_fare, x.fare.text 0]] ++ [[w_late, x.late.text 0]] ++ [[w_noshow, x.noshow.text 0]] ++ [[w_quota, itoaB x.quota]] ++ [[w_share, itoaB x.share]] ++ [[w_change, itoaB x.change]]
def By.text (x : By) : ByteArray := ⟨(catL x.lines).toArray⟩
structure By.Ok (x : By) : Prop where
 lets : ∀ q ∈ x.lets, q.2.right 12 = true
 admit : x.admit.right 12 = true
 fare : x.fare.right 12 = true
 late : x.late.right 12 = true
 noshow : x.noshow.right 12 = true
 quota : 0 ≤ x.quota ∧ x.quota ≤ 1000
 share : 0 ≤ x.share ∧ x.share ≤ 1000
 change : 1 ≤ x.change ∧ x.change ≤ 1000
 name : nameV x.name = true
 uniq : uniqV (x.lets.map (·.1)) 20 = true
theorem by_ok {x : By} (h : x.right = true) : x.Ok := by
 rw [right_ref] at h
 simp only [Bool.and_eq_true, withV_iff, List.all_eq_true] at h
 obtain ⟨h2, h7, h8, h9, h10, h3, h4, h5, h1, h6⟩ := h
 exact ⟨h1, h7, h8, h9, h10, h3, h4, h5, h2, h6⟩
theorem By.Ok.len {x : By} (h : x.Ok) : x.lets.length ≤ 20 := by
 have := h.uniq
 unfold uniqV at this
 rw [Bool.and_eq_true, decide_eq_true_eq, List.length_map] at this
 omega
theorem line_le2 {a b : ByteArray} (ha : a.size ≤ 10) (hb : b.size ≤ 3355443300000) : (lineV [a, b]).size ≤ 3355444000000 := by
 rw [line_size, jn_two, jn_one]
 simp only [ByteArray.size_append]
 have : blank1.size = 1 := rfl
 omega
theorem let_le {q : ByteArray × Ex} (h1 : q.1.size ≤ 100000) (h2 : (q.2.text 0).size ≤ 3355443200000) : (lineV (letL q)).size ≤ 3355444000000 := by
 rw [line_size, letL, jn_two, jn_two, jn_two, jn_one]
 simp only [ByteArray.size_append]
 have : blank1.size = 1 := rfl
 have : w_let.size = 3 := rfl
 have : w_is.size = 1 := rfl
 omega
theorem lines_fit {x : By} (h : x.Ok) (ht : x.tame) : Fit x.lines := by
 have hl := h.len
 refine ⟨?_, fun w hw => ?_⟩
 ·simp only [By.lines, By.head, List.length_append, List.length_cons, List.length_nil, List.length_map, List.length_take]
  omega
 ·have hn := ht.name
  have z1 := text_small (by omega) h.admit ht.admit 0
  have z2 := text_small (by omega) h.fare ht.fare 0
  have z3 := text_small (by omega) h.late ht.late 0
  have z4 := text_small (by omega) h.noshow ht.noshow 0
  have z5 := itoaB_size h.quota.1 (by have := h.quota.2; omega)
  have z6 := itoaB_size h.share.1 (by have := h.share.2; omega)
  have z7 := itoaB_size (n := x.change) (by have := h.change.1; omega) (by have := h.change.2; omega)
  simp only [By.lines, By.head, List.mem_append, List.mem_singleton, List.take_length] at hw
  rcases hw with ((((((((rfl | hw) | rfl) | rfl) | rfl) | rfl) | rfl) | rfl) | rfl)
  ·exact line_le2 (by decide) (by omega)
  ·obtain ⟨q, hq, rfl⟩ := List.mem_map.1 hw
   exact let_le (ht.lets q hq).1 (text_small (by omega) (h.lets q hq) (ht.lets q hq).2 0)
  ·exact line_le2 (by decide) (by omega)
  ·exact line_le2 (by decide) (by omega)
  ·exact line_le2 (by decide) (by omega)
  ·exact line_le2 (by decide) (by omega)
  ·exact line_le2 (by decide) (by omega)
  ·exact line_le2 (by decide) (by omega)
  ·exact line_le2 (by decide) (by omega)
theorem head_next {x : By} {i : Nat} (h : i < x.lets.length) : x.head i ++ [letL x.lets[i]] = x.head (i + 1) := by
 unfold By.head
 rw [List.take_succ_eq_append_getElem h, List.map_append, List.append_assoc]
 rfl
theorem head_fit {x : By} (h : Fit x.lines) {i : Nat} (hi : i ≤ x.lets.length) : Fit (x.head i) := by
 have h1 : Fit (x.head x.lets.length) := by
  unfold By.lines at h
  exact h.left.left.left.left.left.left.left
 have h2 : x.head x.lets.length = x.head i ++ ((x.lets.drop i).map letL) := by
  unfold By.head
  rw [List.append_assoc, ← List.map_append, List.take_append_drop, List.take_length]
 rw [h2] at h1
 exact h1.left
def printD (x : By) : D := if x.right = true then fitsD x.text else .tup [.str ⟨#[]⟩, .int 1]
theorem catL_ne (ls : List (List ByteArray)) (w : List ByteArray) : catL (ls ++ [w]) ≠ [] := by
 rw [catL_snoc]
 intro h
 have h1 := congrArg List.length h
 rw [List.length_append, lineV_len, line_size] at h1
 simp at h1
theorem print_any (x : By) (ht : x.tame) : PureC 18 [.agg (byC x)] (· = printD x) := by
 have hr := byRight_any x ht
 unfold printD
 cases hx : x.right
 ·rw [if_neg (by simp)]
  rw [hx] at hr
  refine pure_enter Tryz.func18 rfl (by decide) _ Tryz.ntmps18 (le_ok rfl) (fun w Pr hE => ?_)
  dsimp only [slotsOf, Nat.zero_add, Nat.reduceAdd]
  repeat' (first | (apply at_call; refine k_call (hr) hE ?_; rintro _ rfl) | refine nx ?_ | (apply aq_block_y; decide) | (apply qr_assign; refine r_assign ?_) | (apply at_cond; first | refine c_t ?_ | refine c_f ?_ | (refine aw_cond rfl (fun hb => ?_) (fun hb => ?_) <;> ((try have hq := dX hb); (try (exfalso; omega))))) | (apply qr_not; refine r_not ?_) | (apply qr_load; refine r_load ?_) | (apply qr_boxed; refine r_boxed ?_))
  refine ret_two (by rfl) (by first | exact ToD.d _ | exact ToD.row _ _ _ _ _ rfl) (by first | exact ToD.d _ | exact ToD.row _ _ _ _ _ rfl) ?_
  rfl
 rw [if_pos rfl]
 rw [hx] at hr
 have ho := by_ok hx
 have hF := lines_fit ho ht
 have hlen := ho.len
 have hml : (x.lets.map letC).length = x.lets.length := List.length_map ..
 have s1 := show_any 12 (by omega) x.admit 0 ho.admit ht.admit (by omega)
 have s2 := show_any 12 (by omega) x.fare 0 ho.fare ht.fare (by omega)
 have s3 := show_any 12 (by omega) x.late 0 ho.late ht.late (by omega)
 have s4 := show_any 12 (by omega) x.noshow 0 ho.noshow ht.noshow (by omega)
 have i1 := itoa_any x.quota (by have := ho.quota.1; omega) (by have := ho.quota.2; omega)
 have i2 := itoa_any x.share (by have := ho.share.1; omega) (by have := ho.share.2; omega)
 have i3 := itoa_any x.change (by have := ho.change.1; omega) (by have := ho.change.2; omega)
 have hfit := fits_any x.text
 have l0 := line_any false 0 [] [w_bylaws, x.name] (by show 2 ≤ 100; omega) (head_fit hF (i := 0) (Nat.zero_le _))
 refine pure_enter Tryz.func18 rfl (by decide) _ Tryz.ntmps18 (le_ok rfl) (fun w Pr hE => ?_)
 dsimp only [slotsOf, Nat.zero_add, Nat.reduceAdd]
 repeat' (first | (apply at_call; refine k_call (hr) hE ?_; rintro _ rfl) | refine nx ?_ | (apply aq_block_y; decide) | (apply qr_assign; refine r_assign ?_) | (apply at_cond; first | refine c_t ?_ | refine c_f ?_ | (refine aw_cond rfl (fun hb => ?_) (fun hb => ?_) <;> ((try have hq := dX hb); (try (exfalso; omega))))) | (apply qr_not; refine r_not ?_) | (apply qr_load; refine r_load ?_) | (apply qr_alloc; refine r_alloc ?_) | (apply qr_boxed; refine r_boxed ?_))
 refine al_adoptb 4 1 60 5 1 rfl rfl rfl (lt_ok rfl) rfl rfl ?_
 repeat' (first | (apply at_op (.makeFunc _ _ _); refine al_y (y_clo (zs := [.box 4 0]) rfl) (lt_ok rfl) ?_) | (apply at_call; refine k_clocall1 [(1000, 4), (1001, 60)] (l0) hE ?_; rintro _ _ ⟨rfl, rfl⟩ <;> (intro _ _ h1 h2; simp only [renEqs, Nat.reduceBEq, renL_app, renL_ds, renL_und] at h1 h2; subst h1 h2)) | refine nx ?_ | (apply aq_block_y; decide) | (apply qr_move; refine r_move ?_) | (apply qr_assign; refine r_assign ?_) | (apply at_cond; first | refine c_t ?_ | refine c_f ?_ | (refine aw_cond rfl (fun hb => ?_) (fun hb => ?_) <;> ((try have hq := dX hb); (try (exfalso; omega))))) | (apply qr_len; refine r_len ?_) | (apply qr_func; refine r_func ?_) | (apply qr_load; refine r_load ?_) | (apply qr_faddr; refine r_faddr ?_) | (apply qr_lits; refine r_lits ?_))
 clear hr l0
 refine aw_lp (fun N sl ob => ∃ i k : Nat, N = x.lets.length - i ∧ i ≤ x.lets.length ∧ sl = [(20, .d (.int i)), (19, .d (.int x.lets.length)), (18, .d (letsD x.lets)), (5, .clo (.func 52) [.box 4 0]), (4, .box 4 0), (1, .box 1 0)] ∧ ob = [(4, .box 77 [.box 4 0, .row 60 k]), (60, .row 5 1 k (byteD (catL (x.head i)))), (1, byO' x)]) (⟨0, 1, rfl, Nat.zero_le _, rfl, rfl⟩) ?_
 rintro N sl ob ⟨i, k, rfl, hi, rfl, rfl⟩
 by_cases hlt : i < x.lets.length
 ·have hg : (x.lets.map letC)[i]? = some (letC x.lets[i]) := by rw [get_map hlt]
  have hc := show_any 12 (by omega) x.lets[i].2 0 (ho.lets _ (List.getElem_mem hlt)) (ht.lets _ (List.getElem_mem hlt)).2 (by omega)
  have hnx := head_next hlt
  have hln := line_any true k (x.head i) (letL x.lets[i]) (by show 4 ≤ 100; omega) (by rw [hnx]; exact head_fit hF (by omega))
  rw [hnx] at hln
  generalize x.lets[i] = z at hg hc hln
  clear hnx s1 s2 s3 s4 i1 i2 i3 hfit
  repeat' (first | (apply at_op (.indexAddr _ _ _); refine al_ixq hg ?_) | refine nx ?_ | (apply aq_block_y; decide) | (apply at_cond; first | refine c_t ?_ | refine c_f ?_ | (refine aw_cond rfl (fun hb => ?_) (fun hb => ?_) <;> ((try have hq := dX hb); (try (exfalso; omega))))) | (apply qr_lss; refine r_lss ?_) | (apply qr_ix; refine r_ix ?_) | (apply qr_load; refine r_load ?_) | (apply qr_alloc; refine r_alloc ?_) | (apply qr_store; refine r_store ?_))
  refine aw_mixo ([(7, .box 43 ((letC z).map V.d))]) [(0, true), (1, true), (2, true), (3, true), (4, true), (5, false), (6, false), (7, false)] [] (by kernel_rfl) (by kernel_rfl) (by kernel_rfl) (by decide) (by (repeat (first | exact obs_nil | (apply obs_cons; focus (first | rfl | (simp [find]; done)))))) ?_
  simp only [planned, tailed, List.filterMap_cons, List.filterMap_nil, List.getElem?_cons_zero, List.getElem?_cons_succ, Option.map_some]
  repeat' (first | apply am_nil | refine m_skip ?_ | refine n_skip ?_ | (apply at_mcall; refine m_call (hc) hE ?_; rintro _ rfl; (try dsimp only [flat, D.plain, D.plainL])) | (apply at_mcall; refine m_clocall1 [(1000, 4), (1001, 60)] (hln) hE ?_; rintro _ _ ⟨rfl, rfl⟩ <;> (intro _ _ h1 h2; simp only [renEqs, Nat.reduceBEq, renL_app, renL_ds, renL_und] at h1 h2; subst h1 h2; (try dsimp only [flatV, flat, D.plain, D.plainL]))) | (apply qm_move; refine m_move ?_) | (apply qm_load; refine m_load ?_) | (apply qm_faddr; refine m_faddr ?_) | (apply at_am (.buildSlice _ _ _); first | refine am_lit1 (by first | exact want_none | exact want_yes rfl rfl (by assumption) | exact want_yes rfl rfl (by with_reducible rfl)) rfl (by first | exact ToD.d _ | exact ToD.row _ _ _ _ _ rfl) (by first | (simp only [normV, normList, normMap]; rfl) | rfl) rfl (le_ok rfl) (lt_ok rfl) ?_ | refine am_lit (by first | exact want_none | exact want_yes rfl rfl (by assumption) | exact want_yes rfl rfl (by with_reducible rfl)) rfl (by repeat (first | exact PartsD.nil | (apply PartsD.cons; first | exact ToD.d _ | exact ToD.row _ _ _ _ _ rfl))) (by simp [dfill, putD, cellsD, zerosD, Value.cells]; rfl) (by first | (simp only [normV, normList, normMap]; rfl) | rfl) (by decide) (by decide) (lt_ok rfl) ?_) | (refine am_split rfl rfl (fun hb => ?_) (fun hb => ?_) <;> ((try have hq := dX hb); (try (exfalso; omega)))))
  repeat' (first | refine nx ?_ | (apply aq_block_y; decide) | (apply qr_move; refine r_move ?_) | (apply at_cond; first | refine c_t ?_ | refine c_f ?_ | (refine aw_cond rfl (fun hb => ?_) (fun hb => ?_) <;> ((try have hq := dX hb); (try (exfalso; omega))))) | (apply qr_add; refine r_add ?_) | (apply qr_load; refine r_load ?_) | (apply qr_faddr; refine r_faddr ?_) | (apply qr_lits; refine r_lits ?_))
  refine aq_rd (⟨i + 1, k + 1, rfl, by omega, rfl, rfl⟩) (by omega)
 ·obtain rfl : i = x.lets.length := by omega
  have hne : catL x.lines ≠ [] := by
   unfold By.lines
   exact catL_ne _ _
  have hst : ∀ k, ObC 58 [.box 1000 0] (bld (.box 1000 0) k (byteD (catL x.lines))) [] (fun y o => y = .d (.str x.text) ∧ o = []) := fun k => string_any k (catL x.lines) hne
  unfold By.lines at hF hst
  have l1 := line_any true k (x.head x.lets.length) [w_admit, x.admit.text 0] (by show 2 ≤ 100; omega) hF.left.left.left.left.left.left
  have l2 := line_any true (k + 1) _ [w_fare, x.fare.text 0] (by show 2 ≤ 100; omega) hF.left.left.left.left.left
  have l3 := line_any true (k + 1 + 1) _ [w_late, x.late.text 0] (by show 2 ≤ 100; omega) hF.left.left.left.left
  have l4 := line_any true (k + 1 + 1 + 1) _ [w_noshow, x.noshow.text 0] (by show 2 ≤ 100; omega) hF.left.left.left
  have l5 := line_any true (k + 1 + 1 + 1 + 1) _ [w_quota, itoaB x.quota] (by show 2 ≤ 100; omega) hF.left.left
  have l6 := line_any true (k + 1 + 1 + 1 + 1 + 1) _ [w_share, itoaB x.share] (by show 2 ≤ 100; omega) hF.left
  have l7 := line_any true (k + 1 + 1 + 1 + 1 + 1 + 1) _ [w_change, itoaB x.change] (by show 2 ≤ 100; omega) hF
  have hst7 := hst (k + 1 + 1 + 1 + 1 + 1 + 1 + 1)
  obtain ⟨t, n, hfe⟩ := fitsD_form x.text
  rw [hfe] at hfit ⊢
  clear hF hne hst
  repeat' (first | (apply at_call; refine k_call (s1) hE ?_; rintro _ rfl; clear s1) | (apply at_call; refine k_call (s2) hE ?_; rintro _ rfl; clear s2) | (apply at_call; refine k_call (s3) hE ?_; rintro _ rfl; clear s3) | (apply at_call; refine k_call (s4) hE ?_; rintro _ rfl) | (apply at_call; refine k_call (i1) hE ?_; rintro _ rfl; clear i1) | (apply at_call; refine k_call (i2) hE ?_; rintro _ rfl; clear i2) | (apply at_call; refine k_call (i3) hE ?_; rintro _ rfl) | (apply at_call; refine k_call (hfit) hE ?_; rintro _ rfl) | (apply at_call; refine k_clocall1 [(1000, 4), (1001, 60)] (l1) hE ?_; rintro _ _ ⟨rfl, rfl⟩; clear l1 <;> (intro _ _ h1 h2; simp only [renEqs, Nat.reduceBEq, renL_app, renL_ds, renL_und] at h1 h2; subst h1 h2)) | (apply at_call; refine k_clocall1 [(1000, 4), (1001, 60)] (l2) hE ?_; rintro _ _ ⟨rfl, rfl⟩; clear l2 <;> (intro _ _ h1 h2; simp only [renEqs, Nat.reduceBEq, renL_app, renL_ds, renL_und] at h1 h2; subst h1 h2)) | (apply at_call; refine k_clocall1 [(1000, 4), (1001, 60)] (l3) hE ?_; rintro _ _ ⟨rfl, rfl⟩; clear l3 <;> (intro _ _ h1 h2; simp only [renEqs, Nat.reduceBEq, renL_app, renL_ds, renL_und] at h1 h2; subst h1 h2)) | (apply at_call; refine k_clocall1 [(1000, 4), (1001, 60)] (l4) hE ?_; rintro _ _ ⟨rfl, rfl⟩; clear l4 <;> (intro _ _ h1 h2; simp only [renEqs, Nat.reduceBEq, renL_app, renL_ds, renL_und] at h1 h2; subst h1 h2)) | (apply at_call; refine k_clocall1 [(1000, 4), (1001, 60)] (l5) hE ?_; rintro _ _ ⟨rfl, rfl⟩; clear l5 <;> (intro _ _ h1 h2; simp only [renEqs, Nat.reduceBEq, renL_app, renL_ds, renL_und] at h1 h2; subst h1 h2)) | (apply at_call; refine k_clocall1 [(1000, 4), (1001, 60)] (l6) hE ?_; rintro _ _ ⟨rfl, rfl⟩; clear l6 <;> (intro _ _ h1 h2; simp only [renEqs, Nat.reduceBEq, renL_app, renL_ds, renL_und] at h1 h2; subst h1 h2)) | (apply at_call; refine k_clocall1 [(1000, 4), (1001, 60)] (l7) hE ?_; rintro _ _ ⟨rfl, rfl⟩ <;> (intro _ _ h1 h2; simp only [renEqs, Nat.reduceBEq, renL_app, renL_ds, renL_und] at h1 h2; subst h1 h2)) | (apply at_call; refine k_ocall [(1000, 4), (1001, 60)] (hst7) hE ?_; rintro _ _ ⟨rfl, rfl⟩ <;> (intro _ _ h1 h2; simp only [renEqs, Nat.reduceBEq, renL_app, renL_ds, renL_und] at h1 h2; subst h1 h2)) | refine nx ?_ | (apply aq_block_y; decide) | (apply qr_move; refine r_move ?_) | (apply qr_assign; refine r_assign ?_) | (apply at_cond; first | refine c_t ?_ | refine c_f ?_ | (refine aw_cond rfl (fun hb => ?_) (fun hb => ?_) <;> ((try have hq := dX hb); (try (exfalso; omega))))) | (apply qr_lss; refine r_lss ?_) | (apply qr_extract; refine r_extract ?_) | (apply qr_load; refine r_load ?_) | (apply qr_faddr; refine r_faddr ?_) | (apply qr_lits; refine r_lits ?_))
  refine ret_two (by rfl) (by first | exact ToD.d _ | exact ToD.row _ _ _ _ _ rfl) (by first | exact ToD.d _ | exact ToD.row _ _ _ _ _ rfl) ?_
  rfl
end Go.Proofs.YtedoeogopmenpaaGreatDoor
end
section
set_option linter.unusedSimpArgs false
set_option linter.unusedVariables false
namespace Go.Proofs.YtedoeogopmenpaaGreatDoor
open Go.RowKit
def catB (ls : List (List ByteArray)) : ByteArray := ⟨(catL ls).toArray⟩
theorem catB_snoc (ls : List (List ByteArray)) (w : List ByteArray) : catB (ls ++ [w]) = catB ls ++ lineV w := by
 apply ba_ext
 simp [catB, catL_snoc, ByteArray.data_append]
theorem line_two (a b : ByteArray) : lineV [a, b] = a ++ blank1 ++ b ++ ⟨#[32, 59, 10]⟩ := by
 rw [lineV, jn_two, jn_one]
 simp only [ByteArray.append_assoc]
theorem catB_one (w : List ByteArray) : catB [w] = lineV w := by
 apply ba_ext
 simp [catB, catL]
def By.tail (x : By) : ByteArray := ⟨#[113, 117, 111, 116, 97, 32]⟩ ++ itoaB x.quota ++ ⟨#[32, 59, 10, 115, 104, 97, 114, 101, 32]⟩ ++ itoaB x.share ++ ⟨#[32, 59, 10, 99, 104, 97, 110, 103, 101, 32]⟩ ++ itoaB x.change ++ ⟨#[32, 59, 10]⟩
theorem text_ref (x : By) : x.text = catB (x.head x.lets.length) ++ ⟨#[97, 100, 109, 105, 116, 32]⟩ ++ x.admit.text 0 ++ ⟨#[32, 59, 10, 102, 97, 114, 101, 32]⟩ ++ x.fare.text 0 ++ ⟨#[32, 59, 10, 108, 97, 116, 101, 32]⟩ ++ x.late.text 0 ++ ⟨#[32, 59, 10, 110, 111, 115, 104, 111, 119, 32]⟩ ++ x.noshow.text 0 ++ ⟨#[32, 59, 10]⟩ ++ x.tail := by
 show catB x.lines = _
 unfold By.lines By.tail
 simp only [catB_snoc, line_two]
 have e1 : (⟨#[97, 100, 109, 105, 116, 32]⟩ : ByteArray) = w_admit ++ blank1 := by decide
 have e2 : (⟨#[32, 59, 10, 102, 97, 114, 101, 32]⟩ : ByteArray) = ⟨#[32, 59, 10]⟩ ++ w_fare ++ blank1 := by decide
 have e3 : (⟨#[32, 59, 10, 108, 97, 116, 101, 32]⟩ : ByteArray) = ⟨#[32, 59, 10]⟩ ++ w_late ++ blank1 := by decide
 have e4 : (⟨#[32, 59, 10, 110, 111, 115, 104, 111, 119, 32]⟩ : ByteArray) = ⟨#[32, 59, 10]⟩ ++ w_noshow ++ blank1 := by decide
 have e5 : (⟨#[113, 117, 111, 116, 97, 32]⟩ : ByteArray) = w_quota ++ blank1 := by decide
 have e6 : (⟨#[32, 59, 10, 115, 104, 97, 114, 101, 32]⟩ : ByteArray) = ⟨#[32, 59, 10]⟩ ++ w_share ++ blank1 := by decide
 have e7 : (⟨#[32, 59, 10, 99, 104, 97, 110, 103, 101, 32]⟩ : ByteArray) = ⟨#[32, 59, 10]⟩ ++ w_change ++ blank1 := by decide
 rw [e1, e2, e3, e4, e5, e6, e7]
 simp only [ByteArray.append_assoc]
theorem let_line (q : ByteArray × Ex) : lineV (letL q) = ⟨#[108, 101, 116, 32]⟩ ++ q.1 ++ ⟨#[32, 61, 32]⟩ ++ q.2.text 0 ++ ⟨#[32, 59, 10]⟩ := by
 rw [lineV, letL, jn_two, jn_two, jn_two, jn_one]
 have e1 : (⟨#[108, 101, 116, 32]⟩ : ByteArray) = w_let ++ blank1 := by decide
 have e2 : (⟨#[32, 61, 32]⟩ : ByteArray) = blank1 ++ w_is ++ blank1 := by decide
 rw [e1, e2]
 simp only [ByteArray.append_assoc]
theorem tail_any (x : By) (h : x.Ok) : PureC 29 [.agg (byC x)] (· = .str x.tail) := by
 have k1 := h.quota
 have k2 := h.share
 have k3 := h.change
 have i1 := rdecimal_any x.quota k1.1 (by omega)
 have i2 := rdecimal_any x.share k2.1 (by omega)
 have i3 := rdecimal_any x.change (by omega) (by omega)
 have z1 := itoaB_size k1.1 (by omega)
 have z2 := itoaB_size k2.1 (by omega)
 have z3 := itoaB_size (n := x.change) (by omega) (by omega)
 unfold By.tail
 have l1 : ByteArray.size ⟨#[113, 117, 111, 116, 97, 32]⟩ = 6 := rfl
 have l2 : ByteArray.size ⟨#[32, 59, 10, 115, 104, 97, 114, 101, 32]⟩ = 9 := rfl
 have l3 : ByteArray.size ⟨#[32, 59, 10, 99, 104, 97, 110, 103, 101, 32]⟩ = 10 := rfl
 have l4 : ByteArray.size ⟨#[32, 59, 10]⟩ = 3 := rfl
 generalize itoaB x.quota = a at i1 z1 ⊢
 generalize itoaB x.share = b at i2 z2 ⊢
 generalize itoaB x.change = c at i3 z3 ⊢
 have s1 := app_size ⟨#[113, 117, 111, 116, 97, 32]⟩ a
 have s2 := app_size (⟨#[113, 117, 111, 116, 97, 32]⟩ ++ a) ⟨#[32, 59, 10, 115, 104, 97, 114, 101, 32]⟩
 have s3 := app_size (⟨#[113, 117, 111, 116, 97, 32]⟩ ++ a ++ ⟨#[32, 59, 10, 115, 104, 97, 114, 101, 32]⟩) b
 have s4 := app_size (⟨#[113, 117, 111, 116, 97, 32]⟩ ++ a ++ ⟨#[32, 59, 10, 115, 104, 97, 114, 101, 32]⟩ ++ b) ⟨#[32, 59, 10, 99, 104, 97, 110, 103, 101, 32]⟩
 have s5 := app_size (⟨#[113, 117, 111, 116, 97, 32]⟩ ++ a ++ ⟨#[32, 59, 10, 115, 104, 97, 114, 101, 32]⟩ ++ b ++ ⟨#[32, 59, 10, 99, 104, 97, 110, 103, 101, 32]⟩) c
 refine pure_enter Tryz.func29 rfl (by decide) _ Tryz.ntmps29 (le_ok rfl) (fun w Pr hE => ?_)
 dsimp only [slotsOf, Nat.zero_add, Nat.reduceAdd]
 repeat' (first | refine nx ?_ | (apply qr_assign; refine r_assign ?_) | (apply qr_boxed; refine r_boxed ?_))
 refine aw_mixo ([(1, byO' x)]) [(0, true), (1, true), (5, true), (6, true), (10, true), (11, true), (2, false), (3, true), (4, true), (7, false), (8, true), (9, true), (12, false), (13, true), (14, true)] [15] (by kernel_rfl) (by kernel_rfl) (by kernel_rfl) (by decide) (by (repeat (first | exact obs_nil | (apply obs_cons; focus (first | rfl | (simp [find]; done)))))) ?_
 simp only [planned, tailed, List.filterMap_cons, List.filterMap_nil, List.getElem?_cons_zero, List.getElem?_cons_succ, Option.map_some]
 repeat' (first | apply am_nil | refine m_skip ?_ | refine n_skip ?_ | (apply at_mcall; refine m_call (i1) hE ?_; rintro _ rfl; clear i1; (try dsimp only [flat, D.plain, D.plainL])) | (apply at_mcall; refine m_call (i2) hE ?_; rintro _ rfl; clear i2; (try dsimp only [flat, D.plain, D.plainL])) | (apply at_mcall; refine m_call (i3) hE ?_; rintro _ rfl; (try dsimp only [flat, D.plain, D.plainL])) | (apply qm_add; refine m_add ?_) | (apply qm_load; refine m_load ?_) | (apply qm_faddr; refine m_faddr ?_) | (refine am_split rfl rfl (fun hb => ?_) (fun hb => ?_) <;> ((try have hq := dX hb); (try (exfalso; omega)))))
 repeat' (first | refine nx ?_ | (apply qr_assign; refine r_assign ?_) | (apply qr_add; refine r_add ?_) | (apply qr_load; refine r_load ?_) | (apply qr_faddr; refine r_faddr ?_))
 refine rt1 ?_
 rfl
end Go.Proofs.YtedoeogopmenpaaGreatDoor
end
section
set_option linter.unusedSimpArgs false
set_option linter.unusedVariables false
namespace Go.Proofs.YtedoeogopmenpaaGreatDoor
open Go.RowKit
end Go.Proofs.YtedoeogopmenpaaGreatDoor
end
section
set_option linter.unusedSimpArgs false
set_option linter.unusedVariables false
namespace Go.Proofs.YtedoeogopmenpaaGreatDoor
open Go.RowKit
abbrev NodesC (deep : Nat) : Prop := ∀ (e : Ex) (most : Int), 0 ≤ most → most ≤ 60 → e.str.size ≤ 9223372036854775807 → PureC 74 [.agg (exC e), .int most, .int deep] (fun r => ∃ n : Int, r = .int n ∧ 1 ≤ n ∧ n ≤ most + 1 ∧ (n ≤ most → e.tame))
mutual
def Ex.came : Ex → Prop
 | .mk _ _ _ s a => s.size ≤ 9223372036854775807 ∧ a.length ≤ 9223372036854775807 ∧ Ex.cameL a
def Ex.cameL : List Ex → Prop
 | [] => True
 | x :: r => x.came ∧ Ex.cameL r
end
theorem cameL_get {a : List Ex} (h : Ex.cameL a) {i : Nat} (hi : i < a.length) : a[i].came := by
 induction a generalizing i with
 | nil => simp at hi
 | cons x r ih =>
  cases i with
  | zero => exact h.1
  | succ i => exact ih h.2 (by simpa using hi)
theorem came_get {e : Ex} (h : e.came) {i : Nat} (hi : i < e.args.length) : e.args[i].came := by
 cases e
 exact cameL_get h.2.2 hi
theorem tameL_of {a : List Ex} (h : ∀ (i : Nat) (hi : i < a.length), a[i].tame) : Ex.tameL a := by
 induction a with
 | nil => trivial
 | cons x r ih => exact ⟨h 0 (by simp), ih fun i hi => h (i + 1) (by simpa using hi)⟩
theorem tame_of {e : Ex} (h1 : e.str.size ≤ 100000) (h2 : e.args.length ≤ 100000) (h3 : ∀ (i : Nat) (hi : i < e.args.length), e.args[i].tame) : e.tame := by
 cases e
 exact ⟨h1, h2, tameL_of h3⟩
theorem nodes_any : ∀ (deep : Nat), deep ≤ 1000 → ∀ (e : Ex) (most : Int), 0 ≤ most → most ≤ 60 → e.came → PureC 74 [.agg (exC e), .int most, .int deep] (fun r => ∃ n : Int, r = .int n ∧ 1 ≤ n ∧ n ≤ most + 1 ∧ (n ≤ most → e.tame))
 | 0, _, e, most, h0, h1, hcm => by
  have q0 : decide (((0 : Nat) : Int) < 1) = true := rfl
  refine pure_enter Tryz.func74 rfl (by decide) _ Tryz.ntmps74 (le_ok rfl) (fun w Pr hE => ?_)
  dsimp only [slotsOf, Nat.zero_add, Nat.reduceAdd]
  repeat' (first | refine nx ?_ | (apply aq_block_y; decide) | (apply qr_move; refine r_move ?_) | (apply qr_assign; refine r_assign ?_) | (apply at_cond; first | refine c_t ?_ | refine c_f ?_ | (refine aw_cond rfl (fun hb => ?_) (fun hb => ?_) <;> ((try have hq := dX hb); (try (exfalso; omega))))) | (apply at_guard; first | refine g_go ?_ | refine g_nt ?_ | refine g_nf ?_ | refine g_nu ?_ | ((first | refine al_split_t rfl rfl (lt_ok rfl) (fun hb => ?_) (fun hb => ?_) | refine al_split_f rfl rfl (lt_ok rfl) (fun hb => ?_) (fun hb => ?_)) <;> ((try have hq := dX hb); (try (exfalso; omega))))) | (apply qr_pick; refine r_pick ?_) | (apply qr_lss; refine r_lss ?_) | (apply qr_gtr; refine r_gtr ?_) | (apply qr_add; refine r_add ?_) | (apply qr_len; refine r_len ?_) | (apply qr_load; refine r_load ?_) | (apply qr_faddr; refine r_faddr ?_) | (apply qr_boxed; refine r_boxed ?_))
  refine rt1 ?_
  exact ⟨most + 1, rfl, by omega, by omega, fun h => by omega⟩
 | deep + 1, hd, e, most, h0, h1, hcm => by
  have ih := nodes_any deep (by omega)
  have q0 : decide (((deep + 1 : Nat) : Int) < 1) = false := decide_eq_false (by omega)
  have hw : ((deep + 1 : Nat) : Int) - 1 = deep := by omega
  have hlen := rows_len e.args
  by_cases hs : 40 < e.str.size
  ·have q1 : decide ((40 : Int) < e.str.size) = true := decide_eq_true (by omega)
   refine pure_enter Tryz.func74 rfl (by decide) _ Tryz.ntmps74 (le_ok rfl) (fun w Pr hE => ?_)
   dsimp only [slotsOf, Nat.zero_add, Nat.reduceAdd]
   repeat' (first | refine nx ?_ | (apply aq_block_y; decide) | (apply qr_move; refine r_move ?_) | (apply qr_assign; refine r_assign ?_) | (apply at_cond; first | refine c_t ?_ | refine c_f ?_ | (refine aw_cond rfl (fun hb => ?_) (fun hb => ?_) <;> ((try have hq := dX hb); (try (exfalso; omega))))) | (apply at_guard; first | refine g_go ?_ | refine g_nt ?_ | refine g_nf ?_ | refine g_nu ?_ | ((first | refine al_split_t rfl rfl (lt_ok rfl) (fun hb => ?_) (fun hb => ?_) | refine al_split_f rfl rfl (lt_ok rfl) (fun hb => ?_) (fun hb => ?_)) <;> ((try have hq := dX hb); (try (exfalso; omega))))) | (apply qr_pick; refine r_pick ?_) | (apply qr_lss; refine r_lss ?_) | (apply qr_gtr; refine r_gtr ?_) | (apply qr_add; refine r_add ?_) | (apply qr_len; refine r_len ?_) | (apply qr_load; refine r_load ?_) | (apply qr_faddr; refine r_faddr ?_) | (apply qr_boxed; refine r_boxed ?_))
   refine rt1 ?_
   exact ⟨most + 1, rfl, by omega, by omega, fun h => by omega⟩
  have q1 : decide ((40 : Int) < e.str.size) = false := decide_eq_false (by omega)
  refine pure_enter Tryz.func74 rfl (by decide) _ Tryz.ntmps74 (le_ok rfl) (fun w Pr hE => ?_)
  dsimp only [slotsOf, Nat.zero_add, Nat.reduceAdd]
  repeat' (first | refine nx ?_ | (apply aq_block_y; decide) | (apply qr_move; refine r_move ?_) | (apply qr_assign; refine r_assign ?_) | (apply at_cond; first | refine c_t ?_ | refine c_f ?_ | (refine aw_cond rfl (fun hb => ?_) (fun hb => ?_) <;> ((try have hq := dX hb); (try (exfalso; omega))))) | (apply at_guard; first | refine g_go ?_ | refine g_nt ?_ | refine g_nf ?_ | refine g_nu ?_ | ((first | refine al_split_t rfl rfl (lt_ok rfl) (fun hb => ?_) (fun hb => ?_) | refine al_split_f rfl rfl (lt_ok rfl) (fun hb => ?_) (fun hb => ?_)) <;> ((try have hq := dX hb); (try (exfalso; omega))))) | (apply qr_pick; refine r_pick ?_) | (apply qr_lss; refine r_lss ?_) | (apply qr_gtr; refine r_gtr ?_) | (apply qr_len; refine r_len ?_) | (apply qr_load; refine r_load ?_) | (apply qr_faddr; refine r_faddr ?_) | (apply qr_boxed; refine r_boxed ?_))
  clear q0 q1
  refine aw_lp (fun N sl ob => ∃ (i : Nat) (n : Int), N = 100 - i ∧ i ≤ e.args.length ∧ (i : Int) + 1 ≤ n ∧ n ≤ most + 1 ∧ (n ≤ most → ∀ (j : Nat) (hj : j < e.args.length), j < i → e.args[j].tame) ∧ sl = [(8, .d (.int i)), (7, .d (.int n)), (3, .box 3 0), (2, .d (.int ((deep + 1 : Nat) : Int))), (1, .d (.int most))] ∧ ob = [(3, exO' e)]) (⟨0, 1, rfl, Nat.zero_le _, by omega, by omega, fun _ j _ h => by omega, rfl, rfl⟩) ?_
  rintro N sl ob ⟨i, n, rfl, hi, hn1, hn2, ha, rfl, rfl⟩
  by_cases hlt : i < e.args.length
  ·have q : decide ((i : Int) < (Ex.rows e.args).length) = true := decide_eq_true (by omega)
   by_cases hnm : n ≤ most
   ·have q2 : decide (n ≤ most) = true := decide_eq_true hnm
    have hg := rows_get hlt
    have hc := ih e.args[i] (most - n) (by omega) (by omega) (came_get hcm hlt)
    have hx : ∀ m : Int, (m ≤ most - n → e.args[i].tame) → (n + m ≤ most → ∀ (j : Nat) (hj : j < e.args.length), j < i + 1 → e.args[j].tame) := fun m hm h j hj hji => by
     rcases Nat.lt_succ_iff_lt_or_eq.1 hji with h2 | rfl
     ·exact ha hnm j hj h2
     ·exact hm (by omega)
    rw [← hw] at hc
    generalize e.args[i] = x at hg hc hx
    repeat' (first | (apply at_op (.indexAddr _ _ _); refine al_ixq hg ?_) | (apply at_call; refine k_call (hc) hE ?_; rintro _ ⟨m, rfl, hm1, hm2, hm3⟩) | refine nx ?_ | (apply aq_block_y; decide) | (apply qr_move; refine r_move ?_) | (apply qr_assign; refine r_assign ?_) | (apply at_cond; first | refine c_t ?_ | refine c_f ?_ | (refine aw_cond rfl (fun hb => ?_) (fun hb => ?_) <;> ((try have hq := dX hb); (try (exfalso; omega))))) | (apply at_guard; first | refine g_go ?_ | refine g_nt ?_ | refine g_nf ?_ | refine g_nu ?_ | ((first | refine al_split_t rfl rfl (lt_ok rfl) (fun hb => ?_) (fun hb => ?_) | refine al_split_f rfl rfl (lt_ok rfl) (fun hb => ?_) (fun hb => ?_)) <;> ((try have hq := dX hb); (try (exfalso; omega))))) | (apply qr_pick; refine r_pick ?_) | (apply qr_lss; refine r_lss ?_) | (apply qr_leq; refine r_leq ?_) | (apply qr_add; refine r_add ?_) | (apply qr_sub; refine r_sub ?_) | (apply qr_len; refine r_len ?_) | (apply qr_ix; refine r_ix ?_) | (apply qr_load; refine r_load ?_) | (apply qr_faddr; refine r_faddr ?_))
    repeat' (first | refine nx ?_ | (apply aq_block_y; decide) | (apply qr_move; refine r_move ?_) | (apply qr_assign; refine r_assign ?_) | (apply at_cond; first | refine c_t ?_ | refine c_f ?_ | (refine aw_cond rfl (fun hb => ?_) (fun hb => ?_) <;> ((try have hq := dX hb); (try (exfalso; omega))))) | (apply qr_add; refine r_add ?_))
    refine aq_rd (⟨i + 1, n + m, rfl, by omega, by omega, by omega, hx m hm3, rfl, rfl⟩) (by omega)
   ·have q2 : decide (n ≤ most) = false := decide_eq_false hnm
    repeat' (first | refine nx ?_ | (apply aq_block_y; decide) | (apply qr_move; refine r_move ?_) | (apply qr_assign; refine r_assign ?_) | (apply at_cond; first | refine c_t ?_ | refine c_f ?_ | (refine aw_cond rfl (fun hb => ?_) (fun hb => ?_) <;> ((try have hq := dX hb); (try (exfalso; omega))))) | (apply at_guard; first | refine g_go ?_ | refine g_nt ?_ | refine g_nf ?_ | refine g_nu ?_ | ((first | refine al_split_t rfl rfl (lt_ok rfl) (fun hb => ?_) (fun hb => ?_) | refine al_split_f rfl rfl (lt_ok rfl) (fun hb => ?_) (fun hb => ?_)) <;> ((try have hq := dX hb); (try (exfalso; omega))))) | (apply qr_pick; refine r_pick ?_) | (apply qr_lss; refine r_lss ?_) | (apply qr_leq; refine r_leq ?_) | (apply qr_len; refine r_len ?_) | (apply qr_load; refine r_load ?_) | (apply qr_faddr; refine r_faddr ?_))
    refine rt1 ?_
    exact ⟨n, rfl, by omega, by omega, fun h => absurd h hnm⟩
  ·have q : decide ((i : Int) < (Ex.rows e.args).length) = false := decide_eq_false (by omega)
   repeat' (first | refine nx ?_ | (apply aq_block_y; decide) | (apply qr_move; refine r_move ?_) | (apply qr_assign; refine r_assign ?_) | (apply at_cond; first | refine c_t ?_ | refine c_f ?_ | (refine aw_cond rfl (fun hb => ?_) (fun hb => ?_) <;> ((try have hq := dX hb); (try (exfalso; omega))))) | (apply at_guard; first | refine g_go ?_ | refine g_nt ?_ | refine g_nf ?_ | refine g_nu ?_ | ((first | refine al_split_t rfl rfl (lt_ok rfl) (fun hb => ?_) (fun hb => ?_) | refine al_split_f rfl rfl (lt_ok rfl) (fun hb => ?_) (fun hb => ?_)) <;> ((try have hq := dX hb); (try (exfalso; omega))))) | (apply qr_pick; refine r_pick ?_) | (apply qr_lss; refine r_lss ?_) | (apply qr_leq; refine r_leq ?_) | (apply qr_len; refine r_len ?_) | (apply qr_load; refine r_load ?_) | (apply qr_faddr; refine r_faddr ?_))
   refine rt1 ?_
   exact ⟨n, rfl, by omega, by omega, fun h => tame_of (by omega) (by omega) (fun j hj => ha h j hj (by omega))⟩
theorem fewE_any (e : Ex) (hcm : e.came) : PureC 30 [.agg (exC e)] (fun r => ∃ b : Bool, r = .bool b ∧ (b = true → e.tame)) := by
 have hc := nodes_any 16 (by omega) e 60 (by omega) (by omega) hcm
 refine pure_enter Tryz.func30 rfl (by decide) _ Tryz.ntmps30 (le_ok rfl) (fun w Pr hE => ?_)
 dsimp only [slotsOf, Nat.zero_add, Nat.reduceAdd]
 repeat' (first | (apply at_call; refine k_call (hc) hE ?_; rintro _ ⟨m, rfl, hm1, hm2, hm3⟩) | refine nx ?_ | (apply qr_assign; refine r_assign ?_) | (apply qr_leq; refine r_leq ?_) | (apply qr_load; refine r_load ?_) | (apply qr_boxed; refine r_boxed ?_))
 refine rt1 ?_
 exact ⟨_, rfl, fun h => hm3 (of_decide_eq_true h)⟩
end Go.Proofs.YtedoeogopmenpaaGreatDoor
end
