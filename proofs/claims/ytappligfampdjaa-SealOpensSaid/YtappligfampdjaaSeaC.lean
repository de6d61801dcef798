/-
  Copies of rings; rings that are opened. Conditions: none.
-/
import Derived.Test.YtappligfampdjaaSeaB
import Derived.Laws.Externs
import Derived.Laws.Cover3
import Derived.MapKept
import Derived.WalkKit
set_option linter.unusedSimpArgs false
set_option linter.unusedVariables false
namespace Go.Proofs.Ytappligfampdjaa
open Go.RowKit Go.ChangeMaps

set_option maxHeartbeats 8000000 in
set_option maxRecDepth 20000 in
/-- slices.Clone: a row of its own -/
theorem clone_row (L : List SE) (hL : L.length ≤ 1000000) : ObC 22 [.d (.list 2 (L.map SE.cells))] [] [5] (fun x o => ∃ k, x = .row 5 k ∧ o = [(5, .row 32 2 k (L.map SE.cells))]) := by
  refine ob_enter Try.func22 rfl (by decide) _ Try.ntmps22 (le_ok rfl) rfl (fun w Pr β κ hE => ?_)
  dsimp only [slotsV, Nat.zero_add, Nat.reduceAdd]
  repeat' (first | (apply at_op (.binOp .eql _ _ _ _); refine al_slnil (by first | exact ToD.d _ | exact ToD.row _ _ _ _ _ rfl) Try.underlying22 (lt_ok rfl) (fun b hb0 => ?_)) | (apply at_op (.buildSlice _ _ _); refine al_step (st_litR0 rfl (lt_ok rfl) rfl) rfl ?_) | (apply at_op (.call { callee := .builtin .append, args := _, argTypes := _ }); refine al_step (st_append rfl rfl (by first | exact ToD.d _ | exact ToD.row _ _ _ _ _ rfl) rfl rfl (by intro q hq z hz; obtain ⟨x, _, rfl⟩ := List.mem_map.1 hq; simp [SE.cells] at hz; rcases hz with rfl | rfl <;> rfl) (by decide) (by first | (simp only [List.length_map, List.length_append, List.length_cons, List.length_nil]; omega) | omega) (by first | (simp only [List.length_map, List.length_append, List.length_cons, List.length_nil]; omega) | omega) (lt_ok rfl)) rfl ?_) | apply aw_seq | apply aw_region | apply al_nil | apply aq_np | apply aq_then | apply aq_then_x | apply aq_then_r | apply aw_skip | apply aw_exit | apply aw_ret | (apply at_op (.move _); refine al_y (y_moveC (by constructor)) (lt_ok rfl) ?_) | (apply at_op (.assign _); refine al_y (y_assignC (by constructor)) (lt_ok rfl) ?_) | (apply at_cond; first | refine aw_cond_t rfl (by assumption) ?_ | refine aw_cond_f rfl (by assumption) ?_ | refine aw_cond_t rfl (by first | with_reducible rfl | decide) ?_ | refine aw_cond_f rfl (by first | with_reducible rfl | decide) ?_ | (refine aw_cond rfl (fun hb => ?_) (fun hb => ?_) <;> ((first | have hq := of_decide_eq_true hb | have hq := of_decide_eq_false hb | have hq := of_decide_eq_false (not_t hb) | have hq := of_decide_eq_true (not_f hb) | skip); (try (exfalso; omega))))) | (apply at_op (.binOp .eql _ _ _ _); first | refine al_y (y_eql rfl rfl) (lt_ok rfl) ?_ | refine al_y (y_seql rfl rfl) (lt_ok rfl) ?_ | refine al_y (y_beql rfl rfl (by kernel_rfl)) (lt_ok rfl) ?_ | refine al_y (y_eqs rfl rfl (by simp only [kindsD] <;> rfl) (by simp only [kindsD] <;> rfl) (by kernel_rfl) rfl) (lt_ok rfl) ?_) | (apply at_op (.buildSlice _ _ _); first | refine al_step (st_lit1 rfl (by first | exact ToD.d _ | exact ToD.row _ _ _ _ _ rfl) (by first | (simp only [normV, normList, normMap]; rfl) | rfl) rfl (le_ok rfl) (lt_ok rfl)) rfl ?_ | refine al_step (st_lit rfl (by repeat (first | exact PartsD.nil | (apply PartsD.cons; first | exact ToD.d _ | exact ToD.row _ _ _ _ _ rfl))) (by simp [dfill, putD, cellsD, zerosD, Value.cells]; rfl) (by first | (simp only [normV, normList, normMap]; rfl) | rfl) (by decide) (by decide) (lt_ok rfl)) rfl ?_) | (apply at_op (.call { callee := .builtin .append, args := _, argTypes := _ }); refine al_step (st_append rfl rfl (by first | exact ToD.d _ | exact ToD.row _ _ _ _ _ rfl) rfl rfl (by simp [D.one, Value.oneCell']) (by decide) (by first | (simp only [List.length_map, List.length_append, List.length_cons, List.length_nil]; omega) | omega) (by first | (simp only [List.length_map, List.length_append, List.length_cons, List.length_nil]; omega) | omega) (lt_ok rfl)) rfl ?_))
  · refine aq_adopt 2 5 32 2 rfl rfl (lt_ok rfl) ?_
    refine oret1 ([(5, .row 32 2 0 [])]) (by rfl) (by first | exact ResV.x _ _ (ResX.tmp _ _ (by first | exact ToD.d _ | exact ToD.row _ _ _ _ _ rfl | exact ToD.nil _)) | exact ResV.tmp _ _ rfl | exact ResV.x _ _ (ResX.cellA _ _ _ _ _ _ _ rfl rfl rfl (by first | (simp only [normV, normList, normMap]; rfl) | rfl) rfl)) (⟨0, rfl, by rw [hb0 (by assumption)]⟩) (by (repeat (first | exact obs_nil | (apply obs_cons; focus (first | rfl | (simp [find]; done)))))) (by rfl)
  · skip
    refine oret1 ([(5, .row 32 2 1 ([] ++ L.map SE.cells))]) (by rfl) (by first | exact ResV.x _ _ (ResX.tmp _ _ (by first | exact ToD.d _ | exact ToD.row _ _ _ _ _ rfl | exact ToD.nil _)) | exact ResV.tmp _ _ rfl | exact ResV.x _ _ (ResX.cellA _ _ _ _ _ _ _ rfl rfl rfl (by first | (simp only [normV, normList, normMap]; rfl) | rfl) rfl)) (⟨1, rfl, rfl⟩) (by (repeat (first | exact obs_nil | (apply obs_cons; focus (first | rfl | (simp [find]; done)))))) (by rfl)
theorem run_mnil (w : World) {t k e : TypeId} (p : Option Nat) (h : Try.prog.underlying t = some (.map k e)) : (binOp .eql t (.map p) (.map none)).run Try.prog w = .ok (.bool p.isNone) w := by
  have := run_equalIn_map_nil (P := Try.prog) (w := w) 9999 t k e p h
  simp only [binOp]
  simp [show Op.equal t (.map p) (.map none) = Op.equalIn (9999 + 1) t (.map p) (.map none) from rfl, this]
theorem run_massert (w : World) {t xT k e : TypeId} (v : Value) (h : Try.prog.underlying t = some (.map k e)) : (Instr.typeAssert (.iface t v) xT t false).run Try.prog w = .ok v w := by
  simp [Instr.typeAssert, run_underlying h, go_sem, Result.andThen]
theorem run_mclone (w : World) {r : Nat} {es : Array MapEntry} {clock : Nat} (t : TypeId) (hb : w.heap[r]? = some (.map es clock)) :
    (Extern.MapsClone.clone #[.iface t (.map (some r))]).run Try.prog w = .ok (.iface t (.map (some w.heap.size))) (w.alloc (.map es clock)) := by
  show ((getObj r >>= fun o => match o with
      | .map entries clock => (newObj (.map entries clock) >>= fun n => pure (.iface t (.map (some n))))
      | _ => stuck "maps.clone: a map expected") : Sem Value).run Try.prog w = _
  simp [MapKept.run_getObj_map hb, Result.andThen, go_sem]
set_option maxHeartbeats 4000000 in
set_option maxRecDepth 20000 in
theorem mapclone_run (b : Nat) (es : Array MapEntry) (clock : Nat) (w : World) (hb : w.heap[b]? = some (.map es clock)) :
    Calls Try.prog 24 #[.map (some b)] w fun e w' => e = .returned (.map (some w.heap.size)) ∧ w' = w.alloc (.map es clock) := by
  have hq := fun w => run_mnil w (some b) Try.underlying46
  have mixed : Try.prog.follows .mixedOrders = true := follows_mixed
  go_enter Try.func24, Try.ntmps24
  go_wp2
  rw [run_callFunc_extern Try.func25 (by kernel_rfl) (by kernel_rfl) (by kernel_rfl) (e := Extern.MapsClone.clone) (by kernel_rfl), run_mclone w 46 hb]
  simp only [Result.andThen]
  rw [Oper.upon_value]
  go_wp2
  rw [run_massert _ _ Try.underlying46]
  simp only [Result.andThen]
  rw [Oper.upon_value]
  go_wp2
  go_ret
  exact ⟨rfl, rfl⟩
/-- maps.Clone, from its run -/
theorem clone_obc {f : FuncId} {T : TypeId} (hf : FnOk f) (hrun : ∀ (b : Nat) (es : Array MapEntry) (clock : Nat) (w : World), w.heap[b]? = some (.map es clock) → Calls Try.prog f #[.map (some b)] w fun e w' => e = .returned (.map (some w.heap.size)) ∧ w' = w.alloc (.map es clock)) (c : Nat) (l : List ME) :
    ObC f [.mp 1000] [(1000, .map T c l)] [3] (fun x o => x = .mp 3 ∧ o = [(3, .map T c l), (1000, .map T c l)]) := by
  refine ⟨hf, fun w Pr vs β κ hp hE hl hv ho hap => ?_⟩
  match vs, hl with
  | [v], _ =>
    have h1 := hv 0 v _ rfl rfl
    obtain ⟨g, es, q1, q2, q3, q4, q5, q6⟩ := ho 1000 _ rfl
    cases h1 with
    | mp _ g' hb =>
      rw [q1] at hb
      simp only [Value.map.injEq, Option.some.injEq] at hb
      subst hb
      refine (hrun g es.toArray c w q3).mono fun e w' ⟨he, hw⟩ => ?_
      subst hw
      have hx : Below w.heap.size w (w.alloc (.map es.toArray c)) := (Below.refl _ _).alloc (Nat.le_refl _) _
      have hst : Stays Pr w (w.alloc (.map es.toArray c)) := fun b o hb => hx.cell (p := ⟨b, o, none⟩) (hp b o hb)
      have hgl : g < w.heap.size := (Array.getElem?_eq_some_iff.1 q3).1
      have e3 : updV β 3 (.map (some w.heap.size)) 3 = .map (some w.heap.size) := updV_same _ _ _
      have e1 : updV β 3 (.map (some w.heap.size)) 1000 = .map (some g) := (updV_other β 3 _ 1000 (by decide)).trans q1
      have hcase : ∀ i o, find [(3, O.map T c l), (1000, O.map T c l)] i = some o → (i = 3 ∧ o = .map T c l) ∨ (i = 1000 ∧ o = .map T c l) := by
        intro i o hi
        by_cases h3 : i = 3
        · subst h3; rw [find_eq] at hi; cases hi; exact .inl ⟨rfl, rfl⟩
        · rw [find_ne h3] at hi
          by_cases h4 : i = 1000
          · subst h4; rw [find_eq] at hi; cases hi; exact .inr ⟨rfl, rfl⟩
          · rw [find_ne h4] at hi; cases hi
      refine ⟨_, _, _, Pr, updV β 3 (.map (some w.heap.size)), κ, he, ⟨rfl, rfl⟩, Under.of_below _ hx, hst, fun _ _ h => h, fun _ _ h => .inl h, fun b o h => Nat.lt_of_lt_of_le (hp b o h) hx.size, .mp 3 _ e3, fun i o hi => ?_, fun i j oi oj gg hi hj h2 h3 => ?_, fun i o gg hi hg => ?_, fun i o hi => ?_, rfl, fun i o hi => ?_⟩
      · rcases hcase i o hi with ⟨rfl, rfl⟩ | ⟨rfl, rfl⟩
        · exact ⟨w.heap.size, es, e3, Nat.zero_le _, heap_alloc_new w _, q4, fun j x q h2 h3 => (q5 j x q h2 h3).keep hst (fun _ _ h => h), fun o ho => by have := hp _ _ ho; omega⟩
        · exact ⟨g, es, e1, Nat.zero_le _, (hx.block g hgl).trans q3, q4, fun j x q h2 h3 => (q5 j x q h2 h3).keep hst (fun _ _ h => h), q6⟩
      · rcases hcase i oi hi with ⟨rfl, _⟩ | ⟨rfl, _⟩ <;> rcases hcase j oj hj with ⟨rfl, _⟩ | ⟨rfl, _⟩
        · rfl
        · rw [e3] at h2; rw [e1] at h3; simp only [blk, Option.some.injEq] at h2 h3; omega
        · rw [e1] at h2; rw [e3] at h3; simp only [blk, Option.some.injEq] at h2 h3; omega
        · rfl
      · rcases hcase i o hi with ⟨rfl, _⟩ | ⟨rfl, _⟩
        · rw [e3] at hg; simp only [blk, Option.some.injEq] at hg; exact .inr (by omega)
        · rw [e1] at hg; simp only [blk, Option.some.injEq] at hg; exact .inl ⟨1000, _, rfl, by rw [q1, ← hg]; rfl⟩
      · have : i = 1000 := by
          by_cases h4 : i = 1000
          · exact h4
          · rw [find_ne h4] at hi; cases hi
        subst this
        exact .inl ⟨updV_other β 3 _ 1000 (by decide), rfl⟩
      · rcases hcase i o hi with ⟨rfl, rfl⟩ | ⟨rfl, rfl⟩
        · exact ⟨by simp [keys], rfl⟩
        · exact ⟨by simp [keys], rfl⟩
theorem mapclone_any (c : Nat) (l : List ME) : ObC 24 [.mp 1000] [(1000, .map 46 c l)] [3] (fun x o => x = .mp 3 ∧ o = [(3, .map 46 c l), (1000, .map 46 c l)]) :=
  clone_obc ⟨_, Try.func24, by decide, rfl⟩ mapclone_run c l
set_option maxHeartbeats 8000000 in
set_option maxRecDepth 20000 in
theorem copy_any (k : Nat) {L : List SE} (hL : L.length ≤ 1000000) : ObC 20 [.box 1000 0] (ring 1000 1001 1002 k L) [14, 12, 7] (fun x o => ∃ k', x = .box 14 0 ∧ o = ring 14 12 7 k' L ++ ring 1000 1001 1002 k L) := by
  refine ob_enter Try.func20 rfl (by decide) _ Try.ntmps20 (le_ok rfl) rfl (fun w Pr β κ hE => ?_)
  dsimp only [slotsV, Nat.zero_add, Nat.reduceAdd]
  repeat' (first | apply aw_seq | apply aw_region | apply al_nil | apply aq_np | apply aq_then | apply aq_then_x | apply aq_then_r | apply aw_skip | apply aw_exit | apply aw_ret | (apply at_op (.move _); refine al_y (y_moveC (by constructor)) (lt_ok rfl) ?_) | (apply at_op (.assign _); refine al_y (y_assignC (by constructor)) (lt_ok rfl) ?_) | (apply at_op (.load _ _); first | refine al_y (y_load1 rfl rfl rfl) (lt_ok rfl) ?_ | refine al_y (y_loadA rfl rfl (take_all rfl rfl) rfl) (lt_ok rfl) ?_ | refine al_y (y_loadA rfl rfl rfl rfl) (lt_ok rfl) ?_ | refine al_y (y_bload1 rfl rfl rfl rfl) (lt_ok rfl) ?_ | refine al_y (y_bloadA rfl rfl rfl (by first | (simp only [normV, normList, normMap]; rfl) | rfl) rfl) (lt_ok rfl) ?_ | refine al_y (y_glob hE (by unfold laidG; first | exact List.Mem.head _ | exact .tail _ (.head _) | exact .tail _ (.tail _ (.head _))) rfl rfl) (lt_ok rfl) ?_) | (apply at_op (.fieldAddr _ _ _); first | refine al_y (y_fbox rfl rfl rfl) (lt_ok rfl) ?_ | refine al_y (y_faddr rfl rfl rfl) (lt_ok rfl) ?_) | (apply at_op (.nilCheck _); first | refine al_y (y_nilbox rfl) (lt_ok rfl) ?_ | refine al_y (y_nilep rfl) (lt_ok rfl) ?_) | (apply at_op (.box _ _); refine al_step (st_box (ev_d rfl) nofun (by first | (simp only [normV, normList, normMap]; rfl) | rfl) (lt_ok rfl) rfl rfl) rfl ?_) | (apply at_op (.build _ _); first | refine al_y (y_build rfl (by repeat (first | exact PartsD.nil | (apply PartsD.cons; first | exact ToD.d _ | exact ToD.row _ _ _ _ _ rfl))) (by first | (simp only [dfill, normV, normList, normMap]; rfl) | (simp [dfill, putD, cellsD, zerosD, Value.cells]; rfl))) (lt_ok rfl) ?_ | refine al_y (y_buildA rfl (by repeat (first | exact PartsV.nil _ | (apply PartsV.cons; constructor; rfl))) (by rfl) (by rfl)) (lt_ok rfl) ?_ | refine al_y (y_buildV rfl (by repeat (first | exact PartsV.nil _ | (apply PartsV.cons; constructor; rfl))) (by rfl)) (lt_ok rfl) ?_))
  refine aw_mixo ([(1000, .box 48 [.row 1002 k, .mp 1001]), (1002, .row 32 2 k (L.map SE.cells))]) [(0, true), (1, true), (2, true), (3, true), (5, true), (6, true), (7, true), (8, true), (4, false), (9, false), (10, true), (11, false)] [12] (by kernel_rfl) (by kernel_rfl) (by kernel_rfl) (by decide) (by (repeat (first | exact obs_nil | (apply obs_cons; focus (first | rfl | (simp [find]; done)))))) ?_
  simp only [planned, tailed, List.filterMap_cons, List.filterMap_nil, List.getElem?_cons_zero, List.getElem?_cons_succ, Option.map_some]
  repeat' (first | apply am_nil | refine am_skip (by first | exact want_no_t rfl rfl (by assumption) | exact want_no_f rfl rfl (by assumption) | exact want_no_t rfl rfl (by with_reducible rfl) | exact want_no_f rfl rfl (by with_reducible rfl) | exact want_no_u rfl rfl) (lt_ok rfl) ?_ | refine am_skip' (by first | exact want_no_t rfl rfl (by assumption) | exact want_no_f rfl rfl (by assumption) | exact want_no_t rfl rfl (by with_reducible rfl) | exact want_no_f rfl rfl (by with_reducible rfl) | exact want_no_u rfl rfl) (lt_ok rfl) ?_ | (apply at_am (.call { callee := .value _, args := _, argTypes := _ }); refine am_ocall1 [(5, 7)] (clone_row L hL) (by first | exact want_none | exact want_yes rfl rfl (by assumption) | exact want_yes rfl rfl (by with_reducible rfl)) rfl hE (lt_ok rfl) (by (repeat (first | refine ArgsV.cons (.same _ _ rfl) ?_ | refine ArgsV.cons (.toD _ _ (by first | exact ToD.d _ | exact ToD.row _ _ _ _ _ rfl | exact ToD.nil _)) ?_)); exact ArgsV.nil) ⟨obs_nil, rfl, rfl, rfl, rfl⟩ rfl rfl rfl (lt_ok rfl) ?_; (all_goals (try first | omega | assumption)); rintro _ _ ⟨k1, rfl, rfl⟩; intro _ _ h1 h2; simp only [V.ren, V.renL, O.ren, renO, rn, dropK, keys, mem, List.map_cons, List.map_nil, List.any_cons, List.any_nil, List.cons_append, List.nil_append, nbeq_def, Nat.reduceBEq, cond_true, cond_false, Bool.or_false, Bool.false_or, Bool.true_or] at h1 h2; subst h1 h2) | (apply at_am (.call { callee := .value _, args := _, argTypes := _ }); refine am_ocall1 [(1000, 1001), (3, 12)] (mapclone_any L.length (ents L)) (by first | exact want_none | exact want_yes rfl rfl (by assumption) | exact want_yes rfl rfl (by with_reducible rfl)) rfl hE (lt_ok rfl) (by (repeat (first | refine ArgsV.cons (.same _ _ rfl) ?_ | refine ArgsV.cons (.toD _ _ (by first | exact ToD.d _ | exact ToD.row _ _ _ _ _ rfl | exact ToD.nil _)) ?_)); exact ArgsV.nil) ⟨(obs_cons rfl obs_nil), rfl, rfl, rfl, rfl⟩ rfl rfl rfl (lt_ok rfl) ?_; (all_goals (try first | omega | assumption)); rintro _ _ ⟨rfl, rfl⟩; intro _ _ h1 h2; simp only [V.ren, V.renL, O.ren, renO, rn, dropK, keys, mem, List.map_cons, List.map_nil, List.any_cons, List.any_nil, List.cons_append, List.nil_append, nbeq_def, Nat.reduceBEq, cond_true, cond_false, Bool.or_false, Bool.false_or, Bool.true_or] at h1 h2; subst h1 h2) | (apply at_am (.build _ _); refine am_yw (by first | exact want_none | exact want_yes rfl rfl (by assumption) | exact want_yes rfl rfl (by with_reducible rfl)) (yw_buildS rfl (by repeat (first | exact PartsS.nil | (apply PartsS.cons; rfl; constructor; rfl))) rfl rfl) (lt_ok rfl) ?_) | (apply at_am (.box _ _); refine am_box (by first | exact want_none | exact want_yes rfl rfl (by assumption) | exact want_yes rfl rfl (by with_reducible rfl)) (ev_agg rfl) nofun (by first | (simp only [normV, normList, normMap]; rfl) | rfl) (lt_ok rfl) rfl rfl rfl rfl ?_) | (apply at_am (.move _); refine am_y (by first | exact want_none | exact want_yes rfl rfl (by assumption) | exact want_yes rfl rfl (by with_reducible rfl)) (y_moveC (by constructor)) (lt_ok rfl) ?_) | (apply at_am (.load _ _); first | refine am_y (by first | exact want_none | exact want_yes rfl rfl (by assumption) | exact want_yes rfl rfl (by with_reducible rfl)) (y_load1 rfl rfl rfl) (lt_ok rfl) ?_ | refine am_y (by first | exact want_none | exact want_yes rfl rfl (by assumption) | exact want_yes rfl rfl (by with_reducible rfl)) (y_loadA rfl rfl (take_all rfl rfl) rfl) (lt_ok rfl) ?_ | refine am_y (by first | exact want_none | exact want_yes rfl rfl (by assumption) | exact want_yes rfl rfl (by with_reducible rfl)) (y_loadA rfl rfl rfl rfl) (lt_ok rfl) ?_ | refine am_y (by first | exact want_none | exact want_yes rfl rfl (by assumption) | exact want_yes rfl rfl (by with_reducible rfl)) (y_bload1 rfl rfl rfl rfl) (lt_ok rfl) ?_ | refine am_y (by first | exact want_none | exact want_yes rfl rfl (by assumption) | exact want_yes rfl rfl (by with_reducible rfl)) (y_bloadA rfl rfl rfl (by first | (simp only [normV, normList, normMap]; rfl) | rfl) rfl) (lt_ok rfl) ?_ | refine am_y (by first | exact want_none | exact want_yes rfl rfl (by assumption) | exact want_yes rfl rfl (by with_reducible rfl)) (y_glob hE (by unfold laidG; first | exact List.Mem.head _ | exact .tail _ (.head _) | exact .tail _ (.tail _ (.head _))) rfl rfl) (lt_ok rfl) ?_) | (apply at_am (.fieldAddr _ _ _); first | refine am_y (by first | exact want_none | exact want_yes rfl rfl (by assumption) | exact want_yes rfl rfl (by with_reducible rfl)) (y_fbox rfl rfl rfl) (lt_ok rfl) ?_ | refine am_y (by first | exact want_none | exact want_yes rfl rfl (by assumption) | exact want_yes rfl rfl (by with_reducible rfl)) (y_faddr rfl rfl rfl) (lt_ok rfl) ?_) | (apply at_am (.nilCheck _); first | refine am_y (by first | exact want_none | exact want_yes rfl rfl (by assumption) | exact want_yes rfl rfl (by with_reducible rfl)) (y_nilbox rfl) (lt_ok rfl) ?_ | refine am_y (by first | exact want_none | exact want_yes rfl rfl (by assumption) | exact want_yes rfl rfl (by with_reducible rfl)) (y_nilep rfl) (lt_ok rfl) ?_) | (apply at_am (.build _ _); first | refine am_y (by first | exact want_none | exact want_yes rfl rfl (by assumption) | exact want_yes rfl rfl (by with_reducible rfl)) (y_build rfl (by repeat (first | exact PartsD.nil | (apply PartsD.cons; first | exact ToD.d _ | exact ToD.row _ _ _ _ _ rfl))) (by first | (simp only [dfill, normV, normList, normMap]; rfl) | (simp [dfill, putD, cellsD, zerosD, Value.cells]; rfl))) (lt_ok rfl) ?_ | refine am_y (by first | exact want_none | exact want_yes rfl rfl (by assumption) | exact want_yes rfl rfl (by with_reducible rfl)) (y_buildA rfl (by repeat (first | exact PartsV.nil _ | (apply PartsV.cons; constructor; rfl))) (by rfl) (by rfl)) (lt_ok rfl) ?_ | refine am_y (by first | exact want_none | exact want_yes rfl rfl (by assumption) | exact want_yes rfl rfl (by with_reducible rfl)) (y_buildV rfl (by repeat (first | exact PartsV.nil _ | (apply PartsV.cons; constructor; rfl))) (by rfl)) (lt_ok rfl) ?_) | (refine am_split rfl rfl (fun hb => ?_) (fun hb => ?_) <;> ((first | have hq := of_decide_eq_true hb | have hq := of_decide_eq_false hb | have hq := of_decide_eq_false (not_t hb) | have hq := of_decide_eq_true (not_f hb) | skip); (try (exfalso; omega)))))
  repeat' (first | apply aw_seq | apply aw_region | apply al_nil | apply aq_np | apply aq_then | apply aq_then_x | apply aq_then_r | apply aw_skip | apply aw_exit | apply aw_ret | (apply at_op (.move _); refine al_y (y_moveC (by constructor)) (lt_ok rfl) ?_) | (apply at_op (.assign _); refine al_y (y_assignC (by constructor)) (lt_ok rfl) ?_) | (apply at_op (.load _ _); first | refine al_y (y_load1 rfl rfl rfl) (lt_ok rfl) ?_ | refine al_y (y_loadA rfl rfl (take_all rfl rfl) rfl) (lt_ok rfl) ?_ | refine al_y (y_loadA rfl rfl rfl rfl) (lt_ok rfl) ?_ | refine al_y (y_bload1 rfl rfl rfl rfl) (lt_ok rfl) ?_ | refine al_y (y_bloadA rfl rfl rfl (by first | (simp only [normV, normList, normMap]; rfl) | rfl) rfl) (lt_ok rfl) ?_ | refine al_y (y_glob hE (by unfold laidG; first | exact List.Mem.head _ | exact .tail _ (.head _) | exact .tail _ (.tail _ (.head _))) rfl rfl) (lt_ok rfl) ?_) | (apply at_op (.fieldAddr _ _ _); first | refine al_y (y_fbox rfl rfl rfl) (lt_ok rfl) ?_ | refine al_y (y_faddr rfl rfl rfl) (lt_ok rfl) ?_) | (apply at_op (.nilCheck _); first | refine al_y (y_nilbox rfl) (lt_ok rfl) ?_ | refine al_y (y_nilep rfl) (lt_ok rfl) ?_) | (apply at_op (.box _ _); refine al_step (st_box (ev_d rfl) nofun (by first | (simp only [normV, normList, normMap]; rfl) | rfl) (lt_ok rfl) rfl rfl) rfl ?_) | (apply at_op (.build _ _); first | refine al_y (y_build rfl (by repeat (first | exact PartsD.nil | (apply PartsD.cons; first | exact ToD.d _ | exact ToD.row _ _ _ _ _ rfl))) (by first | (simp only [dfill, normV, normList, normMap]; rfl) | (simp [dfill, putD, cellsD, zerosD, Value.cells]; rfl))) (lt_ok rfl) ?_ | refine al_y (y_buildA rfl (by repeat (first | exact PartsV.nil _ | (apply PartsV.cons; constructor; rfl))) (by rfl) (by rfl)) (lt_ok rfl) ?_ | refine al_y (y_buildV rfl (by repeat (first | exact PartsV.nil _ | (apply PartsV.cons; constructor; rfl))) (by rfl)) (lt_ok rfl) ?_))
  refine oret1 (ring 14 12 7 k1 L ++ ring 1000 1001 1002 k L) (by rfl) (by first | exact ResV.x _ _ (ResX.tmp _ _ (by first | exact ToD.d _ | exact ToD.row _ _ _ _ _ rfl | exact ToD.nil _)) | exact ResV.tmp _ _ rfl | exact ResV.x _ _ (ResX.cellA _ _ _ _ _ _ _ rfl rfl rfl (by first | (simp only [normV, normList, normMap]; rfl) | rfl) rfl)) (⟨k1, rfl, rfl⟩) (by (repeat (first | exact obs_nil | (apply obs_cons; focus (first | rfl | (simp [find]; done)))))) (by rfl)
end Go.Proofs.Ytappligfampdjaa
