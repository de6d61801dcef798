/-
  Rows that may be changed, handed to a function as boxes; entries of maps that are set in two steps; over abstract states. Conditions: none.
-/
import Derived.Test.YtfgibalcdjlnhaaDoorMai
namespace Go.Proofs.YtfgibalcdjlnhaaDoor
open Go.RowKit Go.ChangeMaps

theorem hasL_app (i : Nat) : ∀ (a b : List V), V.hasL i (a ++ b) = (V.hasL i a || V.hasL i b)
  | [], b => rfl
  | x :: a, b => by simp [V.hasL, hasL_app i a b, Bool.or_assoc]
theorem hasL_und (i : Nat) : ∀ m : Nat, V.hasL i (List.replicate m .und) = false
  | 0 => rfl
  | m + 1 => by simp [List.replicate_succ, V.hasL, V.has, hasL_und i m]
theorem hasL_ds (i : Nat) : ∀ l : List D, V.hasL i (l.map V.d) = false
  | [] => rfl
  | x :: l => by simp [V.hasL, V.has, hasL_ds i l]
theorem withinL_app (ks : List Nat) : ∀ (a b : List V), V.withinL ks (a ++ b) = (V.withinL ks a && V.withinL ks b)
  | [], b => rfl
  | x :: a, b => by simp [V.withinL, withinL_app ks a b, Bool.and_assoc]
theorem withinL_und (ks : List Nat) : ∀ m : Nat, V.withinL ks (List.replicate m .und) = true
  | 0 => rfl
  | m + 1 => by simp [List.replicate_succ, V.withinL, V.within, withinL_und ks m]
theorem withinL_ds (ks : List Nat) : ∀ l : List D, V.withinL ks (l.map V.d) = true
  | [] => rfl
  | x :: l => by simp [V.withinL, V.within, withinL_ds ks l]
theorem renL_app (r : List (Nat × Nat)) : ∀ (a b : List V), V.renL r (a ++ b) = V.renL r a ++ V.renL r b
  | [], b => rfl
  | x :: a, b => by simp [V.renL, renL_app r a b]
theorem renL_und (r : List (Nat × Nat)) : ∀ m : Nat, V.renL r (List.replicate m .und) = List.replicate m .und
  | 0 => rfl
  | m + 1 => by simp [List.replicate_succ, V.renL, V.ren, renL_und r m]
theorem renL_ds (r : List (Nat × Nat)) : ∀ l : List D, V.renL r (l.map V.d) = l.map V.d
  | [] => rfl
  | x :: l => by simp [V.renL, V.ren, renL_ds r l]
theorem lent_eq {ob ob' : Objs} {β β' : Nat → Value} (h : ∀ i o, find ob i = some o → ∃ o', find ob' i = some o' ∧ blk (β' i) = blk (β i)) {g : Nat} (hg : Lent ob β g) : Lent ob' β' g := by
  obtain ⟨i, o, h1, h2⟩ := hg
  obtain ⟨o', h3, h4⟩ := h i o h1
  exact ⟨i, o', h3, by rw [h4]; exact h2⟩
/-- A function that is proved over a box is right for a row that may be changed. -/
theorem ObC.view {f : FuncId} {rest : List V} {ob1 : Objs} {r e s k : Nat} {L : List (List D)} {P : List (List D) → Prop} (hL : L ≠ []) (hr : find ob1 r = none) (hrest : V.hasL r rest = false) (hob : ∀ i o, find ob1 i = some o → o.has r = false)
    (h : ∀ m, ObC f (.sl r 0 L.length :: rest) ((r, .box e (L.flatten.map V.d ++ List.replicate m .und)) :: ob1) [] (fun x o => ∃ L' Z, P L' ∧ (∀ x ∈ L', x.length = s) ∧ (L.flatten.map V.d ++ List.replicate m V.und).length = (L'.flatten.map V.d ++ Z).length ∧ x = .sl r 0 L'.length ∧ o = (r, .box e (L'.flatten.map V.d ++ Z)) :: ob1)) :
    ObC f (.row r k :: rest) ((r, .vec e s k L) :: ob1) [] (fun x o => ∃ L', P L' ∧ x = .row r (k + 1) ∧ o = (r, .vec e s (k + 1) L') :: ob1) := by
  refine ⟨(h 0).1, fun w Pr vs β κ hp hE hl hv ho hap => ?_⟩
  obtain ⟨hκ, xs, hown, hls, hd, hnp⟩ := ho r _ (find_eq _ _ _)
  have hos := own_slice hown
  have hbb := own_blk hown
  have hln : L.length ≠ 0 := fun e => hL (List.eq_nil_of_length_eq_zero e)
  have hx1 := hown.1
  rcases hown.2 with ⟨_, h0⟩ | ⟨g, cap, cur, hvv, _, hh, hnc, hcm, hcs, htk⟩
  · exact absurd h0 hln
  have hfl := flat_len hls
  have hle : L.length * s ≤ cap * s := Nat.mul_le_mul_right _ hnc
  have hg : (β r).ownBlock = some g := by rw [hvv]; rfl
  have hgb : blk (β r) = some g := by rw [hbb, hg]
  obtain ⟨m, hm⟩ : ∃ m, m = cap * s - L.flatten.length := ⟨_, rfl⟩
  obtain ⟨β1, hβ1⟩ : ∃ β1, β1 = updV β r (.pointer (some ⟨g, 0, none⟩)) := ⟨_, rfl⟩
  obtain ⟨κ1, hκ1⟩ : ∃ κ1, κ1 = updN κ r cap := ⟨_, rfl⟩
  have e1 : β1 r = .pointer (some ⟨g, 0, none⟩) := by rw [hβ1, updV_same]
  have e2 : κ1 r = cap := by rw [hκ1, updN_same]
  have e3 : ∀ j, j ≠ r → β1 j = β j := fun j hj => by rw [hβ1, updV_other _ _ _ j hj]
  have e4 : ∀ j, j ≠ r → κ1 j = κ j := fun j hj => by rw [hκ1, updN_other _ _ _ j hj]
  have hml : (L.flatten.map V.d).length = L.flatten.length := List.length_map _
  have hbl : ∀ i, blk (β1 i) = blk (β i) := fun i => by
    by_cases hi : i = r
    · rw [hi, e1, hgb]; rfl
    · rw [e3 i hi]
  have key1 : ∀ i o, find ((r, O.box e (L.flatten.map V.d ++ List.replicate m .und)) :: ob1) i = some o → ∃ o', find ((r, O.vec e s k L) :: ob1) i = some o' := fun i o hi => by
    by_cases hir : i = r
    · exact ⟨_, by rw [hir]; exact find_eq _ _ _⟩
    · exact ⟨o, by rw [find_ne hir] at hi ⊢; exact hi⟩
  have key2 : ∀ i o, find ((r, O.vec e s k L) :: ob1) i = some o → ∃ o', find ((r, O.box e (L.flatten.map V.d ++ List.replicate m .und)) :: ob1) i = some o' := fun i o hi => by
    by_cases hir : i = r
    · exact ⟨_, by rw [hir]; exact find_eq _ _ _⟩
    · exact ⟨o, by rw [find_ne hir] at hi ⊢; exact hi⟩
  have hcall := (h m).2 w Pr vs β1 κ1 hp hE hl (fun i v x h1 h2 => ?_) (fun i o hi => ?_) (fun i j oi oj gg h1 h2 h3 h4 => ?_)
  rotate_left
  · cases i with
    | zero =>
      simp only [List.getElem?_cons_zero, Option.some.injEq] at h2
      subst h2
      have := (hv 0 v (.row r k) h1 rfl).row_inv hκ.symm
      rw [this, hvv]
      exact .sl r 0 L.length cap g e1 hnc hcm (fun _ _ => e2.symm)
    | succ i =>
      simp only [List.getElem?_cons_succ] at h2
      exact (hv (i + 1) v x h1 (by simpa using h2)).other (hasL_mem hrest h2) e3 e4
  · rcases keyCase hi with ⟨rfl, rfl⟩ | ⟨hir, hi⟩
    · refine ⟨g, cur.toList, e1, Nat.zero_le _, by rw [Array.toArray_toList]; exact hh, by rw [List.length_append, hml, List.length_replicate, Array.length_toList]; omega, fun t v x h1 h2 => ?_, hnp g hg⟩
      by_cases ht : t < L.flatten.length
      · rw [List.getElem?_append_left (by rw [hml]; exact ht), List.getElem?_map, Option.map_eq_some_iff] at h2
        obtain ⟨z, hz, rfl⟩ := h2
        obtain ⟨p, jj, y, h3, h4, h5⟩ := flat_get hls hz
        obtain ⟨u, hu, hru⟩ := hd p jj y z h4 h5
        rw [← htk, ← h3, List.getElem?_take, if_pos (by omega)] at hu
        rw [h1] at hu
        cases hu
        exact .d _ _ hru
      · rw [List.getElem?_append_right (by rw [hml]; omega)] at h2
        have := List.eq_of_mem_replicate (List.mem_of_getElem? h2)
        subst this
        exact .und _
    · exact (ho i o (by rw [find_ne hir]; exact hi)).other (hob i o hi) hir e3 e4
  · obtain ⟨o1, k1⟩ := key1 i oi h1
    obtain ⟨o2, k2⟩ := key1 j oj h2
    exact hap i j o1 o2 gg k1 k2 (by rw [← hbl]; exact h3) (by rw [← hbl]; exact h4)
  refine hcall.mono ?_
  rintro e' w' ⟨v, x, ob', Pr', β', κ', he, ⟨L', Z, hP, hs', hlen, rfl, rfl⟩, hA⟩
  obtain ⟨q1, q2⟩ : β' r = β1 r ∧ κ' r = κ1 r := by
    rcases hA.keeps r _ (find_eq _ _ _) with h1 | ⟨_, A, n, c, h1⟩
    · exact h1
    · rw [e1] at h1; cases h1
  obtain ⟨g', cs, p1, p2, p3, p4, p5, p6⟩ := hA.objs r _ (find_eq _ _ _)
  have hg' : g' = g := by
    rw [q1, e1] at p1
    simp only [Value.pointer.injEq, Option.some.injEq, Addr.mk.injEq, and_true] at p1
    exact p1.symm
  subst hg'
  have hval := hA.val
  obtain ⟨c, hvc, hnc', hcm', hcc⟩ : ∃ c, v = .slice (some ⟨g', 0, none⟩) L'.length c ∧ L'.length ≤ c ∧ c ≤ maxLen ∧ c = cap := by
    cases hval with
    | sl _ _ _ c gg hb2 hc hm2 hz =>
      rw [p1] at hb2
      simp only [Value.pointer.injEq, Option.some.injEq, Addr.mk.injEq, and_true] at hb2
      subst hb2
      exact ⟨c, rfl, hc, hm2, (hz (by rw [q2, e2]; omega) rfl).trans (q2.trans e2)⟩
  subst hcc
  subst hvc
  have f1 := updV_same β' r (.slice (some ⟨g', 0, none⟩) L'.length c)
  have f2 := updN_same κ' r (k + 1)
  have f3 := updV_other β' r (.slice (some ⟨g', 0, none⟩) L'.length c)
  have f4 := updN_other κ' r (k + 1)
  have hbl' : ∀ i, blk (updV β' r (.slice (some ⟨g', 0, none⟩) L'.length c) i) = blk (β' i) := fun i => by
    by_cases hi : i = r
    · rw [hi, f1, p1]; rfl
    · rw [f3 i hi]
  have hlentO : ∀ g, Lent ((r, O.box e (L.flatten.map V.d ++ List.replicate m .und)) :: ob1) β1 g → Lent ((r, O.vec e s k L) :: ob1) β g := fun g hg => lent_eq (fun i o hi => by
    obtain ⟨o', ho'⟩ := key1 i o hi
    exact ⟨o', ho', (hbl i).symm⟩) hg
  have hlentI : ∀ g, Lent ((r, O.vec e s k L) :: ob1) β g → Lent ((r, O.box e (L.flatten.map V.d ++ List.replicate m .und)) :: ob1) β1 g := fun g hg => lent_eq (fun i o hi => by
    obtain ⟨o', ho'⟩ := key2 i o hi
    exact ⟨o', ho', hbl i⟩) hg
  have hkey : ∀ i o, find ((r, O.vec e s (k + 1) L') :: ob1) i = some o → ∃ o', find ((r, O.box e (L'.flatten.map V.d ++ Z)) :: ob1) i = some o' := fun i o hi => by
    by_cases hir : i = r
    · exact ⟨_, by rw [hir]; exact find_eq _ _ _⟩
    · exact ⟨o, by rw [find_ne hir] at hi ⊢; exact hi⟩
  have hfl' := flat_len hs'
  have hle' : L'.length * s ≤ c * s := Nat.mul_le_mul_right _ hnc'
  have hks : ∀ (o2 : O) (o3 : O), keys ((r, o2) :: ob1) = keys ((r, o3) :: ob1) := fun _ _ => rfl
  refine ⟨_, .row r (k + 1), (r, .vec e s (k + 1) L') :: ob1, Pr', updV β' r (.slice (some ⟨g', 0, none⟩) L'.length c), updN κ' r (k + 1), he, ⟨L', hP, rfl, rfl⟩, ?_⟩
  refine ⟨⟨hA.under.os, hA.under.tape, hA.under.output, hA.under.size, fun j hj hn => hA.under.block j hj (fun h => hn (hlentO j h))⟩, hA.st, hA.pr0, fun b o hb => (hA.prn b o hb).imp id (fun h => h.imp id (hlentO b)), hA.prl, ?_, fun i o hi => ?_, fun i j oi oj gg h1 h2 h3 h4 => ?_, fun i o gg h1 h2 => ?_, fun i o hi => ?_, ?_, fun i o hi => ?_⟩
  · exact .row r (k + 1) _ ⟨_, _, _, rfl⟩ (by rw [f2]; exact Nat.le_refl _) (fun _ => f1.symm)
  · rcases keyCase hi with ⟨rfl, rfl⟩ | ⟨hir, hi⟩
    · refine ⟨f2, cs.take (L'.length * s), ?_, hs', fun p j x z h1 h2 => ?_, fun gg hgg o => ?_⟩
      · rw [f1]
        rw [List.length_append, List.length_append, List.length_replicate] at hlen
        have hcl : cs.length = c * s := by rw [p4, List.length_append]; omega
        exact ⟨by simp; omega, .inr ⟨g', c, cs.toArray, rfl, Nat.zero_le _, p3, hnc', hcm', by simp; omega, by simp⟩⟩
      · have h3 := flat_put hs' h1 h2
        have hlt := (List.getElem?_eq_some_iff.1 h3).1
        have hcl : p * s + j < cs.length := by rw [p4, List.length_append, List.length_map]; omega
        have h4 := p5 (p * s + j) cs[p * s + j] (.d z) (List.getElem?_eq_getElem hcl) (by
          rw [List.getElem?_append_left (by rw [List.length_map]; exact hlt), List.getElem?_map, h3]
          rfl)
        exact ⟨cs[p * s + j], by rw [List.getElem?_take, if_pos (by omega)]; exact List.getElem?_eq_getElem hcl, h4.d_inv⟩
      · rw [f1] at hgg
        simp only [Value.ownBlock, Option.some.injEq] at hgg
        subst hgg
        exact p6 o
    · exact (hA.objs i o (by rw [find_ne hir]; exact hi)).other (hob i o hi) hir f3 f4
  · obtain ⟨o1, k1⟩ := hkey i oi h1
    obtain ⟨o2, k2⟩ := hkey j oj h2
    exact hA.apart i j o1 o2 gg k1 k2 (by rw [← hbl']; exact h3) (by rw [← hbl']; exact h4)
  · obtain ⟨o1, k1⟩ := hkey i o h1
    exact (hA.own i o1 gg k1 (by rw [← hbl']; exact h2)).imp (hlentO gg) id
  · by_cases hir : i = r
    · subst hir
      exact .inr ⟨by rw [f2, hκ]; omega, hos⟩
    · rw [f3 i hir, f4 i hir]
      have h5 := hA.keeps i o (by rw [find_ne hir] at hi ⊢; exact hi)
      rw [e3 i hir, e4 i hir] at h5
      exact h5
  · show mem _ r = true
    exact mem_iff.2 (by simp [keys])
  · rcases keyCase hi with ⟨rfl, rfl⟩ | ⟨hir, hi⟩
    · exact ⟨by simp [keys], rfl⟩
    · exact hA.wo i o (by rw [find_ne hir]; exact hi)
section
variable {E : Entry} {sl : Slots} {ob : Objs} {a : Act} {w : World} {Pr : Prot} {β : Nat → Value} {κ : Nat → Nat}
variable {d : Nat} {dd : Option Nat} {t T ty kt et : TypeId} {p : String} {af : Array Edge} {g : Option (Nat × Bool)} {x y c : Operand} {z : D} {zv : Value}
set_option maxRecDepth 20000 in
/-- an entry for a key that had none: what it leaves -/
theorem mapent_now (h : Good E sl ob a w Pr β κ) (M : MapT t kt et z zv) {i clock : Nat} {l : List ME} {k : Value} (hx : ev sl x = .mp i) (hf : find ob i = some (.map t clock l)) (hy : keyV (ev sl y) = some k) (hk : KeyOk t k) (hn : ∀ q ∈ l, q.2.1 ≠ k) :
    ∃ b q, (execOp a.eval ⟨some d, .mapEntry t x y, T, p, af, g⟩).run Tryd.prog w = .ok (.value (.tuple #[zv, goInt clock])) (setBlock w b q) ∧ blk (β i) = some b ∧ (∀ o, ¬ Pr b o) ∧ (∃ q0, w.heap[b]? = some q0) ∧ Good E sl ((i, .map t (clock + 1) (l ++ [(clock, k, z)])) :: ob) a (setBlock w b q) Pr β κ := by
  obtain ⟨gm, es, hav, hb, hh, hes, hok, hrv, hno, _⟩ := map_at h hx hf
  have hkv : a.eval y = k := keyV_rep (good_ev h y) hy
  obtain ⟨lit, hlit⟩ := hk.lit M
  have hbb : blk (β i) = some gm := by rw [hb]; rfl
  have hok' := hok.put hk (.new (d := z) hn)
  refine ⟨gm, .map (es ++ [({ key := k, val := zv, born := clock } : MapEntry)]).toArray (clock + 1), ?_, hbb, hno, ⟨_, hh⟩, ?_⟩
  · simp only [execOp, hav, hkv, Instr.mapEntry]
    simp [run_underlying M.u, MapKept.run_getObj_map hh, M.K.check w false hlit, map_miss hes hok M hk hn w, M.zero w, MapKept.run_setObj_map _ hh, Result.andThen, setBlock]
  · refine h.setblk hf hbb hno hh (fun _ hkeep => ⟨gm, _, hb, Nat.zero_le _, (MapKept.heap_set hh).1, ⟨?_, hok'⟩, fun j' x q h4 h5 => hkeep _ _ ?_, hno⟩)
    · show Ents _ _
      unfold Ents
      rw [List.map_append, List.map_append, hes]
      rfl
    · rw [List.getElem?_append] at h4 h5
      rw [← hes.len] at h5
      split at h4
      · rename_i hjj
        rw [if_pos hjj] at h5
        exact hrv j' x q h4 h5
      · rename_i hjj
        rw [if_neg hjj] at h5
        generalize j' - es.length = m at h4 h5
        cases m with
        | zero => simp at h4 h5; subst h4 h5; exact M.zr w Pr
        | succ m => simp at h4
set_option maxRecDepth 20000 in
/-- an entry's element is set -/
theorem st_entry (M : MapT t kt et z zv) {i clock j n : Nat} {l : List ME} {k : Value} {d0 dv : D} (hx : ev sl x = .mp i) (hf : find ob i = some (.map t clock l)) (hj : l[j]? = some (n, k, d0)) (hy : ev sl y = .d (.val (.int .i64 n))) (hc : ToD ob (ev sl c) dv) :
    Step E ⟨none, .entryStore t x y c, T, p, af, g⟩ sl ob sl ((i, .map t clock (l.set j (n, k, dv))) :: ob) := by
  rintro a w ⟨Pr, β, κ, h⟩ K Q hK
  obtain ⟨gm, es, hav, hb, hh, hes, hok, hrv, hno, _⟩ := map_at h hx hf
  have hcv := toD_rep h hc _ (good_ev h c)
  have hyv : a.eval y = .int .i64 n := good_val h hy
  have hbb : blk (β i) = some gm := by rw [hb]; rfl
  have hok' := hok.put (hok.ok _ (List.mem_of_getElem? hj)) (.old (d := dv) j n d0 hj)
  obtain ⟨e, he, h1, h2⟩ := hes.get hj
  have hjl : j < es.length := (List.getElem?_eq_some_iff.1 he).1
  have hborn : (es.map (·.born)).Nodup := by
    have : es.map (·.born) = l.map (·.1) := by
      have := congrArg (List.map Prod.fst) hes
      simpa [Function.comp_def] using this
    rw [this]
    exact hok.nodup
  have hidx : es.findIdx? (fun e => ((e.born : Int) == (n : Int))) = some j := by
    rw [List.findIdx?_eq_some_iff_getElem]
    have hej : es[j] = e := (List.getElem?_eq_some_iff.1 he).2
    refine ⟨hjl, by rw [hej, h1]; simp, fun i hi => ?_⟩
    rw [beq_iff_eq]
    intro hc
    have hil : i < es.length := by omega
    have := nodup_one (f := fun e : MapEntry => e.born) hborn (List.getElem?_eq_getElem hil) he (by rw [h1]; omega)
    omega
  have hmod : es.toArray.modify j (fun e => { e with val := a.eval c }) = (es.set j { e with val := a.eval c }).toArray := by
    apply Array.ext'
    rw [Array.toList_modify]
    simp only [List.toList_toArray]
    refine List.ext_getElem? fun i => ?_
    rw [List.getElem?_modify, List.getElem?_set]
    split
    · rename_i hji
      subst hji
      rw [he]
      simp [hjl]
    · simp
  have hrun : (execOp a.eval ⟨none, .entryStore t x y c, T, p, af, g⟩).run Tryd.prog w = .ok .skip (setBlock w gm (.map (es.set j { e with val := a.eval c }).toArray clock)) := by
    simp only [execOp, hav, hyv, Instr.entryStore]
    simp [MapKept.run_getObj_map hh, asInt, asIntOf, hidx, hmod, MapKept.run_setObj_map _ hh, Result.andThen, setBlock]
  unfold Oper.wp
  rw [hrun, Oper.upon_skip]
  refine hK _ _ ⟨Pr, β, κ, h.setblk hf hbb hno hh (fun _ hkeep => ⟨gm, _, hb, Nat.zero_le _, (MapKept.heap_set hh).1, ⟨?_, hok'⟩, fun j' x q h4 h5 => hkeep _ _ ?_, hno⟩)⟩
  · show Ents _ _
    unfold Ents
    rw [nodup_set (f := fun x : MapEntry => (x.born, x.key)) he (by simp), nodup_set (f := fun q : ME => (q.1, q.2.1)) (r := (n, k, dv)) hj rfl]
    exact hes
  · by_cases hjj : j = j'
    · subst hjj
      rw [List.getElem?_set_self hjl] at h4
      rw [List.getElem?_set_self (by rw [← hes.len]; exact hjl)] at h5
      cases h4
      cases h5
      exact hcv
    · rw [List.getElem?_set_ne hjj] at h4 h5
      exact hrv j' x q h4 h5
end
section
variable {E : Entry} {ops : List Oper} {Q : Exit → Act → World → Prop} {sl sl0 : Slots} {ob ob0 : Objs} {pl : List (Nat × Bool × Oper)} {n : Nat} {tail : (World → Prop) → Act → World → Prop} {g : Option (Nat × Bool)} {p : String} {af : Array Edge} {ty t T kt et : TypeId} {d : Nat} {x y : Operand} {z : D} {zv : Value}
set_option maxRecDepth 20000 in
/-- an entry for a key that had none, of a map that does not stand -/
theorem am_mapent (M : MapT t kt et z zv) {i clock : Nat} {l : List ME} {k : Value} (hw : Want ops sl true g) (hx : ev sl x = .mp i) (hf : find ob i = some (.map t clock l)) (hk0 : find ob0 i = none) (hy : keyV (ev sl y) = some k) (hk : KeyOk t k) (hn : ∀ q ∈ l, q.2.1 ≠ k) (hd : d < E.n)
    (hK : AM E ops tail Q pl ((d, flat (.tup [z, .int clock])) :: sl0) ob0 ((d, .d (.tup [z, .int clock])) :: sl) ((i, .map t (clock + 1) (l ++ [(clock, k, z)])) :: ob)) :
    AM E ops tail Q ((n, false, ⟨some d, .mapEntry t x y, T, p, af, g⟩) :: pl) sl0 ob0 sl ob := by
  refine ⟨fun a w0 w Pr Pr1 β β1 κ κ1 h0 h hnw => ?_⟩
  refine mix_move (hw.is h) (fun K hKK => ?_)
  obtain ⟨b, q, hrun, hb, hno, ⟨q0, hq0⟩, hG⟩ := mapent_now (d := d) (T := T) (p := p) (af := af) (g := g) h M hx hf hy hk hn
  unfold Oper.wp
  rw [hrun, Oper.upon_value]
  have hother : ∀ b', b' ≠ b → (setBlock w b q).heap[b']? = w.heap[b']? := fun b' hne => (MapKept.heap_set hq0).2 b' hne
  have hne : ∀ j o, find ob0 j = some o → j ≠ i := fun j o hj e => by rw [e, hk0] at hj; cases hj
  have hkept : Kept Pr β ob0 w0 (setBlock w b q) := hnw.kept.trans (Pr1 := Pr1) ⟨fun b' r hr => World.cell?_of_block (a := ⟨b', r, none⟩) (hother b' (by rintro rfl; exact hno r hr)), fun j o gg h2 h3 => hother gg (by
      rintro rfl
      have h4 := hnw.sub j o h2
      exact hne j o h2 (h.apart j i o _ _ h4.1 hf (by rw [h4.2]; exact h3) hb)), by simp [setBlock]⟩ hnw.pr
  have hrep : ∀ w' Pr', RepD w' Pr' (.tuple #[zv, goInt clock]) (.tup [z, .int clock]) := fun w' Pr' => pair_rep (M.zr w' Pr') (.val _)
  refine hKK.out _ _ hkept fun _ => ?_
  refine hK.run _ w0 _ Pr Pr1 _ _ _ _ (h0.put hd ?_) (hG.put hd (.d _ _ (hrep _ _))) ⟨hkept, hnw.pr, hnw.then_, fun j o hj => by rw [find_ne (hne j o hj)]; exact hnw.sub j o hj⟩
  exact rep_flat (hrep w Pr1)
end
end Go.Proofs.YtfgibalcdjlnhaaDoor
