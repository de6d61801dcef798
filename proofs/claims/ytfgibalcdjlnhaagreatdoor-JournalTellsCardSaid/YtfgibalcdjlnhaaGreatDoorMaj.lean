/-
  Rows that may be changed: appended to, copied, handed to a call as boxes; over abstract states. Conditions: none.
  Rows that may be changed, handed to a function as boxes; entries of maps that are set in two steps; over abstract states. Conditions: none.
-/
import Derived.Test.YtfgibalcdjlnhaaGreatDoorMai
section
namespace Go.Proofs.YtfgibalcdjlnhaaGreatDoor
open Go.RowKit

section
variable {E : Entry} {sl : Slots} {ob : Objs} {a : Act} {w : World} {Pr : Prot} {β : Nat → Value} {κ : Nat → Nat}
variable {d : Nat} {dd : Option Nat} {t T ty : TypeId} {p : String} {af : Array Edge} {g : Option (Nat × Bool)} {x y c : Operand} {m : Int}
/-- append onto a row: what it leaves -/
theorem run_app0 {v0 : Value} {e es eb : Nat} {ez : Value} {n0 : Nat} {l2 : List (List D)} {xs : List Value} (hown : w.ownsRow 0 e es v0 n0 xs) {v : Value} (hy : RepD w Pr v (.list es l2)) (hT : ti t = .sl e es eb ez)
    (h1 : ∀ q ∈ l2, ∀ z ∈ q, D.one z = true) (hes : 0 < es) (hb : (n0 + l2.length) * eb ≤ 140737488355328) (hm : n0 + l2.length ≤ 140737488355328) :
    ∃ v' w' news, (Builtin.append_ #[t, t] T #[v0, v]).run Tryz.prog w = .ok v' w' ∧ App w v0 e es n0 xs l2 Pr v' w' news := by
  obtain ⟨_, ie, _, hu, _, hj, hz, hs, hby, hzs⟩ := ti_sl hT
  have hbase : 0 ≤ w.heap.size := Nat.zero_le _
  cases hy with
  | nil A c _ hmm =>
    have hrun : (Builtin.append_ #[t, t] T #[v0, .slice A 0 c]).run Tryz.prog w = .ok v0 w := by
      have hfc : ∀ A, (Builtin.firstCells es 0 (.slice A 0 c)).run Tryz.prog w = .ok #[] w := by
        intro A
        cases A <;> simp [Builtin.firstCells, loadCells, loadCellsFrom]
      rcases hown.2 with ⟨hv, _⟩ | ⟨g, cap, cur, hv, _, _, hnc, _⟩
      · rw [hv]
        simp [Builtin.append_, run_underlying hu, sizeOf, typeInfo, hj, hs, Builtin.lenOf, hfc]
      · rw [hv]
        simp [Builtin.append_, run_underlying hu, sizeOf, typeInfo, hj, hs, Builtin.lenOf, hfc, hnc, storeCells]
    exact ⟨v0, w, [], hrun, by simpa using hown, ⟨rfl, rfl, rfl, Nat.le_refl _, fun _ _ _ => rfl⟩, fun _ _ h => h, fun _ _ _ _ => rfl, by simp, by simp, fun p j q z h2 => by simp at h2⟩
  | list b o n c _ _ u hn hss hc hmm hr hd =>
    subst hn
    let news : List Value := (List.range (l2.length * es)).map fun q => u (q / es) (q % es)
    have hnl : news.length = l2.length * es := by simp [news]
    have hat : ∀ q, q < l2.length * es → ∃ e' z, l2[q / es]? = some e' ∧ e'[q % es]? = some z ∧ q / es * es + q % es = q := by
      intro q hq
      have h3 : q / es < l2.length := by rw [Nat.div_lt_iff_lt_mul hes]; exact hq
      have h4 : q % es < es := Nat.mod_lt _ hes
      have h5 := hss _ (List.getElem_mem h3)
      exact ⟨l2[q / es], _, List.getElem?_eq_getElem h3, List.getElem?_eq_getElem (by omega), by rw [Nat.mul_comm]; exact Nat.div_add_mod q es⟩
    have hget : ∀ (q : Nat) (v : Value), news[q]? = some v → q < l2.length * es ∧ v = u (q / es) (q % es) := by
      intro q v hq
      have hql : q < l2.length * es := by have := (List.getElem?_eq_some_iff.1 hq).1; omega
      simp [news, hql] at hq
      exact ⟨hql, hq.symm⟩
    have hcell : ∀ q v, news[q]? = some v → w.cell? ((⟨b, o, none⟩ : Addr).add q) = some v := by
      intro q v hq
      obtain ⟨hql, rfl⟩ := hget q v hq
      obtain ⟨e', z, h3, h4, h5⟩ := hat q hql
      have := (hr _ _ e' z h3 h4).1
      rw [Addr.add_lit, ← this, Nat.add_assoc, h5]
    have hone : ∀ v ∈ news, v.oneCell' = true := by
      intro v hv
      obtain ⟨q, hq, rfl⟩ := List.getElem_of_mem hv
      obtain ⟨hql, he⟩ := hget q _ (List.getElem?_eq_getElem hq)
      obtain ⟨e', z, h3, h4, h5⟩ := hat q hql
      rw [he]
      exact one_cellD (hd _ _ e' z h3 h4) (h1 e' (List.mem_of_getElem? h3) z (List.mem_of_getElem? h4))
    obtain ⟨v', w', hrun, h2, h3, _⟩ := run_append_own (P := Tryz.prog) w 0 t T e ie ez es eb hu hj hz hs hby hzs hes v0 n0 xs hown ⟨b, o, none⟩ l2.length c news hnl hcell hone (by unfold maxLen; omega) hb hbase
    have hoff := append_off (P := Tryz.prog) w 0 t T e ie ez es eb hu hj hz hs hby v0 n0 xs hown ⟨b, o, none⟩ l2.length c news hnl hes hcell hone (by unfold maxLen; omega) hb hrun
    refine ⟨v', w', news, hrun, h2, h3, hoff, fun g hg j hjl => ?_, hnl, hss, fun p j q z h4 h5 => ?_⟩
    · rcases hown.2 with ⟨hv, _⟩ | ⟨g', cap, cur, hv, _⟩
      · rw [hv] at hg; simp [Value.ownBlock] at hg
      · rw [hv] at hg hown hrun
        simp only [Value.ownBlock, Option.some.injEq] at hg
        subst hg
        exact append_keeps (P := Tryz.prog) w 0 t T e ie ez es eb hu hj hz hs hby g' n0 cap xs hown ⟨b, o, none⟩ l2.length c news hnl hcell hone (by unfold maxLen; omega) hb hrun h2 j hjl
    · have hp : p < l2.length := (List.getElem?_eq_some_iff.1 h4).1
      have hjs : j < es := by have := (List.getElem?_eq_some_iff.1 h5).1; rw [hss q (List.mem_of_getElem? h4)] at this; exact this
      have hlt : p * es + j < l2.length * es := Nat.lt_of_lt_of_le (by omega : p * es + j < p * es + es) (by rw [← Nat.succ_mul]; exact Nat.mul_le_mul_right _ hp)
      have e1 : (p * es + j) / es = p := by rw [Nat.add_comm, Nat.add_mul_div_right _ _ hes, Nat.div_eq_of_lt hjs, Nat.zero_add]
      have e2 : (p * es + j) % es = j := by rw [Nat.add_comm, Nat.add_mul_mod_self_right, Nat.mod_eq_of_lt hjs]
      refine ⟨u p j, ?_, hd p j q z h4 h5⟩
      simp [news, hlt, e1, e2]
/-- only exact values -/
def valsOnly (l : List (List D)) : Prop := ∀ q ∈ l, ∀ z ∈ q, ∃ v, z = D.val v
theorem App.val {v0 v' : Value} {e es n0 : Nat} {l2 : List (List D)} {xs news : List Value} {w' : World} {Pr' : Prot} (h : App w v0 e es n0 xs l2 Pr v' w' news) (hv : valsOnly l2) : App w v0 e es n0 xs l2 Pr' v' w' news := by
  refine ⟨h.own, h.grow, h.off, h.keep, h.len, h.len2, fun p j q z h1 h2 => ?_⟩
  obtain ⟨u, hu, hr⟩ := h.rep p j q z h1 h2
  obtain ⟨v, rfl⟩ := hv q (List.mem_of_getElem? h1) z (List.mem_of_getElem? h2)
  cases hr
  exact ⟨_, hu, .val _⟩
/-- what a row shows that may be changed -/
theorem vec_rep (h : Good E sl ob a w Pr β κ) {i e s k : Nat} {l : List (List D)} (ho : find ob i = some (.vec e s k l)) : RepD w (fun _ _ => True) (β i) (.list s l) := by
  obtain ⟨_, xs, hown, hls, hd, _⟩ := h.objs i _ ho
  rcases hown.2 with ⟨h0, hl⟩ | ⟨g, cap, cur, h0, hB, hg, hc, hm, hsz, htk⟩
  · obtain rfl : l = [] := List.eq_nil_of_length_eq_zero hl
    rw [h0]
    exact .nil _ _ _ (Nat.zero_le _)
  · rw [h0] at hown ⊢
    have hat : ∀ (p j : Nat) (x : List D) (d : D), l[p]? = some x → x[j]? = some d → ∃ u, w.cell? ⟨g, 0 + p * s + j, none⟩ = some u ∧ RepD w Pr u d ∧ xs.getD (p * s + j) undef = u := by
      intro p j x d h1 h2
      obtain ⟨u, hu, hr⟩ := hd p j x d h1 h2
      have hp := (List.getElem?_eq_some_iff.1 h1).1
      have hj : j < s := by rw [← hls x (List.mem_of_getElem? h1)]; exact (List.getElem?_eq_some_iff.1 h2).1
      have hlt : p * s + j < l.length * s := Nat.lt_of_lt_of_le (by omega : p * s + j < p * s + s) (by rw [← Nat.succ_mul]; exact Nat.mul_le_mul_right _ hp)
      rw [Nat.zero_add]
      exact ⟨u, (hown.cellAt _ hlt).trans hu, hr, by rw [List.getD_eq_getElem?_getD, hu]; rfl⟩
    refine .list g 0 l.length cap s l (fun p j => xs.getD (p * s + j) undef) rfl hls hc hm (fun p j x d h1 h2 => ?_) (fun p j x d h1 h2 => ?_)
    · obtain ⟨u, h3, _, h4⟩ := hat p j x d h1 h2
      rw [h4]
      exact ⟨h3, trivial⟩
    · obtain ⟨u, _, h3, h4⟩ := hat p j x d h1 h2
      rw [h4]
      exact h3.keep (fun _ _ _ => rfl) (fun _ _ _ => trivial)
/-- A row's block has turned: the others stand. -/
theorem Good.grown (h : Good E sl ob a w Pr β κ) {i e es k : Nat} {l : List (List D)} {w' : World} (hf : find ob i = some (.vec e es k l)) (hgr : w.grownBy w' (β i).ownBlock) : Good E sl (dropK [i] ob) a w' Pr β κ ∧ Stays Pr w w' := by
  obtain ⟨hκ, xs, hown, hls, hd, hno⟩ := h.objs i _ hf
  have hbb := own_blk hown
  have hs : Stays Pr w w' := fun b o ho => World.cell?_of_block (a := ⟨b, o, none⟩) (hgr.block b (h.prl b o ho) (fun e => hno b e.symm o ho))
  have hbel : Under (fun g => (β i).ownBlock = some g) w w' := ⟨hgr.os, hgr.tape, hgr.output, hgr.size, fun k hk hn => hgr.block k hk (fun e => hn e.symm)⟩
  refine ⟨⟨h.below.then hbel (fun g hg => h.own i _ g hf (by rw [hbb]; exact hg)), fun b o ho => (hs b o (h.pr0 b o ho)).trans (h.st0 b o ho), h.pr0, h.prn, fun b o ho => Nat.lt_of_lt_of_le (h.prl b o ho) hgr.size, h.size, h.defers, fun j => (h.slots j).keep hs (fun _ _ h => h), fun j oj hj => ?_, fun m j om oj g h1 h2 => h.apart m j om oj g (find_dropK h1).2 (find_dropK h2).2, fun m om g h1 => h.own m om g (find_dropK h1).2, h.keeps, h.fresh⟩, hs⟩
  obtain ⟨h1, h2⟩ := find_dropK hj
  have hji : j ≠ i := fun e => h1 (by simp [e])
  exact (h.objs j oj h2).keep2 hs (fun _ _ h => h) (fun _ _ _ h => h) (fun g hg => hgr.block g ((h.objs j oj h2).blkLt g hg).2 (fun e => hji (h.apart j i oj _ g h2 hf hg (by rw [hbb]; exact e.symm))))
theorem find_drop1 {i : Nat} : ∀ {ob : Objs} {j : Nat} {o : O}, j ≠ i → find ob j = some o → find (dropK [i] ob) j = some o := by
  intro ob
  induction ob with
  | nil => intro j o _ h; exact h
  | cons p ob ih =>
    obtain ⟨k, x⟩ := p
    intro j o hji h
    simp only [dropK]
    cases hm : mem [i] k with
    | true =>
      simp only [cond_true]
      have hk : k = i := by simpa using mem_iff.1 hm
      rw [find_ne (by rw [hk]; exact hji)] at h
      exact ih hji h
    | false =>
      simp only [cond_false]
      by_cases hjk : j = k
      · subst hjk
        rw [find_eq] at h ⊢
        exact h
      · rw [find_ne hjk] at h ⊢
        exact ih hji h
/-- append onto a row that may be changed: the state that it leaves -/
theorem vapp_now (h : Good E sl ob a w Pr β κ) {o : Oper} {i k e es : Nat} {l l2 : List (List D)} (hf : find ob i = some (.vec e es k l)) (hd : d < E.n)
    (hrun : ∀ xs, w.ownsRow 0 e es (β i) l.length xs → ∃ v' w' news, (execOp a.eval o).run Tryz.prog w = .ok (.value v') w' ∧ App w (β i) e es l.length xs l2 Pr v' w' news) :
    ∃ v' w' β' κ', (execOp a.eval o).run Tryz.prog w = .ok (.value v') w' ∧ Good E ((d, .row i (k + 1)) :: sl) ((i, .vec e es (k + 1) (l ++ l2)) :: dropK [i] ob) (a.put (some d) v') w' Pr β' κ' ∧ Stays Pr w w' ∧
      (∀ j, j ≠ i → β' j = β j) ∧ (∀ j, j ≠ i → κ' j = κ j) ∧ κ i < κ' i ∧ (∃ A n c, β i = .slice A n c) ∧ w.grownBy w' (β i).ownBlock := by
  obtain ⟨hκ, xs, hown, hls, hrp, hno⟩ := h.objs i _ hf
  obtain ⟨v', w', news, hrun2, happ⟩ := hrun xs hown
  have hbs := own_slice hown
  have hvs := own_slice happ.own
  have hbb := own_blk hown
  have hvb := own_blk happ.own
  obtain ⟨hG, hs⟩ := h.grown hf happ.grow
  have hxl := hown.1
  have hv := hG.verup (r := i) (k := k) (v' := v') (o' := .vec e es (k + 1) (l ++ l2)) hκ hbs (fun g hg => ?_) (fun j oj g h1 hji h2 h3 => ?_) ⟨updN_same _ _ _, xs ++ news, ?_, ?_, fun q m z u h3 h4 => ?_, fun g hg o ho => ?_⟩
  · refine ⟨v', w', _, _, hrun2, hv.put hd ?_, hs, updV_other _ _ _, updN_other _ _ _, by rw [updN_same, hκ]; omega, hbs, happ.grow⟩
    exact .row i (k + 1) v' hvs (by rw [updN_same]; exact Nat.le_refl _) (fun _ => (updV_same _ _ _).symm)
  · rw [hvb] at hg
    by_cases hbi : (β i).ownBlock = some g
    · exact h.own i _ g hf (by rw [hbb]; exact hbi)
    · refine .inr ?_
      by_cases hlt : g < w.heap.size
      · exact absurd hg (happ.off g hlt hbi)
      · have := h.below.size
        omega
  · rw [hvb] at h3
    have h4 := (find_dropK h1).2
    have hlt := ((h.objs j oj h4).blkLt g h2).2
    exact happ.off g hlt (fun hbi => hji (h.apart j i oj _ g h4 hf h2 (by rw [hbb]; exact hbi))) h3
  · rw [updV_same, List.length_append]
    exact happ.own
  · intro z hz
    rcases List.mem_append.1 hz with hz | hz
    · exact hls z hz
    · exact happ.len2 z hz
  · by_cases hq : q < l.length
    · rw [List.getElem?_append_left hq] at h3
      obtain ⟨u', hu', hr'⟩ := hrp q m z u h3 h4
      have hlt := (List.getElem?_eq_some_iff.1 hu').1
      exact ⟨u', by rw [List.getElem?_append_left hlt]; exact hu', hr'.keep hs (fun _ _ h => h)⟩
    · rw [List.getElem?_append_right (by omega)] at h3
      obtain ⟨u', hu', hr'⟩ := happ.rep (q - l.length) m z u h3 h4
      refine ⟨u', ?_, hr'.keep hs (fun _ _ h => h)⟩
      have e5 : q * es + m = xs.length + ((q - l.length) * es + m) := by
        rw [hxl, ← Nat.add_assoc, ← Nat.add_mul, show l.length + (q - l.length) = q by omega]
      rw [e5, List.getElem?_append_right (by omega), Nat.add_sub_cancel_left]
      exact hu'
  · rw [updV_same] at hg
    by_cases hbi : (β i).ownBlock = some g
    · exact hno g hbi o ho
    · exact happ.off g (h.prl g o ho) hbi hg
set_option maxRecDepth 20000 in
theorem vapp_run (h : Good E sl ob a w Pr β κ) {i k e es eb : Nat} {ez : Value} {l l2 : List (List D)} (hx : ev sl x = .row i k) (hf : find ob i = some (.vec e es k l)) (hy : ∃ Pr', RepD w Pr' (a.eval y) (.list es l2) ∧ (Pr' = Pr ∨ valsOnly l2)) (hT : ti t = .sl e es eb ez)
    (h1 : ∀ q ∈ l2, ∀ z ∈ q, D.one z = true) (hes : 0 < es) (hb : (l.length + l2.length) * eb ≤ 140737488355328) (hm : l.length + l2.length ≤ 140737488355328) : ∀ xs, w.ownsRow 0 e es (β i) l.length xs → ∃ v' w' news, (execOp a.eval ⟨some d, .call { callee := .builtin .append, args := #[x, y], argTypes := #[t, t] }, T, p, af, g⟩).run Tryz.prog w = .ok (.value v') w' ∧ App w (β i) e es l.length xs l2 Pr v' w' news := fun xs hown => by
  obtain ⟨hκ, _⟩ := h.objs i _ hf
  have hxv : a.eval x = β i := by
    have := good_ev h x
    rw [hx] at this
    exact this.row_inv hκ.symm
  obtain ⟨Pr', hyv, hpv⟩ := hy
  obtain ⟨v', w', news, hrun, happ⟩ := run_app0 (T := T) hown hyv hT h1 hes hb hm
  refine ⟨v', w', news, by simp [execOp, resolve, invoke, builtin, hxv, hrun], ?_⟩
  rcases hpv with rfl | hpv
  · exact happ
  · exact happ.val hpv
/-- the length of a row that may be changed -/
theorem y_veclen {i k s e n : Nat} {l : List (List D)} {t0 : TypeId} {A : Array TypeId} (hx : ev sl x = .row i k) (hf : find ob i = some (.vec e s k l)) (hA : A = #[t0]) (hT : ∃ e es eb ez, ti t0 = .sl e es eb ez) (hn : l.length = n) :
    Y E ⟨dd, .call { callee := .builtin .len, args := #[x], argTypes := A }, T, p, af, g⟩ sl ob (.d (.val (.int .i64 n))) := fun a w Pr β κ h => by
  subst hA hn
  obtain ⟨e, es, eb, ez, hT⟩ := hT
  obtain ⟨_, _, _, hu, _⟩ := ti_sl hT
  have hxv : a.eval x = β i := by
    have := good_ev h x
    rw [hx] at this
    exact this.row_inv (h.objs i _ hf).1.symm
  have hrep := vec_rep h hf
  rw [← hxv] at hrep
  obtain ⟨A, c, hv, _⟩ := list_form hrep
  exact ⟨_, .d _ _ (.val _), fun w' _ => by simp [execOp, hv, resolve, invoke, builtin, Builtin.len_, run_underlying hu, goInt]⟩
set_option maxRecDepth 20000 in
/-- b[lo:], of a slice over a box -/
theorem y_sub_slA {i o n l1 e es eb r q : Nat} {ez : Value} {lo : Option Operand} (hx : ev sl x = .sl i o n) (hT : ti t = .sl e es eb ez) (hl : lowAt sl lo l1) (k1 : l1 < n) (hes : 0 < es) (hr : o + l1 * es = r) (hq : n - l1 = q) :
    Y E ⟨dd, .slice t x lo none none, T, p, af, g⟩ sl ob (.sl i r q) := fun a w Pr β κ h => by
  subst hr hq
  obtain ⟨_, j, _, hu, _, hj, _, hs, _⟩ := ti_sl hT
  have hv := good_ev h x
  rw [hx] at hv
  generalize hav : a.eval x = v at hv
  cases hv with
  | sl _ _ _ c gg hb hc hm hz =>
    have hsl : sliced (some ⟨gg, o, none⟩) l1 n c es = .slice (some ⟨gg, o + l1 * es, none⟩) (n - l1) (c - l1) := by
      unfold sliced
      rw [if_neg (by omega)]
      simp [Addr.add_lit]
    have hzz : κ i ≠ 0 → o + l1 * es = 0 → c - l1 = κ i := fun h1 h2 => by
      have h3 : l1 * es = 0 := by omega
      have h4 : l1 = 0 := by
        rcases Nat.mul_eq_zero.1 h3 with h5 | h5
        · exact h5
        · omega
      have := hz h1 (by omega)
      omega
    refine ⟨sliced (some ⟨gg, o, none⟩) l1 n c es, by rw [hsl]; exact .sl i (o + l1 * es) (n - l1) (c - l1) gg hb (by omega) (by omega) hzz, fun w' _ => ?_⟩
    have hsz : (sizeOf e).run Tryz.prog w' = .ok es w' := by simp [sizeOf, typeInfo, hj, hs]
    have hrb := run_bounds (w' := w') (is := true) (hi := none) h hl (high_none (sl := sl) (len := n)) (Nat.le_of_lt k1) (Nat.le_refl n) hc
    simp only [Option.map_none] at hrb
    simp [execOp, hav, Instr.sliceAt, Instr.slice, run_underlying hu, hrb, hsz, sliced]
set_option maxRecDepth 20000 in
/-- b[:hi] -/
theorem y_sub_slH {i o n h1 e es eb : Nat} {ez : Value} {hi : Option Operand} (hx : ev sl x = .sl i o n) (hT : ti t = .sl e es eb ez) (hh : highAt sl hi n h1) (k1 : h1 ≤ n) (hn : 0 < n) :
    Y E ⟨dd, .slice t x none hi none, T, p, af, g⟩ sl ob (.sl i o h1) := fun a w Pr β κ h => by
  obtain ⟨_, j, _, hu, _, hj, _, hs, _⟩ := ti_sl hT
  have hv := good_ev h x
  rw [hx] at hv
  generalize hav : a.eval x = v at hv
  cases hv with
  | sl _ _ _ c gg hb hc hm hz =>
    have hsl : sliced (some ⟨gg, o, none⟩) 0 h1 c es = .slice (some ⟨gg, o, none⟩) h1 c := by
      unfold sliced
      rw [if_neg (by omega)]
      simp [Addr.add_lit]
    refine ⟨sliced (some ⟨gg, o, none⟩) 0 h1 c es, by rw [hsl]; exact .sl i o h1 c gg hb (by omega) hm hz, fun w' _ => ?_⟩
    have hsz : (sizeOf e).run Tryz.prog w' = .ok es w' := by simp [sizeOf, typeInfo, hj, hs]
    have hrb := run_bounds (w' := w') (is := true) (lo := none) h (low_none (sl := sl)) hh (Nat.zero_le _) k1 hc
    simp only [Option.map_none] at hrb
    simp [execOp, hav, Instr.sliceAt, Instr.slice, run_underlying hu, hrb, hsz, sliced]
set_option maxRecDepth 20000 in
/-- clear(b) -/
theorem st_clear {i o n e es eb : Nat} {ez : Value} {T' : TypeId} {l : List V} {A : Array TypeId} (hx : ev sl x = .sl i o n) (hf : find ob i = some (.box T' l)) (hA : A = #[t]) (hT : ti t = .sl e es eb ez) (h1 : ez.cells.toList.all (fun u => u.oneCell') = true) (hl : o + n * es ≤ l.length) :
    Step E ⟨none, .call { callee := .builtin .clear, args := #[x], argTypes := A }, T, p, af, g⟩ sl ob sl ((i, .box T' (put l o (List.replicate (n * es) .und))) :: ob) := by
  subst hA
  obtain ⟨_, j, _, hu, _, hj, hz0, hs, _, hzs⟩ := ti_sl hT
  rintro a w ⟨Pr, β, κ, h⟩ K Q hK
  have hv := good_ev h x
  rw [hx] at hv
  generalize hav : a.eval x = v at hv
  cases hv with
  | sl _ _ _ c gg hb hc hm hz =>
    obtain ⟨b', cs, hb', hB, hh, hcl, hcv, hno⟩ := h.objs i _ hf
    rw [hb'] at hb
    simp only [Value.pointer.injEq, Option.some.injEq, Addr.mk.injEq, and_true] at hb
    subst hb
    obtain ⟨Z, hZ, hzl, hone⟩ : ∃ Z, (Builtin.zeroCells ez.cells n).toList = Z ∧ Z.length = n * es ∧ ∀ v ∈ Z, v.oneCell' = true := by
      refine ⟨_, rfl, by simp [Builtin.zeroCells, hzs], fun v hv => ?_⟩
      simp only [Builtin.zeroCells, List.mem_toArray, List.mem_map, Array.mem_toList_iff, Array.mem_map, Array.mem_range, List.mem_range] at hv
      obtain ⟨i, hi, rfl⟩ := hv
      have h0 : 0 < ez.cells.size := by
        rcases Nat.eq_zero_or_pos ez.cells.size with h0 | h0
        · rw [h0] at hi; simp at hi
        · exact h0
      rw [getElem!_pos ez.cells _ (Nat.mod_lt _ h0)]
      exact List.all_eq_true.1 h1 _ (by simp)
    have hst := run_storeCells_at Tryz.prog b' o T' Z 0 cs.toArray w hh (by simp [hzl]; omega) hone
    simp only [Nat.add_zero] at hst
    have hzv : (zeroValue e).run Tryz.prog w = .ok ez w := by simp [zeroValue, typeInfo, hj, hz0]
    have hrun : (execOp a.eval ⟨none, .call { callee := .builtin .clear, args := #[x], argTypes := #[t] }, T, p, af, g⟩).run Tryz.prog w = .ok (.value (.tuple #[])) (w.setRow b' (cs.take o ++ Z ++ cs.drop (o + Z.length)).toArray) := by
      cases n with
      | zero =>
        simp [execOp, hav, resolve, invoke, builtin, Builtin.clear_, run_underlying hu]
        have hZ0 : Z = [] := List.eq_nil_of_length_eq_zero (by omega)
        subst hZ0
        have := setRow_self w b' cs.toArray T' (0, 0) hh
        simpa using this.symm
      | succ n =>
        simp [execOp, hav, resolve, invoke, builtin, Builtin.clear_, run_underlying hu, hzv, hZ, hst]
    unfold Oper.wp
    rw [hrun, Oper.upon_value]
    refine hK _ _ ⟨Pr, β, κ, ?_⟩
    refine Good.put' ?_ rfl
    refine h.setobj (T := T') hf hb' hno ⟨_, hh⟩ (fun hkeep => ?_)
    refine ⟨b', cs.take o ++ Z ++ cs.drop (o + Z.length), hb', hB, setRow_heap w b' _ _ _ _ hh, by simp [put, hzl]; omega, fun j u z h2 h3 => hkeep u z ?_, hno⟩
    simp only [put, List.length_replicate] at h3
    rw [List.append_assoc] at h2 h3
    by_cases hj1 : j < o
    · rw [List.getElem?_append_left (by simp; omega), List.getElem?_take, if_pos hj1] at h2 h3
      exact hcv j u z h2 h3
    · rw [List.getElem?_append_right (by simp; omega)] at h2 h3
      have e1 : (cs.take o).length = o := by simp; omega
      have e2 : (l.take o).length = o := by simp; omega
      rw [e1] at h2
      rw [e2] at h3
      by_cases hj2 : j - o < n * es
      · rw [List.getElem?_append_left (by rw [List.length_replicate]; exact hj2)] at h3
        have := List.eq_of_mem_replicate (List.mem_of_getElem? h3)
        subst this
        exact .und _
      · rw [List.getElem?_append_right (by omega), List.getElem?_drop] at h2
        rw [List.getElem?_append_right (by rw [List.length_replicate]; omega), List.getElem?_drop] at h3
        rw [hzl] at h2
        rw [List.length_replicate] at h3
        exact hcv _ u z h2 h3
/-- bits of a number -/
theorem i64_and1 (n : Int) : bits .and .i64 n 1 = n % 2 := by
  have h127 : (BitVec.ofInt 64 1).toNat = 2 ^ 1 - 1 := by decide
  have key : (BitVec.ofInt 64 n &&& BitVec.ofInt 64 1).toNat = (n % ((2 ^ 64 : Nat) : Int)).toNat % 2 ^ 1 := by
    rw [BitVec.toNat_and, BitVec.toNat_ofInt, h127, Nat.and_two_pow_sub_one_eq_mod]
  show IntKind.i64.wrap ((BitVec.ofInt 64 n &&& BitVec.ofInt 64 1).toNat : Nat) = n % 2
  rw [key, IntKind.wrap_i64]
  omega
theorem y_and {u r : Int} (hx : ev sl x = .d (.val (.int .i64 m))) (hy : ev sl y = .d (.val (.int .i64 u))) (hr : bits .and .i64 m u = r) : Y E ⟨dd, .binOp .and t x y ty, t, p, af, g⟩ sl ob (.d (.val (.int .i64 r))) := y_bin hx hy fun w => by
  subst hr
  rfl
/-- a call of a closure -/
theorem al_clocall {ops : Array Oper} {rest : List Oper} {Q : Exit → Act → World → Prop} {f : FuncId} {caps : List V} {args : List V} {ob1 : Objs} {new : List Nat} {Post : V → Objs → Prop} {zs : List V} {xs : List Operand} {ats : Array TypeId} (l : List (Nat × Nat)) (hc : ObC f (args ++ caps) ob1 new Post) (hf : ev sl c = .clo (.func f) zs) (hz : zs = V.renL l caps) (hE : Fine E) (hd : d < E.n) (ha : ArgsV l sl ob xs args)
    (hL : Lends E sl ob l ob1 new)
    (hK : ∀ x ob', Post x ob' → ∀ y ob2, x.ren l = y → renO l ob' ++ dropK ((keys ob1).map (rn l)) ob = ob2 → AL E ops rest Q ((d, y) :: sl) ob2) : AL E ops (⟨some d, .call { callee := .value c, args := xs.toArray, argTypes := ats }, ty, p, af, none⟩ :: rest) Q sl ob := by
  refine ocall_core hc hE hd hL (fun a w Pr β κ h => ?_) hK
  obtain ⟨hlen, hr⟩ := ha.rep h
  have hv := good_ev h c
  rw [hf] at hv
  generalize hcv : a.eval c = v at hv
  cases hv with
  | clo _ cs _ hl hd =>
    subst hz
    refine ⟨xs.map a.eval ++ cs, by rw [List.length_append, List.length_append, hlen, hl, renL_len], fun i v x h1 h2 => ?_, ?_⟩
    · by_cases hi : i < (xs.map a.eval).length
      · rw [List.getElem?_append_left hi] at h1
        rw [List.getElem?_append_left (by omega)] at h2
        exact hr i v x h1 h2
      · rw [List.getElem?_append_right (by omega)] at h1
        rw [List.getElem?_append_right (by omega), ← hlen] at h2
        exact rep_in (hd _ v (x.ren l) h1 (by rw [renL_get, h2]; rfl)) x rfl
    · simp [execOp, resolve, Deferred.ofValue, invoke, hcv, run_callFunc hc.1]
theorem al_clocall1 {ops : Array Oper} {rest : List Oper} {Q : Exit → Act → World → Prop} {f : FuncId} {a1 : V} {caps : List V} {ob1 : Objs} {new : List Nat} {Post : V → Objs → Prop} {zs : List V} {xs : List Operand} {ats : Array TypeId} (l : List (Nat × Nat)) (hc : ObC f (a1 :: caps) ob1 new Post) (hf : ev sl c = .clo (.func f) zs) (hz : zs = V.renL l caps) (hE : Fine E) (hd : d < E.n) (ha : ArgsV l sl ob xs [a1])
    (hL : Lends E sl ob l ob1 new)
    (hK : ∀ x ob', Post x ob' → ∀ y ob2, x.ren l = y → renO l ob' ++ dropK ((keys ob1).map (rn l)) ob = ob2 → AL E ops rest Q ((d, y) :: sl) ob2) : AL E ops (⟨some d, .call { callee := .value c, args := xs.toArray, argTypes := ats }, ty, p, af, none⟩ :: rest) Q sl ob :=
  al_clocall (args := [a1]) l hc hf hz hE hd ha hL hK
theorem al_clocall2 {ops : Array Oper} {rest : List Oper} {Q : Exit → Act → World → Prop} {f : FuncId} {a1 a2 : V} {caps : List V} {ob1 : Objs} {new : List Nat} {Post : V → Objs → Prop} {zs : List V} {xs : List Operand} {ats : Array TypeId} (l : List (Nat × Nat)) (hc : ObC f (a1 :: a2 :: caps) ob1 new Post) (hf : ev sl c = .clo (.func f) zs) (hz : zs = V.renL l caps) (hE : Fine E) (hd : d < E.n) (ha : ArgsV l sl ob xs [a1, a2])
    (hL : Lends E sl ob l ob1 new)
    (hK : ∀ x ob', Post x ob' → ∀ y ob2, x.ren l = y → renO l ob' ++ dropK ((keys ob1).map (rn l)) ob = ob2 → AL E ops rest Q ((d, y) :: sl) ob2) : AL E ops (⟨some d, .call { callee := .value c, args := xs.toArray, argTypes := ats }, ty, p, af, none⟩ :: rest) Q sl ob :=
  al_clocall (args := [a1, a2]) l hc hf hz hE hd ha hL hK
theorem y_clo {f : FuncId} {xs : Array Operand} {zs : List V} (hx : xs.toList.map (ev sl) = zs) : Y E ⟨dd, .makeFunc (.func f) #[] xs, T, p, af, g⟩ sl ob (.clo (.func f) zs) := fun a w Pr β κ hg => by
  subst hx
  refine ⟨.func (.func f) #[] (xs.map a.eval), ?_, fun w' _ => by simp [execOp, Instr.makeFunc, Sem.run]⟩
  have : (xs.map a.eval) = (xs.toList.map a.eval).toArray := by apply Array.ext'; rw [Array.toList_map]
  rw [this]
  refine .clo _ _ _ (by rw [List.length_map, List.length_map]) (fun i v d h1 h2 => ?_)
  rw [List.getElem?_map, Option.map_eq_some_iff] at h1 h2
  obtain ⟨u, h3, rfl⟩ := h1
  obtain ⟨u', h4, rfl⟩ := h2
  rw [h3] at h4
  cases h4
  exact good_ev hg _
end
section
variable {E : Entry} {ops : List Oper} {Q : Exit → Act → World → Prop} {sl sl0 : Slots} {ob ob0 : Objs} {pl : List (Nat × Bool × Oper)} {i : Nat} {tail : (World → Prop) → Act → World → Prop} {g : Option (Nat × Bool)} {p : String} {af : Array Edge} {ty t T : TypeId} {d n : Nat} {op : Op}
/-- An operation that comes where it stands. -/
theorem am_now {x : V} (hw : Want ops sl true g) (h : Y E ⟨some d, op, ty, p, af, g⟩ sl ob x) (hd : d < E.n) (hK : AM E ops tail Q pl ((d, .und) :: sl0) ob0 ((d, x) :: sl) ob) : AM E ops tail Q ((i, false, ⟨some d, op, ty, p, af, g⟩) :: pl) sl0 ob0 sl ob :=
  ⟨fun a w0 w Pr Pr1 β β1 κ κ1 h0 h1 hn => by
    obtain ⟨v, hv, hr⟩ := h a w Pr1 β1 κ1 h1
    refine mix_move (hw.is h1) (fun K hKK => ?_)
    unfold Oper.wp
    rw [hr w (Kept.refl _ _ _ _), Oper.upon_value]
    exact hKK.out _ _ hn.kept fun _ => hK.run _ w0 w Pr Pr1 β β1 κ κ1 (h0.put hd (.und _)) (h1.put hd hv) hn⟩
set_option maxRecDepth 20000 in
/-- An append onto a row that may be changed and does not stand. -/
theorem am_vappend {x y : Operand} {i k e es eb : Nat} {ez : Value} {l l2 : List (List D)} {A : Array TypeId} (hw : Want ops sl true g) (hx : ev sl x = .row i k) (hf : find ob i = some (.vec e es k l)) (hk0 : find ob0 i = none) (hy : ToD ob (ev sl y) (.list es l2)) (hA : A = #[t, t]) (hT : ti t = .sl e es eb ez)
    (h1 : ∀ q ∈ l2, ∀ z ∈ q, D.one z = true) (hes : 0 < es) (hb : (l.length + l2.length) * eb ≤ 140737488355328) (hm : l.length + l2.length ≤ 140737488355328) (hd : d < E.n)
    (hK : AM E ops tail Q pl ((d, .und) :: sl0) ob0 ((d, .row i (k + 1)) :: sl) ((i, .vec e es (k + 1) (l ++ l2)) :: dropK [i] ob)) :
    AM E ops tail Q ((n, false, ⟨some d, .call { callee := .builtin .append, args := #[x, y], argTypes := A }, T, p, af, g⟩) :: pl) sl0 ob0 sl ob := by
  subst hA
  refine ⟨fun a w0 w Pr Pr1 β β1 κ κ1 h0 h hnw => ?_⟩
  refine mix_move (hw.is h) (fun K hKK => ?_)
  obtain ⟨v', w', β', κ', hrun, hG, hs, e3, e4, hlt, hbs, hgr⟩ := vapp_now (o := ⟨some d, .call { callee := .builtin .append, args := #[x, y], argTypes := #[t, t] }, T, p, af, g⟩) (l2 := l2) h hf hd (vapp_run (d := d) (T := T) (p := p) (af := af) (g := g) h hx hf ⟨Pr1, toD_rep h hy _ (good_ev h y), .inl rfl⟩ hT h1 hes hb hm)
  unfold Oper.wp
  rw [hrun, Oper.upon_value]
  have hbb : blk (β1 i) = (β1 i).ownBlock := by obtain ⟨_, _, _, q⟩ := hbs; exact ownBlock_blk q
  have hne : ∀ j o, find ob0 j = some o → j ≠ i := fun j o hj q => by rw [q, hk0] at hj; cases hj
  have hkept : Kept Pr β ob0 w0 w' := hnw.kept.trans (Pr1 := Pr1) ⟨hs, fun j o g h2 h3 => by
    have h4 := hnw.sub j o h2
    have hlt := ((h.objs j o h4.1).blkLt g (by rw [h4.2]; exact h3)).2
    refine hgr.block g hlt (fun q => hne j o h2 ?_)
    exact h.apart j i o _ g h4.1 hf (by rw [h4.2]; exact h3) (by rw [hbb]; exact q.symm), hgr.size⟩ hnw.pr
  refine hKK.out _ _ hkept fun _ => ?_
  refine hK.run _ w0 _ Pr Pr1 _ _ _ _ (h0.put hd (.und _)) hG ⟨hkept, hnw.pr, hnw.then_.trans (fun j => ?_), fun j o hj => ?_⟩
  · by_cases hj : j = i
    · subst hj
      exact .inr ⟨hlt, hbs⟩
    · exact .inl ⟨e3 j hj, e4 j hj⟩
  · have h4 := hnw.sub j o hj
    have hji := hne j o hj
    exact ⟨by rw [find_ne hji]; exact find_drop1 hji h4.1, (e3 j hji).trans h4.2⟩
end
end Go.Proofs.YtfgibalcdjlnhaaGreatDoor
end
section
namespace Go.Proofs.YtfgibalcdjlnhaaGreatDoor
open Go.RowKit Go.ChangeMaps

theorem hasL_app (i : Nat) : ∀ (a b : List V), V.hasL i (a ++ b) = (V.hasL i a || V.hasL i b)
  | [], b => rfl
  | x :: a, b => by simp [V.hasL, hasL_app i a b, Bool.or_assoc]
theorem hasL_und (i : Nat) : ∀ m : Nat, V.hasL i (List.replicate m .und) = false
  | 0 => rfl
  | m + 1 => by simp [List.replicate_succ, V.hasL, V.has, hasL_und i m]
theorem hasL_ds (i : Nat) : ∀ l : List D, V.hasL i (l.map V.d) = false
  | [] => rfl
  | x :: l => by simp [V.hasL, V.has, hasL_ds i l]
theorem withinL_app (ks : List Nat) : ∀ (a b : List V), V.withinL ks (a ++ b) = (V.withinL ks a && V.withinL ks b)
  | [], b => rfl
  | x :: a, b => by simp [V.withinL, withinL_app ks a b, Bool.and_assoc]
theorem withinL_und (ks : List Nat) : ∀ m : Nat, V.withinL ks (List.replicate m .und) = true
  | 0 => rfl
  | m + 1 => by simp [List.replicate_succ, V.withinL, V.within, withinL_und ks m]
theorem withinL_ds (ks : List Nat) : ∀ l : List D, V.withinL ks (l.map V.d) = true
  | [] => rfl
  | x :: l => by simp [V.withinL, V.within, withinL_ds ks l]
theorem renL_app (r : List (Nat × Nat)) : ∀ (a b : List V), V.renL r (a ++ b) = V.renL r a ++ V.renL r b
  | [], b => rfl
  | x :: a, b => by simp [V.renL, renL_app r a b]
theorem renL_und (r : List (Nat × Nat)) : ∀ m : Nat, V.renL r (List.replicate m .und) = List.replicate m .und
  | 0 => rfl
  | m + 1 => by simp [List.replicate_succ, V.renL, V.ren, renL_und r m]
theorem renL_ds (r : List (Nat × Nat)) : ∀ l : List D, V.renL r (l.map V.d) = l.map V.d
  | [] => rfl
  | x :: l => by simp [V.renL, V.ren, renL_ds r l]
theorem lent_eq {ob ob' : Objs} {β β' : Nat → Value} (h : ∀ i o, find ob i = some o → ∃ o', find ob' i = some o' ∧ blk (β' i) = blk (β i)) {g : Nat} (hg : Lent ob β g) : Lent ob' β' g := by
  obtain ⟨i, o, h1, h2⟩ := hg
  obtain ⟨o', h3, h4⟩ := h i o h1
  exact ⟨i, o', h3, by rw [h4]; exact h2⟩
/-- A function that is proved over a box is right for a row that may be changed. -/
theorem ObC.view {f : FuncId} {rest : List V} {ob1 : Objs} {r e s k : Nat} {L : List (List D)} {P : List (List D) → Prop} (hL : L ≠ []) (hr : find ob1 r = none) (hrest : V.hasL r rest = false) (hob : ∀ i o, find ob1 i = some o → o.has r = false)
    (h : ∀ m, ObC f (.sl r 0 L.length :: rest) ((r, .box e (L.flatten.map V.d ++ List.replicate m .und)) :: ob1) [] (fun x o => ∃ L' Z, P L' ∧ (∀ x ∈ L', x.length = s) ∧ (L.flatten.map V.d ++ List.replicate m V.und).length = (L'.flatten.map V.d ++ Z).length ∧ x = .sl r 0 L'.length ∧ o = (r, .box e (L'.flatten.map V.d ++ Z)) :: ob1)) :
    ObC f (.row r k :: rest) ((r, .vec e s k L) :: ob1) [] (fun x o => ∃ L', P L' ∧ x = .row r (k + 1) ∧ o = (r, .vec e s (k + 1) L') :: ob1) := by
  refine ⟨(h 0).1, fun w Pr vs β κ hp hE hl hv ho hap => ?_⟩
  obtain ⟨hκ, xs, hown, hls, hd, hnp⟩ := ho r _ (find_eq _ _ _)
  have hos := own_slice hown
  have hbb := own_blk hown
  have hln : L.length ≠ 0 := fun e => hL (List.eq_nil_of_length_eq_zero e)
  have hx1 := hown.1
  rcases hown.2 with ⟨_, h0⟩ | ⟨g, cap, cur, hvv, _, hh, hnc, hcm, hcs, htk⟩
  · exact absurd h0 hln
  have hfl := flat_len hls
  have hle : L.length * s ≤ cap * s := Nat.mul_le_mul_right _ hnc
  have hg : (β r).ownBlock = some g := by rw [hvv]; rfl
  have hgb : blk (β r) = some g := by rw [hbb, hg]
  obtain ⟨m, hm⟩ : ∃ m, m = cap * s - L.flatten.length := ⟨_, rfl⟩
  obtain ⟨β1, hβ1⟩ : ∃ β1, β1 = updV β r (.pointer (some ⟨g, 0, none⟩)) := ⟨_, rfl⟩
  obtain ⟨κ1, hκ1⟩ : ∃ κ1, κ1 = updN κ r cap := ⟨_, rfl⟩
  have e1 : β1 r = .pointer (some ⟨g, 0, none⟩) := by rw [hβ1, updV_same]
  have e2 : κ1 r = cap := by rw [hκ1, updN_same]
  have e3 : ∀ j, j ≠ r → β1 j = β j := fun j hj => by rw [hβ1, updV_other _ _ _ j hj]
  have e4 : ∀ j, j ≠ r → κ1 j = κ j := fun j hj => by rw [hκ1, updN_other _ _ _ j hj]
  have hml : (L.flatten.map V.d).length = L.flatten.length := List.length_map _
  have hbl : ∀ i, blk (β1 i) = blk (β i) := fun i => by
    by_cases hi : i = r
    · rw [hi, e1, hgb]; rfl
    · rw [e3 i hi]
  have key1 : ∀ i o, find ((r, O.box e (L.flatten.map V.d ++ List.replicate m .und)) :: ob1) i = some o → ∃ o', find ((r, O.vec e s k L) :: ob1) i = some o' := fun i o hi => by
    by_cases hir : i = r
    · exact ⟨_, by rw [hir]; exact find_eq _ _ _⟩
    · exact ⟨o, by rw [find_ne hir] at hi ⊢; exact hi⟩
  have key2 : ∀ i o, find ((r, O.vec e s k L) :: ob1) i = some o → ∃ o', find ((r, O.box e (L.flatten.map V.d ++ List.replicate m .und)) :: ob1) i = some o' := fun i o hi => by
    by_cases hir : i = r
    · exact ⟨_, by rw [hir]; exact find_eq _ _ _⟩
    · exact ⟨o, by rw [find_ne hir] at hi ⊢; exact hi⟩
  have hcall := (h m).2 w Pr vs β1 κ1 hp hE hl (fun i v x h1 h2 => ?_) (fun i o hi => ?_) (fun i j oi oj gg h1 h2 h3 h4 => ?_)
  rotate_left
  · cases i with
    | zero =>
      simp only [List.getElem?_cons_zero, Option.some.injEq] at h2
      subst h2
      have := (hv 0 v (.row r k) h1 rfl).row_inv hκ.symm
      rw [this, hvv]
      exact .sl r 0 L.length cap g e1 hnc hcm (fun _ _ => e2.symm)
    | succ i =>
      simp only [List.getElem?_cons_succ] at h2
      exact (hv (i + 1) v x h1 (by simpa using h2)).other (hasL_mem hrest h2) e3 e4
  · rcases keyCase hi with ⟨rfl, rfl⟩ | ⟨hir, hi⟩
    · refine ⟨g, cur.toList, e1, Nat.zero_le _, by rw [Array.toArray_toList]; exact hh, by rw [List.length_append, hml, List.length_replicate, Array.length_toList]; omega, fun t v x h1 h2 => ?_, hnp g hg⟩
      by_cases ht : t < L.flatten.length
      · rw [List.getElem?_append_left (by rw [hml]; exact ht), List.getElem?_map, Option.map_eq_some_iff] at h2
        obtain ⟨z, hz, rfl⟩ := h2
        obtain ⟨p, jj, y, h3, h4, h5⟩ := flat_get hls hz
        obtain ⟨u, hu, hru⟩ := hd p jj y z h4 h5
        rw [← htk, ← h3, List.getElem?_take, if_pos (by omega)] at hu
        rw [h1] at hu
        cases hu
        exact .d _ _ hru
      · rw [List.getElem?_append_right (by rw [hml]; omega)] at h2
        have := List.eq_of_mem_replicate (List.mem_of_getElem? h2)
        subst this
        exact .und _
    · exact (ho i o (by rw [find_ne hir]; exact hi)).other (hob i o hi) hir e3 e4
  · obtain ⟨o1, k1⟩ := key1 i oi h1
    obtain ⟨o2, k2⟩ := key1 j oj h2
    exact hap i j o1 o2 gg k1 k2 (by rw [← hbl]; exact h3) (by rw [← hbl]; exact h4)
  refine hcall.mono ?_
  rintro e' w' ⟨v, x, ob', Pr', β', κ', he, ⟨L', Z, hP, hs', hlen, rfl, rfl⟩, hA⟩
  obtain ⟨q1, q2⟩ : β' r = β1 r ∧ κ' r = κ1 r := by
    rcases hA.keeps r _ (find_eq _ _ _) with h1 | ⟨_, A, n, c, h1⟩
    · exact h1
    · rw [e1] at h1; cases h1
  obtain ⟨g', cs, p1, p2, p3, p4, p5, p6⟩ := hA.objs r _ (find_eq _ _ _)
  have hg' : g' = g := by
    rw [q1, e1] at p1
    simp only [Value.pointer.injEq, Option.some.injEq, Addr.mk.injEq, and_true] at p1
    exact p1.symm
  subst hg'
  have hval := hA.val
  obtain ⟨c, hvc, hnc', hcm', hcc⟩ : ∃ c, v = .slice (some ⟨g', 0, none⟩) L'.length c ∧ L'.length ≤ c ∧ c ≤ maxLen ∧ c = cap := by
    cases hval with
    | sl _ _ _ c gg hb2 hc hm2 hz =>
      rw [p1] at hb2
      simp only [Value.pointer.injEq, Option.some.injEq, Addr.mk.injEq, and_true] at hb2
      subst hb2
      exact ⟨c, rfl, hc, hm2, (hz (by rw [q2, e2]; omega) rfl).trans (q2.trans e2)⟩
  subst hcc
  subst hvc
  have f1 := updV_same β' r (.slice (some ⟨g', 0, none⟩) L'.length c)
  have f2 := updN_same κ' r (k + 1)
  have f3 := updV_other β' r (.slice (some ⟨g', 0, none⟩) L'.length c)
  have f4 := updN_other κ' r (k + 1)
  have hbl' : ∀ i, blk (updV β' r (.slice (some ⟨g', 0, none⟩) L'.length c) i) = blk (β' i) := fun i => by
    by_cases hi : i = r
    · rw [hi, f1, p1]; rfl
    · rw [f3 i hi]
  have hlentO : ∀ g, Lent ((r, O.box e (L.flatten.map V.d ++ List.replicate m .und)) :: ob1) β1 g → Lent ((r, O.vec e s k L) :: ob1) β g := fun g hg => lent_eq (fun i o hi => by
    obtain ⟨o', ho'⟩ := key1 i o hi
    exact ⟨o', ho', (hbl i).symm⟩) hg
  have hlentI : ∀ g, Lent ((r, O.vec e s k L) :: ob1) β g → Lent ((r, O.box e (L.flatten.map V.d ++ List.replicate m .und)) :: ob1) β1 g := fun g hg => lent_eq (fun i o hi => by
    obtain ⟨o', ho'⟩ := key2 i o hi
    exact ⟨o', ho', hbl i⟩) hg
  have hkey : ∀ i o, find ((r, O.vec e s (k + 1) L') :: ob1) i = some o → ∃ o', find ((r, O.box e (L'.flatten.map V.d ++ Z)) :: ob1) i = some o' := fun i o hi => by
    by_cases hir : i = r
    · exact ⟨_, by rw [hir]; exact find_eq _ _ _⟩
    · exact ⟨o, by rw [find_ne hir] at hi ⊢; exact hi⟩
  have hfl' := flat_len hs'
  have hle' : L'.length * s ≤ c * s := Nat.mul_le_mul_right _ hnc'
  have hks : ∀ (o2 : O) (o3 : O), keys ((r, o2) :: ob1) = keys ((r, o3) :: ob1) := fun _ _ => rfl
  refine ⟨_, .row r (k + 1), (r, .vec e s (k + 1) L') :: ob1, Pr', updV β' r (.slice (some ⟨g', 0, none⟩) L'.length c), updN κ' r (k + 1), he, ⟨L', hP, rfl, rfl⟩, ?_⟩
  refine ⟨⟨hA.under.os, hA.under.tape, hA.under.output, hA.under.size, fun j hj hn => hA.under.block j hj (fun h => hn (hlentO j h))⟩, hA.st, hA.pr0, fun b o hb => (hA.prn b o hb).imp id (fun h => h.imp id (hlentO b)), hA.prl, ?_, fun i o hi => ?_, fun i j oi oj gg h1 h2 h3 h4 => ?_, fun i o gg h1 h2 => ?_, fun i o hi => ?_, ?_, fun i o hi => ?_⟩
  · exact .row r (k + 1) _ ⟨_, _, _, rfl⟩ (by rw [f2]; exact Nat.le_refl _) (fun _ => f1.symm)
  · rcases keyCase hi with ⟨rfl, rfl⟩ | ⟨hir, hi⟩
    · refine ⟨f2, cs.take (L'.length * s), ?_, hs', fun p j x z h1 h2 => ?_, fun gg hgg o => ?_⟩
      · rw [f1]
        rw [List.length_append, List.length_append, List.length_replicate] at hlen
        have hcl : cs.length = c * s := by rw [p4, List.length_append]; omega
        exact ⟨by simp; omega, .inr ⟨g', c, cs.toArray, rfl, Nat.zero_le _, p3, hnc', hcm', by simp; omega, by simp⟩⟩
      · have h3 := flat_put hs' h1 h2
        have hlt := (List.getElem?_eq_some_iff.1 h3).1
        have hcl : p * s + j < cs.length := by rw [p4, List.length_append, List.length_map]; omega
        have h4 := p5 (p * s + j) cs[p * s + j] (.d z) (List.getElem?_eq_getElem hcl) (by
          rw [List.getElem?_append_left (by rw [List.length_map]; exact hlt), List.getElem?_map, h3]
          rfl)
        exact ⟨cs[p * s + j], by rw [List.getElem?_take, if_pos (by omega)]; exact List.getElem?_eq_getElem hcl, h4.d_inv⟩
      · rw [f1] at hgg
        simp only [Value.ownBlock, Option.some.injEq] at hgg
        subst hgg
        exact p6 o
    · exact (hA.objs i o (by rw [find_ne hir]; exact hi)).other (hob i o hi) hir f3 f4
  · obtain ⟨o1, k1⟩ := hkey i oi h1
    obtain ⟨o2, k2⟩ := hkey j oj h2
    exact hA.apart i j o1 o2 gg k1 k2 (by rw [← hbl']; exact h3) (by rw [← hbl']; exact h4)
  · obtain ⟨o1, k1⟩ := hkey i o h1
    exact (hA.own i o1 gg k1 (by rw [← hbl']; exact h2)).imp (hlentO gg) id
  · by_cases hir : i = r
    · subst hir
      exact .inr ⟨by rw [f2, hκ]; omega, hos⟩
    · rw [f3 i hir, f4 i hir]
      have h5 := hA.keeps i o (by rw [find_ne hir] at hi ⊢; exact hi)
      rw [e3 i hir, e4 i hir] at h5
      exact h5
  · show mem _ r = true
    exact mem_iff.2 (by simp [keys])
  · rcases keyCase hi with ⟨rfl, rfl⟩ | ⟨hir, hi⟩
    · exact ⟨by simp [keys], rfl⟩
    · exact hA.wo i o (by rw [find_ne hir]; exact hi)
section
variable {E : Entry} {sl : Slots} {ob : Objs} {a : Act} {w : World} {Pr : Prot} {β : Nat → Value} {κ : Nat → Nat}
variable {d : Nat} {dd : Option Nat} {t T ty kt et : TypeId} {p : String} {af : Array Edge} {g : Option (Nat × Bool)} {x y c : Operand} {z : D} {zv : Value}
set_option maxRecDepth 20000 in
/-- an entry for a key that had none: what it leaves -/
theorem mapent_now (h : Good E sl ob a w Pr β κ) (M : MapT t kt et z zv) {i clock : Nat} {l : List ME} {k : Value} (hx : ev sl x = .mp i) (hf : find ob i = some (.map t clock l)) (hy : keyV (ev sl y) = some k) (hk : KeyOk t k) (hn : ∀ q ∈ l, q.2.1 ≠ k) :
    ∃ b q, (execOp a.eval ⟨some d, .mapEntry t x y, T, p, af, g⟩).run Tryz.prog w = .ok (.value (.tuple #[zv, goInt clock])) (setBlock w b q) ∧ blk (β i) = some b ∧ (∀ o, ¬ Pr b o) ∧ (∃ q0, w.heap[b]? = some q0) ∧ Good E sl ((i, .map t (clock + 1) (l ++ [(clock, k, z)])) :: ob) a (setBlock w b q) Pr β κ := by
  obtain ⟨gm, es, hav, hb, hh, hes, hok, hrv, hno, _⟩ := map_at h hx hf
  have hkv : a.eval y = k := keyV_rep (good_ev h y) hy
  obtain ⟨lit, hlit⟩ := hk.lit M
  have hbb : blk (β i) = some gm := by rw [hb]; rfl
  have hok' := hok.put hk (.new (d := z) hn)
  refine ⟨gm, .map (es ++ [({ key := k, val := zv, born := clock } : MapEntry)]).toArray (clock + 1), ?_, hbb, hno, ⟨_, hh⟩, ?_⟩
  · simp only [execOp, hav, hkv, Instr.mapEntry]
    simp [run_underlying M.u, MapKept.run_getObj_map hh, M.K.check w false hlit, map_miss hes hok M hk hn w, M.zero w, MapKept.run_setObj_map _ hh, Result.andThen, setBlock]
  · refine h.setblk hf hbb hno hh (fun _ hkeep => ⟨gm, _, hb, Nat.zero_le _, (MapKept.heap_set hh).1, ⟨?_, hok'⟩, fun j' x q h4 h5 => hkeep _ _ ?_, hno⟩)
    · show Ents _ _
      unfold Ents
      rw [List.map_append, List.map_append, hes]
      rfl
    · rw [List.getElem?_append] at h4 h5
      rw [← hes.len] at h5
      split at h4
      · rename_i hjj
        rw [if_pos hjj] at h5
        exact hrv j' x q h4 h5
      · rename_i hjj
        rw [if_neg hjj] at h5
        generalize j' - es.length = m at h4 h5
        cases m with
        | zero => simp at h4 h5; subst h4 h5; exact M.zr w Pr
        | succ m => simp at h4
set_option maxRecDepth 20000 in
/-- an entry's element is set -/
theorem st_entry (M : MapT t kt et z zv) {i clock j n : Nat} {l : List ME} {k : Value} {d0 dv : D} (hx : ev sl x = .mp i) (hf : find ob i = some (.map t clock l)) (hj : l[j]? = some (n, k, d0)) (hy : ev sl y = .d (.val (.int .i64 n))) (hc : ToD ob (ev sl c) dv) :
    Step E ⟨none, .entryStore t x y c, T, p, af, g⟩ sl ob sl ((i, .map t clock (l.set j (n, k, dv))) :: ob) := by
  rintro a w ⟨Pr, β, κ, h⟩ K Q hK
  obtain ⟨gm, es, hav, hb, hh, hes, hok, hrv, hno, _⟩ := map_at h hx hf
  have hcv := toD_rep h hc _ (good_ev h c)
  have hyv : a.eval y = .int .i64 n := good_val h hy
  have hbb : blk (β i) = some gm := by rw [hb]; rfl
  have hok' := hok.put (hok.ok _ (List.mem_of_getElem? hj)) (.old (d := dv) j n d0 hj)
  obtain ⟨e, he, h1, h2⟩ := hes.get hj
  have hjl : j < es.length := (List.getElem?_eq_some_iff.1 he).1
  have hborn : (es.map (·.born)).Nodup := by
    have : es.map (·.born) = l.map (·.1) := by
      have := congrArg (List.map Prod.fst) hes
      simpa [Function.comp_def] using this
    rw [this]
    exact hok.nodup
  have hidx : es.findIdx? (fun e => ((e.born : Int) == (n : Int))) = some j := by
    rw [List.findIdx?_eq_some_iff_getElem]
    have hej : es[j] = e := (List.getElem?_eq_some_iff.1 he).2
    refine ⟨hjl, by rw [hej, h1]; simp, fun i hi => ?_⟩
    rw [beq_iff_eq]
    intro hc
    have hil : i < es.length := by omega
    have := nodup_one (f := fun e : MapEntry => e.born) hborn (List.getElem?_eq_getElem hil) he (by rw [h1]; omega)
    omega
  have hmod : es.toArray.modify j (fun e => { e with val := a.eval c }) = (es.set j { e with val := a.eval c }).toArray := by
    apply Array.ext'
    rw [Array.toList_modify]
    simp only [List.toList_toArray]
    refine List.ext_getElem? fun i => ?_
    rw [List.getElem?_modify, List.getElem?_set]
    split
    · rename_i hji
      subst hji
      rw [he]
      simp [hjl]
    · simp
  have hrun : (execOp a.eval ⟨none, .entryStore t x y c, T, p, af, g⟩).run Tryz.prog w = .ok .skip (setBlock w gm (.map (es.set j { e with val := a.eval c }).toArray clock)) := by
    simp only [execOp, hav, hyv, Instr.entryStore]
    simp [MapKept.run_getObj_map hh, asInt, asIntOf, hidx, hmod, MapKept.run_setObj_map _ hh, Result.andThen, setBlock]
  unfold Oper.wp
  rw [hrun, Oper.upon_skip]
  refine hK _ _ ⟨Pr, β, κ, h.setblk hf hbb hno hh (fun _ hkeep => ⟨gm, _, hb, Nat.zero_le _, (MapKept.heap_set hh).1, ⟨?_, hok'⟩, fun j' x q h4 h5 => hkeep _ _ ?_, hno⟩)⟩
  · show Ents _ _
    unfold Ents
    rw [nodup_set (f := fun x : MapEntry => (x.born, x.key)) he (by simp), nodup_set (f := fun q : ME => (q.1, q.2.1)) (r := (n, k, dv)) hj rfl]
    exact hes
  · by_cases hjj : j = j'
    · subst hjj
      rw [List.getElem?_set_self hjl] at h4
      rw [List.getElem?_set_self (by rw [← hes.len]; exact hjl)] at h5
      cases h4
      cases h5
      exact hcv
    · rw [List.getElem?_set_ne hjj] at h4 h5
      exact hrv j' x q h4 h5
end
section
variable {E : Entry} {ops : List Oper} {Q : Exit → Act → World → Prop} {sl sl0 : Slots} {ob ob0 : Objs} {pl : List (Nat × Bool × Oper)} {n : Nat} {tail : (World → Prop) → Act → World → Prop} {g : Option (Nat × Bool)} {p : String} {af : Array Edge} {ty t T kt et : TypeId} {d : Nat} {x y : Operand} {z : D} {zv : Value}
set_option maxRecDepth 20000 in
/-- an entry for a key that had none, of a map that does not stand -/
theorem am_mapent (M : MapT t kt et z zv) {i clock : Nat} {l : List ME} {k : Value} (hw : Want ops sl true g) (hx : ev sl x = .mp i) (hf : find ob i = some (.map t clock l)) (hk0 : find ob0 i = none) (hy : keyV (ev sl y) = some k) (hk : KeyOk t k) (hn : ∀ q ∈ l, q.2.1 ≠ k) (hd : d < E.n)
    (hK : AM E ops tail Q pl ((d, flat (.tup [z, .int clock])) :: sl0) ob0 ((d, .d (.tup [z, .int clock])) :: sl) ((i, .map t (clock + 1) (l ++ [(clock, k, z)])) :: ob)) :
    AM E ops tail Q ((n, false, ⟨some d, .mapEntry t x y, T, p, af, g⟩) :: pl) sl0 ob0 sl ob := by
  refine ⟨fun a w0 w Pr Pr1 β β1 κ κ1 h0 h hnw => ?_⟩
  refine mix_move (hw.is h) (fun K hKK => ?_)
  obtain ⟨b, q, hrun, hb, hno, ⟨q0, hq0⟩, hG⟩ := mapent_now (d := d) (T := T) (p := p) (af := af) (g := g) h M hx hf hy hk hn
  unfold Oper.wp
  rw [hrun, Oper.upon_value]
  have hother : ∀ b', b' ≠ b → (setBlock w b q).heap[b']? = w.heap[b']? := fun b' hne => (MapKept.heap_set hq0).2 b' hne
  have hne : ∀ j o, find ob0 j = some o → j ≠ i := fun j o hj e => by rw [e, hk0] at hj; cases hj
  have hkept : Kept Pr β ob0 w0 (setBlock w b q) := hnw.kept.trans (Pr1 := Pr1) ⟨fun b' r hr => World.cell?_of_block (a := ⟨b', r, none⟩) (hother b' (by rintro rfl; exact hno r hr)), fun j o gg h2 h3 => hother gg (by
      rintro rfl
      have h4 := hnw.sub j o h2
      exact hne j o h2 (h.apart j i o _ _ h4.1 hf (by rw [h4.2]; exact h3) hb)), by simp [setBlock]⟩ hnw.pr
  have hrep : ∀ w' Pr', RepD w' Pr' (.tuple #[zv, goInt clock]) (.tup [z, .int clock]) := fun w' Pr' => pair_rep (M.zr w' Pr') (.val _)
  refine hKK.out _ _ hkept fun _ => ?_
  refine hK.run _ w0 _ Pr Pr1 _ _ _ _ (h0.put hd ?_) (hG.put hd (.d _ _ (hrep _ _))) ⟨hkept, hnw.pr, hnw.then_, fun j o hj => by rw [find_ne (hne j o hj)]; exact hnw.sub j o hj⟩
  exact rep_flat (hrep w Pr1)
end
end Go.Proofs.YtfgibalcdjlnhaaGreatDoor
end
