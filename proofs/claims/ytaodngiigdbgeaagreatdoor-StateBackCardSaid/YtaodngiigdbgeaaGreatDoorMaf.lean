/-
  Conditions: none.
-/
import Derived.Laws.MakeOwn
import Derived.Test.YtaodngiigdbgeaaGreatDoorMaa
import Derived.Test.YtaodngiigdbgeaaGreatDoorMae
set_option maxHeartbeats 16000000
set_option maxRecDepth 20000
set_option linter.unusedSimpArgs false
set_option linter.unusedVariables false
namespace Go.Proofs.YtaodngiigdbgeaaGreatDoor
section
open Go.RowKit
section
variable {E : Entry} {sl : Slots} {ob : Objs} {a : Act} {w : World} {Pr : Prot} {β : Nat → Value} {κ : Nat → Nat}
variable {d : Nat} {t T ty : TypeId} {p : String} {af : Array Edge} {g : Option (Nat × Bool)} {x y c : Operand}
theorem aAn (parts : List (Nat × Operand)) : (parts.toArray.map fun x => (x.1, a.eval x.2)) = (parts.map fun q => (q.1, a.eval q.2)).toArray := by simp
theorem aIs (h : Good E sl ob a w Pr β κ) {parts : List (Nat × Operand)} {dp : List (Nat × D)} {l : List D} {l2 : List (List D)} {e es eb n : Nat} {ez : Value} (hT : ti t = .sl e es eb ez) (hp : PartsD sl ob parts dp) (hl : dfill (fun i => some (i * es, es)) (zerosD es n ez) dp = some l) (hc2 : chunk es n l = l2) (hn : n * es ≤ 1000) (hn2 : n ≤ 1000) :
  ∃ v w', (execOp a.eval ⟨some d, .buildSlice t n parts.toArray, T, p, af, g⟩).run Tryz.prog w = .ok (.value v) w' ∧ Below w.heap.size w w' ∧ RepD w' (PrNew Pr w w') v (.list es l2) := by
 subst hc2
 obtain ⟨cs, hc, hr⟩ := aJn h hT hp hl hn
 have hrun : (execOp a.eval ⟨some d, .buildSlice t n parts.toArray, T, p, af, g⟩).run Tryz.prog w = .ok (.value (.slice (some ⟨w.heap.size, 0, none⟩) n n)) (w.alloc (.cells cs.toArray e)) := by
  simp only [execOp, aAn, Sem.run_bind, hr]
  rfl
 have hx : Below w.heap.size w (w.alloc (.cells cs.toArray e)) := (Below.refl _ _).alloc (Nat.le_refl _) _
 refine ⟨_, _, hrun, hx, ?_⟩
 have hlen : l.length = n * es := by
  have hc1 := hc.1
  have : ∀ (place : Nat → Option (Nat × Nat)) (dp : List (Nat × D)) (ds r : List D), dfill place ds dp = some r → r.length = ds.length := by
   intro place dp
   induction dp with
   | nil => intro ds r h; simp only [dfill, Option.some.injEq] at h; rw [h]
   | cons q dp ih =>
    intro ds r h
    obtain ⟨i, z⟩ := q
    simp only [dfill] at h
    split at h
    ·cases h
    ·split at h
     ·rename_i hc
      rw [ih _ _ h]
      simp [putD]
      omega
     ·cases h
  rw [this _ _ _ _ hl]
  simp [zerosD]
 rcases Nat.eq_zero_or_pos n with h0 | h0
 ·subst h0
  exact .nil _ _ _ (Nat.zero_le _)
 ·have hcell : ∀ (j : Nat) (v : Value), cs[j]? = some v → (w.alloc (.cells cs.toArray e)).cell? ⟨w.heap.size, j, none⟩ = some v := by
   intro j v hj
   rw [cell_of_row _ w.heap.size j cs.toArray e (0, 0) (heap_alloc_new w _)]
   simpa using hj
  refine .list w.heap.size 0 n n es _ (fun i j => cs.getD (i * es + j) undef) (zM es n l) (zL es n l hlen) (Nat.le_refl _) (by unfold maxLen; omega) (fun i j e' z h3 h4 => ?_) (fun i j e' z h3 h4 => ?_)
  ·obtain ⟨hi, hj, hz⟩ := tO es n l i j e' z h3 h4
   have hlt : i * es + j < cs.length := by rw [hc.1]; exact (List.getElem?_eq_some_iff.1 hz).1
   rw [Nat.zero_add]
   refine ⟨hcell _ _ ?_, .inr ⟨Nat.le_refl _, by simp⟩⟩
   simp [List.getD_eq_getElem?_getD, List.getElem?_eq_getElem hlt]
  ·obtain ⟨hi, hj, hz⟩ := tO es n l i j e' z h3 h4
   have hlt : i * es + j < cs.length := by rw [hc.1]; exact (List.getElem?_eq_some_iff.1 hz).1
   have := hc.2 (i * es + j) cs[i * es + j] z (List.getElem?_eq_getElem hlt) hz
   simp only [List.getD_eq_getElem?_getD, List.getElem?_eq_getElem hlt, Option.getD_some]
   exact this.keep (iH h hx) (fun _ _ h => .inl h)
theorem rE {parts : List (Nat × Operand)} {dp : List (Nat × D)} {l : List D} {l2 : List (List D)} {e es eb n : Nat} {ez : Value} (hT : ti t = .sl e es eb ez) (hp : PartsD sl ob parts dp) (hl : dfill (fun i => some (i * es, es)) (zerosD es n ez) dp = some l) (hc2 : chunk es n l = l2) (hn : n * es ≤ 1000) (hn2 : n ≤ 1000) (hd : d < E.n) :
  Step E ⟨some d, .buildSlice t n parts.toArray, T, p, af, g⟩ sl ob ((d, .d (.list es l2)) :: sl) ob := by
 rintro a w ⟨Pr, β, κ, h⟩ K Q hK
 obtain ⟨v, w', hrun, hx, hr⟩ := aIs (d := d) (T := T) (p := p) (af := af) (g := g) h hT hp hl hc2 hn hn2
 unfold Oper.wp
 rw [hrun, Oper.upon_value]
 exact hK _ _ ⟨_, β, κ, (h.grow hx (Pr' := PrNew Pr w w') (fun _ _ h => .inl h) (fun _ _ h => h)).put hd (.d _ _ hr)⟩
theorem oN {x : Operand} {z : D} {c : List D} {e es eb : Nat} {ez : Value} (hT : ti t = .sl e es eb ez) (hx : ToD ob (ev sl x) z) (hc : cellsD z = c) (hl : c.length = es) (hes : es ≤ 1000) (hd : d < E.n) :
  Step E ⟨some d, .buildSlice t 1 #[(0, x)], T, p, af, g⟩ sl ob ((d, .d (.list es [c])) :: sl) ob := by
 subst hc
 have h0 : (zerosD es 1 ez).length = es := by simp [zerosD]
 have hp : PartsD sl ob [(0, x)] [(0, z)] := .cons hx .nil
 refine rE (l := cellsD z) hT hp ?_ (by simp [chunk, hl, List.take_of_length_le]) zb zb hd
 have h2 : putD (zerosD es 1 ez) 0 (cellsD z) = cellsD z := by
  simp only [putD, List.take_zero, List.nil_append, Nat.zero_add]
  rw [List.drop_of_length_le zb, List.append_nil]
 simp only [dfill, Nat.zero_mul, h2]
 rw [if_pos ⟨hl, by omega⟩]
theorem Good.adopt (h : Good E sl ob a w Pr β κ) {j r e s : Nat} (hx : look sl j = .d (.val (.slice none 0 0))) (hno : noneOf r sl ob = true) (hr : r < E.n) : Inv E ((j, .row r 0) :: sl) ((r, .row e s 0 []) :: ob) a w := by
 let β' : Nat → Value := fun i => if i = r then .slice none 0 0 else β i
 let κ' : Nat → Nat := fun i => if i = r then 0 else κ i
 have e1 : β' r = .slice none 0 0 := by simp [β']
 have e2 : κ' r = 0 := by simp [κ']
 have e3 : ∀ j, j ≠ r → β' j = β j := fun j hj => by simp [β', hj]
 have e4 : ∀ j, j ≠ r → κ' j = κ j := fun j hj => by simp [κ', hj]
 have hfr : ∀ i o, find E.ob0 i = some o → i ≠ r := fun i o hi e => by have := h.fresh i o hi; omega
 refine ⟨Pr, β', κ', h.below, h.st0, h.pr0, h.prn, h.prl, h.size, h.defers, fun i => ?_, fun i oi hi => ?_, fun i k oi ok g hi hk hgi hgk => ?_, fun i oi g hi hg => ?_, fun i o hi => ?_, h.fresh⟩
 rotate_right 2
 ·by_cases hir : i = r
  ·rw [hir, e1] at hg; simp [blk] at hg
  ·rw [e3 i hir] at hg
   exact h.own i oi g (cS hir hi) hg
 ·rw [e3 i (hfr i o hi), e4 i (hfr i o hi)]
  exact h.keeps i o hi
 ·by_cases hij : i = j
  ·subst hij
   rw [iK]
   have := h.slots i
   rw [hx] at this
   have hv := this.val_inv
   exact .row r 0 _ ⟨none, 0, 0, hv⟩ (Nat.zero_le _) (fun _ => by rw [hv, e1])
  ·rw [jS hij]
   exact (h.slots i).other (jM hno i) e3 e4
 ·by_cases hir : i = r
  ·subst hir
   rw [cN] at hi
   cases hi
   refine ⟨e2, [], ?_, by simp, fun p j x d h1 => by simp at h1, fun g hg => ?_⟩
   ·rw [e1]; exact World.ownsRow_nil _ _ _ _
   ·rw [e1] at hg; simp [Value.ownBlock] at hg
  ·have hi' := cS hir hi
   exact (h.objs i oi hi').other (iE hno hi') hir e3 e4
 ·by_cases hir : i = r
  ·rw [hir, e1] at hgi; simp [blk] at hgi
  ·by_cases hkr : k = r
   ·rw [hkr, e1] at hgk; simp [blk] at hgk
   ·rw [e3 i hir] at hgi
    rw [e3 k hkr] at hgk
    exact h.apart i k oi ok g (cS hir hi) (cS hkr hk) hgi hgk
theorem fJ {x : Code} {Q : Exit → Act → World → Prop} (j r e s : Nat) (hx : look sl j = .d (.val (.slice none 0 0))) (hno : noneOf r sl ob = true) (hr : r < E.n) (h : AW E x Q ((j, .row r 0) :: sl) ((r, .row e s 0 []) :: ob)) : AW E x Q sl ob := by
 refine ⟨fun a w hi => ?_⟩
 obtain ⟨Pr, β, κ, hg⟩ := hi
 exact h.run a w (hg.adopt hx hno hr)
def D.one : D → Bool
 | .val v => v.oneCell'
 | .list .. => true
 | .err => true
 | .ifc .. => true
 | _ => false
theorem aAj {v : Value} {z : D} (h : RepD w Pr v z) (h1 : z.one = true) : v.oneCell' = true := by
 cases h with
 | val v => exact h1
 | nil A c s hm => rfl
 | list b o n c s l u hn hs hc hm hr hd => rfl
 | agg cs l hl hd => cases h1
 | tup cs l hl hd => cases h1
 | err t u => rfl
 | ifc t u x h => rfl
theorem lD {v : Value} {A : Option Addr} {n c : Nat} (hv : v = .slice A n c) : blk v = v.ownBlock := by
 subst hv
 cases A <;> rfl
theorem aJl (h : Good E sl ob a w Pr β κ) {i e es eb : Nat} {ez : Value} {l l2 : List (List D)} {xs : List Value} (hown : w.ownsRow 0 e es (β i) l.length xs) {v : Value} (hy : RepD w Pr v (.list es l2)) (hT : ti t = .sl e es eb ez)
  (h1 : ∀ q ∈ l2, ∀ z ∈ q, D.one z = true) (hes : 0 < es) (hb : (l.length + l2.length) * eb ≤ 140737488355328) (hm : l.length + l2.length ≤ 140737488355328) :
  ∃ v' w' news, (Builtin.append_ #[t, t] T #[β i, v]).run Tryz.prog w = .ok v' w' ∧ w'.ownsRow 0 e es v' (l.length + l2.length) (xs ++ news) ∧ w.grownBy w' (β i).ownBlock ∧ Off (β i) w v' ∧
   (∀ g, (β i).ownBlock = some g → ∀ j, j < l.length * es → w'.cell? ⟨g, j, none⟩ = w.cell? ⟨g, j, none⟩) ∧ news.length = l2.length * es ∧ (∀ q ∈ l2, q.length = es) ∧
   ∀ (p j : Nat) (q : List D) (z : D), l2[p]? = some q → q[j]? = some z → ∃ u, news[p * es + j]? = some u ∧ RepD w Pr u z := by
 obtain ⟨_, ie, _, hu, _, hj, hz, hs, hby, hzs⟩ := mV hT
 have hbase : 0 ≤ w.heap.size := Nat.zero_le _
 cases hy with
 | nil A c _ hmm =>
  have hrun : (Builtin.append_ #[t, t] T #[β i, .slice A 0 c]).run Tryz.prog w = .ok (β i) w := by
   have hfc : ∀ A, (Builtin.firstCells es 0 (.slice A 0 c)).run Tryz.prog w = .ok #[] w := by
    intro A
    cases A <;> simp [Builtin.firstCells, loadCells, loadCellsFrom]
   rcases hown.2 with ⟨hv, _⟩ | ⟨g, cap, cur, hv, _, _, hnc, _⟩
   ·rw [hv]
    simp [Builtin.append_, run_underlying hu, sizeOf, typeInfo, hj, hs, Builtin.lenOf, hfc]
   ·rw [hv]
    simp [Builtin.append_, run_underlying hu, sizeOf, typeInfo, hj, hs, Builtin.lenOf, hfc, hnc, storeCells]
  refine ⟨β i, w, [], hrun, by simpa using hown, ⟨rfl, rfl, rfl, Nat.le_refl _, fun _ _ _ => rfl⟩, fun _ _ h => h, fun _ _ _ _ => rfl, by simp, by simp, fun p j q z h2 => by simp at h2⟩
 | list b o n c _ _ u hn hss hc hmm hr hd =>
  subst hn
  let news : List Value := (List.range (l2.length * es)).map fun q => u (q / es) (q % es)
  have hnl : news.length = l2.length * es := by simp [news]
  have hat : ∀ q, q < l2.length * es → ∃ e' z, l2[q / es]? = some e' ∧ e'[q % es]? = some z ∧ q / es * es + q % es = q := by
   intro q hq
   have h3 : q / es < l2.length := by rw [Nat.div_lt_iff_lt_mul hes]; exact hq
   have h4 : q % es < es := Nat.mod_lt _ hes
   have h5 := hss _ (List.getElem_mem h3)
   exact ⟨l2[q / es], _, List.getElem?_eq_getElem h3, List.getElem?_eq_getElem zb, by rw [Nat.mul_comm]; exact Nat.div_add_mod q es⟩
  have hget : ∀ (q : Nat) (v : Value), news[q]? = some v → q < l2.length * es ∧ v = u (q / es) (q % es) := by
   intro q v hq
   have hql : q < l2.length * es := by have := (List.getElem?_eq_some_iff.1 hq).1; omega
   simp [news, hql] at hq
   exact ⟨hql, hq.symm⟩
  have hcell : ∀ q v, news[q]? = some v → w.cell? ((⟨b, o, none⟩ : Addr).add q) = some v := by
   intro q v hq
   obtain ⟨hql, rfl⟩ := hget q v hq
   obtain ⟨e', z, h3, h4, h5⟩ := hat q hql
   have := (hr _ _ e' z h3 h4).1
   rw [Addr.add_lit, ← this, Nat.add_assoc, h5]
  have hone : ∀ v ∈ news, v.oneCell' = true := by
   intro v hv
   obtain ⟨q, hq, rfl⟩ := List.getElem_of_mem hv
   obtain ⟨hql, he⟩ := hget q _ (List.getElem?_eq_getElem hq)
   obtain ⟨e', z, h3, h4, h5⟩ := hat q hql
   rw [he]
   exact aAj (hd _ _ e' z h3 h4) (h1 e' (List.mem_of_getElem? h3) z (List.mem_of_getElem? h4))
  obtain ⟨v', w', hrun, h2, h3, _⟩ := run_append_own (P := Tryz.prog) w 0 t T e ie ez es eb hu hj hz hs hby hzs hes (β i) l.length xs hown ⟨b, o, none⟩ l2.length c news hnl hcell hone (by unfold maxLen; omega) hb hbase
  have hoff := wN (P := Tryz.prog) w 0 t T e ie ez es eb hu hj hz hs hby (β i) l.length xs hown ⟨b, o, none⟩ l2.length c news hnl hes hcell hone (by unfold maxLen; omega) hb hrun
  refine ⟨v', w', news, hrun, h2, h3, hoff, fun g hg j hjl => ?_, hnl, hss, fun p j q z h4 h5 => ?_⟩
  ·rcases hown.2 with ⟨hv, _⟩ | ⟨g', cap, cur, hv, _⟩
   ·rw [hv] at hg; simp [Value.ownBlock] at hg
   ·rw [hv] at hg hown hrun
    simp only [Value.ownBlock, Option.some.injEq] at hg
    subst hg
    exact rJ (P := Tryz.prog) w 0 t T e ie ez es eb hu hj hz hs hby g' l.length cap xs hown ⟨b, o, none⟩ l2.length c news hnl hcell hone (by unfold maxLen; omega) hb hrun h2 j hjl
  ·have hp : p < l2.length := (List.getElem?_eq_some_iff.1 h4).1
   have hjs : j < es := by have := (List.getElem?_eq_some_iff.1 h5).1; rw [hss q (List.mem_of_getElem? h4)] at this; exact this
   have hlt : p * es + j < l2.length * es := Nat.lt_of_lt_of_le (by omega : p * es + j < p * es + es) (by rw [← Nat.succ_mul]; exact Nat.mul_le_mul_right _ hp)
   have e1 : (p * es + j) / es = p := by rw [Nat.add_comm, Nat.add_mul_div_right _ _ hes, Nat.div_eq_of_lt hjs, Nat.zero_add]
   have e2 : (p * es + j) % es = j := by rw [Nat.add_comm, Nat.add_mul_mod_self_right, Nat.mod_eq_of_lt hjs]
   refine ⟨u p j, ?_, hd p j q z h4 h5⟩
   simp [news, hlt, e1, e2]
structure App (w : World) (v : Value) (e es n : Nat) (xs : List Value) (l2 : List (List D)) (Pr : Prot) (v' : Value) (w' : World) (news : List Value) : Prop where
 own : w'.ownsRow 0 e es v' (n + l2.length) (xs ++ news)
 grow : w.grownBy w' v.ownBlock
 off : Off v w v'
 keep : ∀ g, v.ownBlock = some g → ∀ j, j < n * es → w'.cell? ⟨g, j, none⟩ = w.cell? ⟨g, j, none⟩
 len : news.length = l2.length * es
 len2 : ∀ q ∈ l2, q.length = es
 rep : ∀ (p j : Nat) (q : List D) (z : D), l2[p]? = some q → q[j]? = some z → ∃ u, news[p * es + j]? = some u ∧ RepD w Pr u z
theorem aIe (h : Good E sl ob a w Pr β κ) {o : Oper} {i k e es : Nat} {l l2 : List (List D)} (hf : find ob i = some (.row e es k l)) (hd : d < E.n)
  (hrun : ∀ xs, w.ownsRow 0 e es (β i) l.length xs → ∃ v' w' news, (execOp a.eval o).run Tryz.prog w = .ok (.value v') w' ∧ App w (β i) e es l.length xs l2 Pr v' w' news) :
  ∃ v' w' Pr' β' κ', (execOp a.eval o).run Tryz.prog w = .ok (.value v') w' ∧ Good E ((d, .row i (k + 1)) :: sl) ((i, .row e es (k + 1) (l ++ l2)) :: ob) (a.put (some d) v') w' Pr' β' κ' ∧ (∀ b o, Pr b o → Pr' b o) ∧ Stays Pr w w' ∧
   (∀ j, j ≠ i → β' j = β j) ∧ (∀ j, j ≠ i → κ' j = κ j) ∧ κ i < κ' i ∧ (∃ A n c, β i = .slice A n c) ∧ w.grownBy w' (β i).ownBlock := by
 obtain ⟨hκ, xs, hown, hls, hrp, hpr⟩ := h.objs i _ hf
 obtain ⟨v', w', news, hrun2, hown', hgr, hoff, hkeep, hnl, hl2, hnr⟩ := hrun xs hown
 have hbs : ∃ A n c, β i = .slice A n c := by
  rcases hown.2 with ⟨hv, _⟩ | ⟨g', cap, cur, hv, _⟩ <;> exact ⟨_, _, _, hv⟩
 have hvs : ∃ A n c, v' = .slice A n c := by
  rcases hown'.2 with ⟨hv, _⟩ | ⟨g', cap, cur, hv, _⟩ <;> exact ⟨_, _, _, hv⟩
 have hbb : blk (β i) = (β i).ownBlock := by obtain ⟨_, _, _, e⟩ := hbs; exact lD e
 have hvb : blk v' = v'.ownBlock := by obtain ⟨_, _, _, e⟩ := hvs; exact lD e
 have hE := h.below.size
 have hlen : (l ++ l2).length * es = l.length * es + l2.length * es := by rw [List.length_append, Nat.add_mul]
 let Pr' : Prot := fun b o => Pr b o ∨ (v'.ownBlock = some b ∧ o < (l ++ l2).length * es)
 let β' : Nat → Value := fun j => if j = i then v' else β j
 let κ' : Nat → Nat := fun j => if j = i then k + 1 else κ j
 have e1 : β' i = v' := by simp [β']
 have e2 : κ' i = k + 1 := by simp [κ']
 have e3 : ∀ j, j ≠ i → β' j = β j := fun j hj => by simp [β', hj]
 have e4 : ∀ j, j ≠ i → κ' j = κ j := fun j hj => by simp [κ', hj]
 have hs : Stays Pr w w' := by
  intro b o ho
  by_cases hbi : (β i).ownBlock = some b
  ·exact hkeep b hbi o ((hpr b hbi o).1 ho)
  ·exact World.cell?_of_block (a := ⟨b, o, none⟩) (hgr.block b (h.prl b o ho) (fun e => hbi e.symm))
 have hbel : Under (fun g => (β i).ownBlock = some g) w w' := ⟨hgr.os, hgr.tape, hgr.output, hgr.size, fun k hk hn => hgr.block k hk (fun e => hn e.symm)⟩
 have hlent : ∀ g, (β i).ownBlock = some g → Lent E.ob0 E.β0 g ∨ E.w.heap.size ≤ g := fun g hg => h.own i _ g hf (by rw [hbb]; exact hg)
 have hnewb : ∀ g, v'.ownBlock = some g → Lent E.ob0 E.β0 g ∨ E.w.heap.size ≤ g := fun g hg => by
  by_cases hbi : (β i).ownBlock = some g
  ·exact hlent g hbi
  ·refine .inr ?_
   by_cases hlt : g < w.heap.size
   ·exact absurd hg (hoff g hlt hbi)
   ·omega
 have hp : ∀ b o, Pr b o → Pr' b o := fun b o ho => .inl ho
 have hnew : ∀ (v : Value) (z : V), RepV w Pr β κ v z → RepV w' Pr' β' κ' v z := fun v z hv =>
  (hv.keep hs hp).newer e3 e4 (by rw [e2, hκ]; omega) hbs
 refine ⟨v', w', Pr', β', κ', hrun2, Good.put ⟨h.below.then hbel hlent, fun b o ho => (hs b o (h.pr0 b o ho)).trans (h.st0 b o ho), fun b o ho => hp b o (h.pr0 b o ho), fun b o ho => ?_, fun b o ho => ?_, h.size, h.defers, fun j => hnew _ _ (h.slots j), fun j oj hj => ?_, fun j m oj om g hj hm' hgj hgm => ?_, fun j oj g hj hg => ?_, fun j o hj => ?_, h.fresh⟩ hd ?_, hp, hs, e3, e4, by rw [e2, hκ]; omega, hbs, hgr⟩
 rotate_left 4
 ·by_cases hji : j = i
  ·rw [hji, e1, hvb] at hg
   exact hnewb g hg
  ·rw [e3 j hji] at hg
   exact h.own j oj g (cS hji hj) hg
 ·by_cases hji : j = i
  ·subst hji
   rw [e1, e2]
   refine .inr ?_
   rcases h.keeps j o hj with ⟨k1, k2⟩ | ⟨k1, k2⟩
   ·exact ⟨by omega, by rw [← k1]; exact hbs⟩
   ·exact ⟨by omega, k2⟩
  ·rw [e3 j hji, e4 j hji]
   exact h.keeps j o hj
 rotate_left 1
 ·rcases ho with ho | ⟨ho, _⟩
  ·exact h.prn b o ho
  ·exact .inr ((hnewb b ho).elim .inr .inl)
 ·rcases ho with ho | ⟨ho, _⟩
  ·have := h.prl b o ho
   have := hbel.size
   omega
  ·exact (hown'.lt b ho).2
 ·by_cases hji : j = i
  ·subst hji
   rw [cN] at hj
   cases hj
   refine ⟨e2, xs ++ news, ?_, ?_, fun q m z u h3 h4 => ?_, fun b hb' o => ?_⟩
   ·rw [e1, List.length_append]; exact hown'
   ·intro z hz
    rcases List.mem_append.1 hz with hz | hz
    ·exact hls z hz
    ·exact hl2 z hz
   ·have hxl := hown.1
    by_cases hq : q < l.length
    ·rw [List.getElem?_append_left hq] at h3
     obtain ⟨u', hu', hr'⟩ := hrp q m z u h3 h4
     have hlt := (List.getElem?_eq_some_iff.1 hu').1
     exact ⟨u', by rw [List.getElem?_append_left hlt]; exact hu', hr'.keep hs hp⟩
    ·rw [List.getElem?_append_right zb] at h3
     obtain ⟨u', hu', hr'⟩ := hnr (q - l.length) m z u h3 h4
     refine ⟨u', ?_, hr'.keep hs hp⟩
     have e5 : q * es + m = xs.length + ((q - l.length) * es + m) := by
      rw [hxl, ← Nat.add_assoc, ← Nat.add_mul, show l.length + (q - l.length) = q by omega]
     rw [e5, List.getElem?_append_right zb, Nat.add_sub_cancel_left]
     exact hu'
   ·rw [e1] at hb'
    refine ⟨fun ho => ?_, fun ho => .inr ⟨hb', ho⟩⟩
    rcases ho with ho | ⟨_, ho⟩
    ·have hlt := h.prl b o ho
     by_cases hbi : (β j).ownBlock = some b
     ·have := (hpr b hbi o).1 ho
      omega
     ·exact absurd hb' (hoff b hlt hbi)
    ·exact ho
  ·have hj' := cS hji hj
   have hne : ∀ g, blk (β j) = some g → (β i).ownBlock ≠ some g := fun g hg hbi => hji (h.apart j i oj _ g hj' hf hg (by rw [hbb]; exact hbi))
   have hlt := (h.objs j oj hj').blkLt
   have hk := (h.objs j oj hj').keep2 hs hp (fun g hg o ho => ?_) (fun g hg => hgr.block g (hlt g hg).2 (fun e => hne g hg e.symm))
   ·cases oj with
    | box T' lb =>
     obtain ⟨gg, cs, q1, q2, q3, q4, q5, q6⟩ := hk
     obtain ⟨gg', cs', _, _, q3', _, q5', _⟩ := h.objs j _ hj'
     refine ⟨gg, cs, (e3 j hji).trans q1, q2, q3, q4, fun m u z h3 h4 => ?_, q6⟩
     exact ((q5 m u z h3 h4).newer e3 e4 (by rw [e2, hκ]; omega) hbs)
    | row e' s' k' l' =>
     obtain ⟨q1, q2, q3, q4, q5, q6⟩ := hk
     exact ⟨(e4 j hji).trans q1, q2, by rw [e3 j hji]; exact q3, q4, q5, by rw [e3 j hji]; exact q6⟩
    | vec e' s' k' l' =>
     obtain ⟨q1, q2, q3, q4, q5, q6⟩ := hk
     exact ⟨(e4 j hji).trans q1, q2, by rw [e3 j hji]; exact q3, q4, q5, by rw [e3 j hji]; exact q6⟩
    | byt e' k' l' =>
     obtain ⟨q1, g, cap, cur, fz, q2, q3⟩ := hk
     exact ⟨(e4 j hji).trans q1, g, cap, cur, fz, (e3 j hji).trans q2, q3⟩
    | map T' c r =>
     obtain ⟨g, es, q1, q2⟩ := hk
     exact ⟨g, es, (e3 j hji).trans q1, q2⟩
    | iter v s n c =>
     obtain ⟨g, gm, q1, q2, q3, q4, q5⟩ := hk
     exact ⟨g, gm, (e3 j hji).trans q1, q2, q3, q4.newer e3 e4 (by rw [e2, hκ]; omega) hbs, q5⟩
   ·rcases ho with ho | ⟨ho, _⟩
    ·exact ho
    ·exact absurd ho (hoff g (hlt g hg).2 (hne g hg))
 ·have key : ∀ m om, find ((i, .row e es (k + 1) (l ++ l2)) :: ob) m = some om → ∃ om', find ob m = some om' := by
   intro m om hm
   by_cases hmi : m = i
   ·exact ⟨_, hmi ▸ hf⟩
   ·exact ⟨om, cS hmi hm⟩
  obtain ⟨oj', hj'⟩ := key j oj hj
  obtain ⟨om', hm''⟩ := key m om hm'
  by_cases hji : j = i
  ·by_cases hmi : m = i
   ·rw [hji, hmi]
   ·exfalso
    rw [hji, e1, hvb] at hgj
    rw [e3 m hmi] at hgm
    have hlt := ((h.objs m om' hm'').blkLt g hgm).2
    exact hoff g hlt (fun hbi => hmi (h.apart m i om' _ g hm'' hf hgm (by rw [hbb]; exact hbi))) hgj
  ·by_cases hmi : m = i
   ·exfalso
    rw [hmi, e1, hvb] at hgm
    rw [e3 j hji] at hgj
    have hlt := ((h.objs j oj' hj').blkLt g hgj).2
    exact hoff g hlt (fun hbi => hji (h.apart j i oj' _ g hj' hf hgj (by rw [hbb]; exact hbi))) hgm
   ·rw [e3 j hji] at hgj
    rw [e3 m hmi] at hgm
    exact h.apart j m oj' om' g hj' hm'' hgj hgm
 ·exact .row i (k + 1) v' hvs (by rw [e2]; exact Nat.le_refl _) (fun _ => e1.symm)
theorem aQt {o : Oper} {i k e es : Nat} {l l2 : List (List D)} (hf : find ob i = some (.row e es k l)) (hd : d < E.n) (hod : o.dst = some d)
  (hrun : ∀ a w Pr β κ xs, Good E sl ob a w Pr β κ → w.ownsRow 0 e es (β i) l.length xs → ∃ v' w' news, (execOp a.eval o).run Tryz.prog w = .ok (.value v') w' ∧ App w (β i) e es l.length xs l2 Pr v' w' news) :
  Step E o sl ob ((d, .row i (k + 1)) :: sl) ((i, .row e es (k + 1) (l ++ l2)) :: ob) := by
 rintro a w ⟨Pr, β, κ, h⟩ K Q hK
 obtain ⟨v', w', Pr', β', κ', hrun2, hG, _⟩ := aIe h hf hd (fun xs hx => hrun a w Pr β κ xs h hx)
 unfold Oper.wp
 rw [hrun2, Oper.upon_value, hod]
 exact hK _ _ ⟨Pr', β', κ', hG⟩
theorem cY {i k e es eb : Nat} {ez : Value} {l l2 : List (List D)} {A : Array TypeId} (hx : ev sl x = .row i k) (hf : find ob i = some (.row e es k l)) (hy : ToD ob (ev sl y) (.list es l2)) (hA : A = #[t, t]) (hT : ti t = .sl e es eb ez)
  (h1 : ∀ q ∈ l2, ∀ z ∈ q, D.one z = true) (hes : 0 < es) (hb : (l.length + l2.length) * eb ≤ 140737488355328) (hm : l.length + l2.length ≤ 140737488355328) (hd : d < E.n) :
  Step E ⟨some d, .call { callee := .builtin .append, args := #[x, y], argTypes := A }, T, p, af, g⟩ sl ob ((d, .row i (k + 1)) :: sl) ((i, .row e es (k + 1) (l ++ l2)) :: ob) := by
 subst hA
 refine aQt hf hd rfl (fun a w Pr β κ xs h hown => ?_)
 obtain ⟨hκ, _⟩ := h.objs i _ hf
 have hxv : a.eval x = β i := by
  have := bO h x
  rw [hx] at this
  exact this.row_inv hκ.symm
 have hyv := eZ h hy _ (bO h y)
 obtain ⟨v', w', news, hrun, hown', hgr, hoff, hkeep, hnl, hl2, hnr⟩ := aJl (T := T) (κ := κ) h hown hyv hT h1 hes hb hm
 exact ⟨v', w', news, by simp [execOp, resolve, invoke, builtin, hxv, hrun], hown', hgr, hoff, hkeep, hnl, hl2, hnr⟩
end
end
section
theorem sH {α : Type} : (∀ (n : Nat) (x : α) l, List.take (n + 1) (x :: l) = x :: l.take n) ∧ (∀ l : List α, l.take 0 = []) ∧
  (∀ (n : Nat) (x : α) l, List.drop (n + 1) (x :: l) = l.drop n) ∧ (∀ l : List α, l.drop 0 = l) ∧ (∀ (x : α) l m, (x :: l) ++ m = x :: (l ++ m)) ∧ (∀ l : List α, [] ++ l = l) ∧ (∀ l : List α, l ++ [] = l) ∧
  (∀ (x : α) l, (x :: l).length = l.length + 1) ∧ (([] : List α).length = 0) ∧ (∀ n : Nat, List.drop n ([] : List α) = []) ∧ (∀ n : Nat, List.take n ([] : List α) = []) ∧
  (∀ (x : α) l, (x :: l)[0]? = some x) ∧ (∀ (x : α) l (n : Nat), (x :: l)[n + 1]? = l[n]?) ∧ (∀ (h : Decidable True) (a b : α), @ite α True h a b = a) := by
 refine ⟨fun _ _ _ => rfl, fun _ => rfl, fun _ _ _ => rfl, fun _ => rfl, fun _ _ _ => rfl, fun _ => rfl, fun _ => List.append_nil _, fun _ _ => rfl, rfl, fun _ => List.drop_nil, fun _ => List.take_nil, fun _ _ => rfl, fun _ _ _ => rfl, fun _ _ _ => if_pos trivial⟩
theorem vS {α β : Type} : (∀ (f : α → β) x l, List.map f (x :: l) = f x :: l.map f) ∧ (∀ f : α → β, List.map f [] = []) ∧ (∀ (f : α → β) x, Option.map f (some x) = some (f x)) := ⟨fun _ _ _ => rfl, fun _ => rfl, fun _ _ => rfl⟩
theorem aIw : (∀ (l : List V) o n, put l o n = l.take o ++ n ++ l.drop (o + n.length)) ∧ (∀ (l : List D) o n, putD l o n = l.take o ++ n ++ l.drop (o + n.length)) ∧
  (∀ l, cellsV (.d (.agg l)) = l.map V.d) ∧ (∀ l, cellsV (.agg l) = l) ∧ (∀ v, cellsV (.d (.val v)) = v.cells.toList.map fun u => .d (.val u)) ∧ (∀ i k, cellsV (.row i k) = [.row i k]) ∧ (∀ i k, cellsV (.box i k) = [.box i k]) ∧
  (∀ s l, cellsV (.d (.list s l)) = [.d (.list s l)]) ∧ (∀ l, cellsD (.agg l) = l) ∧ (∀ v, cellsD (.val v) = v.cells.toList.map D.val) ∧ (∀ s l, cellsD (.list s l) = [.list s l]) ∧
  (∀ s l, chunk s 0 l = []) ∧ (∀ s n l, chunk s (n + 1) l = l.take s :: chunk s n (l.drop s)) ∧ (unD [] = some []) ∧ (∀ x r, unD (.d x :: r) = (unD r).map (x :: ·)) ∧
  (∀ k n, (Value.int k n).cells = #[.int k n]) ∧ (∀ s, (Value.string s).cells = #[.string s]) ∧ (∀ b, (Value.bool b).cells = #[.bool b]) ∧ (∀ a n c, (Value.slice a n c).cells = #[.slice a n c]) ∧ (∀ xs, (Value.agg xs).cells = xs) ∧
  (∀ f ds, dfill f ds [] = some ds) ∧ (∀ n : Nat, 0 + n = n) ∧ (∀ n : Nat, (n ≤ n) = True) ∧ (∀ p : Prop, (p ∧ p) = p) := by
 refine ⟨fun _ _ _ => rfl, fun _ _ _ => rfl, fun _ => rfl, fun _ => rfl, fun _ => rfl, fun _ _ => rfl, fun _ _ => rfl, fun _ _ => rfl, fun _ => rfl, fun _ => rfl, fun _ _ => rfl, fun _ _ => rfl, fun _ _ _ => rfl, rfl, fun _ _ => rfl, fun _ _ => rfl, fun _ => rfl, fun _ => rfl, fun _ _ _ => rfl, fun _ => rfl, fun _ _ => rfl, Nat.zero_add, fun n => eq_true (Nat.le_refl n), fun p => and_self p⟩
end
section
open Go.RowKit
section
variable {E : Entry} {sl : Slots} {ob : Objs} {a : Act} {w : World} {Pr : Prot} {β : Nat → Value} {κ : Nat → Nat}
inductive ResX (sl : Slots) (ob : Objs) : ResultVar → D → Prop where
 | tmp (t : Nat) (d : D) (h : ToD ob (look sl t) d) : ResX sl ob (.tmp t) d
 | cellA (t ty i k : Nat) (T : TypeId) (l : List V) (ds : List D) (hx : look sl t = .box i 0) (hf : find ob i = some (.box T l)) (hT : aggK (ti ty) = some k) (hl : unD ((l.drop 0).take k) = some ds) (hk : ds.length = k) : ResX sl ob (.cell t ty) (.agg ds)
 | cell1 (t ty i : Nat) (T : TypeId) (v : V) (d : D) (hx : look sl t = .box i 0) (hf : find ob i = some (.box T [v])) (hT : isOne (ti ty) = true) (h : ToD ob v d) : ResX sl ob (.cell t ty) d
def resRun (tmps : Array Value) : ResultVar → Sem Value
 | .tmp t => pure (tmps.getD t undef)
 | .cell a t => do loadVar t (← asAddr (tmps.getD a undef))
theorem kN (h : Good E sl ob a w Pr β κ) {rv : ResultVar} {d : D} (hr : ResX sl ob rv d) : ∃ v, (resRun a.tmps rv).run Tryz.prog w = .ok v w ∧ RepD w Pr v d := by
 cases hr with
 | tmp t d hd => exact ⟨_, rfl, eZ h hd _ (h.slots t)⟩
 | cellA t ty i k T l ds hx hf hT hl hk =>
  obtain ⟨v, hv, hrun⟩ := dB (d := some 0) (t := ty) (T := 0) (p := "") (af := #[]) (g := none) (x := .tmp t) (show ev sl (.tmp t) = .box i 0 from hx) hf hT hl hk a w Pr β κ h
  have hr := hrun w (.refl _ _ _ _)
  obtain ⟨b, cs, hav, _, hh, hcl, _, hc⟩ := tM (x := .tmp t) h hx hf
  have e : a.tmps.getD t undef = .pointer (some ⟨b, 0, none⟩) := hav
  refine ⟨v, ?_, hv.d_inv⟩
  simp only [execOp, Sem.run_bind] at hr
  have e2 : (Instr.loadAt ty (a.eval (.tmp t))).run Tryz.prog w = .ok v w := by
   cases hq : (Instr.loadAt ty (a.eval (.tmp t))).run Tryz.prog w with
   | ok q w2 => rw [hq] at hr; simp [Result.andThen] at hr; rw [hr.1, hr.2]
   | halt q w2 => rw [hq] at hr; simp [Result.andThen] at hr
  rw [hav] at e2
  simp only [resRun, e, asAddr, Sem.run_bind]
  simpa [Instr.loadAt, Instr.sureAddr] using e2
 | cell1 t ty i T v d hx hf hT hd =>
  obtain ⟨b, cs, hav, _, hh, hcl, hcv, hc⟩ := tM (x := .tmp t) h hx hf
  have e : a.tmps.getD t undef = .pointer (some ⟨b, 0, none⟩) := hav
  have h0 : cs[0]? = some (cs[0]'(by rw [hcl]; simp)) := List.getElem?_eq_getElem _
  refine ⟨_, ?_, eZ h hd _ (hcv 0 _ v h0 rfl)⟩
  have := lG (t := ty) w hT (hc w (.refl _ _ _ _) 0 _ h0)
  simp only [resRun, e, asAddr, Sem.run_bind]
  simpa [Instr.loadAt, Instr.sureAddr] using this
theorem lX (fn : Func) (tmps : Array Value) : results fn tmps = (do let vs ← fn.results.mapM (resRun tmps); pure (if h : vs.size = 1 then vs[0] else .tuple vs) : Sem Value) := by
 unfold results
 congr 1
theorem sV {fn : Func} {rv : ResultVar} {v : Value} {tmps : Array Value} (hr : fn.results = #[rv]) (h : (resRun tmps rv).run Tryz.prog w = .ok v w) : (results fn tmps).run Tryz.prog w = .ok v w := by
 rw [lX, hr]
 simp [h]
theorem sW {fn : Func} {r1 r2 : ResultVar} {v1 v2 : Value} {tmps : Array Value} (hr : fn.results = #[r1, r2]) (h1 : (resRun tmps r1).run Tryz.prog w = .ok v1 w) (h2 : (resRun tmps r2).run Tryz.prog w = .ok v2 w) : (results fn tmps).run Tryz.prog w = .ok (.tuple #[v1, v2]) w := by
 rw [lX, hr]
 simp [h1, h2]
theorem oK {fn : Func} {r1 r2 r3 : ResultVar} {v1 v2 v3 : Value} {tmps : Array Value} (hr : fn.results = #[r1, r2, r3]) (h1 : (resRun tmps r1).run Tryz.prog w = .ok v1 w) (h2 : (resRun tmps r2).run Tryz.prog w = .ok v2 w) (h3 : (resRun tmps r3).run Tryz.prog w = .ok v3 w) : (results fn tmps).run Tryz.prog w = .ok (.tuple #[v1, v2, v3]) w := by
 rw [lX, hr]
 simp [h1, h2, h3]
theorem aQc {fn : Func} {Post : D → Prop} {r1 : ResultVar} {d1 : D} (hr : fn.results = #[r1]) (h1 : ResX sl ob r1 d1) (hp : Post d1) (h0 : E.ob0 = [] := by rfl) (hdf : E.df = [] := by rfl) : AQ E .ret (bodyPost Tryz.prog fn (PostR E.w E.pr Post)) sl ob := by
 refine ⟨fun a w hi => ?_⟩
 obtain ⟨Pr, β, κ, hg⟩ := hi
 obtain ⟨v1, e1, k1⟩ := kN hg h1
 exact bodyPost_ret (sV hr e1) (hg.defers.trans hdf) ⟨_, d1, rfl, hp, k1.keep (fun _ _ _ => rfl) (jU h0 hg), lN h0 hg⟩
theorem mU {fn : Func} {Post : D → Prop} {r1 r2 : ResultVar} {d1 d2 : D} (hr : fn.results = #[r1, r2]) (h1 : ResX sl ob r1 d1) (h2 : ResX sl ob r2 d2) (hp : Post (.tup [d1, d2])) (h0 : E.ob0 = [] := by rfl) (hdf : E.df = [] := by rfl) : AQ E .ret (bodyPost Tryz.prog fn (PostR E.w E.pr Post)) sl ob := by
 refine ⟨fun a w hi => ?_⟩
 obtain ⟨Pr, β, κ, hg⟩ := hi
 obtain ⟨v1, e1, k1⟩ := kN hg h1
 obtain ⟨v2, e2, k2⟩ := kN hg h2
 refine bodyPost_ret (sW hr e1 e2) (hg.defers.trans hdf) ⟨_, _, rfl, hp, ?_, lN h0 hg⟩
 have q1 := k1.keep (fun _ _ _ => rfl) (jU h0 hg)
 have q2 := k2.keep (fun _ _ _ => rfl) (jU h0 hg)
 refine .tup [_, _] _ rfl (fun i v d h1 h2 => ?_)
 match i with
 | 0 => cases h1; cases h2; exact q1
 | 1 => cases h1; cases h2; exact q2
theorem ret3x {fn : Func} {Post : D → Prop} {r1 r2 r3 : ResultVar} {d1 d2 d3 : D} (hr : fn.results = #[r1, r2, r3]) (h1 : ResX sl ob r1 d1) (h2 : ResX sl ob r2 d2) (h3 : ResX sl ob r3 d3) (hp : Post (.tup [d1, d2, d3])) (h0 : E.ob0 = [] := by rfl) (hdf : E.df = [] := by rfl) : AQ E .ret (bodyPost Tryz.prog fn (PostR E.w E.pr Post)) sl ob := by
 refine ⟨fun a w hi => ?_⟩
 obtain ⟨Pr, β, κ, hg⟩ := hi
 obtain ⟨v1, e1, k1⟩ := kN hg h1
 obtain ⟨v2, e2, k2⟩ := kN hg h2
 obtain ⟨v3, e3, k3⟩ := kN hg h3
 refine bodyPost_ret (oK hr e1 e2 e3) (hg.defers.trans hdf) ⟨_, _, rfl, hp, ?_, lN h0 hg⟩
 have q1 := k1.keep (fun _ _ _ => rfl) (jU h0 hg)
 have q2 := k2.keep (fun _ _ _ => rfl) (jU h0 hg)
 have q3 := k3.keep (fun _ _ _ => rfl) (jU h0 hg)
 refine .tup [_, _, _] _ rfl (fun i v d h1 h2 => ?_)
 match i with
 | 0 => cases h1; cases h2; exact q1
 | 1 => cases h1; cases h2; exact q2
 | 2 => cases h1; cases h2; exact q3
end
end
end Go.Proofs.YtaodngiigdbgeaaGreatDoor
