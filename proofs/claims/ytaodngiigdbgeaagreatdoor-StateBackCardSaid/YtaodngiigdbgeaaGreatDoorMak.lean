/-
  Conditions: none.
-/
import Derived.Test.YtaodngiigdbgeaaGreatDoorMaa
import Derived.Test.YtaodngiigdbgeaaGreatDoorMai
import Derived.Test.YtaodngiigdbgeaaGreatDoorMaj
set_option maxHeartbeats 16000000
set_option maxRecDepth 20000
set_option linter.unusedSimpArgs false
set_option linter.unusedVariables false
namespace Go.Proofs.YtaodngiigdbgeaaGreatDoor
section
open Go.RowKit
theorem rY {ob : Objs} {i : Nat} {o' : O} : ∀ {m : Nat} {om : O}, find ((i, o') :: ob) m = some om → (m = i ∧ om = o') ∨ (m ≠ i ∧ find ob m = some om) := by
 intro m om hm
 by_cases hmi : m = i
 ·subst hmi
  rw [cN] at hm
  cases hm
  exact .inl ⟨rfl, rfl⟩
 ·rw [cE hmi] at hm
  exact .inr ⟨hmi, hm⟩
theorem tQ {ob : Objs} {i : Nat} {o o' : O} (hf : find ob i = some o) : ∀ {m : Nat} {om : O}, find ((i, o') :: ob) m = some om → ∃ om', find ob m = some om' := by
 intro m om hm
 rcases rY hm with ⟨rfl, _⟩ | ⟨_, h1⟩
 ·exact ⟨_, hf⟩
 ·exact ⟨_, h1⟩
section
variable {E : Entry} {sl : Slots} {ob : Objs} {a : Act} {w : World} {Pr : Prot} {β : Nat → Value} {κ : Nat → Nat}
theorem Good.swap (h : Good E sl ob a w Pr β κ) {i : Nat} {o o' : O} (hf : find ob i = some o) (hr : RepO w Pr 0 β κ i o') : Good E sl ((i, o') :: ob) a w Pr β κ := by
 refine ⟨h.below, h.st0, h.pr0, h.prn, h.prl, h.size, h.defers, h.slots, fun m om hm => ?_, fun m k om ok g h1 h2 => ?_, fun m om g h1 => ?_, h.keeps, h.fresh⟩
 ·rcases rY hm with ⟨rfl, rfl⟩ | ⟨_, h1⟩
  ·exact hr
  ·exact h.objs m om h1
 ·obtain ⟨o1, k1⟩ := tQ hf h1
  obtain ⟨o2, k2⟩ := tQ hf h2
  exact h.apart m k o1 o2 g k1 k2
 ·obtain ⟨o1, k1⟩ := tQ hf h1
  exact h.own m o1 g k1
theorem Good.slot (h : Good E sl ob a w Pr β κ) {j : Nat} {x : V} (hx : RepV w Pr β κ (a.tmps.getD j undef) x) : Good E ((j, x) :: sl) ob a w Pr β κ := by
 refine ⟨h.below, h.st0, h.pr0, h.prn, h.prl, h.size, h.defers, fun i => ?_, h.objs, h.apart, h.own, h.keeps, h.fresh⟩
 by_cases hij : i = j
 ·subst hij
  rw [iK]
  exact hx
 ·rw [jS hij]
  exact h.slots i
theorem Good.unrow (h : Good E sl ob a w Pr β κ) {r e s k : Nat} (hf : find ob r = some (.row e s k [])) : Good E sl ((r, .vec e s k []) :: ob) a w Pr β κ := by
 obtain ⟨hκ, xs, hown, hls, hd, hpr⟩ := h.objs r _ hf
 exact h.swap hf ⟨hκ, xs, hown, hls, hd, fun g hg o ho => by have := (hpr g hg o).1 ho; simp at this⟩
theorem rM {x : Exit} {Q : Exit → Act → World → Prop} (r : Nat) {e s k : Nat} (hf : find ob r = some (.row e s k [])) (h : AQ E x Q sl ((r, .vec e s k []) :: ob)) : AQ E x Q sl ob := ⟨fun a w ⟨_, _, _, hg⟩ => h.run a w ⟨_, _, _, hg.unrow hf⟩⟩
theorem vV {B n s : Nat} {e : TypeId} {v : Value} {xs : List Value} (h : w.ownsRow B e s v n xs) : blk v = v.ownBlock := by
 rcases h.2 with ⟨h0, _⟩ | ⟨g', cap, cur, h0, _⟩ <;> exact lD h0
theorem tV {B n s : Nat} {e : TypeId} {v : Value} {xs : List Value} (h : w.ownsRow B e s v n xs) : ∃ A m c, v = .slice A m c := by
 rcases h.2 with ⟨h0, _⟩ | ⟨g', cap, cur, h0, _⟩ <;> exact ⟨_, _, _, h0⟩
theorem Good.protect (h : Good E sl ob a w Pr β κ) {r e s k : Nat} {l : List (List D)} (hf : find ob r = some (.vec e s k l)) : Inv E sl ((r, .row e s k l) :: ob) a w := by
 obtain ⟨hκ, xs, hown, hls, hd, hno⟩ := h.objs r _ hf
 have hbb := vV hown
 let Pr' : Prot := fun b o => Pr b o ∨ ((β r).ownBlock = some b ∧ o < l.length * s)
 have hs : Stays Pr w w := fun _ _ _ => rfl
 have hp : ∀ b o, Pr b o → Pr' b o := fun _ _ h => .inl h
 refine ⟨Pr', β, κ, h.below, h.st0, fun b o ho => hp b o (h.pr0 b o ho), fun b o ho => ?_, fun b o ho => ?_, h.size, h.defers, fun q => (h.slots q).keep hs hp, fun q o ho => ?_, fun m k om ok g h1 h2 => ?_, fun m om g h1 => ?_, h.keeps, h.fresh⟩
 ·rcases ho with ho | ⟨ho, _⟩
  ·exact h.prn b o ho
  ·exact .inr ((h.own r _ b hf (by rw [hbb]; exact ho)).elim .inr .inl)
 ·rcases ho with ho | ⟨ho, _⟩
  ·exact h.prl b o ho
  ·exact (hown.lt b ho).2
 ·rcases rY ho with ⟨rfl, rfl⟩ | ⟨hqr, ho⟩
  ·refine ⟨hκ, xs, hown, hls, fun p j x d h1 h2 => ?_, fun g hg o => ⟨fun ho => ?_, fun ho => .inr ⟨hg, ho⟩⟩⟩
   ·obtain ⟨u, hu, hr⟩ := hd p j x d h1 h2
    exact ⟨u, hu, hr.keep hs hp⟩
   ·rcases ho with ho | ⟨_, ho⟩
    ·exact absurd ho (hno g hg o)
    ·exact ho
  ·refine (h.objs q o ho).keep2 hs hp (fun gg hgg m hm => ?_) (fun _ _ => rfl)
   rcases hm with hm | ⟨hm, _⟩
   ·exact hm
   ·exact absurd (h.apart q r _ _ _ ho hf hgg (by rw [hbb]; exact hm)) hqr
 ·obtain ⟨o1, k1⟩ := tQ hf h1
  obtain ⟨o2, k2⟩ := tQ hf h2
  exact h.apart m k o1 o2 g k1 k2
 ·obtain ⟨o1, k1⟩ := tQ hf h1
  exact h.own m o1 g k1
theorem gN {z : Code} {Q : Exit → Act → World → Prop} (r : Nat) {e s k : Nat} {l : List (List D)} (hf : find ob r = some (.vec e s k l)) (h : AW E z Q sl ((r, .row e s k l) :: ob)) : AW E z Q sl ob := ⟨fun a w ⟨_, _, _, hg⟩ => h.run a w (hg.protect hf)⟩
theorem RepO.newer {B i r : Nat} {o : O} {β' : Nat → Value} {κ' : Nat → Nat} (h : RepO w Pr B β κ i o) (hi : i ≠ r) (hβ : ∀ j, j ≠ r → β' j = β j) (hκ : ∀ j, j ≠ r → κ' j = κ j) (hr : κ r < κ' r) (hb : ∃ A n c, β r = .slice A n c) : RepO w Pr B β' κ' i o := by
 cases o with
 | box T' lb =>
  obtain ⟨gg, cs, q1, q2, q3, q4, q5, q6⟩ := h
  exact ⟨gg, cs, (hβ i hi).trans q1, q2, q3, q4, fun m u z h3 h4 => (q5 m u z h3 h4).newer hβ hκ hr hb, q6⟩
 | row e' s' k' l' =>
  obtain ⟨q1, q2, q3, q4, q5, q6⟩ := h
  exact ⟨(hκ i hi).trans q1, q2, by rw [hβ i hi]; exact q3, q4, q5, by rw [hβ i hi]; exact q6⟩
 | vec e' s' k' l' =>
  obtain ⟨q1, q2, q3, q4, q5, q6⟩ := h
  exact ⟨(hκ i hi).trans q1, q2, by rw [hβ i hi]; exact q3, q4, q5, by rw [hβ i hi]; exact q6⟩
 | byt e' k' l' =>
  obtain ⟨q1, g, cap, cur, fz, q2, q3⟩ := h
  exact ⟨(hκ i hi).trans q1, g, cap, cur, fz, (hβ i hi).trans q2, q3⟩
 | map T' c r =>
  obtain ⟨g, es, q1, q2⟩ := h
  exact ⟨g, es, (hβ i hi).trans q1, q2⟩
 | iter v s n c =>
  obtain ⟨g, gm, q1, q2, q3, q4, q5⟩ := h
  exact ⟨g, gm, (hβ i hi).trans q1, q2, q3, q4.newer hβ hκ hr hb, q5⟩
theorem Good.verup (h : Good E sl ob a w Pr β κ) {r k : Nat} {v' : Value} {o' : O} (hκ : κ r = k) (hb : ∃ A n c, β r = .slice A n c) (hown : ∀ g, blk v' = some g → Lent E.ob0 E.β0 g ∨ E.w.heap.size ≤ g)
  (hap : ∀ j oj g, find ob j = some oj → j ≠ r → blk (β j) = some g → blk v' ≠ some g) (ho : RepO w Pr 0 (updV β r v') (updN κ r (k + 1)) r o') : Good E sl ((r, o') :: ob) a w Pr (updV β r v') (updN κ r (k + 1)) := by
 have e1 := eL β r v'
 have e2 := fA κ r (k + 1)
 have e3 := cL β r v'
 have e4 := fM κ r (k + 1)
 have hlt : κ r < updN κ r (k + 1) r := by rw [e2]; omega
 refine ⟨h.below, h.st0, h.pr0, h.prn, h.prl, h.size, h.defers, fun i => (h.slots i).newer e3 e4 hlt hb, fun m om hm => ?_, fun m j om oj g h1 h2 h3 h4 => ?_, fun m om g h1 h2 => ?_, fun m o hm => ?_, h.fresh⟩
 ·rcases rY hm with ⟨rfl, rfl⟩ | ⟨hmr, hm⟩
  ·exact ho
  ·exact (h.objs m om hm).newer hmr e3 e4 hlt hb
 ·by_cases hmr : m = r
  ·by_cases hjr : j = r
   ·rw [hmr, hjr]
   ·rw [hmr, e1] at h3
    rw [e3 j hjr] at h4
    exact absurd h3 (hap j oj g (cS hjr h2) hjr h4)
  ·rw [e3 m hmr] at h3
   by_cases hjr : j = r
   ·rw [hjr, e1] at h4
    exact absurd h4 (hap m om g (cS hmr h1) hmr h3)
   ·rw [e3 j hjr] at h4
    exact h.apart m j om oj g (cS hmr h1) (cS hjr h2) h3 h4
 ·rcases rY h1 with ⟨rfl, _⟩ | ⟨hmr, h1⟩
  ·rw [e1] at h2
   exact hown g h2
  ·rw [e3 m hmr] at h2
   exact h.own m om g h1 h2
 ·by_cases hmr : m = r
  ·subst hmr
   rw [e1, e2]
   refine .inr ?_
   rcases h.keeps m o hm with ⟨k1, k2⟩ | ⟨k1, k2⟩
   ·exact ⟨by omega, by rw [← k1]; exact hb⟩
   ·exact ⟨by omega, k2⟩
  ·rw [e3 m hmr, e4 m hmr]
   exact h.keeps m o hm
theorem aEb {s : Nat} : ∀ {L : List (List D)}, (∀ x ∈ L, x.length = s) → ∀ {t : Nat} {z : D}, L.flatten[t]? = some z → ∃ p j x, t = p * s + j ∧ L[p]? = some x ∧ x[j]? = some z
 | [], _, t, z, h => by simp at h
 | y :: L, hs, t, z, h => by
  have hy : y.length = s := hs y (by simp)
  rw [List.flatten_cons] at h
  by_cases ht : t < s
  ·rw [List.getElem?_append_left zb] at h
   exact ⟨0, t, y, by omega, rfl, h⟩
  ·rw [List.getElem?_append_right zb, hy] at h
   obtain ⟨p, j, x, h1, h2, h3⟩ := aEb (fun x hx => hs x (by simp [hx])) h
   exact ⟨p + 1, j, x, by rw [Nat.add_mul]; omega, by simpa using h2, h3⟩
theorem xC {s : Nat} : ∀ {L : List (List D)}, (∀ x ∈ L, x.length = s) → ∀ {p j : Nat} {x : List D} {z : D}, L[p]? = some x → x[j]? = some z → L.flatten[p * s + j]? = some z
 | [], _, p, j, x, z, h, _ => by simp at h
 | y :: L, hs, p, j, x, z, h, h2 => by
  have hy : y.length = s := hs y (by simp)
  rw [List.flatten_cons]
  cases p with
  | zero =>
   simp at h
   subst h
   have := (List.getElem?_eq_some_iff.1 h2).1
   rw [List.getElem?_append_left zb, Nat.zero_mul, Nat.zero_add]
   exact h2
  | succ p =>
   rw [List.getElem?_append_right (by rw [Nat.add_mul]; omega), hy, show (p + 1) * s + j - s = p * s + j by rw [Nat.add_mul]; omega]
   exact xC (fun x hx => hs x (by simp [hx])) (by simpa using h) h2
theorem xA {s : Nat} : ∀ {L : List (List D)}, (∀ x ∈ L, x.length = s) → L.flatten.length = L.length * s
 | [], _ => by simp
 | y :: L, hs => by
  rw [List.flatten_cons, List.length_append, hs y (by simp), xA (fun x hx => hs x (by simp [hx])), List.length_cons, Nat.add_mul]
  omega
end
end
section
open Go.RowKit
section
variable {E : Entry} {sl : Slots} {ob : Objs} {a : Act} {w : World} {Pr : Prot} {β : Nat → Value} {κ : Nat → Nat}
variable {d : Nat} {dd : Option Nat} {t T ty : TypeId} {p : String} {af : Array Edge} {g : Option (Nat × Bool)} {x y c : Operand} {m : Int}
theorem aQi {v0 : Value} {e es eb : Nat} {ez : Value} {n0 : Nat} {l2 : List (List D)} {xs : List Value} (hown : w.ownsRow 0 e es v0 n0 xs) {v : Value} (hy : RepD w Pr v (.list es l2)) (hT : ti t = .sl e es eb ez)
  (h1 : ∀ q ∈ l2, ∀ z ∈ q, D.one z = true) (hes : 0 < es) (hb : (n0 + l2.length) * eb ≤ 140737488355328) (hm : n0 + l2.length ≤ 140737488355328) :
  ∃ v' w' news, (Builtin.append_ #[t, t] T #[v0, v]).run Tryz.prog w = .ok v' w' ∧ App w v0 e es n0 xs l2 Pr v' w' news := by
 obtain ⟨_, ie, _, hu, _, hj, hz, hs, hby, hzs⟩ := mV hT
 have hbase : 0 ≤ w.heap.size := Nat.zero_le _
 cases hy with
 | nil A c _ hmm =>
  have hrun : (Builtin.append_ #[t, t] T #[v0, .slice A 0 c]).run Tryz.prog w = .ok v0 w := by
   have hfc : ∀ A, (Builtin.firstCells es 0 (.slice A 0 c)).run Tryz.prog w = .ok #[] w := by
    intro A
    cases A <;> simp [Builtin.firstCells, loadCells, loadCellsFrom]
   rcases hown.2 with ⟨hv, _⟩ | ⟨g, cap, cur, hv, _, _, hnc, _⟩
   ·rw [hv]
    simp [Builtin.append_, run_underlying hu, sizeOf, typeInfo, hj, hs, Builtin.lenOf, hfc]
   ·rw [hv]
    simp [Builtin.append_, run_underlying hu, sizeOf, typeInfo, hj, hs, Builtin.lenOf, hfc, hnc, storeCells]
  exact ⟨v0, w, [], hrun, by simpa using hown, ⟨rfl, rfl, rfl, Nat.le_refl _, fun _ _ _ => rfl⟩, fun _ _ h => h, fun _ _ _ _ => rfl, by simp, by simp, fun p j q z h2 => by simp at h2⟩
 | list b o n c _ _ u hn hss hc hmm hr hd =>
  subst hn
  let news : List Value := (List.range (l2.length * es)).map fun q => u (q / es) (q % es)
  have hnl : news.length = l2.length * es := by simp [news]
  have hat : ∀ q, q < l2.length * es → ∃ e' z, l2[q / es]? = some e' ∧ e'[q % es]? = some z ∧ q / es * es + q % es = q := by
   intro q hq
   have h3 : q / es < l2.length := by rw [Nat.div_lt_iff_lt_mul hes]; exact hq
   have h4 : q % es < es := Nat.mod_lt _ hes
   have h5 := hss _ (List.getElem_mem h3)
   exact ⟨l2[q / es], _, List.getElem?_eq_getElem h3, List.getElem?_eq_getElem zb, by rw [Nat.mul_comm]; exact Nat.div_add_mod q es⟩
  have hget : ∀ (q : Nat) (v : Value), news[q]? = some v → q < l2.length * es ∧ v = u (q / es) (q % es) := by
   intro q v hq
   have hql : q < l2.length * es := by have := (List.getElem?_eq_some_iff.1 hq).1; omega
   simp [news, hql] at hq
   exact ⟨hql, hq.symm⟩
  have hcell : ∀ q v, news[q]? = some v → w.cell? ((⟨b, o, none⟩ : Addr).add q) = some v := by
   intro q v hq
   obtain ⟨hql, rfl⟩ := hget q v hq
   obtain ⟨e', z, h3, h4, h5⟩ := hat q hql
   have := (hr _ _ e' z h3 h4).1
   rw [Addr.add_lit, ← this, Nat.add_assoc, h5]
  have hone : ∀ v ∈ news, v.oneCell' = true := by
   intro v hv
   obtain ⟨q, hq, rfl⟩ := List.getElem_of_mem hv
   obtain ⟨hql, he⟩ := hget q _ (List.getElem?_eq_getElem hq)
   obtain ⟨e', z, h3, h4, h5⟩ := hat q hql
   rw [he]
   exact aAj (hd _ _ e' z h3 h4) (h1 e' (List.mem_of_getElem? h3) z (List.mem_of_getElem? h4))
  obtain ⟨v', w', hrun, h2, h3, _⟩ := run_append_own (P := Tryz.prog) w 0 t T e ie ez es eb hu hj hz hs hby hzs hes v0 n0 xs hown ⟨b, o, none⟩ l2.length c news hnl hcell hone (by unfold maxLen; omega) hb hbase
  have hoff := wN (P := Tryz.prog) w 0 t T e ie ez es eb hu hj hz hs hby v0 n0 xs hown ⟨b, o, none⟩ l2.length c news hnl hes hcell hone (by unfold maxLen; omega) hb hrun
  refine ⟨v', w', news, hrun, h2, h3, hoff, fun g hg j hjl => ?_, hnl, hss, fun p j q z h4 h5 => ?_⟩
  ·rcases hown.2 with ⟨hv, _⟩ | ⟨g', cap, cur, hv, _⟩
   ·rw [hv] at hg; simp [Value.ownBlock] at hg
   ·rw [hv] at hg hown hrun
    simp only [Value.ownBlock, Option.some.injEq] at hg
    subst hg
    exact rJ (P := Tryz.prog) w 0 t T e ie ez es eb hu hj hz hs hby g' n0 cap xs hown ⟨b, o, none⟩ l2.length c news hnl hcell hone (by unfold maxLen; omega) hb hrun h2 j hjl
  ·have hp : p < l2.length := (List.getElem?_eq_some_iff.1 h4).1
   have hjs : j < es := by have := (List.getElem?_eq_some_iff.1 h5).1; rw [hss q (List.mem_of_getElem? h4)] at this; exact this
   have hlt : p * es + j < l2.length * es := Nat.lt_of_lt_of_le (by omega : p * es + j < p * es + es) (by rw [← Nat.succ_mul]; exact Nat.mul_le_mul_right _ hp)
   have e1 : (p * es + j) / es = p := by rw [Nat.add_comm, Nat.add_mul_div_right _ _ hes, Nat.div_eq_of_lt hjs, Nat.zero_add]
   have e2 : (p * es + j) % es = j := by rw [Nat.add_comm, Nat.add_mul_mod_self_right, Nat.mod_eq_of_lt hjs]
   refine ⟨u p j, ?_, hd p j q z h4 h5⟩
   simp [news, hlt, e1, e2]
def valsOnly (l : List (List D)) : Prop := ∀ q ∈ l, ∀ z ∈ q, ∃ v, z = D.val v
theorem App.val {v0 v' : Value} {e es n0 : Nat} {l2 : List (List D)} {xs news : List Value} {w' : World} {Pr' : Prot} (h : App w v0 e es n0 xs l2 Pr v' w' news) (hv : valsOnly l2) : App w v0 e es n0 xs l2 Pr' v' w' news := by
 refine ⟨h.own, h.grow, h.off, h.keep, h.len, h.len2, fun p j q z h1 h2 => ?_⟩
 obtain ⟨u, hu, hr⟩ := h.rep p j q z h1 h2
 obtain ⟨v, rfl⟩ := hv q (List.mem_of_getElem? h1) z (List.mem_of_getElem? h2)
 cases hr
 exact ⟨_, hu, .val _⟩
theorem aVb (h : Good E sl ob a w Pr β κ) {i e s k : Nat} {l : List (List D)} (ho : find ob i = some (.vec e s k l)) : RepD w (fun _ _ => True) (β i) (.list s l) := by
 obtain ⟨_, xs, hown, hls, hd, _⟩ := h.objs i _ ho
 rcases hown.2 with ⟨h0, hl⟩ | ⟨g, cap, cur, h0, hB, hg, hc, hm, hsz, htk⟩
 ·obtain rfl : l = [] := List.eq_nil_of_length_eq_zero hl
  rw [h0]
  exact .nil _ _ _ (Nat.zero_le _)
 ·rw [h0] at hown ⊢
  have hat : ∀ (p j : Nat) (x : List D) (d : D), l[p]? = some x → x[j]? = some d → ∃ u, w.cell? ⟨g, 0 + p * s + j, none⟩ = some u ∧ RepD w Pr u d ∧ xs.getD (p * s + j) undef = u := by
   intro p j x d h1 h2
   obtain ⟨u, hu, hr⟩ := hd p j x d h1 h2
   have hp := (List.getElem?_eq_some_iff.1 h1).1
   have hj : j < s := by rw [← hls x (List.mem_of_getElem? h1)]; exact (List.getElem?_eq_some_iff.1 h2).1
   have hlt : p * s + j < l.length * s := Nat.lt_of_lt_of_le (by omega : p * s + j < p * s + s) (by rw [← Nat.succ_mul]; exact Nat.mul_le_mul_right _ hp)
   rw [Nat.zero_add]
   exact ⟨u, (hown.cellAt _ hlt).trans hu, hr, by rw [List.getD_eq_getElem?_getD, hu]; rfl⟩
  refine .list g 0 l.length cap s l (fun p j => xs.getD (p * s + j) undef) rfl hls hc hm (fun p j x d h1 h2 => ?_) (fun p j x d h1 h2 => ?_)
  ·obtain ⟨u, h3, _, h4⟩ := hat p j x d h1 h2
   rw [h4]
   exact ⟨h3, trivial⟩
  ·obtain ⟨u, _, h3, h4⟩ := hat p j x d h1 h2
   rw [h4]
   exact h3.keep (fun _ _ _ => rfl) (fun _ _ _ => trivial)
theorem Good.grown (h : Good E sl ob a w Pr β κ) {i e es k : Nat} {l : List (List D)} {w' : World} (hf : find ob i = some (.vec e es k l)) (hgr : w.grownBy w' (β i).ownBlock) : Good E sl (dropK [i] ob) a w' Pr β κ ∧ Stays Pr w w' := by
 obtain ⟨hκ, xs, hown, hls, hd, hno⟩ := h.objs i _ hf
 have hbb := vV hown
 have hs : Stays Pr w w' := fun b o ho => World.cell?_of_block (a := ⟨b, o, none⟩) (hgr.block b (h.prl b o ho) (fun e => hno b e.symm o ho))
 have hbel : Under (fun g => (β i).ownBlock = some g) w w' := ⟨hgr.os, hgr.tape, hgr.output, hgr.size, fun k hk hn => hgr.block k hk (fun e => hn e.symm)⟩
 refine ⟨⟨h.below.then hbel (fun g hg => h.own i _ g hf (by rw [hbb]; exact hg)), fun b o ho => (hs b o (h.pr0 b o ho)).trans (h.st0 b o ho), h.pr0, h.prn, fun b o ho => Nat.lt_of_lt_of_le (h.prl b o ho) hgr.size, h.size, h.defers, fun j => (h.slots j).keep hs (fun _ _ h => h), fun j oj hj => ?_, fun m j om oj g h1 h2 => h.apart m j om oj g (dN h1).2 (dN h2).2, fun m om g h1 => h.own m om g (dN h1).2, h.keeps, h.fresh⟩, hs⟩
 obtain ⟨h1, h2⟩ := dN hj
 have hji : j ≠ i := fun e => h1 (by simp [e])
 exact (h.objs j oj h2).keep2 hs (fun _ _ h => h) (fun _ _ _ h => h) (fun g hg => hgr.block g ((h.objs j oj h2).blkLt g hg).2 (fun e => hji (h.apart j i oj _ g h2 hf hg (by rw [hbb]; exact e.symm))))
theorem aRa (h : Good E sl ob a w Pr β κ) {o : Oper} {i k e es : Nat} {l l2 : List (List D)} (hf : find ob i = some (.vec e es k l)) (hd : d < E.n)
  (hrun : ∀ xs, w.ownsRow 0 e es (β i) l.length xs → ∃ v' w' news, (execOp a.eval o).run Tryz.prog w = .ok (.value v') w' ∧ App w (β i) e es l.length xs l2 Pr v' w' news) :
  ∃ v' w' β' κ', (execOp a.eval o).run Tryz.prog w = .ok (.value v') w' ∧ Good E ((d, .row i (k + 1)) :: sl) ((i, .vec e es (k + 1) (l ++ l2)) :: dropK [i] ob) (a.put (some d) v') w' Pr β' κ' ∧ Stays Pr w w' ∧
   (∀ j, j ≠ i → β' j = β j) ∧ (∀ j, j ≠ i → κ' j = κ j) ∧ κ i < κ' i ∧ (∃ A n c, β i = .slice A n c) ∧ w.grownBy w' (β i).ownBlock := by
 obtain ⟨hκ, xs, hown, hls, hrp, hno⟩ := h.objs i _ hf
 obtain ⟨v', w', news, hrun2, happ⟩ := hrun xs hown
 have hbs := tV hown
 have hvs := tV happ.own
 have hbb := vV hown
 have hvb := vV happ.own
 obtain ⟨hG, hs⟩ := h.grown hf happ.grow
 have hxl := hown.1
 have hv := hG.verup (r := i) (k := k) (v' := v') (o' := .vec e es (k + 1) (l ++ l2)) hκ hbs (fun g hg => ?_) (fun j oj g h1 hji h2 h3 => ?_) ⟨fA _ _ _, xs ++ news, ?_, ?_, fun q m z u h3 h4 => ?_, fun g hg o ho => ?_⟩
 ·refine ⟨v', w', _, _, hrun2, hv.put hd ?_, hs, cL _ _ _, fM _ _ _, by rw [fA, hκ]; omega, hbs, happ.grow⟩
  exact .row i (k + 1) v' hvs (by rw [fA]; exact Nat.le_refl _) (fun _ => (eL _ _ _).symm)
 ·rw [hvb] at hg
  by_cases hbi : (β i).ownBlock = some g
  ·exact h.own i _ g hf (by rw [hbb]; exact hbi)
  ·refine .inr ?_
   by_cases hlt : g < w.heap.size
   ·exact absurd hg (happ.off g hlt hbi)
   ·have := h.below.size
    omega
 ·rw [hvb] at h3
  have h4 := (dN h1).2
  have hlt := ((h.objs j oj h4).blkLt g h2).2
  exact happ.off g hlt (fun hbi => hji (h.apart j i oj _ g h4 hf h2 (by rw [hbb]; exact hbi))) h3
 ·rw [eL, List.length_append]
  exact happ.own
 ·intro z hz
  rcases List.mem_append.1 hz with hz | hz
  ·exact hls z hz
  ·exact happ.len2 z hz
 ·by_cases hq : q < l.length
  ·rw [List.getElem?_append_left hq] at h3
   obtain ⟨u', hu', hr'⟩ := hrp q m z u h3 h4
   have hlt := (List.getElem?_eq_some_iff.1 hu').1
   exact ⟨u', by rw [List.getElem?_append_left hlt]; exact hu', hr'.keep hs (fun _ _ h => h)⟩
  ·rw [List.getElem?_append_right zb] at h3
   obtain ⟨u', hu', hr'⟩ := happ.rep (q - l.length) m z u h3 h4
   refine ⟨u', ?_, hr'.keep hs (fun _ _ h => h)⟩
   have e5 : q * es + m = xs.length + ((q - l.length) * es + m) := by
    rw [hxl, ← Nat.add_assoc, ← Nat.add_mul, show l.length + (q - l.length) = q by omega]
   rw [e5, List.getElem?_append_right zb, Nat.add_sub_cancel_left]
   exact hu'
 ·rw [eL] at hg
  by_cases hbi : (β i).ownBlock = some g
  ·exact hno g hbi o ho
  ·exact happ.off g (h.prl g o ho) hbi hg
theorem aRb (h : Good E sl ob a w Pr β κ) {i k e es eb : Nat} {ez : Value} {l l2 : List (List D)} (hx : ev sl x = .row i k) (hf : find ob i = some (.vec e es k l)) (hy : ∃ Pr', RepD w Pr' (a.eval y) (.list es l2) ∧ (Pr' = Pr ∨ valsOnly l2)) (hT : ti t = .sl e es eb ez)
  (h1 : ∀ q ∈ l2, ∀ z ∈ q, D.one z = true) (hes : 0 < es) (hb : (l.length + l2.length) * eb ≤ 140737488355328) (hm : l.length + l2.length ≤ 140737488355328) : ∀ xs, w.ownsRow 0 e es (β i) l.length xs → ∃ v' w' news, (execOp a.eval ⟨some d, .call { callee := .builtin .append, args := #[x, y], argTypes := #[t, t] }, T, p, af, g⟩).run Tryz.prog w = .ok (.value v') w' ∧ App w (β i) e es l.length xs l2 Pr v' w' news := fun xs hown => by
 obtain ⟨hκ, _⟩ := h.objs i _ hf
 have hxv : a.eval x = β i := by
  have := bO h x
  rw [hx] at this
  exact this.row_inv hκ.symm
 obtain ⟨Pr', hyv, hpv⟩ := hy
 obtain ⟨v', w', news, hrun, happ⟩ := aQi (T := T) hown hyv hT h1 hes hb hm
 refine ⟨v', w', news, by simp [execOp, resolve, invoke, builtin, hxv, hrun], ?_⟩
 rcases hpv with rfl | hpv
 ·exact happ
 ·exact happ.val hpv
theorem gA {i k e es eb : Nat} {ez : Value} {l l2 : List (List D)} {A : Array TypeId} (hx : ev sl x = .row i k) (hf : find ob i = some (.vec e es k l)) (hy : ToD ob (ev sl y) (.list es l2)) (hA : A = #[t, t]) (hT : ti t = .sl e es eb ez)
  (h1 : ∀ q ∈ l2, ∀ z ∈ q, D.one z = true) (hes : 0 < es) (hb : (l.length + l2.length) * eb ≤ 140737488355328) (hm : l.length + l2.length ≤ 140737488355328) (hd : d < E.n) :
  Step E ⟨some d, .call { callee := .builtin .append, args := #[x, y], argTypes := A }, T, p, af, g⟩ sl ob ((d, .row i (k + 1)) :: sl) ((i, .vec e es (k + 1) (l ++ l2)) :: dropK [i] ob) := by
 subst hA
 rintro a w ⟨Pr, β, κ, h⟩ K Q hK
 obtain ⟨v', w', β', κ', hrun2, hG, _⟩ := aRa h hf hd (aRb (d := d) (T := T) (p := p) (af := af) (g := g) h hx hf ⟨Pr, eZ h hy _ (bO h y), .inl rfl⟩ hT h1 hes hb hm)
 unfold Oper.wp
 rw [hrun2, Oper.upon_value]
 exact hK _ _ ⟨Pr, β', κ', hG⟩
theorem iR {ops : Array Oper} {rest : List Oper} {Q : Exit → Act → World → Prop} (r : Nat) {e s k : Nat} (hf : find ob r = some (.row e s k [])) (h : AL E ops rest Q sl ((r, .vec e s k []) :: ob)) : AL E ops rest Q sl ob := ⟨fun a w ⟨_, _, _, hg⟩ => h.run a w ⟨_, _, _, hg.unrow hf⟩⟩
theorem gY {i k s e n : Nat} {l : List (List D)} {t0 : TypeId} {A : Array TypeId} (hx : ev sl x = .row i k) (hf : find ob i = some (.vec e s k l)) (hA : A = #[t0]) (hT : ∃ e es eb ez, ti t0 = .sl e es eb ez) (hn : l.length = n) :
  Y E ⟨dd, .call { callee := .builtin .len, args := #[x], argTypes := A }, T, p, af, g⟩ sl ob (.d (.val (.int .i64 n))) := fun a w Pr β κ h => by
 subst hA hn
 obtain ⟨e, es, eb, ez, hT⟩ := hT
 obtain ⟨_, _, _, hu, _⟩ := mV hT
 have hxv : a.eval x = β i := by
  have := bO h x
  rw [hx] at this
  exact this.row_inv (h.objs i _ hf).1.symm
 have hrep := aVb h hf
 rw [← hxv] at hrep
 obtain ⟨A, c, hv, _⟩ := qA hrep
 exact ⟨_, .d _ _ (.val _), fun w' _ => by simp [execOp, hv, resolve, invoke, builtin, Builtin.len_, run_underlying hu, goInt]⟩
theorem wF {ops : Array Oper} {rest : List Oper} {Q : Exit → Act → World → Prop} {f : FuncId} {caps : List V} {args : List V} {ob1 : Objs} {new : List Nat} {Post : V → Objs → Prop} {zs : List V} {xs : List Operand} {ats : Array TypeId} (l : List (Nat × Nat)) (hc : ObC f (args ++ caps) ob1 new Post) (hf : ev sl c = .clo (.func f) zs) (hz : zs = V.renL l caps) (hE : Fine E) (hd : d < E.n) (ha : ArgsV l sl ob xs args)
  (hL : Lends E sl ob l ob1 new)
  (hK : ∀ x ob', Post x ob' → ∀ y ob2, x.ren l = y → renO l ob' ++ dropK ((keys ob1).map (rn l)) ob = ob2 → AL E ops rest Q ((d, y) :: sl) ob2) : AL E ops (⟨some d, .call { callee := .value c, args := xs.toArray, argTypes := ats }, ty, p, af, none⟩ :: rest) Q sl ob := by
 refine rA hc hE hd hL (fun a w Pr β κ h => ?_) hK
 obtain ⟨hlen, hr⟩ := ha.rep h
 have hv := bO h c
 rw [hf] at hv
 generalize hcv : a.eval c = v at hv
 cases hv with
 | clo _ cs _ hl hd =>
  subst hz
  refine ⟨xs.map a.eval ++ cs, by rw [List.length_append, List.length_append, hlen, hl, eU], fun i v x h1 h2 => ?_, ?_⟩
  ·by_cases hi : i < (xs.map a.eval).length
   ·rw [List.getElem?_append_left hi] at h1
    rw [List.getElem?_append_left zb] at h2
    exact hr i v x h1 h2
   ·rw [List.getElem?_append_right zb] at h1
    rw [List.getElem?_append_right zb, ← hlen] at h2
    exact yA (hd _ v (x.ren l) h1 (by rw [lW, h2]; rfl)) x rfl
  ·simp [execOp, resolve, Deferred.ofValue, invoke, hcv, dZ hc.1]
theorem aDf {ops : Array Oper} {rest : List Oper} {Q : Exit → Act → World → Prop} {f : FuncId} {a1 : V} {caps : List V} {ob1 : Objs} {new : List Nat} {Post : V → Objs → Prop} {zs : List V} {xs : List Operand} {ats : Array TypeId} (l : List (Nat × Nat)) (hc : ObC f (a1 :: caps) ob1 new Post) (hf : ev sl c = .clo (.func f) zs) (hz : zs = V.renL l caps) (hE : Fine E) (hd : d < E.n) (ha : ArgsV l sl ob xs [a1])
  (hL : Lends E sl ob l ob1 new)
  (hK : ∀ x ob', Post x ob' → ∀ y ob2, x.ren l = y → renO l ob' ++ dropK ((keys ob1).map (rn l)) ob = ob2 → AL E ops rest Q ((d, y) :: sl) ob2) : AL E ops (⟨some d, .call { callee := .value c, args := xs.toArray, argTypes := ats }, ty, p, af, none⟩ :: rest) Q sl ob :=
 wF (args := [a1]) l hc hf hz hE hd ha hL hK
theorem eC {f : FuncId} {xs : Array Operand} {zs : List V} (hx : xs.toList.map (ev sl) = zs) : Y E ⟨dd, .makeFunc (.func f) #[] xs, T, p, af, g⟩ sl ob (.clo (.func f) zs) := fun a w Pr β κ hg => by
 subst hx
 refine ⟨.func (.func f) #[] (xs.map a.eval), ?_, fun w' _ => by simp [execOp, Instr.makeFunc, Sem.run]⟩
 have : (xs.map a.eval) = (xs.toList.map a.eval).toArray := by apply Array.ext'; rw [Array.toList_map]
 rw [this]
 refine .clo _ _ _ (by rw [List.length_map, List.length_map]) (fun i v d h1 h2 => ?_)
 rw [List.getElem?_map, Option.map_eq_some_iff] at h1 h2
 obtain ⟨u, h3, rfl⟩ := h1
 obtain ⟨u', h4, rfl⟩ := h2
 rw [h3] at h4
 cases h4
 exact bO hg _
end
section
variable {E : Entry} {ops : List Oper} {Q : Exit → Act → World → Prop} {sl sl0 : Slots} {ob ob0 : Objs} {pl : List (Nat × Bool × Oper)} {i : Nat} {tail : (World → Prop) → Act → World → Prop} {g : Option (Nat × Bool)} {p : String} {af : Array Edge} {ty t T : TypeId} {d n : Nat} {op : Op}
end
end
section
open Go.RowKit Go.ChangeMaps
theorem aIm (i : Nat) : ∀ l : List D, V.hasL i (l.map V.d) = false
 | [] => rfl
 | x :: l => by simp [V.hasL, V.has, aIm i l]
theorem pR (ks : List Nat) : ∀ (a b : List V), V.withinL ks (a ++ b) = (V.withinL ks a && V.withinL ks b)
 | [], b => rfl
 | x :: a, b => by simp [V.withinL, pR ks a b, Bool.and_assoc]
theorem pS (ks : List Nat) : ∀ m : Nat, V.withinL ks (List.replicate m .und) = true
 | 0 => rfl
 | m + 1 => by simp [List.replicate_succ, V.withinL, V.within, pS ks m]
theorem rG (ks : List Nat) : ∀ l : List D, V.withinL ks (l.map V.d) = true
 | [] => rfl
 | x :: l => by simp [V.withinL, V.within, rG ks l]
theorem aG (r : List (Nat × Nat)) : ∀ (a b : List V), V.renL r (a ++ b) = V.renL r a ++ V.renL r b
 | [], b => rfl
 | x :: a, b => by simp [V.renL, aG r a b]
theorem aH (r : List (Nat × Nat)) : ∀ m : Nat, V.renL r (List.replicate m .und) = List.replicate m .und
 | 0 => rfl
 | m + 1 => by simp [List.replicate_succ, V.renL, V.ren, aH r m]
theorem aL (r : List (Nat × Nat)) : ∀ l : List D, V.renL r (l.map V.d) = l.map V.d
 | [] => rfl
 | x :: l => by simp [V.renL, V.ren, aL r l]
section
variable {E : Entry} {sl : Slots} {ob : Objs} {a : Act} {w : World} {Pr : Prot} {β : Nat → Value} {κ : Nat → Nat}
variable {d : Nat} {dd : Option Nat} {t T ty kt et : TypeId} {p : String} {af : Array Edge} {g : Option (Nat × Bool)} {x y c : Operand} {z : D} {zv : Value}
end
section
variable {E : Entry} {ops : List Oper} {Q : Exit → Act → World → Prop} {sl sl0 : Slots} {ob ob0 : Objs} {pl : List (Nat × Bool × Oper)} {n : Nat} {tail : (World → Prop) → Act → World → Prop} {g : Option (Nat × Bool)} {p : String} {af : Array Edge} {ty t T kt et : TypeId} {d : Nat} {x y : Operand} {z : D} {zv : Value}
end
end
end Go.Proofs.YtaodngiigdbgeaaGreatDoor
