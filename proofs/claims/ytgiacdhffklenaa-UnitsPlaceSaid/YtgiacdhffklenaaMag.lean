/-
  Conditions: none.
-/
import Derived.Lib.BufferWrite
import Derived.Laws.StructEq
import Derived.Test.YtgiacdhffklenaaMaf
set_option maxHeartbeats 16000000
set_option maxRecDepth 20000
namespace Go.Proofs.Ytgiacdhffklenaa
section
open Go.RowKit
theorem rn1 (i j k : Nat) : rn [(i, j)] k = if k = i then j else k := by
 simp only [rn]
 by_cases h : k = i
 ·subst h
  rw [Nat.beq_refl, if_pos rfl]
  rfl
 ·rw [nbeq_ne h, if_neg h]
  rfl
def renS (l : List (Nat × Nat)) : Slots → Slots
 | [] => []
 | (k, v) :: r => (k, v.ren l) :: renS l r
theorem look_renS (l : List (Nat × Nat)) : ∀ (sl : Slots) (k : Nat), look (renS l sl) k = (look sl k).ren l
 | [], _ => rfl
 | (n, v) :: r, k => by
  simp only [renS]
  by_cases h : k = n
  ·subst h
   rw [look_eq, look_eq]
  ·rw [look_ne h, look_ne h]
   exact look_renS l r k
section
variable {w : World} {Pr : Prot} {β β' : Nat → Value} {κ κ' : Nat → Nat} {i j : Nat}
theorem has_ne {k : Nat} (h : Nat.beq j k = false) : k ≠ j := by
 rintro rfl
 rw [Nat.beq_refl] at h
 cases h
theorem RepV.ren1 {v : Value} {x : V} (h : RepV w Pr β κ v x) (hx : x.has j = false) (hb : ∀ k, k ≠ j → β' (rn [(i, j)] k) = β k) (hk : ∀ k, k ≠ j → κ' (rn [(i, j)] k) = κ k) : RepV w Pr β' κ' v (x.ren [(i, j)]) := by
 have sub : ∀ {cs : List Value} {xs : List V}, (∀ (m : Nat) (v : Value) (d : V), cs[m]? = some v → xs[m]? = some d → d.has j = false → RepV w Pr β' κ' v (d.ren [(i, j)])) → V.hasL j xs = false → ∀ (m : Nat) (v : Value) (d : V), cs[m]? = some v → (V.renL [(i, j)] xs)[m]? = some d → RepV w Pr β' κ' v d := by
  intro cs xs ih hw m v d h1 h2
  rw [renL_get, Option.map_eq_some_iff] at h2
  obtain ⟨y, h2, rfl⟩ := h2
  exact ih m v y h1 h2 (hasL_mem hw h2)
 induction h with
 | und v => exact .und v
 | d v z h => exact .d v z h
 | ep b p o z u hr => exact .ep b p o z u hr
 | box m o g h => exact .box _ o g ((hb m (has_ne hx)).trans h)
 | sl m o n c g h hc hm hz => exact .sl _ o n c g ((hb m (has_ne hx)).trans h) hc hm (by rw [hk m (has_ne hx)]; exact hz)
 | mp m g h => exact .mp _ g ((hb m (has_ne hx)).trans h)
 | row m k v hs hk' h => exact .row _ k v hs (by rw [hk m (has_ne hx)]; exact hk') (by rw [hk m (has_ne hx), hb m (has_ne hx)]; exact h)
 | agg cs xs hl hd ih => exact .agg cs _ (by rw [hl, renL_len]) (sub ih hx)
 | clo f cs xs hl hd ih => exact .clo f cs _ (by rw [hl, renL_len]) (sub ih hx)
 | mv f cs xs hl hd ih => exact .mv f cs _ (by rw [hl, renL_len]) (sub ih hx)
 | tup cs xs hl hd ih => exact .tup cs _ (by rw [hl, renL_len]) (sub ih hx)
theorem RepO.ren1 {B k : Nat} {o : O} (h : RepO w Pr B β κ k o) (hk0 : k ≠ j) (ho : o.has j = false) (hb : ∀ k, k ≠ j → β' (rn [(i, j)] k) = β k) (hk : ∀ k, k ≠ j → κ' (rn [(i, j)] k) = κ k) : RepO w Pr B β' κ' (rn [(i, j)] k) (o.ren [(i, j)]) := by
 cases o with
 | box T xs =>
  obtain ⟨g, cs, h1, h2, h3, h4, h5, h6⟩ := h
  refine ⟨g, cs, (hb k hk0).trans h1, h2, h3, by rw [h4, renL_len], fun m v x hm hx => ?_, h6⟩
  rw [renL_get, Option.map_eq_some_iff] at hx
  obtain ⟨y, h7, rfl⟩ := hx
  exact (h5 m v y hm h7).ren1 (hasL_mem ho h7) hb hk
 | row e s n r =>
  obtain ⟨h1, xs, h2, h3, h4, h5⟩ := h
  exact ⟨(hk k hk0).trans h1, xs, by rw [hb k hk0]; exact h2, h3, h4, by rw [hb k hk0]; exact h5⟩
 | vec e s n r =>
  obtain ⟨h1, xs, h2, h3, h4, h5⟩ := h
  exact ⟨(hk k hk0).trans h1, xs, by rw [hb k hk0]; exact h2, h3, h4, by rw [hb k hk0]; exact h5⟩
 | byt e n r =>
  obtain ⟨h1, g, cap, cur, fz, h2, h3⟩ := h
  exact ⟨(hk k hk0).trans h1, g, cap, cur, fz, (hb k hk0).trans h2, h3⟩
 | map T c r =>
  obtain ⟨g, es, h1, h2⟩ := h
  exact ⟨g, es, (hb k hk0).trans h1, h2⟩
 | iter v s n c =>
  obtain ⟨g, gm, h1, h2, h3, h4, h5⟩ := h
  exact ⟨g, gm, (hb k hk0).trans h1, h2, h3, h4.ren1 ho hb hk, h5⟩
end
theorem find_ren1 {i j : Nat} : ∀ {ob : Objs} {k : Nat} {o : O}, (∀ q ∈ ob, q.1 ≠ j) → find (renO [(i, j)] ob) k = some o → ∃ k' o', k' ≠ j ∧ k = rn [(i, j)] k' ∧ find ob k' = some o' ∧ o = o'.ren [(i, j)]
 | [], _, _, _, h => by cases h
 | (n, x) :: r, k, o, hne, h => by
  simp only [renO] at h
  by_cases hk : k = rn [(i, j)] n
  ·subst hk
   rw [find_eq] at h
   cases h
   exact ⟨n, x, hne (n, x) (by simp), rfl, find_eq n x r, rfl⟩
  ·rw [find_ne hk] at h
   obtain ⟨k', o', h1, h2, h3, h4⟩ := find_ren1 (fun q hq => hne q (by simp [hq])) h
   refine ⟨k', o', h1, h2, ?_, h4⟩
   rw [find_ne (fun e => hk (by rw [h2, e])), h3]
section
variable {E : Entry} {sl : Slots} {ob : Objs} {a : Act} {w : World} {Pr : Prot} {β : Nat → Value} {κ : Nat → Nat}
theorem Good.ren1 (h : Good E sl ob a w Pr β κ) {i j : Nat} (h0 : find E.ob0 j = none) (hno : noneOf j sl ob = true) : Inv E (renS [(i, j)] sl) (renO [(i, j)] (dropK [j] ob)) a w := by
 let β' : Nat → Value := fun k => if k = j then β i else β k
 let κ' : Nat → Nat := fun k => if k = j then κ i else κ k
 have hb : ∀ k, k ≠ j → β' (rn [(i, j)] k) = β k := fun k hk => by
  rw [rn1]
  by_cases hi : k = i
  ·rw [if_pos hi, hi]
   simp [β']
  ·rw [if_neg hi]
   simp [β', hk]
 have hk : ∀ k, k ≠ j → κ' (rn [(i, j)] k) = κ k := fun k hk => by
  rw [rn1]
  by_cases hi : k = i
  ·rw [if_pos hi, hi]
   simp [κ']
  ·rw [if_neg hi]
   simp [κ', hk]
 have hne : ∀ q ∈ dropK [j] ob, q.1 ≠ j := by
  have : ∀ (r : Objs), ∀ q ∈ dropK [j] r, q.1 ≠ j := by
   intro r
   induction r with
   | nil => intro q hq; cases hq
   | cons p r ih =>
    obtain ⟨n, x⟩ := p
    intro q hq
    simp only [dropK] at hq
    cases hm : mem [j] n with
    | true => rw [hm] at hq; exact ih q hq
    | false =>
     rw [hm] at hq
     simp only [cond_false, List.mem_cons] at hq
     rcases hq with rfl | hq
     ·intro e
      have e : n = j := e
      rw [e] at hm
      simp [mem] at hm
     ·exact ih q hq
  exact this ob
 have hfind : ∀ k o, find (renO [(i, j)] (dropK [j] ob)) k = some o → ∃ k' o', k' ≠ j ∧ k = rn [(i, j)] k' ∧ find ob k' = some o' ∧ o = o'.ren [(i, j)] := fun k o hko => by
  obtain ⟨k', o', h1, h2, h3, h4⟩ := find_ren1 hne hko
  exact ⟨k', o', h1, h2, (find_dropK h3).2, h4⟩
 refine ⟨Pr, β', κ', h.below, h.st0, h.pr0, h.prn, h.prl, h.size, h.defers, fun k => ?_, fun k o hko => ?_, fun k m ok om g h1 h2 h3 h4 => ?_, fun k o g h1 h2 => ?_, fun k o h1 => ?_, h.fresh⟩
 ·rw [look_renS]
  exact (h.slots k).ren1 (noneOf_slot hno k) hb hk
 ·obtain ⟨k', o', q1, rfl, q3, rfl⟩ := hfind k o hko
  exact (h.objs k' o' q3).ren1 q1 (noneOf_obj hno q3) hb hk
 ·obtain ⟨k', o1, q1, rfl, q3, _⟩ := hfind k ok h1
  obtain ⟨m', o2, q4, rfl, q6, _⟩ := hfind m om h2
  rw [hb k' q1] at h3
  rw [hb m' q4] at h4
  rw [h.apart k' m' o1 o2 g q3 q6 h3 h4]
 ·obtain ⟨k', o', q1, rfl, q3, _⟩ := hfind k o h1
  rw [hb k' q1] at h2
  exact h.own k' o' g q3 h2
 ·have hkj : k ≠ j := fun e => by rw [e, h0] at h1; cases h1
  have e1 : β' k = β k := by simp [β', hkj]
  have e2 : κ' k = κ k := by simp [κ', hkj]
  rw [e1, e2]
  exact h.keeps k o h1
theorem al_ren {ops : Array Oper} {rest : List Oper} {Q : Exit → Act → World → Prop} (i j : Nat) (h0 : find E.ob0 j = none) (hno : noneOf j sl ob = true) (h : AL E ops rest Q (renS [(i, j)] sl) (renO [(i, j)] (dropK [j] ob))) : AL E ops rest Q sl ob := ⟨fun a w ⟨_, _, _, hg⟩ => h.run a w (hg.ren1 h0 hno)⟩
theorem al_less {ops : Array Oper} {rest : List Oper} {Q : Exit → Act → World → Prop} {sl' : Slots} {ob' : Objs} (hs : ∀ p ∈ sl', look sl p.1 = p.2) (ho : ∀ p ∈ ob', find ob p.1 = some p.2) (h : AL E ops rest Q sl' ob') : AL E ops rest Q sl ob := ⟨fun a w hi => h.run a w (hi.less hs ho)⟩
theorem Good.nilcell (h : Good E sl ob a w Pr β κ) {i j s : Nat} {T : TypeId} {l : List V} (hf : find ob i = some (.box T l)) (hj : l[j]? = some (.d (.val (.slice none 0 0)))) : Good E sl ((i, .box T (l.set j (.d (.list s [])))) :: ob) a w Pr β κ := by
 have hcase : ∀ m om, find ((i, .box T (l.set j (.d (.list s [])))) :: ob) m = some om → (m = i ∧ om = .box T (l.set j (.d (.list s [])))) ∨ (m ≠ i ∧ find ob m = some om) := by
  intro m om hm
  by_cases hmi : m = i
  ·subst hmi
   rw [find_eq] at hm
   cases hm
   exact .inl ⟨rfl, rfl⟩
  ·rw [find_ne hmi] at hm
   exact .inr ⟨hmi, hm⟩
 have hkey : ∀ m om, find ((i, .box T (l.set j (.d (.list s [])))) :: ob) m = some om → ∃ om', find ob m = some om' := by
  intro m om hm
  rcases hcase m om hm with ⟨rfl, _⟩ | ⟨_, h1⟩
  ·exact ⟨_, hf⟩
  ·exact ⟨_, h1⟩
 refine ⟨h.below, h.st0, h.pr0, h.prn, h.prl, h.size, h.defers, h.slots, fun m om hm => ?_, fun m k om ok g h1 h2 => ?_, fun m om g h1 => ?_, h.keeps, h.fresh⟩
 ·rcases hcase m om hm with ⟨rfl, rfl⟩ | ⟨_, h1⟩
  ·obtain ⟨g, cs, q1, q2, q3, q4, q5, q6⟩ := h.objs m _ hf
   refine ⟨g, cs, q1, q2, q3, by simp [q4], fun n v x hn hx => ?_, q6⟩
   by_cases hnj : j = n
   ·subst hnj
    have hlt := (List.getElem?_eq_some_iff.1 hj).1
    rw [List.getElem?_set_self hlt] at hx
    cases hx
    have := (q5 j v _ hn hj).val_inv
    subst this
    exact .d _ _ (.nil none 0 s (Nat.zero_le _))
   ·rw [List.getElem?_set_ne hnj] at hx
    exact q5 n v x hn hx
  ·exact h.objs m om h1
 ·obtain ⟨o1, k1⟩ := hkey m om h1
  obtain ⟨o2, k2⟩ := hkey k ok h2
  exact h.apart m k o1 o2 g k1 k2
 ·obtain ⟨o1, k1⟩ := hkey m om h1
  exact h.own m o1 g k1
theorem aq_nilcell {x : Exit} {Q : Exit → Act → World → Prop} (i j s : Nat) {T : TypeId} {l l' : List V} (hf : find ob i = some (.box T l)) (hj : l[j]? = some (.d (.val (.slice none 0 0)))) (hl : l.set j (.d (.list s [])) = l') (h : AQ E x Q sl ((i, .box T l') :: ob)) : AQ E x Q sl ob := by
 subst hl
 exact ⟨fun a w ⟨_, _, _, hg⟩ => h.run a w ⟨_, _, _, hg.nilcell hf hj⟩⟩
end
end
section
open Go.RowKit
section
variable {E : Entry} {sl : Slots} {ob : Objs} {a : Act} {w : World} {Pr : Prot} {β : Nat → Value} {κ : Nat → Nat}
variable {d : Nat} {dd : Option Nat} {t T ty : TypeId} {p : String} {af : Array Edge} {g : Option (Nat × Bool)} {x y c : Operand}
def byteV (s : ByteArray) : List V := s.data.toList.map fun u => .d (.val (.int .u8 u.toNat))
end
end
section
open Go.RowKit
section
variable {E : Entry} {sl : Slots} {ob : Objs} {a : Act} {w : World} {Pr : Prot} {β : Nat → Value} {κ : Nat → Nat}
theorem Good.slot (h : Good E sl ob a w Pr β κ) {j : Nat} {x : V} (hx : RepV w Pr β κ (a.tmps.getD j undef) x) : Good E ((j, x) :: sl) ob a w Pr β κ := by
 refine ⟨h.below, h.st0, h.pr0, h.prn, h.prl, h.size, h.defers, fun i => ?_, h.objs, h.apart, h.own, h.keeps, h.fresh⟩
 by_cases hij : i = j
 ·subst hij
  rw [look_eq]
  exact hx
 ·rw [look_ne hij]
  exact h.slots i
theorem RepO.newer {B i r : Nat} {o : O} {β' : Nat → Value} {κ' : Nat → Nat} (h : RepO w Pr B β κ i o) (hi : i ≠ r) (hβ : ∀ j, j ≠ r → β' j = β j) (hκ : ∀ j, j ≠ r → κ' j = κ j) (hr : κ r < κ' r) (hb : ∃ A n c, β r = .slice A n c) : RepO w Pr B β' κ' i o := by
 cases o with
 | box T' lb =>
  obtain ⟨gg, cs, q1, q2, q3, q4, q5, q6⟩ := h
  exact ⟨gg, cs, (hβ i hi).trans q1, q2, q3, q4, fun m u z h3 h4 => (q5 m u z h3 h4).newer hβ hκ hr hb, q6⟩
 | row e' s' k' l' =>
  obtain ⟨q1, q2, q3, q4, q5, q6⟩ := h
  exact ⟨(hκ i hi).trans q1, q2, by rw [hβ i hi]; exact q3, q4, q5, by rw [hβ i hi]; exact q6⟩
 | vec e' s' k' l' =>
  obtain ⟨q1, q2, q3, q4, q5, q6⟩ := h
  exact ⟨(hκ i hi).trans q1, q2, by rw [hβ i hi]; exact q3, q4, q5, by rw [hβ i hi]; exact q6⟩
 | byt e' k' l' =>
  obtain ⟨q1, g, cap, cur, fz, q2, q3⟩ := h
  exact ⟨(hκ i hi).trans q1, g, cap, cur, fz, (hβ i hi).trans q2, q3⟩
 | map T' c r =>
  obtain ⟨g, es, q1, q2⟩ := h
  exact ⟨g, es, (hβ i hi).trans q1, q2⟩
 | iter v s n c =>
  obtain ⟨g, gm, q1, q2, q3, q4, q5⟩ := h
  exact ⟨g, gm, (hβ i hi).trans q1, q2, q3, q4.newer hβ hκ hr hb, q5⟩
end
end
section
open Go.RowKit
section
variable {E : Entry} {sl : Slots} {ob : Objs} {a : Act} {w : World} {Pr : Prot} {β : Nat → Value} {κ : Nat → Nat}
variable {d : Nat} {dd : Option Nat} {t T ty : TypeId} {p : String} {af : Array Edge} {g : Option (Nat × Bool)} {x y c : Operand} {m : Int}
def valsOnly (l : List (List D)) : Prop := ∀ q ∈ l, ∀ z ∈ q, ∃ v, z = D.val v
theorem App.val {v0 v' : Value} {e es n0 : Nat} {l2 : List (List D)} {xs news : List Value} {w' : World} {Pr' : Prot} (h : App w v0 e es n0 xs l2 Pr v' w' news) (hv : valsOnly l2) : App w v0 e es n0 xs l2 Pr' v' w' news := by
 refine ⟨h.own, h.grow, h.off, h.keep, h.len, h.len2, fun p j q z h1 h2 => ?_⟩
 obtain ⟨u, hu, hr⟩ := h.rep p j q z h1 h2
 obtain ⟨v, rfl⟩ := hv q (List.mem_of_getElem? h1) z (List.mem_of_getElem? h2)
 cases hr
 exact ⟨_, hu, .val _⟩
theorem al_clocall {ops : Array Oper} {rest : List Oper} {Q : Exit → Act → World → Prop} {f : FuncId} {caps : List V} {args : List V} {ob1 : Objs} {new : List Nat} {Post : V → Objs → Prop} {zs : List V} {xs : List Operand} {ats : Array TypeId} (l : List (Nat × Nat)) (hc : ObC f (args ++ caps) ob1 new Post) (hf : ev sl c = .clo (.func f) zs) (hz : zs = V.renL l caps) (hE : Fine E) (hd : d < E.n) (ha : ArgsV l sl ob xs args)
  (hL : Lends E sl ob l ob1 new)
  (hK : ∀ x ob', Post x ob' → ∀ y ob2, x.ren l = y → renO l ob' ++ dropK ((keys ob1).map (rn l)) ob = ob2 → AL E ops rest Q ((d, y) :: sl) ob2) : AL E ops (⟨some d, .call { callee := .value c, args := xs.toArray, argTypes := ats }, ty, p, af, none⟩ :: rest) Q sl ob := by
 refine ocall_core hc hE hd hL (fun a w Pr β κ h => ?_) hK
 obtain ⟨hlen, hr⟩ := ha.rep h
 have hv := good_ev h c
 rw [hf] at hv
 generalize hcv : a.eval c = v at hv
 cases hv with
 | clo _ cs _ hl hd =>
  subst hz
  refine ⟨xs.map a.eval ++ cs, by rw [List.length_append, List.length_append, hlen, hl, renL_len], fun i v x h1 h2 => ?_, ?_⟩
  ·by_cases hi : i < (xs.map a.eval).length
   ·rw [List.getElem?_append_left hi] at h1
    rw [List.getElem?_append_left (by omega)] at h2
    exact hr i v x h1 h2
   ·rw [List.getElem?_append_right (by omega)] at h1
    rw [List.getElem?_append_right (by omega), ← hlen] at h2
    exact rep_in (hd _ v (x.ren l) h1 (by rw [renL_get, h2]; rfl)) x rfl
  ·simp [execOp, resolve, Deferred.ofValue, invoke, hcv, run_callFunc hc.1]
theorem al_clocall1 {ops : Array Oper} {rest : List Oper} {Q : Exit → Act → World → Prop} {f : FuncId} {a1 : V} {caps : List V} {ob1 : Objs} {new : List Nat} {Post : V → Objs → Prop} {zs : List V} {xs : List Operand} {ats : Array TypeId} (l : List (Nat × Nat)) (hc : ObC f (a1 :: caps) ob1 new Post) (hf : ev sl c = .clo (.func f) zs) (hz : zs = V.renL l caps) (hE : Fine E) (hd : d < E.n) (ha : ArgsV l sl ob xs [a1])
  (hL : Lends E sl ob l ob1 new)
  (hK : ∀ x ob', Post x ob' → ∀ y ob2, x.ren l = y → renO l ob' ++ dropK ((keys ob1).map (rn l)) ob = ob2 → AL E ops rest Q ((d, y) :: sl) ob2) : AL E ops (⟨some d, .call { callee := .value c, args := xs.toArray, argTypes := ats }, ty, p, af, none⟩ :: rest) Q sl ob :=
 al_clocall (args := [a1]) l hc hf hz hE hd ha hL hK
theorem y_clo {f : FuncId} {xs : Array Operand} {zs : List V} (hx : xs.toList.map (ev sl) = zs) : Y E ⟨dd, .makeFunc (.func f) #[] xs, T, p, af, g⟩ sl ob (.clo (.func f) zs) := fun a w Pr β κ hg => by
 subst hx
 refine ⟨.func (.func f) #[] (xs.map a.eval), ?_, fun w' _ => by simp [execOp, Instr.makeFunc, Sem.run]⟩
 have : (xs.map a.eval) = (xs.toList.map a.eval).toArray := by apply Array.ext'; rw [Array.toList_map]
 rw [this]
 refine .clo _ _ _ (by rw [List.length_map, List.length_map]) (fun i v d h1 h2 => ?_)
 rw [List.getElem?_map, Option.map_eq_some_iff] at h1 h2
 obtain ⟨u, h3, rfl⟩ := h1
 obtain ⟨u', h4, rfl⟩ := h2
 rw [h3] at h4
 cases h4
 exact good_ev hg _
end
section
variable {E : Entry} {ops : List Oper} {Q : Exit → Act → World → Prop} {sl sl0 : Slots} {ob ob0 : Objs} {pl : List (Nat × Bool × Oper)} {i : Nat} {tail : (World → Prop) → Act → World → Prop} {g : Option (Nat × Bool)} {p : String} {af : Array Edge} {ty t T : TypeId} {d n : Nat} {op : Op}
end
end
section
open Go.RowKit Go.ChangeMaps
theorem withinL_app (ks : List Nat) : ∀ (a b : List V), V.withinL ks (a ++ b) = (V.withinL ks a && V.withinL ks b)
 | [], b => rfl
 | x :: a, b => by simp [V.withinL, withinL_app ks a b, Bool.and_assoc]
theorem withinL_und (ks : List Nat) : ∀ m : Nat, V.withinL ks (List.replicate m .und) = true
 | 0 => rfl
 | m + 1 => by simp [List.replicate_succ, V.withinL, V.within, withinL_und ks m]
theorem withinL_ds (ks : List Nat) : ∀ l : List D, V.withinL ks (l.map V.d) = true
 | [] => rfl
 | x :: l => by simp [V.withinL, V.within, withinL_ds ks l]
theorem renL_app (r : List (Nat × Nat)) : ∀ (a b : List V), V.renL r (a ++ b) = V.renL r a ++ V.renL r b
 | [], b => rfl
 | x :: a, b => by simp [V.renL, renL_app r a b]
theorem renL_und (r : List (Nat × Nat)) : ∀ m : Nat, V.renL r (List.replicate m .und) = List.replicate m .und
 | 0 => rfl
 | m + 1 => by simp [List.replicate_succ, V.renL, V.ren, renL_und r m]
theorem renL_ds (r : List (Nat × Nat)) : ∀ l : List D, V.renL r (l.map V.d) = l.map V.d
 | [] => rfl
 | x :: l => by simp [V.renL, V.ren, renL_ds r l]
section
variable {E : Entry} {sl : Slots} {ob : Objs} {a : Act} {w : World} {Pr : Prot} {β : Nat → Value} {κ : Nat → Nat}
variable {d : Nat} {dd : Option Nat} {t T ty kt et : TypeId} {p : String} {af : Array Edge} {g : Option (Nat × Bool)} {x y c : Operand} {z : D} {zv : Value}
end
section
variable {E : Entry} {ops : List Oper} {Q : Exit → Act → World → Prop} {sl sl0 : Slots} {ob ob0 : Objs} {pl : List (Nat × Bool × Oper)} {n : Nat} {tail : (World → Prop) → Act → World → Prop} {g : Option (Nat × Bool)} {p : String} {af : Array Edge} {ty t T kt et : TypeId} {d : Nat} {x y : Operand} {z : D} {zv : Value}
end
end
section
open Go.RowKit
section
variable {E : Entry} {sl : Slots} {ob : Objs} {d : Option Nat} {t T ty : TypeId} {p : String} {af : Array Edge} {g : Option (Nat × Bool)} {x y : Operand} {b c : Bool}
theorem y_beql (hx : ev sl x = .d (.val (.bool b))) (hy : ev sl y = .d (.val (.bool c))) (ht : Try.prog.underlying t = some .bool) : Y E ⟨d, .binOp .eql t x y ty, T, p, af, g⟩ sl ob (.d (.val (.bool (b == c)))) := y_bin' hx hy rfl fun w => by
 have h := run_equalIn_bool' w 9999 t b c ht
 simp only [binOp, Op.equal, Sem.run_bind]
 rw [show Op.maxDepth = 9999 + 1 from rfl, h]
 rfl
theorem y_bneq (hx : ev sl x = .d (.val (.bool b))) (hy : ev sl y = .d (.val (.bool c))) (ht : Try.prog.underlying t = some .bool) : Y E ⟨d, .binOp .neq t x y ty, T, p, af, g⟩ sl ob (.d (.val (.bool (b != c)))) := y_bin' hx hy rfl fun w => by
 have h := run_equalIn_bool' w 9999 t b c ht
 simp only [binOp, Op.equal, Sem.run_bind]
 rw [show Op.maxDepth = 9999 + 1 from rfl, h]
 rfl
end
end
end Go.Proofs.Ytgiacdhffklenaa
