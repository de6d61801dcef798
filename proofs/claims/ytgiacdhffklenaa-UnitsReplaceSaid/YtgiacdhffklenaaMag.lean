/-
  Conditions: none.
-/
import Derived.Lib.BufferWrite
import Derived.Laws.StructEq
import Derived.Test.YtgiacdhffklenaaMaf
set_option maxHeartbeats 16000000
set_option maxRecDepth 20000
namespace Go.Proofs.Ytgiacdhffklenaa
section
open Go.RowKit
theorem rn1 (i j k : Nat) : rn [(i, j)] k = if k = i then j else k := by
 simp only [rn]
 by_cases h : k = i
 ·subst h
  rw [Nat.beq_refl, if_pos rfl]
  rfl
 ·rw [nbeq_ne h, if_neg h]
  rfl
def renS (l : List (Nat × Nat)) : Slots → Slots
 | [] => []
 | (k, v) :: r => (k, v.ren l) :: renS l r
theorem look_renS (l : List (Nat × Nat)) : ∀ (sl : Slots) (k : Nat), look (renS l sl) k = (look sl k).ren l
 | [], _ => rfl
 | (n, v) :: r, k => by
  simp only [renS]
  by_cases h : k = n
  ·subst h
   rw [look_eq, look_eq]
  ·rw [look_ne h, look_ne h]
   exact look_renS l r k
section
variable {w : World} {Pr : Prot} {β β' : Nat → Value} {κ κ' : Nat → Nat} {i j : Nat}
theorem has_ne {k : Nat} (h : Nat.beq j k = false) : k ≠ j := by
 rintro rfl
 rw [Nat.beq_refl] at h
 cases h
theorem RepV.ren1 {v : Value} {x : V} (h : RepV w Pr β κ v x) (hx : x.has j = false) (hb : ∀ k, k ≠ j → β' (rn [(i, j)] k) = β k) (hk : ∀ k, k ≠ j → κ' (rn [(i, j)] k) = κ k) : RepV w Pr β' κ' v (x.ren [(i, j)]) := by
 have sub : ∀ {cs : List Value} {xs : List V}, (∀ (m : Nat) (v : Value) (d : V), cs[m]? = some v → xs[m]? = some d → d.has j = false → RepV w Pr β' κ' v (d.ren [(i, j)])) → V.hasL j xs = false → ∀ (m : Nat) (v : Value) (d : V), cs[m]? = some v → (V.renL [(i, j)] xs)[m]? = some d → RepV w Pr β' κ' v d := by
  intro cs xs ih hw m v d h1 h2
  rw [renL_get, Option.map_eq_some_iff] at h2
  obtain ⟨y, h2, rfl⟩ := h2
  exact ih m v y h1 h2 (hasL_mem hw h2)
 induction h with
 | und v => exact .und v
 | d v z h => exact .d v z h
 | ep b p o z u hr => exact .ep b p o z u hr
 | box m o g h => exact .box _ o g ((hb m (has_ne hx)).trans h)
 | sl m o n c g h hc hm hz => exact .sl _ o n c g ((hb m (has_ne hx)).trans h) hc hm (by rw [hk m (has_ne hx)]; exact hz)
 | mp m g h => exact .mp _ g ((hb m (has_ne hx)).trans h)
 | row m k v hs hk' h => exact .row _ k v hs (by rw [hk m (has_ne hx)]; exact hk') (by rw [hk m (has_ne hx), hb m (has_ne hx)]; exact h)
 | agg cs xs hl hd ih => exact .agg cs _ (by rw [hl, renL_len]) (sub ih hx)
 | clo f cs xs hl hd ih => exact .clo f cs _ (by rw [hl, renL_len]) (sub ih hx)
 | mv f cs xs hl hd ih => exact .mv f cs _ (by rw [hl, renL_len]) (sub ih hx)
 | tup cs xs hl hd ih => exact .tup cs _ (by rw [hl, renL_len]) (sub ih hx)
theorem RepO.ren1 {B k : Nat} {o : O} (h : RepO w Pr B β κ k o) (hk0 : k ≠ j) (ho : o.has j = false) (hb : ∀ k, k ≠ j → β' (rn [(i, j)] k) = β k) (hk : ∀ k, k ≠ j → κ' (rn [(i, j)] k) = κ k) : RepO w Pr B β' κ' (rn [(i, j)] k) (o.ren [(i, j)]) := by
 cases o with
 | box T xs =>
  obtain ⟨g, cs, h1, h2, h3, h4, h5, h6⟩ := h
  refine ⟨g, cs, (hb k hk0).trans h1, h2, h3, by rw [h4, renL_len], fun m v x hm hx => ?_, h6⟩
  rw [renL_get, Option.map_eq_some_iff] at hx
  obtain ⟨y, h7, rfl⟩ := hx
  exact (h5 m v y hm h7).ren1 (hasL_mem ho h7) hb hk
 | row e s n r =>
  obtain ⟨h1, xs, h2, h3, h4, h5⟩ := h
  exact ⟨(hk k hk0).trans h1, xs, by rw [hb k hk0]; exact h2, h3, h4, by rw [hb k hk0]; exact h5⟩
 | vec e s n r =>
  obtain ⟨h1, xs, h2, h3, h4, h5⟩ := h
  exact ⟨(hk k hk0).trans h1, xs, by rw [hb k hk0]; exact h2, h3, h4, by rw [hb k hk0]; exact h5⟩
 | byt e n r =>
  obtain ⟨h1, g, cap, cur, fz, h2, h3⟩ := h
  exact ⟨(hk k hk0).trans h1, g, cap, cur, fz, (hb k hk0).trans h2, h3⟩
 | map T c r =>
  obtain ⟨g, es, h1, h2⟩ := h
  exact ⟨g, es, (hb k hk0).trans h1, h2⟩
 | iter v s n c =>
  obtain ⟨g, gm, h1, h2, h3, h4, h5⟩ := h
  exact ⟨g, gm, (hb k hk0).trans h1, h2, h3, h4.ren1 ho hb hk, h5⟩
end
theorem find_ren1 {i j : Nat} : ∀ {ob : Objs} {k : Nat} {o : O}, (∀ q ∈ ob, q.1 ≠ j) → find (renO [(i, j)] ob) k = some o → ∃ k' o', k' ≠ j ∧ k = rn [(i, j)] k' ∧ find ob k' = some o' ∧ o = o'.ren [(i, j)]
 | [], _, _, _, h => by cases h
 | (n, x) :: r, k, o, hne, h => by
  simp only [renO] at h
  by_cases hk : k = rn [(i, j)] n
  ·subst hk
   rw [find_eq] at h
   cases h
   exact ⟨n, x, hne (n, x) (by simp), rfl, find_eq n x r, rfl⟩
  ·rw [find_ne hk] at h
   obtain ⟨k', o', h1, h2, h3, h4⟩ := find_ren1 (fun q hq => hne q (by simp [hq])) h
   refine ⟨k', o', h1, h2, ?_, h4⟩
   rw [find_ne (fun e => hk (by rw [h2, e])), h3]
section
variable {E : Entry} {sl : Slots} {ob : Objs} {a : Act} {w : World} {Pr : Prot} {β : Nat → Value} {κ : Nat → Nat}
theorem Good.ren1 (h : Good E sl ob a w Pr β κ) {i j : Nat} (h0 : find E.ob0 j = none) (hno : noneOf j sl ob = true) : Inv E (renS [(i, j)] sl) (renO [(i, j)] (dropK [j] ob)) a w := by
 let β' : Nat → Value := fun k => if k = j then β i else β k
 let κ' : Nat → Nat := fun k => if k = j then κ i else κ k
 have hb : ∀ k, k ≠ j → β' (rn [(i, j)] k) = β k := fun k hk => by
  rw [rn1]
  by_cases hi : k = i
  ·rw [if_pos hi, hi]
   simp [β']
  ·rw [if_neg hi]
   simp [β', hk]
 have hk : ∀ k, k ≠ j → κ' (rn [(i, j)] k) = κ k := fun k hk => by
  rw [rn1]
  by_cases hi : k = i
  ·rw [if_pos hi, hi]
   simp [κ']
  ·rw [if_neg hi]
   simp [κ', hk]
 have hne : ∀ q ∈ dropK [j] ob, q.1 ≠ j := by
  have : ∀ (r : Objs), ∀ q ∈ dropK [j] r, q.1 ≠ j := by
   intro r
   induction r with
   | nil => intro q hq; cases hq
   | cons p r ih =>
    obtain ⟨n, x⟩ := p
    intro q hq
    simp only [dropK] at hq
    cases hm : mem [j] n with
    | true => rw [hm] at hq; exact ih q hq
    | false =>
     rw [hm] at hq
     simp only [cond_false, List.mem_cons] at hq
     rcases hq with rfl | hq
     ·intro e
      have e : n = j := e
      rw [e] at hm
      simp [mem] at hm
     ·exact ih q hq
  exact this ob
 have hfind : ∀ k o, find (renO [(i, j)] (dropK [j] ob)) k = some o → ∃ k' o', k' ≠ j ∧ k = rn [(i, j)] k' ∧ find ob k' = some o' ∧ o = o'.ren [(i, j)] := fun k o hko => by
  obtain ⟨k', o', h1, h2, h3, h4⟩ := find_ren1 hne hko
  exact ⟨k', o', h1, h2, (find_dropK h3).2, h4⟩
 refine ⟨Pr, β', κ', h.below, h.st0, h.pr0, h.prn, h.prl, h.size, h.defers, fun k => ?_, fun k o hko => ?_, fun k m ok om g h1 h2 h3 h4 => ?_, fun k o g h1 h2 => ?_, fun k o h1 => ?_, h.fresh⟩
 ·rw [look_renS]
  exact (h.slots k).ren1 (noneOf_slot hno k) hb hk
 ·obtain ⟨k', o', q1, rfl, q3, rfl⟩ := hfind k o hko
  exact (h.objs k' o' q3).ren1 q1 (noneOf_obj hno q3) hb hk
 ·obtain ⟨k', o1, q1, rfl, q3, _⟩ := hfind k ok h1
  obtain ⟨m', o2, q4, rfl, q6, _⟩ := hfind m om h2
  rw [hb k' q1] at h3
  rw [hb m' q4] at h4
  rw [h.apart k' m' o1 o2 g q3 q6 h3 h4]
 ·obtain ⟨k', o', q1, rfl, q3, _⟩ := hfind k o h1
  rw [hb k' q1] at h2
  exact h.own k' o' g q3 h2
 ·have hkj : k ≠ j := fun e => by rw [e, h0] at h1; cases h1
  have e1 : β' k = β k := by simp [β', hkj]
  have e2 : κ' k = κ k := by simp [κ', hkj]
  rw [e1, e2]
  exact h.keeps k o h1
theorem al_ren {ops : Array Oper} {rest : List Oper} {Q : Exit → Act → World → Prop} (i j : Nat) (h0 : find E.ob0 j = none) (hno : noneOf j sl ob = true) (h : AL E ops rest Q (renS [(i, j)] sl) (renO [(i, j)] (dropK [j] ob))) : AL E ops rest Q sl ob := ⟨fun a w ⟨_, _, _, hg⟩ => h.run a w (hg.ren1 h0 hno)⟩
theorem al_less {ops : Array Oper} {rest : List Oper} {Q : Exit → Act → World → Prop} {sl' : Slots} {ob' : Objs} (hs : ∀ p ∈ sl', look sl p.1 = p.2) (ho : ∀ p ∈ ob', find ob p.1 = some p.2) (h : AL E ops rest Q sl' ob') : AL E ops rest Q sl ob := ⟨fun a w hi => h.run a w (hi.less hs ho)⟩
theorem Good.nilcell (h : Good E sl ob a w Pr β κ) {i j s : Nat} {T : TypeId} {l : List V} (hf : find ob i = some (.box T l)) (hj : l[j]? = some (.d (.val (.slice none 0 0)))) : Good E sl ((i, .box T (l.set j (.d (.list s [])))) :: ob) a w Pr β κ := by
 have hcase : ∀ m om, find ((i, .box T (l.set j (.d (.list s [])))) :: ob) m = some om → (m = i ∧ om = .box T (l.set j (.d (.list s [])))) ∨ (m ≠ i ∧ find ob m = some om) := by
  intro m om hm
  by_cases hmi : m = i
  ·subst hmi
   rw [find_eq] at hm
   cases hm
   exact .inl ⟨rfl, rfl⟩
  ·rw [find_ne hmi] at hm
   exact .inr ⟨hmi, hm⟩
 have hkey : ∀ m om, find ((i, .box T (l.set j (.d (.list s [])))) :: ob) m = some om → ∃ om', find ob m = some om' := by
  intro m om hm
  rcases hcase m om hm with ⟨rfl, _⟩ | ⟨_, h1⟩
  ·exact ⟨_, hf⟩
  ·exact ⟨_, h1⟩
 refine ⟨h.below, h.st0, h.pr0, h.prn, h.prl, h.size, h.defers, h.slots, fun m om hm => ?_, fun m k om ok g h1 h2 => ?_, fun m om g h1 => ?_, h.keeps, h.fresh⟩
 ·rcases hcase m om hm with ⟨rfl, rfl⟩ | ⟨_, h1⟩
  ·obtain ⟨g, cs, q1, q2, q3, q4, q5, q6⟩ := h.objs m _ hf
   refine ⟨g, cs, q1, q2, q3, by simp [q4], fun n v x hn hx => ?_, q6⟩
   by_cases hnj : j = n
   ·subst hnj
    have hlt := (List.getElem?_eq_some_iff.1 hj).1
    rw [List.getElem?_set_self hlt] at hx
    cases hx
    have := (q5 j v _ hn hj).val_inv
    subst this
    exact .d _ _ (.nil none 0 s (Nat.zero_le _))
   ·rw [List.getElem?_set_ne hnj] at hx
    exact q5 n v x hn hx
  ·exact h.objs m om h1
 ·obtain ⟨o1, k1⟩ := hkey m om h1
  obtain ⟨o2, k2⟩ := hkey k ok h2
  exact h.apart m k o1 o2 g k1 k2
 ·obtain ⟨o1, k1⟩ := hkey m om h1
  exact h.own m o1 g k1
theorem aq_nilcell {x : Exit} {Q : Exit → Act → World → Prop} (i j s : Nat) {T : TypeId} {l l' : List V} (hf : find ob i = some (.box T l)) (hj : l[j]? = some (.d (.val (.slice none 0 0)))) (hl : l.set j (.d (.list s [])) = l') (h : AQ E x Q sl ((i, .box T l') :: ob)) : AQ E x Q sl ob := by
 subst hl
 exact ⟨fun a w ⟨_, _, _, hg⟩ => h.run a w ⟨_, _, _, hg.nilcell hf hj⟩⟩
end
end
section
open Go.RowKit
section
variable {E : Entry} {sl : Slots} {ob : Objs} {a : Act} {w : World} {Pr : Prot} {β : Nat → Value} {κ : Nat → Nat}
variable {d : Nat} {dd : Option Nat} {t T ty : TypeId} {p : String} {af : Array Edge} {g : Option (Nat × Bool)} {x y c : Operand}
def byteV (s : ByteArray) : List V := s.data.toList.map fun u => .d (.val (.int .u8 u.toNat))
end
end
section
open Go.RowKit
theorem keyCase {ob : Objs} {i : Nat} {o' : O} : ∀ {m : Nat} {om : O}, find ((i, o') :: ob) m = some om → (m = i ∧ om = o') ∨ (m ≠ i ∧ find ob m = some om) := by
 intro m om hm
 by_cases hmi : m = i
 ·subst hmi
  rw [find_eq] at hm
  cases hm
  exact .inl ⟨rfl, rfl⟩
 ·rw [find_ne hmi] at hm
  exact .inr ⟨hmi, hm⟩
theorem keyHas {ob : Objs} {i : Nat} {o o' : O} (hf : find ob i = some o) : ∀ {m : Nat} {om : O}, find ((i, o') :: ob) m = some om → ∃ om', find ob m = some om' := by
 intro m om hm
 rcases keyCase hm with ⟨rfl, _⟩ | ⟨_, h1⟩
 ·exact ⟨_, hf⟩
 ·exact ⟨_, h1⟩
section
variable {E : Entry} {sl : Slots} {ob : Objs} {a : Act} {w : World} {Pr : Prot} {β : Nat → Value} {κ : Nat → Nat}
theorem Good.swap (h : Good E sl ob a w Pr β κ) {i : Nat} {o o' : O} (hf : find ob i = some o) (hr : RepO w Pr 0 β κ i o') : Good E sl ((i, o') :: ob) a w Pr β κ := by
 refine ⟨h.below, h.st0, h.pr0, h.prn, h.prl, h.size, h.defers, h.slots, fun m om hm => ?_, fun m k om ok g h1 h2 => ?_, fun m om g h1 => ?_, h.keeps, h.fresh⟩
 ·rcases keyCase hm with ⟨rfl, rfl⟩ | ⟨_, h1⟩
  ·exact hr
  ·exact h.objs m om h1
 ·obtain ⟨o1, k1⟩ := keyHas hf h1
  obtain ⟨o2, k2⟩ := keyHas hf h2
  exact h.apart m k o1 o2 g k1 k2
 ·obtain ⟨o1, k1⟩ := keyHas hf h1
  exact h.own m o1 g k1
theorem Good.slot (h : Good E sl ob a w Pr β κ) {j : Nat} {x : V} (hx : RepV w Pr β κ (a.tmps.getD j undef) x) : Good E ((j, x) :: sl) ob a w Pr β κ := by
 refine ⟨h.below, h.st0, h.pr0, h.prn, h.prl, h.size, h.defers, fun i => ?_, h.objs, h.apart, h.own, h.keeps, h.fresh⟩
 by_cases hij : i = j
 ·subst hij
  rw [look_eq]
  exact hx
 ·rw [look_ne hij]
  exact h.slots i
theorem Good.unrow (h : Good E sl ob a w Pr β κ) {r e s k : Nat} (hf : find ob r = some (.row e s k [])) : Good E sl ((r, .vec e s k []) :: ob) a w Pr β κ := by
 obtain ⟨hκ, xs, hown, hls, hd, hpr⟩ := h.objs r _ hf
 exact h.swap hf ⟨hκ, xs, hown, hls, hd, fun g hg o ho => by have := (hpr g hg o).1 ho; simp at this⟩
theorem own_blk {B n s : Nat} {e : TypeId} {v : Value} {xs : List Value} (h : w.ownsRow B e s v n xs) : blk v = v.ownBlock := by
 rcases h.2 with ⟨h0, _⟩ | ⟨g', cap, cur, h0, _⟩ <;> exact ownBlock_blk h0
theorem own_slice {B n s : Nat} {e : TypeId} {v : Value} {xs : List Value} (h : w.ownsRow B e s v n xs) : ∃ A m c, v = .slice A m c := by
 rcases h.2 with ⟨h0, _⟩ | ⟨g', cap, cur, h0, _⟩ <;> exact ⟨_, _, _, h0⟩
theorem RepO.newer {B i r : Nat} {o : O} {β' : Nat → Value} {κ' : Nat → Nat} (h : RepO w Pr B β κ i o) (hi : i ≠ r) (hβ : ∀ j, j ≠ r → β' j = β j) (hκ : ∀ j, j ≠ r → κ' j = κ j) (hr : κ r < κ' r) (hb : ∃ A n c, β r = .slice A n c) : RepO w Pr B β' κ' i o := by
 cases o with
 | box T' lb =>
  obtain ⟨gg, cs, q1, q2, q3, q4, q5, q6⟩ := h
  exact ⟨gg, cs, (hβ i hi).trans q1, q2, q3, q4, fun m u z h3 h4 => (q5 m u z h3 h4).newer hβ hκ hr hb, q6⟩
 | row e' s' k' l' =>
  obtain ⟨q1, q2, q3, q4, q5, q6⟩ := h
  exact ⟨(hκ i hi).trans q1, q2, by rw [hβ i hi]; exact q3, q4, q5, by rw [hβ i hi]; exact q6⟩
 | vec e' s' k' l' =>
  obtain ⟨q1, q2, q3, q4, q5, q6⟩ := h
  exact ⟨(hκ i hi).trans q1, q2, by rw [hβ i hi]; exact q3, q4, q5, by rw [hβ i hi]; exact q6⟩
 | byt e' k' l' =>
  obtain ⟨q1, g, cap, cur, fz, q2, q3⟩ := h
  exact ⟨(hκ i hi).trans q1, g, cap, cur, fz, (hβ i hi).trans q2, q3⟩
 | map T' c r =>
  obtain ⟨g, es, q1, q2⟩ := h
  exact ⟨g, es, (hβ i hi).trans q1, q2⟩
 | iter v s n c =>
  obtain ⟨g, gm, q1, q2, q3, q4, q5⟩ := h
  exact ⟨g, gm, (hβ i hi).trans q1, q2, q3, q4.newer hβ hκ hr hb, q5⟩
theorem Good.verup (h : Good E sl ob a w Pr β κ) {r k : Nat} {v' : Value} {o' : O} (hκ : κ r = k) (hb : ∃ A n c, β r = .slice A n c) (hown : ∀ g, blk v' = some g → Lent E.ob0 E.β0 g ∨ E.w.heap.size ≤ g)
  (hap : ∀ j oj g, find ob j = some oj → j ≠ r → blk (β j) = some g → blk v' ≠ some g) (ho : RepO w Pr 0 (updV β r v') (updN κ r (k + 1)) r o') : Good E sl ((r, o') :: ob) a w Pr (updV β r v') (updN κ r (k + 1)) := by
 have e1 := updV_same β r v'
 have e2 := updN_same κ r (k + 1)
 have e3 := updV_other β r v'
 have e4 := updN_other κ r (k + 1)
 have hlt : κ r < updN κ r (k + 1) r := by rw [e2]; omega
 refine ⟨h.below, h.st0, h.pr0, h.prn, h.prl, h.size, h.defers, fun i => (h.slots i).newer e3 e4 hlt hb, fun m om hm => ?_, fun m j om oj g h1 h2 h3 h4 => ?_, fun m om g h1 h2 => ?_, fun m o hm => ?_, h.fresh⟩
 ·rcases keyCase hm with ⟨rfl, rfl⟩ | ⟨hmr, hm⟩
  ·exact ho
  ·exact (h.objs m om hm).newer hmr e3 e4 hlt hb
 ·by_cases hmr : m = r
  ·by_cases hjr : j = r
   ·rw [hmr, hjr]
   ·rw [hmr, e1] at h3
    rw [e3 j hjr] at h4
    exact absurd h3 (hap j oj g (find_other hjr h2) hjr h4)
  ·rw [e3 m hmr] at h3
   by_cases hjr : j = r
   ·rw [hjr, e1] at h4
    exact absurd h4 (hap m om g (find_other hmr h1) hmr h3)
   ·rw [e3 j hjr] at h4
    exact h.apart m j om oj g (find_other hmr h1) (find_other hjr h2) h3 h4
 ·rcases keyCase h1 with ⟨rfl, _⟩ | ⟨hmr, h1⟩
  ·rw [e1] at h2
   exact hown g h2
  ·rw [e3 m hmr] at h2
   exact h.own m om g h1 h2
 ·by_cases hmr : m = r
  ·subst hmr
   rw [e1, e2]
   refine .inr ?_
   rcases h.keeps m o hm with ⟨k1, k2⟩ | ⟨k1, k2⟩
   ·exact ⟨by omega, by rw [← k1]; exact hb⟩
   ·exact ⟨by omega, k2⟩
  ·rw [e3 m hmr, e4 m hmr]
   exact h.keeps m o hm
theorem flat_get {s : Nat} : ∀ {L : List (List D)}, (∀ x ∈ L, x.length = s) → ∀ {t : Nat} {z : D}, L.flatten[t]? = some z → ∃ p j x, t = p * s + j ∧ L[p]? = some x ∧ x[j]? = some z
 | [], _, t, z, h => by simp at h
 | y :: L, hs, t, z, h => by
  have hy : y.length = s := hs y (by simp)
  rw [List.flatten_cons] at h
  by_cases ht : t < s
  ·rw [List.getElem?_append_left (by omega)] at h
   exact ⟨0, t, y, by omega, rfl, h⟩
  ·rw [List.getElem?_append_right (by omega), hy] at h
   obtain ⟨p, j, x, h1, h2, h3⟩ := flat_get (fun x hx => hs x (by simp [hx])) h
   exact ⟨p + 1, j, x, by rw [Nat.add_mul]; omega, by simpa using h2, h3⟩
theorem flat_put {s : Nat} : ∀ {L : List (List D)}, (∀ x ∈ L, x.length = s) → ∀ {p j : Nat} {x : List D} {z : D}, L[p]? = some x → x[j]? = some z → L.flatten[p * s + j]? = some z
 | [], _, p, j, x, z, h, _ => by simp at h
 | y :: L, hs, p, j, x, z, h, h2 => by
  have hy : y.length = s := hs y (by simp)
  rw [List.flatten_cons]
  cases p with
  | zero =>
   simp at h
   subst h
   have := (List.getElem?_eq_some_iff.1 h2).1
   rw [List.getElem?_append_left (by omega), Nat.zero_mul, Nat.zero_add]
   exact h2
  | succ p =>
   rw [List.getElem?_append_right (by rw [Nat.add_mul]; omega), hy, show (p + 1) * s + j - s = p * s + j by rw [Nat.add_mul]; omega]
   exact flat_put (fun x hx => hs x (by simp [hx])) (by simpa using h) h2
theorem flat_len {s : Nat} : ∀ {L : List (List D)}, (∀ x ∈ L, x.length = s) → L.flatten.length = L.length * s
 | [], _ => by simp
 | y :: L, hs => by
  rw [List.flatten_cons, List.length_append, hs y (by simp), flat_len (fun x hx => hs x (by simp [hx])), List.length_cons, Nat.add_mul]
  omega
theorem Good.view (h : Good E sl ob a w Pr β κ) {r e s k q j : Nat} {L : List (List D)} (hf : find ob r = some (.vec e s k L)) (hL : L ≠ []) (hj : look sl j = .row r k) (hno : noneOf q sl ob = true) (hq : q < E.n) (hqr : q ≠ r) :
  ∃ m c g, c * s = L.flatten.length + m ∧ c ≠ 0 ∧ c ≤ maxLen ∧ κ r = k ∧ (∃ A n c, β r = .slice A n c) ∧ (∀ x ∈ L, x.length = s) ∧
   Good E ((j, .sl q 0 L.length) :: sl) ((q, .box e (L.flatten.map V.d ++ List.replicate m .und)) :: dropK [r] ob) a w Pr (updV β q (.pointer (some ⟨g, 0, none⟩))) (updN κ q c) := by
 obtain ⟨hκ, xs, hown, hls, hd, hnp⟩ := h.objs r _ hf
 have hv0 : a.tmps.getD j undef = β r := by
  have := h.slots j
  rw [hj] at this
  exact this.row_inv hκ.symm
 have hos := own_slice hown
 have hbb := own_blk hown
 have hln : L.length ≠ 0 := fun e => hL (List.eq_nil_of_length_eq_zero e)
 have hx1 := hown.1
 rcases hown.2 with ⟨_, h0⟩ | ⟨g, cap, cur, hv, _, hh, hnc, hcm, hcs, htk⟩
 ·exact absurd h0 hln
 have hfl := flat_len hls
 have hle : L.length * s ≤ cap * s := Nat.mul_le_mul_right _ hnc
 have hno' : noneOf q sl (dropK [r] ob) = true := by
  simp only [noneOf, Bool.and_eq_true] at hno ⊢
  refine ⟨hno.1, List.all_eq_true.2 fun p hp => ?_⟩
  have : ∀ (ob : Objs), p ∈ dropK [r] ob → p ∈ ob := by
   intro ob
   induction ob with
   | nil => intro h; exact h
   | cons p' ob ih =>
    obtain ⟨i, x⟩ := p'
    simp only [dropK]
    cases mem [r] i with
    | true => intro h; exact List.mem_cons_of_mem _ (ih h)
    | false =>
     intro h
     rcases List.mem_cons.1 h with h | h
     ·exact h ▸ List.mem_cons_self
     ·exact List.mem_cons_of_mem _ (ih h)
  exact List.all_eq_true.1 hno.2 p (this ob hp)
 have hg : (β r).ownBlock = some g := by rw [hv]; rfl
 have hgb : blk (β r) = some g := by rw [hbb, hg]
 let β' := updV β q (.pointer (some ⟨g, 0, none⟩))
 let κ' := updN κ q cap
 have e1 : β' q = .pointer (some ⟨g, 0, none⟩) := updV_same _ _ _
 have e2 : κ' q = cap := updN_same _ _ _
 have e3 : ∀ j, j ≠ q → β' j = β j := updV_other _ _ _
 have e4 : ∀ j, j ≠ q → κ' j = κ j := updN_other _ _ _
 have hfr : ∀ i o, find E.ob0 i = some o → i ≠ q := fun i o hi e => by have := h.fresh i o hi; omega
 refine ⟨cap * s - L.flatten.length, cap, g, by omega, by omega, hcm, hκ, hos, hls, ?_⟩
 refine Good.slot (j := j) (x := .sl q 0 L.length) (sl := sl) ⟨h.below, h.st0, h.pr0, h.prn, h.prl, h.size, h.defers, fun i => (h.slots i).other (noneOf_slot hno i) e3 e4, fun m om hm => ?_, fun m j om oj gg h1 h2 h3 h4 => ?_, fun m om gg h1 h2 => ?_, fun m o hm => ?_, h.fresh⟩ ?_
 ·rcases keyCase hm with ⟨rfl, rfl⟩ | ⟨hmq, hm⟩
  ·have hml : (L.flatten.map V.d).length = L.flatten.length := List.length_map _
   refine ⟨g, cur.toList, e1, Nat.zero_le _, by rw [Array.toArray_toList]; exact hh, by rw [List.length_append, hml, List.length_replicate, Array.length_toList]; omega, fun t v x h1 h2 => ?_, hnp g hg⟩
   by_cases ht : t < L.flatten.length
   ·rw [List.getElem?_append_left (by rw [hml]; exact ht), List.getElem?_map, Option.map_eq_some_iff] at h2
    obtain ⟨z, hz, rfl⟩ := h2
    obtain ⟨p, jj, y, h3, h4, h5⟩ := flat_get hls hz
    obtain ⟨u, hu, hru⟩ := hd p jj y z h4 h5
    rw [← htk, ← h3, List.getElem?_take, if_pos (by omega)] at hu
    rw [h1] at hu
    cases hu
    exact .d _ _ hru
   ·rw [List.getElem?_append_right (by rw [hml]; omega)] at h2
    have := List.eq_of_mem_replicate (List.mem_of_getElem? h2)
    subst this
    exact .und _
  ·obtain ⟨h1, h2⟩ := find_dropK hm
   exact (h.objs m om h2).other (noneOf_obj hno h2) hmq e3 e4
 ·have h3 : blk (β' m) = some gg := h3
  have h4 : blk (β' j) = some gg := h4
  have e5 : blk (β' q) = some g := by rw [e1]; rfl
  by_cases hmq : m = q
  ·by_cases hjq : j = q
   ·rw [hmq, hjq]
   ·obtain ⟨q1, q2⟩ := find_dropK (find_other hjq h2)
    rw [hmq, e5] at h3
    rw [e3 j hjq, ← h3] at h4
    exact absurd (h.apart j r _ _ _ q2 hf h4 hgb) (fun e => q1 (by simp [e]))
  ·obtain ⟨q1, q2⟩ := find_dropK (find_other hmq h1)
   rw [e3 m hmq] at h3
   by_cases hjq : j = q
   ·rw [hjq, e5] at h4
    rw [← h4] at h3
    exact absurd (h.apart m r _ _ _ q2 hf h3 hgb) (fun e => q1 (by simp [e]))
   ·rw [e3 j hjq] at h4
    exact h.apart m j om oj gg q2 (find_dropK (find_other hjq h2)).2 h3 h4
 ·have h2 : blk (β' m) = some gg := h2
  rcases keyCase h1 with ⟨rfl, _⟩ | ⟨hmq, h1⟩
  ·rw [e1] at h2
   cases h2
   exact h.own r _ _ hf hgb
  ·rw [e3 m hmq] at h2
   exact h.own m om gg (find_dropK h1).2 h2
 ·show (β' m = _ ∧ κ' m = _) ∨ _
  rw [e3 m (hfr m o hm), e4 m (hfr m o hm)]
  exact h.keeps m o hm
 ·rw [hv0, hv]
  exact .sl q 0 L.length cap g e1 hnc hcm (fun _ _ => e2.symm)
end
end
section
open Go.RowKit
section
variable {E : Entry} {sl : Slots} {ob : Objs} {a : Act} {w : World} {Pr : Prot} {β : Nat → Value} {κ : Nat → Nat}
variable {d : Nat} {dd : Option Nat} {t T ty : TypeId} {p : String} {af : Array Edge} {g : Option (Nat × Bool)} {x y c : Operand} {m : Int}
theorem run_app0 {v0 : Value} {e es eb : Nat} {ez : Value} {n0 : Nat} {l2 : List (List D)} {xs : List Value} (hown : w.ownsRow 0 e es v0 n0 xs) {v : Value} (hy : RepD w Pr v (.list es l2)) (hT : ti t = .sl e es eb ez)
  (h1 : ∀ q ∈ l2, ∀ z ∈ q, D.one z = true) (hes : 0 < es) (hb : (n0 + l2.length) * eb ≤ 140737488355328) (hm : n0 + l2.length ≤ 140737488355328) :
  ∃ v' w' news, (Builtin.append_ #[t, t] T #[v0, v]).run Try.prog w = .ok v' w' ∧ App w v0 e es n0 xs l2 Pr v' w' news := by
 obtain ⟨_, ie, _, hu, _, hj, hz, hs, hby, hzs⟩ := ti_sl hT
 have hbase : 0 ≤ w.heap.size := Nat.zero_le _
 cases hy with
 | nil A c _ hmm =>
  have hrun : (Builtin.append_ #[t, t] T #[v0, .slice A 0 c]).run Try.prog w = .ok v0 w := by
   have hfc : ∀ A, (Builtin.firstCells es 0 (.slice A 0 c)).run Try.prog w = .ok #[] w := by
    intro A
    cases A <;> simp [Builtin.firstCells, loadCells, loadCellsFrom]
   rcases hown.2 with ⟨hv, _⟩ | ⟨g, cap, cur, hv, _, _, hnc, _⟩
   ·rw [hv]
    simp [Builtin.append_, run_underlying hu, sizeOf, typeInfo, hj, hs, Builtin.lenOf, hfc]
   ·rw [hv]
    simp [Builtin.append_, run_underlying hu, sizeOf, typeInfo, hj, hs, Builtin.lenOf, hfc, hnc, storeCells]
  exact ⟨v0, w, [], hrun, by simpa using hown, ⟨rfl, rfl, rfl, Nat.le_refl _, fun _ _ _ => rfl⟩, fun _ _ h => h, fun _ _ _ _ => rfl, by simp, by simp, fun p j q z h2 => by simp at h2⟩
 | list b o n c _ _ u hn hss hc hmm hr hd =>
  subst hn
  let news : List Value := (List.range (l2.length * es)).map fun q => u (q / es) (q % es)
  have hnl : news.length = l2.length * es := by simp [news]
  have hat : ∀ q, q < l2.length * es → ∃ e' z, l2[q / es]? = some e' ∧ e'[q % es]? = some z ∧ q / es * es + q % es = q := by
   intro q hq
   have h3 : q / es < l2.length := by rw [Nat.div_lt_iff_lt_mul hes]; exact hq
   have h4 : q % es < es := Nat.mod_lt _ hes
   have h5 := hss _ (List.getElem_mem h3)
   exact ⟨l2[q / es], _, List.getElem?_eq_getElem h3, List.getElem?_eq_getElem (by omega), by rw [Nat.mul_comm]; exact Nat.div_add_mod q es⟩
  have hget : ∀ (q : Nat) (v : Value), news[q]? = some v → q < l2.length * es ∧ v = u (q / es) (q % es) := by
   intro q v hq
   have hql : q < l2.length * es := by have := (List.getElem?_eq_some_iff.1 hq).1; omega
   simp [news, hql] at hq
   exact ⟨hql, hq.symm⟩
  have hcell : ∀ q v, news[q]? = some v → w.cell? ((⟨b, o, none⟩ : Addr).add q) = some v := by
   intro q v hq
   obtain ⟨hql, rfl⟩ := hget q v hq
   obtain ⟨e', z, h3, h4, h5⟩ := hat q hql
   have := (hr _ _ e' z h3 h4).1
   rw [Addr.add_lit, ← this, Nat.add_assoc, h5]
  have hone : ∀ v ∈ news, v.oneCell' = true := by
   intro v hv
   obtain ⟨q, hq, rfl⟩ := List.getElem_of_mem hv
   obtain ⟨hql, he⟩ := hget q _ (List.getElem?_eq_getElem hq)
   obtain ⟨e', z, h3, h4, h5⟩ := hat q hql
   rw [he]
   exact one_cellD (hd _ _ e' z h3 h4) (h1 e' (List.mem_of_getElem? h3) z (List.mem_of_getElem? h4))
  obtain ⟨v', w', hrun, h2, h3, _⟩ := run_append_own (P := Try.prog) w 0 t T e ie ez es eb hu hj hz hs hby hzs hes v0 n0 xs hown ⟨b, o, none⟩ l2.length c news hnl hcell hone (by unfold maxLen; omega) hb hbase
  have hoff := append_off (P := Try.prog) w 0 t T e ie ez es eb hu hj hz hs hby v0 n0 xs hown ⟨b, o, none⟩ l2.length c news hnl hes hcell hone (by unfold maxLen; omega) hb hrun
  refine ⟨v', w', news, hrun, h2, h3, hoff, fun g hg j hjl => ?_, hnl, hss, fun p j q z h4 h5 => ?_⟩
  ·rcases hown.2 with ⟨hv, _⟩ | ⟨g', cap, cur, hv, _⟩
   ·rw [hv] at hg; simp [Value.ownBlock] at hg
   ·rw [hv] at hg hown hrun
    simp only [Value.ownBlock, Option.some.injEq] at hg
    subst hg
    exact append_keeps (P := Try.prog) w 0 t T e ie ez es eb hu hj hz hs hby g' n0 cap xs hown ⟨b, o, none⟩ l2.length c news hnl hcell hone (by unfold maxLen; omega) hb hrun h2 j hjl
  ·have hp : p < l2.length := (List.getElem?_eq_some_iff.1 h4).1
   have hjs : j < es := by have := (List.getElem?_eq_some_iff.1 h5).1; rw [hss q (List.mem_of_getElem? h4)] at this; exact this
   have hlt : p * es + j < l2.length * es := Nat.lt_of_lt_of_le (by omega : p * es + j < p * es + es) (by rw [← Nat.succ_mul]; exact Nat.mul_le_mul_right _ hp)
   have e1 : (p * es + j) / es = p := by rw [Nat.add_comm, Nat.add_mul_div_right _ _ hes, Nat.div_eq_of_lt hjs, Nat.zero_add]
   have e2 : (p * es + j) % es = j := by rw [Nat.add_comm, Nat.add_mul_mod_self_right, Nat.mod_eq_of_lt hjs]
   refine ⟨u p j, ?_, hd p j q z h4 h5⟩
   simp [news, hlt, e1, e2]
def valsOnly (l : List (List D)) : Prop := ∀ q ∈ l, ∀ z ∈ q, ∃ v, z = D.val v
theorem App.val {v0 v' : Value} {e es n0 : Nat} {l2 : List (List D)} {xs news : List Value} {w' : World} {Pr' : Prot} (h : App w v0 e es n0 xs l2 Pr v' w' news) (hv : valsOnly l2) : App w v0 e es n0 xs l2 Pr' v' w' news := by
 refine ⟨h.own, h.grow, h.off, h.keep, h.len, h.len2, fun p j q z h1 h2 => ?_⟩
 obtain ⟨u, hu, hr⟩ := h.rep p j q z h1 h2
 obtain ⟨v, rfl⟩ := hv q (List.mem_of_getElem? h1) z (List.mem_of_getElem? h2)
 cases hr
 exact ⟨_, hu, .val _⟩
theorem Good.grown (h : Good E sl ob a w Pr β κ) {i e es k : Nat} {l : List (List D)} {w' : World} (hf : find ob i = some (.vec e es k l)) (hgr : w.grownBy w' (β i).ownBlock) : Good E sl (dropK [i] ob) a w' Pr β κ ∧ Stays Pr w w' := by
 obtain ⟨hκ, xs, hown, hls, hd, hno⟩ := h.objs i _ hf
 have hbb := own_blk hown
 have hs : Stays Pr w w' := fun b o ho => World.cell?_of_block (a := ⟨b, o, none⟩) (hgr.block b (h.prl b o ho) (fun e => hno b e.symm o ho))
 have hbel : Under (fun g => (β i).ownBlock = some g) w w' := ⟨hgr.os, hgr.tape, hgr.output, hgr.size, fun k hk hn => hgr.block k hk (fun e => hn e.symm)⟩
 refine ⟨⟨h.below.then hbel (fun g hg => h.own i _ g hf (by rw [hbb]; exact hg)), fun b o ho => (hs b o (h.pr0 b o ho)).trans (h.st0 b o ho), h.pr0, h.prn, fun b o ho => Nat.lt_of_lt_of_le (h.prl b o ho) hgr.size, h.size, h.defers, fun j => (h.slots j).keep hs (fun _ _ h => h), fun j oj hj => ?_, fun m j om oj g h1 h2 => h.apart m j om oj g (find_dropK h1).2 (find_dropK h2).2, fun m om g h1 => h.own m om g (find_dropK h1).2, h.keeps, h.fresh⟩, hs⟩
 obtain ⟨h1, h2⟩ := find_dropK hj
 have hji : j ≠ i := fun e => h1 (by simp [e])
 exact (h.objs j oj h2).keep2 hs (fun _ _ h => h) (fun _ _ _ h => h) (fun g hg => hgr.block g ((h.objs j oj h2).blkLt g hg).2 (fun e => hji (h.apart j i oj _ g h2 hf hg (by rw [hbb]; exact e.symm))))
theorem find_drop1 {i : Nat} : ∀ {ob : Objs} {j : Nat} {o : O}, j ≠ i → find ob j = some o → find (dropK [i] ob) j = some o := by
 intro ob
 induction ob with
 | nil => intro j o _ h; exact h
 | cons p ob ih =>
  obtain ⟨k, x⟩ := p
  intro j o hji h
  simp only [dropK]
  cases hm : mem [i] k with
  | true =>
   simp only [cond_true]
   have hk : k = i := by simpa using mem_iff.1 hm
   rw [find_ne (by rw [hk]; exact hji)] at h
   exact ih hji h
  | false =>
   simp only [cond_false]
   by_cases hjk : j = k
   ·subst hjk
    rw [find_eq] at h ⊢
    exact h
   ·rw [find_ne hjk] at h ⊢
    exact ih hji h
theorem vapp_now (h : Good E sl ob a w Pr β κ) {o : Oper} {i k e es : Nat} {l l2 : List (List D)} (hf : find ob i = some (.vec e es k l)) (hd : d < E.n)
  (hrun : ∀ xs, w.ownsRow 0 e es (β i) l.length xs → ∃ v' w' news, (execOp a.eval o).run Try.prog w = .ok (.value v') w' ∧ App w (β i) e es l.length xs l2 Pr v' w' news) :
  ∃ v' w' β' κ', (execOp a.eval o).run Try.prog w = .ok (.value v') w' ∧ Good E ((d, .row i (k + 1)) :: sl) ((i, .vec e es (k + 1) (l ++ l2)) :: dropK [i] ob) (a.put (some d) v') w' Pr β' κ' ∧ Stays Pr w w' ∧
   (∀ j, j ≠ i → β' j = β j) ∧ (∀ j, j ≠ i → κ' j = κ j) ∧ κ i < κ' i ∧ (∃ A n c, β i = .slice A n c) ∧ w.grownBy w' (β i).ownBlock := by
 obtain ⟨hκ, xs, hown, hls, hrp, hno⟩ := h.objs i _ hf
 obtain ⟨v', w', news, hrun2, happ⟩ := hrun xs hown
 have hbs := own_slice hown
 have hvs := own_slice happ.own
 have hbb := own_blk hown
 have hvb := own_blk happ.own
 obtain ⟨hG, hs⟩ := h.grown hf happ.grow
 have hxl := hown.1
 have hv := hG.verup (r := i) (k := k) (v' := v') (o' := .vec e es (k + 1) (l ++ l2)) hκ hbs (fun g hg => ?_) (fun j oj g h1 hji h2 h3 => ?_) ⟨updN_same _ _ _, xs ++ news, ?_, ?_, fun q m z u h3 h4 => ?_, fun g hg o ho => ?_⟩
 ·refine ⟨v', w', _, _, hrun2, hv.put hd ?_, hs, updV_other _ _ _, updN_other _ _ _, by rw [updN_same, hκ]; omega, hbs, happ.grow⟩
  exact .row i (k + 1) v' hvs (by rw [updN_same]; exact Nat.le_refl _) (fun _ => (updV_same _ _ _).symm)
 ·rw [hvb] at hg
  by_cases hbi : (β i).ownBlock = some g
  ·exact h.own i _ g hf (by rw [hbb]; exact hbi)
  ·refine .inr ?_
   by_cases hlt : g < w.heap.size
   ·exact absurd hg (happ.off g hlt hbi)
   ·have := h.below.size
    omega
 ·rw [hvb] at h3
  have h4 := (find_dropK h1).2
  have hlt := ((h.objs j oj h4).blkLt g h2).2
  exact happ.off g hlt (fun hbi => hji (h.apart j i oj _ g h4 hf h2 (by rw [hbb]; exact hbi))) h3
 ·rw [updV_same, List.length_append]
  exact happ.own
 ·intro z hz
  rcases List.mem_append.1 hz with hz | hz
  ·exact hls z hz
  ·exact happ.len2 z hz
 ·by_cases hq : q < l.length
  ·rw [List.getElem?_append_left hq] at h3
   obtain ⟨u', hu', hr'⟩ := hrp q m z u h3 h4
   have hlt := (List.getElem?_eq_some_iff.1 hu').1
   exact ⟨u', by rw [List.getElem?_append_left hlt]; exact hu', hr'.keep hs (fun _ _ h => h)⟩
  ·rw [List.getElem?_append_right (by omega)] at h3
   obtain ⟨u', hu', hr'⟩ := happ.rep (q - l.length) m z u h3 h4
   refine ⟨u', ?_, hr'.keep hs (fun _ _ h => h)⟩
   have e5 : q * es + m = xs.length + ((q - l.length) * es + m) := by
    rw [hxl, ← Nat.add_assoc, ← Nat.add_mul, show l.length + (q - l.length) = q by omega]
   rw [e5, List.getElem?_append_right (by omega), Nat.add_sub_cancel_left]
   exact hu'
 ·rw [updV_same] at hg
  by_cases hbi : (β i).ownBlock = some g
  ·exact hno g hbi o ho
  ·exact happ.off g (h.prl g o ho) hbi hg
theorem vapp_run (h : Good E sl ob a w Pr β κ) {i k e es eb : Nat} {ez : Value} {l l2 : List (List D)} (hx : ev sl x = .row i k) (hf : find ob i = some (.vec e es k l)) (hy : ∃ Pr', RepD w Pr' (a.eval y) (.list es l2) ∧ (Pr' = Pr ∨ valsOnly l2)) (hT : ti t = .sl e es eb ez)
  (h1 : ∀ q ∈ l2, ∀ z ∈ q, D.one z = true) (hes : 0 < es) (hb : (l.length + l2.length) * eb ≤ 140737488355328) (hm : l.length + l2.length ≤ 140737488355328) : ∀ xs, w.ownsRow 0 e es (β i) l.length xs → ∃ v' w' news, (execOp a.eval ⟨some d, .call { callee := .builtin .append, args := #[x, y], argTypes := #[t, t] }, T, p, af, g⟩).run Try.prog w = .ok (.value v') w' ∧ App w (β i) e es l.length xs l2 Pr v' w' news := fun xs hown => by
 obtain ⟨hκ, _⟩ := h.objs i _ hf
 have hxv : a.eval x = β i := by
  have := good_ev h x
  rw [hx] at this
  exact this.row_inv hκ.symm
 obtain ⟨Pr', hyv, hpv⟩ := hy
 obtain ⟨v', w', news, hrun, happ⟩ := run_app0 (T := T) hown hyv hT h1 hes hb hm
 refine ⟨v', w', news, by simp [execOp, resolve, invoke, builtin, hxv, hrun], ?_⟩
 rcases hpv with rfl | hpv
 ·exact happ
 ·exact happ.val hpv
theorem st_vappend {i k e es eb : Nat} {ez : Value} {l l2 : List (List D)} {A : Array TypeId} (hx : ev sl x = .row i k) (hf : find ob i = some (.vec e es k l)) (hy : ToD ob (ev sl y) (.list es l2)) (hA : A = #[t, t]) (hT : ti t = .sl e es eb ez)
  (h1 : ∀ q ∈ l2, ∀ z ∈ q, D.one z = true) (hes : 0 < es) (hb : (l.length + l2.length) * eb ≤ 140737488355328) (hm : l.length + l2.length ≤ 140737488355328) (hd : d < E.n) :
  Step E ⟨some d, .call { callee := .builtin .append, args := #[x, y], argTypes := A }, T, p, af, g⟩ sl ob ((d, .row i (k + 1)) :: sl) ((i, .vec e es (k + 1) (l ++ l2)) :: dropK [i] ob) := by
 subst hA
 rintro a w ⟨Pr, β, κ, h⟩ K Q hK
 obtain ⟨v', w', β', κ', hrun2, hG, _⟩ := vapp_now h hf hd (vapp_run (d := d) (T := T) (p := p) (af := af) (g := g) h hx hf ⟨Pr, toD_rep h hy _ (good_ev h y), .inl rfl⟩ hT h1 hes hb hm)
 unfold Oper.wp
 rw [hrun2, Oper.upon_value]
 exact hK _ _ ⟨Pr, β', κ', hG⟩
theorem al_unrow {ops : Array Oper} {rest : List Oper} {Q : Exit → Act → World → Prop} (r : Nat) {e s k : Nat} (hf : find ob r = some (.row e s k [])) (h : AL E ops rest Q sl ((r, .vec e s k []) :: ob)) : AL E ops rest Q sl ob := ⟨fun a w ⟨_, _, _, hg⟩ => h.run a w ⟨_, _, _, hg.unrow hf⟩⟩
theorem al_clocall {ops : Array Oper} {rest : List Oper} {Q : Exit → Act → World → Prop} {f : FuncId} {caps : List V} {args : List V} {ob1 : Objs} {new : List Nat} {Post : V → Objs → Prop} {zs : List V} {xs : List Operand} {ats : Array TypeId} (l : List (Nat × Nat)) (hc : ObC f (args ++ caps) ob1 new Post) (hf : ev sl c = .clo (.func f) zs) (hz : zs = V.renL l caps) (hE : Fine E) (hd : d < E.n) (ha : ArgsV l sl ob xs args)
  (hL : Lends E sl ob l ob1 new)
  (hK : ∀ x ob', Post x ob' → ∀ y ob2, x.ren l = y → renO l ob' ++ dropK ((keys ob1).map (rn l)) ob = ob2 → AL E ops rest Q ((d, y) :: sl) ob2) : AL E ops (⟨some d, .call { callee := .value c, args := xs.toArray, argTypes := ats }, ty, p, af, none⟩ :: rest) Q sl ob := by
 refine ocall_core hc hE hd hL (fun a w Pr β κ h => ?_) hK
 obtain ⟨hlen, hr⟩ := ha.rep h
 have hv := good_ev h c
 rw [hf] at hv
 generalize hcv : a.eval c = v at hv
 cases hv with
 | clo _ cs _ hl hd =>
  subst hz
  refine ⟨xs.map a.eval ++ cs, by rw [List.length_append, List.length_append, hlen, hl, renL_len], fun i v x h1 h2 => ?_, ?_⟩
  ·by_cases hi : i < (xs.map a.eval).length
   ·rw [List.getElem?_append_left hi] at h1
    rw [List.getElem?_append_left (by omega)] at h2
    exact hr i v x h1 h2
   ·rw [List.getElem?_append_right (by omega)] at h1
    rw [List.getElem?_append_right (by omega), ← hlen] at h2
    exact rep_in (hd _ v (x.ren l) h1 (by rw [renL_get, h2]; rfl)) x rfl
  ·simp [execOp, resolve, Deferred.ofValue, invoke, hcv, run_callFunc hc.1]
theorem al_clocall1 {ops : Array Oper} {rest : List Oper} {Q : Exit → Act → World → Prop} {f : FuncId} {a1 : V} {caps : List V} {ob1 : Objs} {new : List Nat} {Post : V → Objs → Prop} {zs : List V} {xs : List Operand} {ats : Array TypeId} (l : List (Nat × Nat)) (hc : ObC f (a1 :: caps) ob1 new Post) (hf : ev sl c = .clo (.func f) zs) (hz : zs = V.renL l caps) (hE : Fine E) (hd : d < E.n) (ha : ArgsV l sl ob xs [a1])
  (hL : Lends E sl ob l ob1 new)
  (hK : ∀ x ob', Post x ob' → ∀ y ob2, x.ren l = y → renO l ob' ++ dropK ((keys ob1).map (rn l)) ob = ob2 → AL E ops rest Q ((d, y) :: sl) ob2) : AL E ops (⟨some d, .call { callee := .value c, args := xs.toArray, argTypes := ats }, ty, p, af, none⟩ :: rest) Q sl ob :=
 al_clocall (args := [a1]) l hc hf hz hE hd ha hL hK
theorem y_clo {f : FuncId} {xs : Array Operand} {zs : List V} (hx : xs.toList.map (ev sl) = zs) : Y E ⟨dd, .makeFunc (.func f) #[] xs, T, p, af, g⟩ sl ob (.clo (.func f) zs) := fun a w Pr β κ hg => by
 subst hx
 refine ⟨.func (.func f) #[] (xs.map a.eval), ?_, fun w' _ => by simp [execOp, Instr.makeFunc, Sem.run]⟩
 have : (xs.map a.eval) = (xs.toList.map a.eval).toArray := by apply Array.ext'; rw [Array.toList_map]
 rw [this]
 refine .clo _ _ _ (by rw [List.length_map, List.length_map]) (fun i v d h1 h2 => ?_)
 rw [List.getElem?_map, Option.map_eq_some_iff] at h1 h2
 obtain ⟨u, h3, rfl⟩ := h1
 obtain ⟨u', h4, rfl⟩ := h2
 rw [h3] at h4
 cases h4
 exact good_ev hg _
end
section
variable {E : Entry} {ops : List Oper} {Q : Exit → Act → World → Prop} {sl sl0 : Slots} {ob ob0 : Objs} {pl : List (Nat × Bool × Oper)} {i : Nat} {tail : (World → Prop) → Act → World → Prop} {g : Option (Nat × Bool)} {p : String} {af : Array Edge} {ty t T : TypeId} {d n : Nat} {op : Op}
theorem am_now {x : V} (hw : Want ops sl true g) (h : Y E ⟨some d, op, ty, p, af, g⟩ sl ob x) (hd : d < E.n) (hK : AM E ops tail Q pl ((d, .und) :: sl0) ob0 ((d, x) :: sl) ob) : AM E ops tail Q ((i, false, ⟨some d, op, ty, p, af, g⟩) :: pl) sl0 ob0 sl ob :=
 ⟨fun a w0 w Pr Pr1 β β1 κ κ1 h0 h1 hn => by
  obtain ⟨v, hv, hr⟩ := h a w Pr1 β1 κ1 h1
  refine mix_move (hw.is h1) (fun K hKK => ?_)
  unfold Oper.wp
  rw [hr w (Kept.refl _ _ _ _), Oper.upon_value]
  exact hKK.out _ _ hn.kept fun _ => hK.run _ w0 w Pr Pr1 β β1 κ κ1 (h0.put hd (.und _)) (h1.put hd hv) hn⟩
end
end
section
open Go.RowKit Go.ChangeMaps
theorem hasL_app (i : Nat) : ∀ (a b : List V), V.hasL i (a ++ b) = (V.hasL i a || V.hasL i b)
 | [], b => rfl
 | x :: a, b => by simp [V.hasL, hasL_app i a b, Bool.or_assoc]
theorem hasL_und (i : Nat) : ∀ m : Nat, V.hasL i (List.replicate m .und) = false
 | 0 => rfl
 | m + 1 => by simp [List.replicate_succ, V.hasL, V.has, hasL_und i m]
theorem hasL_ds (i : Nat) : ∀ l : List D, V.hasL i (l.map V.d) = false
 | [] => rfl
 | x :: l => by simp [V.hasL, V.has, hasL_ds i l]
theorem withinL_app (ks : List Nat) : ∀ (a b : List V), V.withinL ks (a ++ b) = (V.withinL ks a && V.withinL ks b)
 | [], b => rfl
 | x :: a, b => by simp [V.withinL, withinL_app ks a b, Bool.and_assoc]
theorem withinL_und (ks : List Nat) : ∀ m : Nat, V.withinL ks (List.replicate m .und) = true
 | 0 => rfl
 | m + 1 => by simp [List.replicate_succ, V.withinL, V.within, withinL_und ks m]
theorem withinL_ds (ks : List Nat) : ∀ l : List D, V.withinL ks (l.map V.d) = true
 | [] => rfl
 | x :: l => by simp [V.withinL, V.within, withinL_ds ks l]
theorem renL_app (r : List (Nat × Nat)) : ∀ (a b : List V), V.renL r (a ++ b) = V.renL r a ++ V.renL r b
 | [], b => rfl
 | x :: a, b => by simp [V.renL, renL_app r a b]
theorem renL_und (r : List (Nat × Nat)) : ∀ m : Nat, V.renL r (List.replicate m .und) = List.replicate m .und
 | 0 => rfl
 | m + 1 => by simp [List.replicate_succ, V.renL, V.ren, renL_und r m]
theorem renL_ds (r : List (Nat × Nat)) : ∀ l : List D, V.renL r (l.map V.d) = l.map V.d
 | [] => rfl
 | x :: l => by simp [V.renL, V.ren, renL_ds r l]
theorem lent_eq {ob ob' : Objs} {β β' : Nat → Value} (h : ∀ i o, find ob i = some o → ∃ o', find ob' i = some o' ∧ blk (β' i) = blk (β i)) {g : Nat} (hg : Lent ob β g) : Lent ob' β' g := by
 obtain ⟨i, o, h1, h2⟩ := hg
 obtain ⟨o', h3, h4⟩ := h i o h1
 exact ⟨i, o', h3, by rw [h4]; exact h2⟩
theorem ObC.view {f : FuncId} {rest : List V} {ob1 : Objs} {r e s k : Nat} {L : List (List D)} {P : List (List D) → Prop} (hL : L ≠ []) (hr : find ob1 r = none) (hrest : V.hasL r rest = false) (hob : ∀ i o, find ob1 i = some o → o.has r = false)
  (h : ∀ m, ObC f (.sl r 0 L.length :: rest) ((r, .box e (L.flatten.map V.d ++ List.replicate m .und)) :: ob1) [] (fun x o => ∃ L' Z, P L' ∧ (∀ x ∈ L', x.length = s) ∧ (L.flatten.map V.d ++ List.replicate m V.und).length = (L'.flatten.map V.d ++ Z).length ∧ x = .sl r 0 L'.length ∧ o = (r, .box e (L'.flatten.map V.d ++ Z)) :: ob1)) :
  ObC f (.row r k :: rest) ((r, .vec e s k L) :: ob1) [] (fun x o => ∃ L', P L' ∧ x = .row r (k + 1) ∧ o = (r, .vec e s (k + 1) L') :: ob1) := by
 refine ⟨(h 0).1, fun w Pr vs β κ hp hE hl hv ho hap => ?_⟩
 obtain ⟨hκ, xs, hown, hls, hd, hnp⟩ := ho r _ (find_eq _ _ _)
 have hos := own_slice hown
 have hbb := own_blk hown
 have hln : L.length ≠ 0 := fun e => hL (List.eq_nil_of_length_eq_zero e)
 have hx1 := hown.1
 rcases hown.2 with ⟨_, h0⟩ | ⟨g, cap, cur, hvv, _, hh, hnc, hcm, hcs, htk⟩
 ·exact absurd h0 hln
 have hfl := flat_len hls
 have hle : L.length * s ≤ cap * s := Nat.mul_le_mul_right _ hnc
 have hg : (β r).ownBlock = some g := by rw [hvv]; rfl
 have hgb : blk (β r) = some g := by rw [hbb, hg]
 obtain ⟨m, hm⟩ : ∃ m, m = cap * s - L.flatten.length := ⟨_, rfl⟩
 obtain ⟨β1, hβ1⟩ : ∃ β1, β1 = updV β r (.pointer (some ⟨g, 0, none⟩)) := ⟨_, rfl⟩
 obtain ⟨κ1, hκ1⟩ : ∃ κ1, κ1 = updN κ r cap := ⟨_, rfl⟩
 have e1 : β1 r = .pointer (some ⟨g, 0, none⟩) := by rw [hβ1, updV_same]
 have e2 : κ1 r = cap := by rw [hκ1, updN_same]
 have e3 : ∀ j, j ≠ r → β1 j = β j := fun j hj => by rw [hβ1, updV_other _ _ _ j hj]
 have e4 : ∀ j, j ≠ r → κ1 j = κ j := fun j hj => by rw [hκ1, updN_other _ _ _ j hj]
 have hml : (L.flatten.map V.d).length = L.flatten.length := List.length_map _
 have hbl : ∀ i, blk (β1 i) = blk (β i) := fun i => by
  by_cases hi : i = r
  ·rw [hi, e1, hgb]; rfl
  ·rw [e3 i hi]
 have key1 : ∀ i o, find ((r, O.box e (L.flatten.map V.d ++ List.replicate m .und)) :: ob1) i = some o → ∃ o', find ((r, O.vec e s k L) :: ob1) i = some o' := fun i o hi => by
  by_cases hir : i = r
  ·exact ⟨_, by rw [hir]; exact find_eq _ _ _⟩
  ·exact ⟨o, by rw [find_ne hir] at hi ⊢; exact hi⟩
 have key2 : ∀ i o, find ((r, O.vec e s k L) :: ob1) i = some o → ∃ o', find ((r, O.box e (L.flatten.map V.d ++ List.replicate m .und)) :: ob1) i = some o' := fun i o hi => by
  by_cases hir : i = r
  ·exact ⟨_, by rw [hir]; exact find_eq _ _ _⟩
  ·exact ⟨o, by rw [find_ne hir] at hi ⊢; exact hi⟩
 have hcall := (h m).2 w Pr vs β1 κ1 hp hE hl (fun i v x h1 h2 => ?_) (fun i o hi => ?_) (fun i j oi oj gg h1 h2 h3 h4 => ?_)
 rotate_left
 ·cases i with
  | zero =>
   simp only [List.getElem?_cons_zero, Option.some.injEq] at h2
   subst h2
   have := (hv 0 v (.row r k) h1 rfl).row_inv hκ.symm
   rw [this, hvv]
   exact .sl r 0 L.length cap g e1 hnc hcm (fun _ _ => e2.symm)
  | succ i =>
   simp only [List.getElem?_cons_succ] at h2
   exact (hv (i + 1) v x h1 (by simpa using h2)).other (hasL_mem hrest h2) e3 e4
 ·rcases keyCase hi with ⟨rfl, rfl⟩ | ⟨hir, hi⟩
  ·refine ⟨g, cur.toList, e1, Nat.zero_le _, by rw [Array.toArray_toList]; exact hh, by rw [List.length_append, hml, List.length_replicate, Array.length_toList]; omega, fun t v x h1 h2 => ?_, hnp g hg⟩
   by_cases ht : t < L.flatten.length
   ·rw [List.getElem?_append_left (by rw [hml]; exact ht), List.getElem?_map, Option.map_eq_some_iff] at h2
    obtain ⟨z, hz, rfl⟩ := h2
    obtain ⟨p, jj, y, h3, h4, h5⟩ := flat_get hls hz
    obtain ⟨u, hu, hru⟩ := hd p jj y z h4 h5
    rw [← htk, ← h3, List.getElem?_take, if_pos (by omega)] at hu
    rw [h1] at hu
    cases hu
    exact .d _ _ hru
   ·rw [List.getElem?_append_right (by rw [hml]; omega)] at h2
    have := List.eq_of_mem_replicate (List.mem_of_getElem? h2)
    subst this
    exact .und _
  ·exact (ho i o (by rw [find_ne hir]; exact hi)).other (hob i o hi) hir e3 e4
 ·obtain ⟨o1, k1⟩ := key1 i oi h1
  obtain ⟨o2, k2⟩ := key1 j oj h2
  exact hap i j o1 o2 gg k1 k2 (by rw [← hbl]; exact h3) (by rw [← hbl]; exact h4)
 refine hcall.mono ?_
 rintro e' w' ⟨v, x, ob', Pr', β', κ', he, ⟨L', Z, hP, hs', hlen, rfl, rfl⟩, hA⟩
 obtain ⟨q1, q2⟩ : β' r = β1 r ∧ κ' r = κ1 r := by
  rcases hA.keeps r _ (find_eq _ _ _) with h1 | ⟨_, A, n, c, h1⟩
  ·exact h1
  ·rw [e1] at h1; cases h1
 obtain ⟨g', cs, p1, p2, p3, p4, p5, p6⟩ := hA.objs r _ (find_eq _ _ _)
 have hg' : g' = g := by
  rw [q1, e1] at p1
  simp only [Value.pointer.injEq, Option.some.injEq, Addr.mk.injEq, and_true] at p1
  exact p1.symm
 subst hg'
 have hval := hA.val
 obtain ⟨c, hvc, hnc', hcm', hcc⟩ : ∃ c, v = .slice (some ⟨g', 0, none⟩) L'.length c ∧ L'.length ≤ c ∧ c ≤ maxLen ∧ c = cap := by
  cases hval with
  | sl _ _ _ c gg hb2 hc hm2 hz =>
   rw [p1] at hb2
   simp only [Value.pointer.injEq, Option.some.injEq, Addr.mk.injEq, and_true] at hb2
   subst hb2
   exact ⟨c, rfl, hc, hm2, (hz (by rw [q2, e2]; omega) rfl).trans (q2.trans e2)⟩
 subst hcc
 subst hvc
 have f1 := updV_same β' r (.slice (some ⟨g', 0, none⟩) L'.length c)
 have f2 := updN_same κ' r (k + 1)
 have f3 := updV_other β' r (.slice (some ⟨g', 0, none⟩) L'.length c)
 have f4 := updN_other κ' r (k + 1)
 have hbl' : ∀ i, blk (updV β' r (.slice (some ⟨g', 0, none⟩) L'.length c) i) = blk (β' i) := fun i => by
  by_cases hi : i = r
  ·rw [hi, f1, p1]; rfl
  ·rw [f3 i hi]
 have hlentO : ∀ g, Lent ((r, O.box e (L.flatten.map V.d ++ List.replicate m .und)) :: ob1) β1 g → Lent ((r, O.vec e s k L) :: ob1) β g := fun g hg => lent_eq (fun i o hi => by
  obtain ⟨o', ho'⟩ := key1 i o hi
  exact ⟨o', ho', (hbl i).symm⟩) hg
 have hlentI : ∀ g, Lent ((r, O.vec e s k L) :: ob1) β g → Lent ((r, O.box e (L.flatten.map V.d ++ List.replicate m .und)) :: ob1) β1 g := fun g hg => lent_eq (fun i o hi => by
  obtain ⟨o', ho'⟩ := key2 i o hi
  exact ⟨o', ho', hbl i⟩) hg
 have hkey : ∀ i o, find ((r, O.vec e s (k + 1) L') :: ob1) i = some o → ∃ o', find ((r, O.box e (L'.flatten.map V.d ++ Z)) :: ob1) i = some o' := fun i o hi => by
  by_cases hir : i = r
  ·exact ⟨_, by rw [hir]; exact find_eq _ _ _⟩
  ·exact ⟨o, by rw [find_ne hir] at hi ⊢; exact hi⟩
 have hfl' := flat_len hs'
 have hle' : L'.length * s ≤ c * s := Nat.mul_le_mul_right _ hnc'
 have hks : ∀ (o2 : O) (o3 : O), keys ((r, o2) :: ob1) = keys ((r, o3) :: ob1) := fun _ _ => rfl
 refine ⟨_, .row r (k + 1), (r, .vec e s (k + 1) L') :: ob1, Pr', updV β' r (.slice (some ⟨g', 0, none⟩) L'.length c), updN κ' r (k + 1), he, ⟨L', hP, rfl, rfl⟩, ?_⟩
 refine ⟨⟨hA.under.os, hA.under.tape, hA.under.output, hA.under.size, fun j hj hn => hA.under.block j hj (fun h => hn (hlentO j h))⟩, hA.st, hA.pr0, fun b o hb => (hA.prn b o hb).imp id (fun h => h.imp id (hlentO b)), hA.prl, ?_, fun i o hi => ?_, fun i j oi oj gg h1 h2 h3 h4 => ?_, fun i o gg h1 h2 => ?_, fun i o hi => ?_, ?_, fun i o hi => ?_⟩
 ·exact .row r (k + 1) _ ⟨_, _, _, rfl⟩ (by rw [f2]; exact Nat.le_refl _) (fun _ => f1.symm)
 ·rcases keyCase hi with ⟨rfl, rfl⟩ | ⟨hir, hi⟩
  ·refine ⟨f2, cs.take (L'.length * s), ?_, hs', fun p j x z h1 h2 => ?_, fun gg hgg o => ?_⟩
   ·rw [f1]
    rw [List.length_append, List.length_append, List.length_replicate] at hlen
    have hcl : cs.length = c * s := by rw [p4, List.length_append]; omega
    exact ⟨by simp; omega, .inr ⟨g', c, cs.toArray, rfl, Nat.zero_le _, p3, hnc', hcm', by simp; omega, by simp⟩⟩
   ·have h3 := flat_put hs' h1 h2
    have hlt := (List.getElem?_eq_some_iff.1 h3).1
    have hcl : p * s + j < cs.length := by rw [p4, List.length_append, List.length_map]; omega
    have h4 := p5 (p * s + j) cs[p * s + j] (.d z) (List.getElem?_eq_getElem hcl) (by
     rw [List.getElem?_append_left (by rw [List.length_map]; exact hlt), List.getElem?_map, h3]
     rfl)
    exact ⟨cs[p * s + j], by rw [List.getElem?_take, if_pos (by omega)]; exact List.getElem?_eq_getElem hcl, h4.d_inv⟩
   ·rw [f1] at hgg
    simp only [Value.ownBlock, Option.some.injEq] at hgg
    subst hgg
    exact p6 o
  ·exact (hA.objs i o (by rw [find_ne hir]; exact hi)).other (hob i o hi) hir f3 f4
 ·obtain ⟨o1, k1⟩ := hkey i oi h1
  obtain ⟨o2, k2⟩ := hkey j oj h2
  exact hA.apart i j o1 o2 gg k1 k2 (by rw [← hbl']; exact h3) (by rw [← hbl']; exact h4)
 ·obtain ⟨o1, k1⟩ := hkey i o h1
  exact (hA.own i o1 gg k1 (by rw [← hbl']; exact h2)).imp (hlentO gg) id
 ·by_cases hir : i = r
  ·subst hir
   exact .inr ⟨by rw [f2, hκ]; omega, hos⟩
  ·rw [f3 i hir, f4 i hir]
   have h5 := hA.keeps i o (by rw [find_ne hir] at hi ⊢; exact hi)
   rw [e3 i hir, e4 i hir] at h5
   exact h5
 ·show mem _ r = true
  exact mem_iff.2 (by simp [keys])
 ·rcases keyCase hi with ⟨rfl, rfl⟩ | ⟨hir, hi⟩
  ·exact ⟨by simp [keys], rfl⟩
  ·exact hA.wo i o (by rw [find_ne hir]; exact hi)
section
variable {E : Entry} {sl : Slots} {ob : Objs} {a : Act} {w : World} {Pr : Prot} {β : Nat → Value} {κ : Nat → Nat}
variable {d : Nat} {dd : Option Nat} {t T ty kt et : TypeId} {p : String} {af : Array Edge} {g : Option (Nat × Bool)} {x y c : Operand} {z : D} {zv : Value}
end
section
variable {E : Entry} {ops : List Oper} {Q : Exit → Act → World → Prop} {sl sl0 : Slots} {ob ob0 : Objs} {pl : List (Nat × Bool × Oper)} {n : Nat} {tail : (World → Prop) → Act → World → Prop} {g : Option (Nat × Bool)} {p : String} {af : Array Edge} {ty t T kt et : TypeId} {d : Nat} {x y : Operand} {z : D} {zv : Value}
end
end
section
open Go.RowKit
section
variable {E : Entry} {sl : Slots} {ob : Objs} {d : Option Nat} {t T ty : TypeId} {p : String} {af : Array Edge} {g : Option (Nat × Bool)} {x y : Operand} {b c : Bool}
theorem y_beql (hx : ev sl x = .d (.val (.bool b))) (hy : ev sl y = .d (.val (.bool c))) (ht : Try.prog.underlying t = some .bool) : Y E ⟨d, .binOp .eql t x y ty, T, p, af, g⟩ sl ob (.d (.val (.bool (b == c)))) := y_bin' hx hy rfl fun w => by
 have h := run_equalIn_bool' w 9999 t b c ht
 simp only [binOp, Op.equal, Sem.run_bind]
 rw [show Op.maxDepth = 9999 + 1 from rfl, h]
 rfl
theorem y_bneq (hx : ev sl x = .d (.val (.bool b))) (hy : ev sl y = .d (.val (.bool c))) (ht : Try.prog.underlying t = some .bool) : Y E ⟨d, .binOp .neq t x y ty, T, p, af, g⟩ sl ob (.d (.val (.bool (b != c)))) := y_bin' hx hy rfl fun w => by
 have h := run_equalIn_bool' w 9999 t b c ht
 simp only [binOp, Op.equal, Sem.run_bind]
 rw [show Op.maxDepth = 9999 + 1 from rfl, h]
 rfl
end
end
end Go.Proofs.Ytgiacdhffklenaa
