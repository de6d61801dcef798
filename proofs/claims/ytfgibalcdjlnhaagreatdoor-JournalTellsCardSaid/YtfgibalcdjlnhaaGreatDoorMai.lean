/-
  An object's name is changed, in a function that was lent nothing; over abstract states. Conditions: nobody speaks of the new name.
  Strings copied into slices that are made; parts of these; over abstract states. Conditions: what is copied fits.
  Rows that may be changed in place; such a row, seen as a box while a call changes it; closures; over abstract states. Conditions: none.
-/
import Derived.Lib.BufferWrite
import Derived.Test.YtfgibalcdjlnhaaGreatDoorMah
section
namespace Go.Proofs.YtfgibalcdjlnhaaGreatDoor
open Go.RowKit

theorem rn1 (i j k : Nat) : rn [(i, j)] k = if k = i then j else k := by
  simp only [rn]
  by_cases h : k = i
  · subst h
    rw [Nat.beq_refl, if_pos rfl]
    rfl
  · rw [nbeq_ne h, if_neg h]
    rfl
def renS (l : List (Nat × Nat)) : Slots → Slots
  | [] => []
  | (k, v) :: r => (k, v.ren l) :: renS l r
theorem look_renS (l : List (Nat × Nat)) : ∀ (sl : Slots) (k : Nat), look (renS l sl) k = (look sl k).ren l
  | [], _ => rfl
  | (n, v) :: r, k => by
    simp only [renS]
    by_cases h : k = n
    · subst h
      rw [look_eq, look_eq]
    · rw [look_ne h, look_ne h]
      exact look_renS l r k
section
variable {w : World} {Pr : Prot} {β β' : Nat → Value} {κ κ' : Nat → Nat} {i j : Nat}
theorem has_ne {k : Nat} (h : Nat.beq j k = false) : k ≠ j := by
  rintro rfl
  rw [Nat.beq_refl] at h
  cases h
theorem RepV.ren1 {v : Value} {x : V} (h : RepV w Pr β κ v x) (hx : x.has j = false) (hb : ∀ k, k ≠ j → β' (rn [(i, j)] k) = β k) (hk : ∀ k, k ≠ j → κ' (rn [(i, j)] k) = κ k) : RepV w Pr β' κ' v (x.ren [(i, j)]) := by
  have sub : ∀ {cs : List Value} {xs : List V}, (∀ (m : Nat) (v : Value) (d : V), cs[m]? = some v → xs[m]? = some d → d.has j = false → RepV w Pr β' κ' v (d.ren [(i, j)])) → V.hasL j xs = false → ∀ (m : Nat) (v : Value) (d : V), cs[m]? = some v → (V.renL [(i, j)] xs)[m]? = some d → RepV w Pr β' κ' v d := by
    intro cs xs ih hw m v d h1 h2
    rw [renL_get, Option.map_eq_some_iff] at h2
    obtain ⟨y, h2, rfl⟩ := h2
    exact ih m v y h1 h2 (hasL_mem hw h2)
  induction h with
  | und v => exact .und v
  | d v z h => exact .d v z h
  | ep b p o z u hr => exact .ep b p o z u hr
  | box m o g h => exact .box _ o g ((hb m (has_ne hx)).trans h)
  | sl m o n c g h hc hm hz => exact .sl _ o n c g ((hb m (has_ne hx)).trans h) hc hm (by rw [hk m (has_ne hx)]; exact hz)
  | mp m g h => exact .mp _ g ((hb m (has_ne hx)).trans h)
  | row m k v hs hk' h => exact .row _ k v hs (by rw [hk m (has_ne hx)]; exact hk') (by rw [hk m (has_ne hx), hb m (has_ne hx)]; exact h)
  | agg cs xs hl hd ih => exact .agg cs _ (by rw [hl, renL_len]) (sub ih hx)
  | clo f cs xs hl hd ih => exact .clo f cs _ (by rw [hl, renL_len]) (sub ih hx)
  | mv f cs xs hl hd ih => exact .mv f cs _ (by rw [hl, renL_len]) (sub ih hx)
  | tup cs xs hl hd ih => exact .tup cs _ (by rw [hl, renL_len]) (sub ih hx)
theorem RepO.ren1 {B k : Nat} {o : O} (h : RepO w Pr B β κ k o) (hk0 : k ≠ j) (ho : o.has j = false) (hb : ∀ k, k ≠ j → β' (rn [(i, j)] k) = β k) (hk : ∀ k, k ≠ j → κ' (rn [(i, j)] k) = κ k) : RepO w Pr B β' κ' (rn [(i, j)] k) (o.ren [(i, j)]) := by
  cases o with
  | box T xs =>
    obtain ⟨g, cs, h1, h2, h3, h4, h5, h6⟩ := h
    refine ⟨g, cs, (hb k hk0).trans h1, h2, h3, by rw [h4, renL_len], fun m v x hm hx => ?_, h6⟩
    rw [renL_get, Option.map_eq_some_iff] at hx
    obtain ⟨y, h7, rfl⟩ := hx
    exact (h5 m v y hm h7).ren1 (hasL_mem ho h7) hb hk
  | row e s n r =>
    obtain ⟨h1, xs, h2, h3, h4, h5⟩ := h
    exact ⟨(hk k hk0).trans h1, xs, by rw [hb k hk0]; exact h2, h3, h4, by rw [hb k hk0]; exact h5⟩
  | vec e s n r =>
    obtain ⟨h1, xs, h2, h3, h4, h5⟩ := h
    exact ⟨(hk k hk0).trans h1, xs, by rw [hb k hk0]; exact h2, h3, h4, by rw [hb k hk0]; exact h5⟩
  | byt e n r =>
    obtain ⟨h1, g, cap, cur, fz, h2, h3⟩ := h
    exact ⟨(hk k hk0).trans h1, g, cap, cur, fz, (hb k hk0).trans h2, h3⟩
  | map T c r =>
    obtain ⟨g, es, h1, h2⟩ := h
    exact ⟨g, es, (hb k hk0).trans h1, h2⟩
  | iter v s n c =>
    obtain ⟨g, gm, h1, h2, h3, h4, h5⟩ := h
    exact ⟨g, gm, (hb k hk0).trans h1, h2, h3, h4.ren1 ho hb hk, h5⟩
end
/-- an object of the new names: which it was -/
theorem find_ren1 {i j : Nat} : ∀ {ob : Objs} {k : Nat} {o : O}, (∀ q ∈ ob, q.1 ≠ j) → find (renO [(i, j)] ob) k = some o → ∃ k' o', k' ≠ j ∧ k = rn [(i, j)] k' ∧ find ob k' = some o' ∧ o = o'.ren [(i, j)]
  | [], _, _, _, h => by cases h
  | (n, x) :: r, k, o, hne, h => by
    simp only [renO] at h
    by_cases hk : k = rn [(i, j)] n
    · subst hk
      rw [find_eq] at h
      cases h
      exact ⟨n, x, hne (n, x) (by simp), rfl, find_eq n x r, rfl⟩
    · rw [find_ne hk] at h
      obtain ⟨k', o', h1, h2, h3, h4⟩ := find_ren1 (fun q hq => hne q (by simp [hq])) h
      refine ⟨k', o', h1, h2, ?_, h4⟩
      rw [find_ne (fun e => hk (by rw [h2, e])), h3]
section
variable {E : Entry} {sl : Slots} {ob : Objs} {a : Act} {w : World} {Pr : Prot} {β : Nat → Value} {κ : Nat → Nat}
theorem Good.ren1 (h : Good E sl ob a w Pr β κ) {i j : Nat} (h0 : find E.ob0 j = none) (hno : noneOf j sl ob = true) : Inv E (renS [(i, j)] sl) (renO [(i, j)] (dropK [j] ob)) a w := by
  let β' : Nat → Value := fun k => if k = j then β i else β k
  let κ' : Nat → Nat := fun k => if k = j then κ i else κ k
  have hb : ∀ k, k ≠ j → β' (rn [(i, j)] k) = β k := fun k hk => by
    rw [rn1]
    by_cases hi : k = i
    · rw [if_pos hi, hi]
      simp [β']
    · rw [if_neg hi]
      simp [β', hk]
  have hk : ∀ k, k ≠ j → κ' (rn [(i, j)] k) = κ k := fun k hk => by
    rw [rn1]
    by_cases hi : k = i
    · rw [if_pos hi, hi]
      simp [κ']
    · rw [if_neg hi]
      simp [κ', hk]
  have hne : ∀ q ∈ dropK [j] ob, q.1 ≠ j := by
    have : ∀ (r : Objs), ∀ q ∈ dropK [j] r, q.1 ≠ j := by
      intro r
      induction r with
      | nil => intro q hq; cases hq
      | cons p r ih =>
        obtain ⟨n, x⟩ := p
        intro q hq
        simp only [dropK] at hq
        cases hm : mem [j] n with
        | true => rw [hm] at hq; exact ih q hq
        | false =>
          rw [hm] at hq
          simp only [cond_false, List.mem_cons] at hq
          rcases hq with rfl | hq
          · intro e
            have e : n = j := e
            rw [e] at hm
            simp [mem] at hm
          · exact ih q hq
    exact this ob
  have hfind : ∀ k o, find (renO [(i, j)] (dropK [j] ob)) k = some o → ∃ k' o', k' ≠ j ∧ k = rn [(i, j)] k' ∧ find ob k' = some o' ∧ o = o'.ren [(i, j)] := fun k o hko => by
    obtain ⟨k', o', h1, h2, h3, h4⟩ := find_ren1 hne hko
    exact ⟨k', o', h1, h2, (find_dropK h3).2, h4⟩
  refine ⟨Pr, β', κ', h.below, h.st0, h.pr0, h.prn, h.prl, h.size, h.defers, fun k => ?_, fun k o hko => ?_, fun k m ok om g h1 h2 h3 h4 => ?_, fun k o g h1 h2 => ?_, fun k o h1 => ?_, h.fresh⟩
  · rw [look_renS]
    exact (h.slots k).ren1 (noneOf_slot hno k) hb hk
  · obtain ⟨k', o', q1, rfl, q3, rfl⟩ := hfind k o hko
    exact (h.objs k' o' q3).ren1 q1 (noneOf_obj hno q3) hb hk
  · obtain ⟨k', o1, q1, rfl, q3, _⟩ := hfind k ok h1
    obtain ⟨m', o2, q4, rfl, q6, _⟩ := hfind m om h2
    rw [hb k' q1] at h3
    rw [hb m' q4] at h4
    rw [h.apart k' m' o1 o2 g q3 q6 h3 h4]
  · obtain ⟨k', o', q1, rfl, q3, _⟩ := hfind k o h1
    rw [hb k' q1] at h2
    exact h.own k' o' g q3 h2
  · have hkj : k ≠ j := fun e => by rw [e, h0] at h1; cases h1
    have e1 : β' k = β k := by simp [β', hkj]
    have e2 : κ' k = κ k := by simp [κ', hkj]
    rw [e1, e2]
    exact h.keeps k o h1
theorem al_ren {ops : Array Oper} {rest : List Oper} {Q : Exit → Act → World → Prop} (i j : Nat) (h0 : find E.ob0 j = none) (hno : noneOf j sl ob = true) (h : AL E ops rest Q (renS [(i, j)] sl) (renO [(i, j)] (dropK [j] ob))) : AL E ops rest Q sl ob := ⟨fun a w ⟨_, _, _, hg⟩ => h.run a w (hg.ren1 h0 hno)⟩
theorem aq_ren {x : Exit} {Q : Exit → Act → World → Prop} (i j : Nat) (h0 : find E.ob0 j = none) (hno : noneOf j sl ob = true) (h : AQ E x Q (renS [(i, j)] sl) (renO [(i, j)] (dropK [j] ob))) : AQ E x Q sl ob := ⟨fun a w ⟨_, _, _, hg⟩ => h.run a w (hg.ren1 h0 hno)⟩
/-- a nil slice in a box's cell, as a list of nothing -/
theorem Good.nilcell (h : Good E sl ob a w Pr β κ) {i j s : Nat} {T : TypeId} {l : List V} (hf : find ob i = some (.box T l)) (hj : l[j]? = some (.d (.val (.slice none 0 0)))) : Good E sl ((i, .box T (l.set j (.d (.list s [])))) :: ob) a w Pr β κ := by
  have hcase : ∀ m om, find ((i, .box T (l.set j (.d (.list s [])))) :: ob) m = some om → (m = i ∧ om = .box T (l.set j (.d (.list s [])))) ∨ (m ≠ i ∧ find ob m = some om) := by
    intro m om hm
    by_cases hmi : m = i
    · subst hmi
      rw [find_eq] at hm
      cases hm
      exact .inl ⟨rfl, rfl⟩
    · rw [find_ne hmi] at hm
      exact .inr ⟨hmi, hm⟩
  have hkey : ∀ m om, find ((i, .box T (l.set j (.d (.list s [])))) :: ob) m = some om → ∃ om', find ob m = some om' := by
    intro m om hm
    rcases hcase m om hm with ⟨rfl, _⟩ | ⟨_, h1⟩
    · exact ⟨_, hf⟩
    · exact ⟨_, h1⟩
  refine ⟨h.below, h.st0, h.pr0, h.prn, h.prl, h.size, h.defers, h.slots, fun m om hm => ?_, fun m k om ok g h1 h2 => ?_, fun m om g h1 => ?_, h.keeps, h.fresh⟩
  · rcases hcase m om hm with ⟨rfl, rfl⟩ | ⟨_, h1⟩
    · obtain ⟨g, cs, q1, q2, q3, q4, q5, q6⟩ := h.objs m _ hf
      refine ⟨g, cs, q1, q2, q3, by simp [q4], fun n v x hn hx => ?_, q6⟩
      by_cases hnj : j = n
      · subst hnj
        have hlt := (List.getElem?_eq_some_iff.1 hj).1
        rw [List.getElem?_set_self hlt] at hx
        cases hx
        have := (q5 j v _ hn hj).val_inv
        subst this
        exact .d _ _ (.nil none 0 s (Nat.zero_le _))
      · rw [List.getElem?_set_ne hnj] at hx
        exact q5 n v x hn hx
    · exact h.objs m om h1
  · obtain ⟨o1, k1⟩ := hkey m om h1
    obtain ⟨o2, k2⟩ := hkey k ok h2
    exact h.apart m k o1 o2 g k1 k2
  · obtain ⟨o1, k1⟩ := hkey m om h1
    exact h.own m o1 g k1
theorem aq_nilcell {x : Exit} {Q : Exit → Act → World → Prop} (i j s : Nat) {T : TypeId} {l l' : List V} (hf : find ob i = some (.box T l)) (hj : l[j]? = some (.d (.val (.slice none 0 0)))) (hl : l.set j (.d (.list s [])) = l') (h : AQ E x Q sl ((i, .box T l') :: ob)) : AQ E x Q sl ob := by
  subst hl
  exact ⟨fun a w ⟨_, _, _, hg⟩ => h.run a w ⟨_, _, _, hg.nilcell hf hj⟩⟩
end
end Go.Proofs.YtfgibalcdjlnhaaGreatDoor
end
section
namespace Go.Proofs.YtfgibalcdjlnhaaGreatDoor
open Go.RowKit

section
variable {E : Entry} {sl : Slots} {ob : Objs} {a : Act} {w : World} {Pr : Prot} {β : Nat → Value} {κ : Nat → Nat}
variable {d : Nat} {dd : Option Nat} {t T ty : TypeId} {p : String} {af : Array Edge} {g : Option (Nat × Bool)} {x y c : Operand}
def byteV (s : ByteArray) : List V := s.data.toList.map fun u => .d (.val (.int .u8 u.toNat))
theorem byteV_len (s : ByteArray) : (byteV s).length = s.size := by
  unfold byteV
  rw [List.length_map]
  exact (Lib.size_eq s).symm
set_option maxRecDepth 20000 in
/-- copy(b, s) -/
theorem st_copystr {i o n eb e : Nat} {ez : Value} {T' t0 t1 : TypeId} {l l' : List V} {s : ByteArray} {A : Array TypeId} (hx : ev sl x = .sl i o n) (hf : find ob i = some (.box T' l)) (hy : ev sl y = .d (.str s)) (hA : A = #[t0, t1]) (hT : ti t0 = .sl e 1 eb ez) (hs : s.size ≤ n) (hl : o + n ≤ l.length) (hr : put l o (byteV s) = l') (hd : d < E.n) :
    Step E ⟨some d, .call { callee := .builtin .copy, args := #[x, y], argTypes := A }, T, p, af, g⟩ sl ob ((d, .d (.val (.int .i64 s.size))) :: sl) ((i, .box T' l') :: ob) := by
  subst hA hr
  rintro a w ⟨Pr, β, κ, h⟩ K Q hK
  obtain ⟨_, j, _, hu, _, hj, _, hsz, _⟩ := ti_sl hT
  have hv := good_ev h x
  rw [hx] at hv
  generalize hav : a.eval x = v at hv
  have hyv : a.eval y = .string s := good_val h hy
  cases hv with
  | sl _ _ _ cap gg hb hc hm hz =>
    obtain ⟨b', cs, hb', hB, hh, hcl, hcv, hno⟩ := h.objs i _ hf
    rw [hb'] at hb
    simp only [Value.pointer.injEq, Option.some.injEq, Addr.mk.injEq, and_true] at hb
    subst hb
    have hrun := Lib.run_copy_row_string (P := Tryz.prog) w t0 t1 T e b' o n cap s cs.toArray T' hu (by simp [hj, hsz]) hh hs (by simp; omega)
    have hrun2 : (execOp a.eval ⟨some d, .call { callee := .builtin .copy, args := #[x, y], argTypes := #[t0, t1] }, T, p, af, g⟩).run Tryz.prog w = .ok (.value (goInt s.size)) (w.setRow b' (cs.take o ++ Lib.byteCells s.data.toList ++ cs.drop (o + s.size)).toArray) := by
      simp [execOp, resolve, invoke, builtin, hav, hyv, hrun]
    unfold Oper.wp
    rw [hrun2, Oper.upon_value]
    have hbl : (Lib.byteCells s.data.toList).length = s.size := by rw [Lib.byteCells_length, ← Lib.size_eq]
    have hG : Good E sl ((i, .box T' (put l o (byteV s))) :: ob) a (w.setRow b' (cs.take o ++ Lib.byteCells s.data.toList ++ cs.drop (o + s.size)).toArray) Pr β κ := by
      refine h.setobj (T := T') hf hb' hno ⟨_, hh⟩ (fun hkeep => ?_)
      refine ⟨b', cs.take o ++ Lib.byteCells s.data.toList ++ cs.drop (o + s.size), hb', hB, setRow_heap w b' _ _ _ _ hh, by simp [put, byteV_len, hbl]; omega, fun j u z h2 h3 => hkeep u z ?_, hno⟩
      simp only [put, byteV_len] at h3
      rw [List.append_assoc] at h2 h3
      by_cases hj1 : j < o
      · rw [List.getElem?_append_left (by simp; omega), List.getElem?_take, if_pos hj1] at h2 h3
        exact hcv j u z h2 h3
      · rw [List.getElem?_append_right (by simp; omega)] at h2 h3
        have e1 : (cs.take o).length = o := by simp; omega
        have e2 : (l.take o).length = o := by simp; omega
        rw [e1] at h2
        rw [e2] at h3
        by_cases hj2 : j - o < s.size
        · rw [List.getElem?_append_left (by omega)] at h2
          rw [List.getElem?_append_left (by rw [byteV_len]; omega)] at h3
          simp only [Lib.byteCells, byteV, List.getElem?_map, Option.map_eq_some_iff] at h2 h3
          obtain ⟨q1, h4, rfl⟩ := h2
          obtain ⟨q2, h5, rfl⟩ := h3
          rw [h4] at h5
          cases h5
          exact .d _ _ (.val _)
        · rw [List.getElem?_append_right (by omega), List.getElem?_drop] at h2
          rw [List.getElem?_append_right (by rw [byteV_len]; omega), List.getElem?_drop] at h3
          rw [hbl] at h2
          rw [byteV_len] at h3
          exact hcv _ u z h2 h3
    exact hK _ _ ⟨Pr, β, κ, hG.put hd (.d _ _ (.val _))⟩
set_option maxRecDepth 20000 in
/-- b[at:], of a slice that was made -/
theorem y_sub_sl {i o n l1 e eb : Nat} {ez : Value} {lo : Option Operand} (hx : ev sl x = .sl i o n) (hT : ti t = .sl e 1 eb ez) (hl : lowAt sl lo l1) (k1 : l1 < n) :
    Y E ⟨dd, .slice t x lo none none, T, p, af, g⟩ sl ob (.sl i (o + l1) (n - l1)) := fun a w Pr β κ h => by
  obtain ⟨_, j, _, hu, _, hj, _, hs, _⟩ := ti_sl hT
  have hv := good_ev h x
  rw [hx] at hv
  generalize hav : a.eval x = v at hv
  cases hv with
  | sl _ _ _ c gg hb hc hm hz =>
    have hsl : sliced (some ⟨gg, o, none⟩) l1 n c 1 = .slice (some ⟨gg, o + l1, none⟩) (n - l1) (c - l1) := by
      unfold sliced
      rw [if_neg (by omega)]
      simp [Addr.add_lit]
    refine ⟨sliced (some ⟨gg, o, none⟩) l1 n c 1, by rw [hsl]; exact .sl i (o + l1) (n - l1) (c - l1) gg hb (by omega) (by omega) (fun h1 h2 => by have := hz h1 (by omega); omega), fun w' _ => ?_⟩
    have hsz : (sizeOf e).run Tryz.prog w' = .ok 1 w' := by simp [sizeOf, typeInfo, hj, hs]
    have hrb := run_bounds (w' := w') (is := true) (hi := none) h hl (high_none (sl := sl) (len := n)) (Nat.le_of_lt k1) (Nat.le_refl n) hc
    simp only [Option.map_none] at hrb
    simp [execOp, hav, Instr.sliceAt, Instr.slice, run_underlying hu, hrb, hsz, sliced]
end
end Go.Proofs.YtfgibalcdjlnhaaGreatDoor
end
section
namespace Go.Proofs.YtfgibalcdjlnhaaGreatDoor
open Go.RowKit

theorem keyCase {ob : Objs} {i : Nat} {o' : O} : ∀ {m : Nat} {om : O}, find ((i, o') :: ob) m = some om → (m = i ∧ om = o') ∨ (m ≠ i ∧ find ob m = some om) := by
  intro m om hm
  by_cases hmi : m = i
  · subst hmi
    rw [find_eq] at hm
    cases hm
    exact .inl ⟨rfl, rfl⟩
  · rw [find_ne hmi] at hm
    exact .inr ⟨hmi, hm⟩
theorem keyHas {ob : Objs} {i : Nat} {o o' : O} (hf : find ob i = some o) : ∀ {m : Nat} {om : O}, find ((i, o') :: ob) m = some om → ∃ om', find ob m = some om' := by
  intro m om hm
  rcases keyCase hm with ⟨rfl, _⟩ | ⟨_, h1⟩
  · exact ⟨_, hf⟩
  · exact ⟨_, h1⟩
section
variable {E : Entry} {sl : Slots} {ob : Objs} {a : Act} {w : World} {Pr : Prot} {β : Nat → Value} {κ : Nat → Nat}
/-- An object is said in other words. -/
theorem Good.swap (h : Good E sl ob a w Pr β κ) {i : Nat} {o o' : O} (hf : find ob i = some o) (hr : RepO w Pr 0 β κ i o') : Good E sl ((i, o') :: ob) a w Pr β κ := by
  refine ⟨h.below, h.st0, h.pr0, h.prn, h.prl, h.size, h.defers, h.slots, fun m om hm => ?_, fun m k om ok g h1 h2 => ?_, fun m om g h1 => ?_, h.keeps, h.fresh⟩
  · rcases keyCase hm with ⟨rfl, rfl⟩ | ⟨_, h1⟩
    · exact hr
    · exact h.objs m om h1
  · obtain ⟨o1, k1⟩ := keyHas hf h1
    obtain ⟨o2, k2⟩ := keyHas hf h2
    exact h.apart m k o1 o2 g k1 k2
  · obtain ⟨o1, k1⟩ := keyHas hf h1
    exact h.own m o1 g k1
/-- A slot is said in other words. -/
theorem Good.slot (h : Good E sl ob a w Pr β κ) {j : Nat} {x : V} (hx : RepV w Pr β κ (a.tmps.getD j undef) x) : Good E ((j, x) :: sl) ob a w Pr β κ := by
  refine ⟨h.below, h.st0, h.pr0, h.prn, h.prl, h.size, h.defers, fun i => ?_, h.objs, h.apart, h.own, h.keeps, h.fresh⟩
  by_cases hij : i = j
  · subst hij
    rw [look_eq]
    exact hx
  · rw [look_ne hij]
    exact h.slots i
/-- A row of nothing may be changed. -/
theorem Good.unrow (h : Good E sl ob a w Pr β κ) {r e s k : Nat} (hf : find ob r = some (.row e s k [])) : Good E sl ((r, .vec e s k []) :: ob) a w Pr β κ := by
  obtain ⟨hκ, xs, hown, hls, hd, hpr⟩ := h.objs r _ hf
  exact h.swap hf ⟨hκ, xs, hown, hls, hd, fun g hg o ho => by have := (hpr g hg o).1 ho; simp at this⟩
theorem aq_unrow {x : Exit} {Q : Exit → Act → World → Prop} (r : Nat) {e s k : Nat} (hf : find ob r = some (.row e s k [])) (h : AQ E x Q sl ((r, .vec e s k []) :: ob)) : AQ E x Q sl ob := ⟨fun a w ⟨_, _, _, hg⟩ => h.run a w ⟨_, _, _, hg.unrow hf⟩⟩
theorem own_blk {B n s : Nat} {e : TypeId} {v : Value} {xs : List Value} (h : w.ownsRow B e s v n xs) : blk v = v.ownBlock := by
  rcases h.2 with ⟨h0, _⟩ | ⟨g', cap, cur, h0, _⟩ <;> exact ownBlock_blk h0
theorem own_slice {B n s : Nat} {e : TypeId} {v : Value} {xs : List Value} (h : w.ownsRow B e s v n xs) : ∃ A m c, v = .slice A m c := by
  rcases h.2 with ⟨h0, _⟩ | ⟨g', cap, cur, h0, _⟩ <;> exact ⟨_, _, _, h0⟩
/-- A row is not changed any more. -/
theorem Good.protect (h : Good E sl ob a w Pr β κ) {r e s k : Nat} {l : List (List D)} (hf : find ob r = some (.vec e s k l)) : Inv E sl ((r, .row e s k l) :: ob) a w := by
  obtain ⟨hκ, xs, hown, hls, hd, hno⟩ := h.objs r _ hf
  have hbb := own_blk hown
  let Pr' : Prot := fun b o => Pr b o ∨ ((β r).ownBlock = some b ∧ o < l.length * s)
  have hs : Stays Pr w w := fun _ _ _ => rfl
  have hp : ∀ b o, Pr b o → Pr' b o := fun _ _ h => .inl h
  refine ⟨Pr', β, κ, h.below, h.st0, fun b o ho => hp b o (h.pr0 b o ho), fun b o ho => ?_, fun b o ho => ?_, h.size, h.defers, fun q => (h.slots q).keep hs hp, fun q o ho => ?_, fun m k om ok g h1 h2 => ?_, fun m om g h1 => ?_, h.keeps, h.fresh⟩
  · rcases ho with ho | ⟨ho, _⟩
    · exact h.prn b o ho
    · exact .inr ((h.own r _ b hf (by rw [hbb]; exact ho)).elim .inr .inl)
  · rcases ho with ho | ⟨ho, _⟩
    · exact h.prl b o ho
    · exact (hown.lt b ho).2
  · rcases keyCase ho with ⟨rfl, rfl⟩ | ⟨hqr, ho⟩
    · refine ⟨hκ, xs, hown, hls, fun p j x d h1 h2 => ?_, fun g hg o => ⟨fun ho => ?_, fun ho => .inr ⟨hg, ho⟩⟩⟩
      · obtain ⟨u, hu, hr⟩ := hd p j x d h1 h2
        exact ⟨u, hu, hr.keep hs hp⟩
      · rcases ho with ho | ⟨_, ho⟩
        · exact absurd ho (hno g hg o)
        · exact ho
    · refine (h.objs q o ho).keep2 hs hp (fun gg hgg m hm => ?_) (fun _ _ => rfl)
      rcases hm with hm | ⟨hm, _⟩
      · exact hm
      · exact absurd (h.apart q r _ _ _ ho hf hgg (by rw [hbb]; exact hm)) hqr
  · obtain ⟨o1, k1⟩ := keyHas hf h1
    obtain ⟨o2, k2⟩ := keyHas hf h2
    exact h.apart m k o1 o2 g k1 k2
  · obtain ⟨o1, k1⟩ := keyHas hf h1
    exact h.own m o1 g k1
theorem aw_protect {z : Code} {Q : Exit → Act → World → Prop} (r : Nat) {e s k : Nat} {l : List (List D)} (hf : find ob r = some (.vec e s k l)) (h : AW E z Q sl ((r, .row e s k l) :: ob)) : AW E z Q sl ob := ⟨fun a w ⟨_, _, _, hg⟩ => h.run a w (hg.protect hf)⟩
theorem RepO.newer {B i r : Nat} {o : O} {β' : Nat → Value} {κ' : Nat → Nat} (h : RepO w Pr B β κ i o) (hi : i ≠ r) (hβ : ∀ j, j ≠ r → β' j = β j) (hκ : ∀ j, j ≠ r → κ' j = κ j) (hr : κ r < κ' r) (hb : ∃ A n c, β r = .slice A n c) : RepO w Pr B β' κ' i o := by
  cases o with
  | box T' lb =>
    obtain ⟨gg, cs, q1, q2, q3, q4, q5, q6⟩ := h
    exact ⟨gg, cs, (hβ i hi).trans q1, q2, q3, q4, fun m u z h3 h4 => (q5 m u z h3 h4).newer hβ hκ hr hb, q6⟩
  | row e' s' k' l' =>
    obtain ⟨q1, q2, q3, q4, q5, q6⟩ := h
    exact ⟨(hκ i hi).trans q1, q2, by rw [hβ i hi]; exact q3, q4, q5, by rw [hβ i hi]; exact q6⟩
  | vec e' s' k' l' =>
    obtain ⟨q1, q2, q3, q4, q5, q6⟩ := h
    exact ⟨(hκ i hi).trans q1, q2, by rw [hβ i hi]; exact q3, q4, q5, by rw [hβ i hi]; exact q6⟩
  | byt e' k' l' =>
    obtain ⟨q1, g, cap, cur, fz, q2, q3⟩ := h
    exact ⟨(hκ i hi).trans q1, g, cap, cur, fz, (hβ i hi).trans q2, q3⟩
  | map T' c r =>
    obtain ⟨g, es, q1, q2⟩ := h
    exact ⟨g, es, (hβ i hi).trans q1, q2⟩
  | iter v s n c =>
    obtain ⟨g, gm, q1, q2, q3, q4, q5⟩ := h
    exact ⟨g, gm, (hβ i hi).trans q1, q2, q3, q4.newer hβ hκ hr hb, q5⟩
/-- A row has a new version. -/
theorem Good.verup (h : Good E sl ob a w Pr β κ) {r k : Nat} {v' : Value} {o' : O} (hκ : κ r = k) (hb : ∃ A n c, β r = .slice A n c) (hown : ∀ g, blk v' = some g → Lent E.ob0 E.β0 g ∨ E.w.heap.size ≤ g)
    (hap : ∀ j oj g, find ob j = some oj → j ≠ r → blk (β j) = some g → blk v' ≠ some g) (ho : RepO w Pr 0 (updV β r v') (updN κ r (k + 1)) r o') : Good E sl ((r, o') :: ob) a w Pr (updV β r v') (updN κ r (k + 1)) := by
  have e1 := updV_same β r v'
  have e2 := updN_same κ r (k + 1)
  have e3 := updV_other β r v'
  have e4 := updN_other κ r (k + 1)
  have hlt : κ r < updN κ r (k + 1) r := by rw [e2]; omega
  refine ⟨h.below, h.st0, h.pr0, h.prn, h.prl, h.size, h.defers, fun i => (h.slots i).newer e3 e4 hlt hb, fun m om hm => ?_, fun m j om oj g h1 h2 h3 h4 => ?_, fun m om g h1 h2 => ?_, fun m o hm => ?_, h.fresh⟩
  · rcases keyCase hm with ⟨rfl, rfl⟩ | ⟨hmr, hm⟩
    · exact ho
    · exact (h.objs m om hm).newer hmr e3 e4 hlt hb
  · by_cases hmr : m = r
    · by_cases hjr : j = r
      · rw [hmr, hjr]
      · rw [hmr, e1] at h3
        rw [e3 j hjr] at h4
        exact absurd h3 (hap j oj g (find_other hjr h2) hjr h4)
    · rw [e3 m hmr] at h3
      by_cases hjr : j = r
      · rw [hjr, e1] at h4
        exact absurd h4 (hap m om g (find_other hmr h1) hmr h3)
      · rw [e3 j hjr] at h4
        exact h.apart m j om oj g (find_other hmr h1) (find_other hjr h2) h3 h4
  · rcases keyCase h1 with ⟨rfl, _⟩ | ⟨hmr, h1⟩
    · rw [e1] at h2
      exact hown g h2
    · rw [e3 m hmr] at h2
      exact h.own m om g h1 h2
  · by_cases hmr : m = r
    · subst hmr
      rw [e1, e2]
      refine .inr ?_
      rcases h.keeps m o hm with ⟨k1, k2⟩ | ⟨k1, k2⟩
      · exact ⟨by omega, by rw [← k1]; exact hb⟩
      · exact ⟨by omega, k2⟩
    · rw [e3 m hmr, e4 m hmr]
      exact h.keeps m o hm
/-- A box's cell that holds a row holds nothing any more: the row's next version. -/
theorem Good.reset (h : Good E sl ob a w Pr β κ) {i j r e s k : Nat} {T : TypeId} {l : List V} {L : List (List D)} (hf : find ob i = some (.box T l)) (hj : l[j]? = some (.d (.val (.slice none 0 0)))) (hr : find ob r = some (.row e s k L)) : Inv E sl ((i, .box T (l.set j (.row r (k + 1)))) :: (r, .vec e s (k + 1) []) :: ob) a w := by
  obtain ⟨hκ, xs, hown, hls, hd, hpr⟩ := h.objs r _ hr
  have hir : i ≠ r := by rintro rfl; rw [hf] at hr; cases hr
  have hG := h.verup (r := r) (k := k) (v' := .slice none 0 0) (o' := .vec e s (k + 1) []) hκ (own_slice hown) (fun g hg => by simp [blk] at hg) (fun _ _ _ _ _ _ => by simp [blk]) ⟨updN_same _ _ _, [], by rw [updV_same]; exact World.ownsRow_nil _ _ _ _, by simp, fun p j x d h1 => by simp at h1, fun g hg => by rw [updV_same] at hg; simp [Value.ownBlock] at hg⟩
  have hf' : find ((r, O.vec e s (k + 1) []) :: ob) i = some (.box T l) := by rw [find_ne hir]; exact hf
  refine ⟨_, _, _, hG.swap hf' ?_⟩
  obtain ⟨g, cs, q1, q2, q3, q4, q5, q6⟩ := hG.objs i _ hf'
  refine ⟨g, cs, q1, q2, q3, by simp [q4], fun n v x hn hx => ?_, q6⟩
  by_cases hnj : j = n
  · subst hnj
    have hlt := (List.getElem?_eq_some_iff.1 hj).1
    rw [List.getElem?_set_self hlt] at hx
    cases hx
    have hv := (q5 j v _ hn hj).val_inv
    exact .row r (k + 1) _ ⟨none, 0, 0, hv⟩ (by rw [updN_same]; exact Nat.le_refl _) (fun _ => by rw [hv, updV_same])
  · rw [List.getElem?_set_ne hnj] at hx
    exact q5 n v x hn hx
theorem aq_reset {x : Exit} {Q : Exit → Act → World → Prop} (i j r : Nat) {e s k : Nat} {T : TypeId} {l l' : List V} {L : List (List D)} (hf : find ob i = some (.box T l)) (hj : l[j]? = some (.d (.val (.slice none 0 0)))) (hr : find ob r = some (.row e s k L)) (hl : l.set j (.row r (k + 1)) = l') (h : AQ E x Q sl ((i, .box T l') :: (r, .vec e s (k + 1) []) :: ob)) : AQ E x Q sl ob := by
  subst hl
  exact ⟨fun a w ⟨_, _, _, hg⟩ => h.run a w (hg.reset hf hj hr)⟩
theorem flat_get {s : Nat} : ∀ {L : List (List D)}, (∀ x ∈ L, x.length = s) → ∀ {t : Nat} {z : D}, L.flatten[t]? = some z → ∃ p j x, t = p * s + j ∧ L[p]? = some x ∧ x[j]? = some z
  | [], _, t, z, h => by simp at h
  | y :: L, hs, t, z, h => by
    have hy : y.length = s := hs y (by simp)
    rw [List.flatten_cons] at h
    by_cases ht : t < s
    · rw [List.getElem?_append_left (by omega)] at h
      exact ⟨0, t, y, by omega, rfl, h⟩
    · rw [List.getElem?_append_right (by omega), hy] at h
      obtain ⟨p, j, x, h1, h2, h3⟩ := flat_get (fun x hx => hs x (by simp [hx])) h
      exact ⟨p + 1, j, x, by rw [Nat.add_mul]; omega, by simpa using h2, h3⟩
theorem flat_put {s : Nat} : ∀ {L : List (List D)}, (∀ x ∈ L, x.length = s) → ∀ {p j : Nat} {x : List D} {z : D}, L[p]? = some x → x[j]? = some z → L.flatten[p * s + j]? = some z
  | [], _, p, j, x, z, h, _ => by simp at h
  | y :: L, hs, p, j, x, z, h, h2 => by
    have hy : y.length = s := hs y (by simp)
    rw [List.flatten_cons]
    cases p with
    | zero =>
      simp at h
      subst h
      have := (List.getElem?_eq_some_iff.1 h2).1
      rw [List.getElem?_append_left (by omega), Nat.zero_mul, Nat.zero_add]
      exact h2
    | succ p =>
      rw [List.getElem?_append_right (by rw [Nat.add_mul]; omega), hy, show (p + 1) * s + j - s = p * s + j by rw [Nat.add_mul]; omega]
      exact flat_put (fun x hx => hs x (by simp [hx])) (by simpa using h) h2
theorem flat_len {s : Nat} : ∀ {L : List (List D)}, (∀ x ∈ L, x.length = s) → L.flatten.length = L.length * s
  | [], _ => by simp
  | y :: L, hs => by
    rw [List.flatten_cons, List.length_append, hs y (by simp), flat_len (fun x hx => hs x (by simp [hx])), List.length_cons, Nat.add_mul]
    omega
/-- A row that may be changed, seen as a box. -/
theorem Good.view (h : Good E sl ob a w Pr β κ) {r e s k q j : Nat} {L : List (List D)} (hf : find ob r = some (.vec e s k L)) (hL : L ≠ []) (hj : look sl j = .row r k) (hno : noneOf q sl ob = true) (hq : q < E.n) (hqr : q ≠ r) :
    ∃ m c g, c * s = L.flatten.length + m ∧ c ≠ 0 ∧ c ≤ maxLen ∧ κ r = k ∧ (∃ A n c, β r = .slice A n c) ∧ (∀ x ∈ L, x.length = s) ∧
      Good E ((j, .sl q 0 L.length) :: sl) ((q, .box e (L.flatten.map V.d ++ List.replicate m .und)) :: dropK [r] ob) a w Pr (updV β q (.pointer (some ⟨g, 0, none⟩))) (updN κ q c) := by
  obtain ⟨hκ, xs, hown, hls, hd, hnp⟩ := h.objs r _ hf
  have hv0 : a.tmps.getD j undef = β r := by
    have := h.slots j
    rw [hj] at this
    exact this.row_inv hκ.symm
  have hos := own_slice hown
  have hbb := own_blk hown
  have hln : L.length ≠ 0 := fun e => hL (List.eq_nil_of_length_eq_zero e)
  have hx1 := hown.1
  rcases hown.2 with ⟨_, h0⟩ | ⟨g, cap, cur, hv, _, hh, hnc, hcm, hcs, htk⟩
  · exact absurd h0 hln
  have hfl := flat_len hls
  have hle : L.length * s ≤ cap * s := Nat.mul_le_mul_right _ hnc
  have hno' : noneOf q sl (dropK [r] ob) = true := by
    simp only [noneOf, Bool.and_eq_true] at hno ⊢
    refine ⟨hno.1, List.all_eq_true.2 fun p hp => ?_⟩
    have : ∀ (ob : Objs), p ∈ dropK [r] ob → p ∈ ob := by
      intro ob
      induction ob with
      | nil => intro h; exact h
      | cons p' ob ih =>
        obtain ⟨i, x⟩ := p'
        simp only [dropK]
        cases mem [r] i with
        | true => intro h; exact List.mem_cons_of_mem _ (ih h)
        | false =>
          intro h
          rcases List.mem_cons.1 h with h | h
          · exact h ▸ List.mem_cons_self
          · exact List.mem_cons_of_mem _ (ih h)
    exact List.all_eq_true.1 hno.2 p (this ob hp)
  have hg : (β r).ownBlock = some g := by rw [hv]; rfl
  have hgb : blk (β r) = some g := by rw [hbb, hg]
  let β' := updV β q (.pointer (some ⟨g, 0, none⟩))
  let κ' := updN κ q cap
  have e1 : β' q = .pointer (some ⟨g, 0, none⟩) := updV_same _ _ _
  have e2 : κ' q = cap := updN_same _ _ _
  have e3 : ∀ j, j ≠ q → β' j = β j := updV_other _ _ _
  have e4 : ∀ j, j ≠ q → κ' j = κ j := updN_other _ _ _
  have hfr : ∀ i o, find E.ob0 i = some o → i ≠ q := fun i o hi e => by have := h.fresh i o hi; omega
  refine ⟨cap * s - L.flatten.length, cap, g, by omega, by omega, hcm, hκ, hos, hls, ?_⟩
  refine Good.slot (j := j) (x := .sl q 0 L.length) (sl := sl) ⟨h.below, h.st0, h.pr0, h.prn, h.prl, h.size, h.defers, fun i => (h.slots i).other (noneOf_slot hno i) e3 e4, fun m om hm => ?_, fun m j om oj gg h1 h2 h3 h4 => ?_, fun m om gg h1 h2 => ?_, fun m o hm => ?_, h.fresh⟩ ?_
  · rcases keyCase hm with ⟨rfl, rfl⟩ | ⟨hmq, hm⟩
    · have hml : (L.flatten.map V.d).length = L.flatten.length := List.length_map _
      refine ⟨g, cur.toList, e1, Nat.zero_le _, by rw [Array.toArray_toList]; exact hh, by rw [List.length_append, hml, List.length_replicate, Array.length_toList]; omega, fun t v x h1 h2 => ?_, hnp g hg⟩
      by_cases ht : t < L.flatten.length
      · rw [List.getElem?_append_left (by rw [hml]; exact ht), List.getElem?_map, Option.map_eq_some_iff] at h2
        obtain ⟨z, hz, rfl⟩ := h2
        obtain ⟨p, jj, y, h3, h4, h5⟩ := flat_get hls hz
        obtain ⟨u, hu, hru⟩ := hd p jj y z h4 h5
        rw [← htk, ← h3, List.getElem?_take, if_pos (by omega)] at hu
        rw [h1] at hu
        cases hu
        exact .d _ _ hru
      · rw [List.getElem?_append_right (by rw [hml]; omega)] at h2
        have := List.eq_of_mem_replicate (List.mem_of_getElem? h2)
        subst this
        exact .und _
    · obtain ⟨h1, h2⟩ := find_dropK hm
      exact (h.objs m om h2).other (noneOf_obj hno h2) hmq e3 e4
  · have h3 : blk (β' m) = some gg := h3
    have h4 : blk (β' j) = some gg := h4
    have e5 : blk (β' q) = some g := by rw [e1]; rfl
    by_cases hmq : m = q
    · by_cases hjq : j = q
      · rw [hmq, hjq]
      · obtain ⟨q1, q2⟩ := find_dropK (find_other hjq h2)
        rw [hmq, e5] at h3
        rw [e3 j hjq, ← h3] at h4
        exact absurd (h.apart j r _ _ _ q2 hf h4 hgb) (fun e => q1 (by simp [e]))
    · obtain ⟨q1, q2⟩ := find_dropK (find_other hmq h1)
      rw [e3 m hmq] at h3
      by_cases hjq : j = q
      · rw [hjq, e5] at h4
        rw [← h4] at h3
        exact absurd (h.apart m r _ _ _ q2 hf h3 hgb) (fun e => q1 (by simp [e]))
      · rw [e3 j hjq] at h4
        exact h.apart m j om oj gg q2 (find_dropK (find_other hjq h2)).2 h3 h4
  · have h2 : blk (β' m) = some gg := h2
    rcases keyCase h1 with ⟨rfl, _⟩ | ⟨hmq, h1⟩
    · rw [e1] at h2
      cases h2
      exact h.own r _ _ hf hgb
    · rw [e3 m hmq] at h2
      exact h.own m om gg (find_dropK h1).2 h2
  · show (β' m = _ ∧ κ' m = _) ∨ _
    rw [e3 m (hfr m o hm), e4 m (hfr m o hm)]
    exact h.keeps m o hm
  · rw [hv0, hv]
    exact .sl q 0 L.length cap g e1 hnc hcm (fun _ _ => e2.symm)
end
end Go.Proofs.YtfgibalcdjlnhaaGreatDoor
end
