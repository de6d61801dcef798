/-
  Bytes of a string that are appended to a row of bytes; builders. Conditions: none.
-/
import Derived.Test.YtabaflklognhaaaAbsOb
import Derived.Lib.AppendStr
import Derived.Lib.UnsafeStr
namespace Go.Proofs.Ytabaflklognhaaa
open Go.RowKit

/-- a string's bytes as elements -/
def bytesD (s : ByteArray) : List (List D) := s.data.toList.map fun c => [.val (.int .u8 c.toNat)]
theorem bytesD_len (s : ByteArray) : (bytesD s).length = s.size := by simp [bytesD]
section
variable {P : Program} (w : World)
theorem append_off_s (base : Nat) (t u ty e : TypeId) (i : TypeInfo) (ht : P.underlying t = some (.slice e)) (hu : P.underlying u = some .string) (hi : P.info? e = some i) (hz : i.zero = some (.int .u8 0)) (hsize : i.size = 1) (hby : i.bytes = 1)
    (v : Value) (n : Nat) (xs : List Value) (hown : w.ownsRow base e 1 v n xs) (s : ByteArray) (hb : n + s.size ≤ 140737488355328) {v' : Value} {w' : World} (h : (Builtin.append_ #[t, u] ty #[v, .string s]).run P w = .ok v' w') : Off v w v' := by
  intro k hk hv
  have hxl : xs.length = n := by simpa using hown.1
  rcases hown.2 with ⟨rfl, rfl⟩ | ⟨g, cap, cur, rfl, hbg, hg, hnc, hcm, hcs, htake⟩
  · by_cases hm : s.size = 0
    · have hf := Lib.run_firstCells_string (P := P) w 1 s
      rw [hm] at hf
      have hr : (Builtin.append_ #[t, u] ty #[.slice none 0 0, .string s]).run P w = .ok (.slice none 0 0) w := by
        simp [Builtin.append_, run_underlying ht, run_underlying hu, sizeOf, typeInfo, hi, hsize, Builtin.lenOf, hm, hf]
      rw [hr] at h
      cases h
      exact hv
    · have hr := run_append_nil_string (P := P) w t u ty e i (.int .u8 0) ht hu hi hz s (by omega) (by omega) (by rw [hby]; omega)
      rw [hr] at h
      cases h
      simp [Value.ownBlock]
      omega
  · by_cases hroom : n + s.size ≤ cap
    · have hcs' : cur.size = cap := by simpa using hcs
      have hr := Lib.run_append_room_string (P := P) w t u ty e i ht hu hi hsize g n cap cur hg s hroom (by omega)
      rw [hr] at h
      cases h
      simpa [Value.ownBlock] using hv
    · have holds : ∀ j u, xs[j]? = some u → w.cell? ((⟨g, 0, none⟩ : Addr).add j) = some u := hown.cells (g := g) rfl
      have hr := Lib.run_append_grow_string (P := P) w t u ty e i (.int .u8 0) ht hu hi hz ⟨g, 0, none⟩ n cap xs (by rw [hsize]; simpa using hxl) holds s (by omega) (by omega) (by rw [hby]; exact growslice_fits (by omega) (by omega))
      rw [hr] at h
      cases h
      simp [Value.ownBlock]
      omega
theorem append_keeps_s (base : Nat) (t u ty e : TypeId) (i : TypeInfo) (ht : P.underlying t = some (.slice e)) (hu : P.underlying u = some .string) (hi : P.info? e = some i) (hz : i.zero = some (.int .u8 0)) (hsize : i.size = 1) (hby : i.bytes = 1)
    (v : Value) (n : Nat) (xs : List Value) (hown : w.ownsRow base e 1 v n xs) (s : ByteArray) (hb : n + s.size ≤ 140737488355328) {v' : Value} {w' : World} (h : (Builtin.append_ #[t, u] ty #[v, .string s]).run P w = .ok v' w') (hown' : w'.ownsRow base e 1 v' (n + s.size) (xs ++ Lib.strCells s)) :
    ∀ g, v.ownBlock = some g → ∀ j, j < n * 1 → w'.cell? ⟨g, j, none⟩ = w.cell? ⟨g, j, none⟩ := by
  intro g' hv j hj
  have hxl : xs.length = n := by simpa using hown.1
  have hown0 := hown
  rcases hown.2 with ⟨rfl, rfl⟩ | ⟨g, cap, cur, rfl, hbg, hg, hnc, hcm, hcs, htake⟩
  · simp [Value.ownBlock] at hv
  · simp only [Value.ownBlock, Option.some.injEq] at hv
    subst hv
    by_cases hroom : n + s.size ≤ cap
    · have hcs' : cur.size = cap := by simpa using hcs
      have hr := Lib.run_append_room_string (P := P) w t u ty e i ht hu hi hsize g n cap cur hg s hroom (by omega)
      rw [hr] at h
      cases h
      rw [hown'.cellAt j (by omega), hown0.cellAt j hj, List.getElem?_append_left (by omega)]
    · have holds : ∀ j u, xs[j]? = some u → w.cell? ((⟨g, 0, none⟩ : Addr).add j) = some u := hown.cells (g := g) rfl
      have hr := Lib.run_append_grow_string (P := P) w t u ty e i (.int .u8 0) ht hu hi hz ⟨g, 0, none⟩ n cap xs (by rw [hsize]; simpa using hxl) holds s (by omega) (by omega) (by rw [hby]; exact growslice_fits (by omega) (by omega))
      rw [hr] at h
      cases h
      have hlt := (Array.getElem?_eq_some_iff.1 hg).1
      exact (bcell (((Below.refl w.heap.size w).drew).alloc (by simp) _)).1 g j hlt
end
section
variable {E : Entry} {sl : Slots} {ob : Objs} {a : Act} {w : World} {Pr : Prot} {β : Nat → Value} {κ : Nat → Nat}
variable {d : Nat} {t u T ty : TypeId} {p : String} {af : Array Edge} {g : Option (Nat × Bool)} {x y c : Operand}
set_option maxRecDepth 20000 in
/-- append of a string's bytes -/
theorem st_append_s {i k e : Nat} {l : List (List D)} {s : ByteArray} {A : Array TypeId} (hx : ev sl x = .row i k) (hf : find ob i = some (.row e 1 k l)) (hy : ev sl y = .d (.val (.string s))) (hA : A = #[t, u]) (hT : ti t = .sl e 1 1 (.int .u8 0)) (hu : Try.prog.underlying u = some .string)
    (hm : l.length + s.size ≤ 140737488355328) (hd : d < E.n) :
    Step E ⟨some d, .call { callee := .builtin .append, args := #[x, y], argTypes := A }, T, p, af, g⟩ sl ob ((d, .row i (k + 1)) :: sl) ((i, .row e 1 (k + 1) (l ++ bytesD s)) :: ob) := by
  subst hA
  refine st_app hf hd rfl (fun a w Pr β κ xs h hown => ?_)
  obtain ⟨hκ, _⟩ := h.objs i _ hf
  have hxv : a.eval x = β i := by
    have := good_ev h x
    rw [hx] at this
    exact this.row_inv hκ.symm
  have hyv := good_val h hy
  obtain ⟨_, ie, _, hut, _, hj, hz, hs, hby, hzs⟩ := ti_sl hT
  obtain ⟨v', w', hrun, h2, h3, _⟩ := Lib.run_append_own_string (P := Try.prog) w 0 t u T e ie hut hu hj hz hs hby (β i) l.length xs hown s (by unfold maxLen; omega) hm (Nat.zero_le _)
  refine ⟨v', w', Lib.strCells s, by simp [execOp, resolve, invoke, builtin, hxv, hyv, hrun], ?_⟩
  refine ⟨by rw [bytesD_len]; exact h2, h3, append_off_s w 0 t u T e ie hut hu hj hz hs hby (β i) l.length xs hown s hm hrun, append_keeps_s w 0 t u T e ie hut hu hj hz hs hby (β i) l.length xs hown s hm hrun h2, by rw [Lib.strCells_length, bytesD_len, Nat.mul_one], fun q hq => ?_, fun m j q z h4 h5 => ?_⟩
  · simp only [bytesD, List.mem_map] at hq
    obtain ⟨_, _, rfl⟩ := hq
    rfl
  · simp only [bytesD, List.getElem?_map, Option.map_eq_some_iff] at h4
    obtain ⟨c, h4, rfl⟩ := h4
    cases j with
    | zero =>
      simp only [List.getElem?_cons_zero, Option.some.injEq] at h5
      subst h5
      exact ⟨.int .u8 c.toNat, by simp [Lib.strCells, h4], .val _⟩
    | succ j => simp at h5
/-- A nil slice in a box may become a row. -/
theorem Good.adoptb (h : Good E sl ob a w Pr β κ) {i j r e s : Nat} {T : TypeId} {l : List V} (hf : find ob i = some (.box T l)) (hx : l[j]? = some (.d (.val (.slice none 0 0)))) (hno : noneOf r sl ob = true) (hr : r < E.n) (hir : i ≠ r) : Inv E sl ((i, .box T (l.set j (.row r 0))) :: (r, .row e s 0 []) :: ob) a w := by
  let β' : Nat → Value := fun i => if i = r then .slice none 0 0 else β i
  let κ' : Nat → Nat := fun i => if i = r then 0 else κ i
  have e1 : β' r = .slice none 0 0 := by simp [β']
  have e2 : κ' r = 0 := by simp [κ']
  have e3 : ∀ j, j ≠ r → β' j = β j := fun j hj => by simp [β', hj]
  have e4 : ∀ j, j ≠ r → κ' j = κ j := fun j hj => by simp [κ', hj]
  have hfr : ∀ i o, find E.ob0 i = some o → i ≠ r := fun i o hi e => by have := h.fresh i o hi; omega
  have hcase : ∀ m om, find ((i, .box T (l.set j (.row r 0))) :: (r, .row e s 0 []) :: ob) m = some om → (m = i ∧ om = .box T (l.set j (.row r 0))) ∨ (m = r ∧ om = .row e s 0 []) ∨ (m ≠ i ∧ m ≠ r ∧ find ob m = some om) := by
    intro m om hm
    by_cases hmi : m = i
    · subst hmi
      rw [find_eq] at hm
      cases hm
      exact .inl ⟨rfl, rfl⟩
    · rw [find_ne hmi] at hm
      by_cases hmr : m = r
      · subst hmr
        rw [find_eq] at hm
        cases hm
        exact .inr (.inl ⟨rfl, rfl⟩)
      · rw [find_ne hmr] at hm
        exact .inr (.inr ⟨hmi, hmr, hm⟩)
  have hblk : ∀ m om g, find ((i, .box T (l.set j (.row r 0))) :: (r, .row e s 0 []) :: ob) m = some om → blk (β' m) = some g → m ≠ r ∧ blk (β m) = some g ∧ ∃ om', find ob m = some om' := by
    intro m om g hm hg
    rcases hcase m om hm with ⟨rfl, _⟩ | ⟨rfl, _⟩ | ⟨_, h2, h3⟩
    · rw [e3 _ hir] at hg; exact ⟨hir, hg, _, hf⟩
    · rw [e1] at hg; simp [blk] at hg
    · rw [e3 _ h2] at hg; exact ⟨h2, hg, _, h3⟩
  refine ⟨Pr, β', κ', h.below, h.st0, h.pr0, h.prn, h.prl, h.size, h.defers, fun m => (h.slots m).other (noneOf_slot hno m) e3 e4, fun m om hm => ?_, fun m k om ok g hm hk hgm hgk => ?_, fun m om g hm hg => ?_, fun m o hm => ?_, h.fresh⟩
  · rcases hcase m om hm with ⟨rfl, rfl⟩ | ⟨rfl, rfl⟩ | ⟨_, h2, h3⟩
    · obtain ⟨g, cs, q1, q2, q3, q4, q5, q6⟩ := h.objs m _ hf
      refine ⟨g, cs, (e3 m hir).trans q1, q2, q3, by simp [q4], fun n v z hn hz => ?_, q6⟩
      by_cases hnj : n = j
      · subst hnj
        have hv := q5 n v _ hn hx
        have hlt := (List.getElem?_eq_some_iff.1 hx).1
        rw [List.getElem?_set_self hlt] at hz
        cases hz
        have hv2 := hv.val_inv
        exact .row r 0 _ ⟨none, 0, 0, hv2⟩ (Nat.zero_le _) (fun _ => by rw [hv2, e1])
      · rw [List.getElem?_set_ne (Ne.symm hnj)] at hz
        exact (q5 n v z hn hz).other (hasL_mem (noneOf_obj hno hf) hz) e3 e4
    · refine ⟨e2, [], ?_, by simp, fun p j x d h1 => by simp at h1, fun g hg => ?_⟩
      · rw [e1]; exact World.ownsRow_nil _ _ _ _
      · rw [e1] at hg; simp [Value.ownBlock] at hg
    · exact (h.objs m om h3).other (noneOf_obj hno h3) h2 e3 e4
  · obtain ⟨_, k1, om', k2⟩ := hblk m om g hm hgm
    obtain ⟨_, k3, ok', k4⟩ := hblk k ok g hk hgk
    exact h.apart m k om' ok' g k2 k4 k1 k3
  · obtain ⟨_, k1, om', k2⟩ := hblk m om g hm hg
    exact h.own m om' g k2 k1
  · rw [e3 m (hfr m o hm), e4 m (hfr m o hm)]
    exact h.keeps m o hm
theorem aw_adoptb {z : Code} {Q : Exit → Act → World → Prop} (i j r e s : Nat) {T : TypeId} {l l' : List V} (hf : find ob i = some (.box T l)) (hx : l[j]? = some (.d (.val (.slice none 0 0)))) (hno : noneOf r sl ob = true) (hr : r < E.n) (hir : Nat.beq i r = false) (hl : l.set j (.row r 0) = l')
    (h : AW E z Q sl ((i, .box T l') :: (r, .row e s 0 []) :: ob)) : AW E z Q sl ob := by
  subst hl
  refine ⟨fun a w hi => ?_⟩
  obtain ⟨Pr, β, κ, hg⟩ := hi
  exact h.run a w (hg.adoptb hf hx hno hr (fun e => by rw [e, Nat.beq_refl] at hir; cases hir))
theorem al_adoptb {ops : Array Oper} {rest : List Oper} {Q : Exit → Act → World → Prop} (i j r e s : Nat) {T : TypeId} {l l' : List V} (hf : find ob i = some (.box T l)) (hx : l[j]? = some (.d (.val (.slice none 0 0)))) (hno : noneOf r sl ob = true) (hr : r < E.n) (hir : Nat.beq i r = false) (hl : l.set j (.row r 0) = l')
    (h : AL E ops rest Q sl ((i, .box T l') :: (r, .row e s 0 []) :: ob)) : AL E ops rest Q sl ob := by
  subst hl
  refine ⟨fun a w hi => ?_⟩
  obtain ⟨Pr, β, κ, hg⟩ := hi
  exact h.run a w (hg.adoptb hf hx hno hr (fun e => by rw [e, Nat.beq_refl] at hir; cases hir))
/-- a pointer to an object is not nil -/
theorem ptr_nil {b : Addr} {w' : World} {pe : TypeId} (ht : Try.prog.underlying t = some (.pointer pe)) : (Op.equalIn Op.maxDepth t (.pointer (some b)) (.pointer none)).run Try.prog w' = .ok false w' := by
  have : ∀ d : Nat, (Op.equalIn (d + 1) t (.pointer (some b)) (.pointer none)).run Try.prog w' = .ok false w' := fun d => by simp [Op.equalIn, run_underlying ht]
  exact this 9999
theorem y_boxnil {dd : Option Nat} {i o : Nat} {pe : TypeId} (hx : ev sl x = .box i o) (ht : Try.prog.underlying t = some (.pointer pe)) : Y E ⟨dd, .binOp .eql t x (.const (.pointer none)) ty, T, p, af, g⟩ sl ob (.d (.val (.bool false))) := fun a w Pr β κ h => by
  have hv := good_ev h x
  rw [hx] at hv
  generalize hav : a.eval x = v at hv
  cases hv with
  | box _ _ b hb =>
    have hc : a.eval (.const (.pointer none)) = Value.pointer none := rfl
    exact ⟨_, .d _ _ (.val _), fun w' _ => by simp [execOp, hav, hc, eqGuard_at_pointer, binOp, Op.equal, ptr_nil ht]⟩
theorem y_boxnot {dd : Option Nat} {i o : Nat} {pe : TypeId} (hx : ev sl x = .box i o) (ht : Try.prog.underlying t = some (.pointer pe)) : Y E ⟨dd, .binOp .neq t x (.const (.pointer none)) ty, T, p, af, g⟩ sl ob (.d (.val (.bool true))) := fun a w Pr β κ h => by
  have hv := good_ev h x
  rw [hx] at hv
  generalize hav : a.eval x = v at hv
  cases hv with
  | box _ _ b hb =>
    have hc : a.eval (.const (.pointer none)) = Value.pointer none := rfl
    exact ⟨_, .d _ _ (.val _), fun w' _ => by simp [execOp, hav, hc, eqGuard_at_pointer, binOp, Op.equal, ptr_nil ht]⟩
end
end Go.Proofs.Ytabaflklognhaaa
