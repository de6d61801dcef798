/-
  Strings copied into slices that are made; parts of these; over abstract states. Conditions: what is copied fits.
-/
import Derived.Test.YtabaflklognhaaaAbsRen
import Derived.Lib.BufferWrite
namespace Go.Proofs.Ytabaflklognhaaa
open Go.RowKit

section
variable {E : Entry} {sl : Slots} {ob : Objs} {a : Act} {w : World} {Pr : Prot} {β : Nat → Value} {κ : Nat → Nat}
variable {d : Nat} {dd : Option Nat} {t T ty : TypeId} {p : String} {af : Array Edge} {g : Option (Nat × Bool)} {x y c : Operand}
def byteV (s : ByteArray) : List V := s.data.toList.map fun u => .d (.val (.int .u8 u.toNat))
theorem byteV_len (s : ByteArray) : (byteV s).length = s.size := by
  unfold byteV
  rw [List.length_map]
  exact (Lib.size_eq s).symm
set_option maxRecDepth 20000 in
/-- copy(b, s) -/
theorem st_copystr {i o n eb e : Nat} {ez : Value} {T' t0 t1 : TypeId} {l l' : List V} {s : ByteArray} {A : Array TypeId} (hx : ev sl x = .sl i o n) (hf : find ob i = some (.box T' l)) (hy : ev sl y = .d (.str s)) (hA : A = #[t0, t1]) (hT : ti t0 = .sl e 1 eb ez) (hs : s.size ≤ n) (hl : o + n ≤ l.length) (hr : put l o (byteV s) = l') (hd : d < E.n) :
    Step E ⟨some d, .call { callee := .builtin .copy, args := #[x, y], argTypes := A }, T, p, af, g⟩ sl ob ((d, .d (.val (.int .i64 s.size))) :: sl) ((i, .box T' l') :: ob) := by
  subst hA hr
  rintro a w ⟨Pr, β, κ, h⟩ K Q hK
  obtain ⟨_, j, _, hu, _, hj, _, hsz, _⟩ := ti_sl hT
  have hv := good_ev h x
  rw [hx] at hv
  generalize hav : a.eval x = v at hv
  have hyv : a.eval y = .string s := good_val h hy
  cases hv with
  | sl _ _ _ cap gg hb hc hm hz =>
    obtain ⟨b', cs, hb', hB, hh, hcl, hcv, hno⟩ := h.objs i _ hf
    rw [hb'] at hb
    simp only [Value.pointer.injEq, Option.some.injEq, Addr.mk.injEq, and_true] at hb
    subst hb
    have hrun := Lib.run_copy_row_string (P := Try.prog) w t0 t1 T e b' o n cap s cs.toArray T' hu (by simp [hj, hsz]) hh hs (by simp; omega)
    have hrun2 : (execOp a.eval ⟨some d, .call { callee := .builtin .copy, args := #[x, y], argTypes := #[t0, t1] }, T, p, af, g⟩).run Try.prog w = .ok (.value (goInt s.size)) (w.setRow b' (cs.take o ++ Lib.byteCells s.data.toList ++ cs.drop (o + s.size)).toArray) := by
      simp [execOp, resolve, invoke, builtin, hav, hyv, hrun]
    unfold Oper.wp
    rw [hrun2, Oper.upon_value]
    have hbl : (Lib.byteCells s.data.toList).length = s.size := by rw [Lib.byteCells_length, ← Lib.size_eq]
    have hG : Good E sl ((i, .box T' (put l o (byteV s))) :: ob) a (w.setRow b' (cs.take o ++ Lib.byteCells s.data.toList ++ cs.drop (o + s.size)).toArray) Pr β κ := by
      refine h.setobj (T := T') hf hb' hno ⟨_, hh⟩ (fun hkeep => ?_)
      refine ⟨b', cs.take o ++ Lib.byteCells s.data.toList ++ cs.drop (o + s.size), hb', hB, setRow_heap w b' _ _ _ _ hh, by simp [put, byteV_len, hbl]; omega, fun j u z h2 h3 => hkeep u z ?_, hno⟩
      simp only [put, byteV_len] at h3
      rw [List.append_assoc] at h2 h3
      by_cases hj1 : j < o
      · rw [List.getElem?_append_left (by simp; omega), List.getElem?_take, if_pos hj1] at h2 h3
        exact hcv j u z h2 h3
      · rw [List.getElem?_append_right (by simp; omega)] at h2 h3
        have e1 : (cs.take o).length = o := by simp; omega
        have e2 : (l.take o).length = o := by simp; omega
        rw [e1] at h2
        rw [e2] at h3
        by_cases hj2 : j - o < s.size
        · rw [List.getElem?_append_left (by omega)] at h2
          rw [List.getElem?_append_left (by rw [byteV_len]; omega)] at h3
          simp only [Lib.byteCells, byteV, List.getElem?_map, Option.map_eq_some_iff] at h2 h3
          obtain ⟨q1, h4, rfl⟩ := h2
          obtain ⟨q2, h5, rfl⟩ := h3
          rw [h4] at h5
          cases h5
          exact .d _ _ (.val _)
        · rw [List.getElem?_append_right (by omega), List.getElem?_drop] at h2
          rw [List.getElem?_append_right (by rw [byteV_len]; omega), List.getElem?_drop] at h3
          rw [hbl] at h2
          rw [byteV_len] at h3
          exact hcv _ u z h2 h3
    exact hK _ _ ⟨Pr, β, κ, hG.put hd (.d _ _ (.val _))⟩
set_option maxRecDepth 20000 in
/-- b[at:], of a slice that was made -/
theorem y_sub_sl {i o n l1 e eb : Nat} {ez : Value} {lo : Option Operand} (hx : ev sl x = .sl i o n) (hT : ti t = .sl e 1 eb ez) (hl : lowAt sl lo l1) (k1 : l1 < n) :
    Y E ⟨dd, .slice t x lo none none, T, p, af, g⟩ sl ob (.sl i (o + l1) (n - l1)) := fun a w Pr β κ h => by
  obtain ⟨_, j, _, hu, _, hj, _, hs, _⟩ := ti_sl hT
  have hv := good_ev h x
  rw [hx] at hv
  generalize hav : a.eval x = v at hv
  cases hv with
  | sl _ _ _ c gg hb hc hm hz =>
    have hsl : sliced (some ⟨gg, o, none⟩) l1 n c 1 = .slice (some ⟨gg, o + l1, none⟩) (n - l1) (c - l1) := by
      unfold sliced
      rw [if_neg (by omega)]
      simp [Addr.add_lit]
    refine ⟨sliced (some ⟨gg, o, none⟩) l1 n c 1, by rw [hsl]; exact .sl i (o + l1) (n - l1) (c - l1) gg hb (by omega) (by omega) (fun h1 h2 => by have := hz h1 (by omega); omega), fun w' _ => ?_⟩
    have hsz : (sizeOf e).run Try.prog w' = .ok 1 w' := by simp [sizeOf, typeInfo, hj, hs]
    have hrb := run_bounds (w' := w') (is := true) (hi := none) h hl (high_none (sl := sl) (len := n)) (Nat.le_of_lt k1) (Nat.le_refl n) hc
    simp only [Option.map_none] at hrb
    simp [execOp, hav, Instr.sliceAt, Instr.slice, run_underlying hu, hrb, hsz, sliced]
end
end Go.Proofs.Ytabaflklognhaaa
