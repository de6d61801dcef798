/-
  Operations that turn nothing, over abstract states. Conditions: none.
-/
import Derived.Test.YtabaflklognhaaaAbsOps
import Derived.IntWalk
namespace Go.Proofs.Ytabaflklognhaaa
open Go.RowKit

def plainEq : Value → Value → Bool
  | .nilIface, .nilIface => false
  | .agg _, .agg _ => false
  | _, _ => true
theorem no_guard (op : BinOp) (t : TypeId) (x y : Operand) (u v : Value) (h : plainEq u v = true) (w : World) : (eqGuard op t x y u v).run Try.prog w = .ok () w := by
  unfold eqGuard
  cases u <;> cases v <;> first | (exfalso; simp [plainEq] at h; done) | (cases op <;> rfl)
section
variable {E : Entry} {sl : Slots} {ob : Objs}
variable {d : Option Nat} {T t ty : TypeId} {p : String} {af : Array Edge} {g : Option (Nat × Bool)} {x y c : Operand} {k : IntKind} {m n : Int}
theorem y_bin' {op : BinOp} {u v r : Value} (hx : ev sl x = .d (.val u)) (hy : ev sl y = .d (.val v)) (hg : plainEq u v = true)
    (hr : ∀ w, (binOp op t u v).run Try.prog w = .ok r w) : Y E ⟨d, .binOp op t x y ty, T, p, af, g⟩ sl ob (.d (.val r)) := fun a w Pr β κ h =>
  ⟨r, .d _ _ (.val r), fun w' _ => by
    simp only [execOp, good_val h hx, good_val h hy]
    rw [Sem.run_bind, Sem.run_bind, no_guard op t x y _ _ hg w']
    simp only [Result.andThen]
    rw [hr w']
    rfl⟩
theorem y_add (hx : ev sl x = .d (.val (.int .i64 m))) (hy : ev sl y = .d (.val (.int .i64 n))) (h : -9223372036854775808 ≤ m + n ∧ m + n ≤ 9223372036854775807) :
    Y E ⟨d, .binOp .add t x y ty, T, p, af, g⟩ sl ob (.d (.val (.int .i64 (m + n)))) := y_bin' hx hy rfl fun w => by simp [binOp, Op.intArith, IntWalk.i64_in _ h]
theorem y_sub (hx : ev sl x = .d (.val (.int .i64 m))) (hy : ev sl y = .d (.val (.int .i64 n))) (h : -9223372036854775808 ≤ m - n ∧ m - n ≤ 9223372036854775807) :
    Y E ⟨d, .binOp .sub t x y ty, T, p, af, g⟩ sl ob (.d (.val (.int .i64 (m - n)))) := y_bin' hx hy rfl fun w => by simp [binOp, Op.intArith, IntWalk.i64_in _ h]
theorem y_mul (hx : ev sl x = .d (.val (.int .i64 m))) (hy : ev sl y = .d (.val (.int .i64 n))) (h : -9223372036854775808 ≤ m * n ∧ m * n ≤ 9223372036854775807) :
    Y E ⟨d, .binOp .mul t x y ty, T, p, af, g⟩ sl ob (.d (.val (.int .i64 (m * n)))) := y_bin' hx hy rfl fun w => by simp [binOp, Op.intArith, IntWalk.i64_in _ h]
theorem y_addw (hx : ev sl x = .d (.val (.int k m))) (hy : ev sl y = .d (.val (.int k n))) : Y E ⟨d, .binOp .add t x y ty, T, p, af, g⟩ sl ob (.d (.val (.int k (k.wrap (m + n))))) := y_bin' hx hy rfl fun w => by simp [binOp, Op.intArith]
theorem y_subw (hx : ev sl x = .d (.val (.int k m))) (hy : ev sl y = .d (.val (.int k n))) : Y E ⟨d, .binOp .sub t x y ty, T, p, af, g⟩ sl ob (.d (.val (.int k (k.wrap (m - n))))) := y_bin' hx hy rfl fun w => by simp [binOp, Op.intArith]
theorem y_mulw (hx : ev sl x = .d (.val (.int k m))) (hy : ev sl y = .d (.val (.int k n))) : Y E ⟨d, .binOp .mul t x y ty, T, p, af, g⟩ sl ob (.d (.val (.int k (k.wrap (m * n))))) := y_bin' hx hy rfl fun w => by simp [binOp, Op.intArith]
theorem y_quo (hx : ev sl x = .d (.val (.int .i64 m))) (hy : ev sl y = .d (.val (.int .i64 n))) (h : 0 ≤ m ∧ m ≤ 9223372036854775807 ∧ 0 < n) :
    Y E ⟨d, .binOp .quo t x y ty, T, p, af, g⟩ sl ob (.d (.val (.int .i64 (m / n)))) := y_bin' hx hy rfl fun w => by
  have h1 : m.tdiv n = m / n := Int.tdiv_eq_ediv_of_nonneg h.1
  have h2 : 0 ≤ m / n := Int.ediv_nonneg h.1 (by omega)
  have h3 : m / n ≤ m := Int.ediv_le_self _ h.1
  simp [binOp, Op.intDiv, show ¬ n = 0 by omega, h1, IntWalk.i64_in (m / n) (by omega)]
theorem y_rem (hx : ev sl x = .d (.val (.int k m))) (hy : ev sl y = .d (.val (.int k n))) (h : 0 ≤ m ∧ 0 < n) :
    Y E ⟨d, .binOp .rem t x y ty, T, p, af, g⟩ sl ob (.d (.val (.int k (m % n)))) := y_bin' hx hy rfl fun w => by
  have h1 : m.tmod n = m % n := Int.tmod_eq_emod_of_nonneg h.1
  simp [binOp, Op.intDiv, show ¬ n = 0 by omega, h1]
theorem y_remw (hx : ev sl x = .d (.val (.int k m))) (hy : ev sl y = .d (.val (.int k n))) (h : n ≠ 0) :
    Y E ⟨d, .binOp .rem t x y ty, T, p, af, g⟩ sl ob (.d (.val (.int k (m.tmod n)))) := y_bin' hx hy rfl fun w => by simp [binOp, Op.intDiv, h]
theorem y_lss (hx : ev sl x = .d (.val (.int k m))) (hy : ev sl y = .d (.val (.int k n))) : Y E ⟨d, .binOp .lss t x y ty, T, p, af, g⟩ sl ob (.d (.val (.bool (decide (m < n))))) := y_bin' hx hy rfl fun w => by simp [binOp, Op.intCmp]
theorem y_leq (hx : ev sl x = .d (.val (.int k m))) (hy : ev sl y = .d (.val (.int k n))) : Y E ⟨d, .binOp .leq t x y ty, T, p, af, g⟩ sl ob (.d (.val (.bool (decide (m ≤ n))))) := y_bin' hx hy rfl fun w => by simp [binOp, Op.intCmp]
theorem y_gtr (hx : ev sl x = .d (.val (.int k m))) (hy : ev sl y = .d (.val (.int k n))) : Y E ⟨d, .binOp .gtr t x y ty, T, p, af, g⟩ sl ob (.d (.val (.bool (decide (n < m))))) := y_bin' hx hy rfl fun w => by simp [binOp, Op.intCmp]
theorem y_geq (hx : ev sl x = .d (.val (.int k m))) (hy : ev sl y = .d (.val (.int k n))) : Y E ⟨d, .binOp .geq t x y ty, T, p, af, g⟩ sl ob (.d (.val (.bool (decide (n ≤ m))))) := y_bin' hx hy rfl fun w => by simp [binOp, Op.intCmp]
theorem y_eql (hx : ev sl x = .d (.val (.int k m))) (hy : ev sl y = .d (.val (.int k n))) : Y E ⟨d, .binOp .eql t x y ty, T, p, af, g⟩ sl ob (.d (.val (.bool (decide (m = n))))) := y_bin' hx hy rfl fun w => by simp [binOp, Op.intCmp]; rfl
theorem y_neq (hx : ev sl x = .d (.val (.int k m))) (hy : ev sl y = .d (.val (.int k n))) : Y E ⟨d, .binOp .neq t x y ty, T, p, af, g⟩ sl ob (.d (.val (.bool (!decide (m = n))))) := y_bin' hx hy rfl fun w => by simp [binOp, Op.intCmp]; rfl

variable {s r : ByteArray}
theorem bytes_beq (s t : ByteArray) : (s.toList == t.toList) = decide (s = t) := by
  by_cases h : s = t
  · subst h
    simp
  · rw [decide_eq_false h, beq_eq_false_iff_ne]
    intro h2
    rw [ByteArray.toList_eq, ByteArray.toList_eq] at h2
    exact h (by cases s; cases t; simp_all)
theorem y_seql (hx : ev sl x = .d (.val (.string s))) (hy : ev sl y = .d (.val (.string r))) : Y E ⟨d, .binOp .eql t x y ty, T, p, af, g⟩ sl ob (.d (.val (.bool (decide (s = r))))) := y_bin' hx hy rfl fun w => by simp [binOp, Op.stringOp, bytes_beq]
theorem y_sneq (hx : ev sl x = .d (.val (.string s))) (hy : ev sl y = .d (.val (.string r))) : Y E ⟨d, .binOp .neq t x y ty, T, p, af, g⟩ sl ob (.d (.val (.bool (!decide (s = r))))) := y_bin' hx hy rfl fun w => by simp [binOp, Op.stringOp, bytes_beq]
theorem y_sadd (hx : ev sl x = .d (.val (.string s))) (hy : ev sl y = .d (.val (.string r))) (h : s.size + r.size ≤ 9223372036854775807) : Y E ⟨d, .binOp .add t x y ty, T, p, af, g⟩ sl ob (.d (.val (.string (s ++ r)))) :=
  y_bin' hx hy rfl fun w => by
    have : ¬ (((s.size + r.size : Nat) : Int) > IntKind.i64.max) := by simp [IntKind.max, IntKind.signed, IntKind.bits]; omega
    simp only [binOp, Op.stringOp, if_neg this]
    rfl
theorem y_not {b : Bool} (hx : ev sl x = .d (.val (.bool b))) : Y E ⟨d, .unOp .not t x, T, p, af, g⟩ sl ob (.d (.val (.bool (!b)))) := fun a w Pr β κ h =>
  ⟨_, .d _ _ (.val _), fun w' _ => by simp [execOp, good_val h hx, Op.unary]⟩
theorem y_neg (hx : ev sl x = .d (.val (.int .i64 m))) (h : -9223372036854775808 ≤ 0 - m ∧ 0 - m ≤ 9223372036854775807) : Y E ⟨d, .unOp .neg t x, T, p, af, g⟩ sl ob (.d (.val (.int .i64 (0 - m)))) := fun a w Pr β κ hg =>
  ⟨_, .d _ _ (.val _), fun w' _ => by simp only [execOp, good_val hg hx, Op.unary, Op.intArith, IntWalk.i64_in _ h]; rfl⟩
theorem y_conv {k' : IntKind} {src dst : TypeId} (hx : ev sl x = .d (.val (.int k m))) (hd' : ki dst = some k') (hs : (Try.prog.underlying src).isSome = true) : Y E ⟨d, .convert src dst x, T, p, af, g⟩ sl ob (.d (.val (.int k' (k'.wrap m)))) := fun a w Pr β κ h =>
  ⟨_, .d _ _ (.val _), fun w' _ => by
    obtain ⟨ds, hs⟩ := Option.isSome_iff_exists.1 hs
    have hd := kiok _ _ hd'
    simp [execOp, good_val h hx, convert, run_underlying hd, run_underlying hs, Conv.intToInt]⟩
theorem y_conv64 {src dst : TypeId} (hx : ev sl x = .d (.val (.int k m))) (hd' : ki dst = some .i64) (hs : (Try.prog.underlying src).isSome = true) (h : -9223372036854775808 ≤ m ∧ m ≤ 9223372036854775807) : Y E ⟨d, .convert src dst x, T, p, af, g⟩ sl ob (.d (.val (.int .i64 m))) := by
  have := y_conv (E := E) (sl := sl) (ob := ob) (d := d) (T := T) (p := p) (af := af) (g := g) hx hd' hs
  rwa [IntWalk.i64_in _ h] at this
theorem y_conv8 {src dst : TypeId} (hx : ev sl x = .d (.val (.int k m))) (hd' : ki dst = some .u8) (hs : (Try.prog.underlying src).isSome = true) (h : 0 ≤ m ∧ m ≤ 255) : Y E ⟨d, .convert src dst x, T, p, af, g⟩ sl ob (.d (.val (.int .u8 m))) := by
  have := y_conv (E := E) (sl := sl) (ob := ob) (d := d) (T := T) (p := p) (af := af) (g := g) hx hd' hs
  rwa [IntWalk.u8_in _ h] at this
theorem y_sub8 (hx : ev sl x = .d (.val (.int .u8 m))) (hy : ev sl y = .d (.val (.int .u8 n))) (h : 0 ≤ m - n ∧ m - n ≤ 255) :
    Y E ⟨d, .binOp .sub t x y ty, T, p, af, g⟩ sl ob (.d (.val (.int .u8 (m - n)))) := y_bin' hx hy rfl fun w => by simp [binOp, Op.intArith, IntWalk.u8_in _ h]
theorem y_min {A : Array TypeId} (hx : ev sl x = .d (.val (.int .i64 m))) (hy : ev sl y = .d (.val (.int .i64 n))) : Y E ⟨d, .call { callee := .builtin .min, args := #[x, y], argTypes := A }, T, p, af, g⟩ sl ob (.d (.val (.int .i64 (min m n)))) := fun a w Pr β κ h =>
  ⟨_, .d _ _ (.val _), fun w' _ => by
    have e : (if n < m then n else m) = min m n := by simp only [Int.min_def]; split <;> split <;> omega
    simp [execOp, good_val h hx, good_val h hy, resolve, invoke, builtin, Builtin.min_, Builtin.min2, e]⟩
theorem y_max {A : Array TypeId} (hx : ev sl x = .d (.val (.int .i64 m))) (hy : ev sl y = .d (.val (.int .i64 n))) : Y E ⟨d, .call { callee := .builtin .max, args := #[x, y], argTypes := A }, T, p, af, g⟩ sl ob (.d (.val (.int .i64 (max m n)))) := fun a w Pr β κ h =>
  ⟨_, .d _ _ (.val _), fun w' _ => by
    have e : (if m < n then n else m) = max m n := by simp only [Int.max_def]; split <;> split <;> omega
    simp [execOp, good_val h hx, good_val h hy, resolve, invoke, builtin, Builtin.max_, Builtin.max2, e]⟩
theorem y_slen {A : Array TypeId} {t0 : TypeId} (hx : ev sl x = .d (.val (.string s))) (hA : A = #[t0]) (hT : Try.prog.underlying t0 = some .string) : Y E ⟨d, .call { callee := .builtin .len, args := #[x], argTypes := A }, T, p, af, g⟩ sl ob (.d (.val (.int .i64 s.size))) := fun a w Pr β κ h =>
  ⟨_, .d _ _ (.val _), fun w' _ => by subst hA; simp [execOp, good_val h hx, resolve, invoke, builtin, Builtin.len_, run_underlying hT, goInt]⟩
def bAt (s : ByteArray) (i : Nat) : UInt8 := s.data.toList.getD i 0
theorem y_idx {kk : IntKind} (hx : ev sl x = .d (.val (.string s))) (hy : ev sl y = .d (.val (.int kk m))) (hT : Try.prog.underlying t = some .string) {i : Nat} (hi : m = (i : Int)) (h : i < s.size) :
    Y E ⟨d, .index t x y, T, p, af, g⟩ sl ob (.d (.val (.int .u8 (bAt s i).toNat))) := fun a w Pr β κ hg =>
  ⟨_, .d _ _ (.val _), fun w' _ => by
    subst hi
    have h1 : s[i]? = some (bAt s i) := by
      rw [getElem?_pos s i h]
      simp only [bAt, List.getD_eq_getElem?_getD]
      rw [List.getElem?_eq_getElem (by simpa using h)]
      simp
      rfl
    simp [execOp, good_val hg hx, good_val hg hy, Instr.index, asIntOf, run_underlying hT, h1]⟩
theorem vint {k : IntKind} {m n : Int} (h : m = n) : V.d (.val (.int k m)) = V.d (.val (.int k n)) := by rw [h]
theorem int_s (k : Nat) : (k : Int) + 1 = ((k + 1 : Nat) : Int) := rfl
theorem int_p (a b : Nat) : (a : Int) + (b : Int) = ((a + b : Nat) : Int) := rfl
theorem lit0 : (0 : Int) = ((0 : Nat) : Int) := rfl
theorem lit1 : (1 : Int) = ((1 : Nat) : Int) := rfl
theorem lit2 : (2 : Int) = ((2 : Nat) : Int) := rfl
theorem lit3 : (3 : Int) = ((3 : Nat) : Int) := rfl
theorem lit4 : (4 : Int) = ((4 : Nat) : Int) := rfl
/-- the bounds of a part -/
def lowAt (sl : Slots) (lo : Option Operand) (n : Nat) : Prop := match lo with
  | none => n = 0
  | some y => ∃ kk, ev sl y = .d (.val (.int kk (n : Int)))
def highAt (sl : Slots) (hi : Option Operand) (len n : Nat) : Prop := match hi with
  | none => n = len
  | some y => ∃ kk, ev sl y = .d (.val (.int kk (n : Int)))
theorem low_none : lowAt sl none 0 := rfl
theorem low_some {kk : IntKind} {i : Nat} (h : ev sl y = .d (.val (.int kk m))) (hm : m = (i : Int)) : lowAt sl (some y) i := ⟨kk, hm ▸ h⟩
theorem high_none {len : Nat} : highAt sl none len len := rfl
theorem high_some {kk : IntKind} {i len : Nat} (h : ev sl y = .d (.val (.int kk m))) (hm : m = (i : Int)) : highAt sl (some y) len i := ⟨kk, hm ▸ h⟩
theorem run_bounds {a : Act} {w w' : World} {Pr : Prot} {β : Nat → Value} {κ : Nat → Nat} (hg : Good E sl ob a w Pr β κ) {is : Bool} {len cap l h : Nat} {lo hi : Option Operand} (hl : lowAt sl lo l) (hh : highAt sl hi len h) (h1 : l ≤ h) (h2 : h ≤ len) (h3 : len ≤ cap) :
    (Instr.sliceBounds is len cap (lo.map a.eval) (hi.map a.eval) none).run Try.prog w' = .ok (l, h, cap) w' := by
  cases lo with
  | none =>
    have hl : l = 0 := hl
    subst hl
    cases hi with
    | none =>
      have hh : h = len := hh
      subst hh
      simp [Instr.sliceBounds]
    | some y =>
      obtain ⟨k2, hy⟩ := hh
      simp [Instr.sliceBounds, good_val hg hy, Instr.sliceBound, asIntOf, show h ≤ cap by omega]
  | some x =>
    obtain ⟨k1, hx⟩ := hl
    cases hi with
    | none =>
      have hh : h = len := hh
      subst hh
      simp [Instr.sliceBounds, good_val hg hx, Instr.sliceBound, asIntOf, h1]
    | some y =>
      obtain ⟨k2, hy⟩ := hh
      simp [Instr.sliceBounds, good_val hg hy, good_val hg hx, Instr.sliceBound, asIntOf, show h ≤ cap by omega, h1]
theorem y_sub_s {lo hi : Option Operand} {l h : Nat} (hx : ev sl x = .d (.val (.string s))) (hT : Try.prog.underlying t = some .string) (hl : lowAt sl lo l) (hh : highAt sl hi s.size h) (h1 : l ≤ h) (h2 : h ≤ s.size) :
    Y E ⟨d, .slice t x lo hi none, T, p, af, g⟩ sl ob (.d (.val (.string (s.extract l h)))) := fun a w Pr β κ hg =>
  ⟨_, .d _ _ (.val _), fun w' _ => by simp [execOp, good_val hg hx, Instr.sliceAt, Instr.slice, run_underlying hT, run_bounds hg hl hh h1 h2 (Nat.le_refl _)]⟩
theorem y_extract {l : List D} {ix : Nat} {z : D} (hx : ev sl x = .d (.tup l)) (hz : l[ix]? = some z) : Y E ⟨d, .extract x ix, T, p, af, g⟩ sl ob (.d z) := fun a w Pr β κ hg => by
  have h := good_rep hg hx
  generalize hv : a.eval x = v at h
  cases h with
  | tup cs l hl hd =>
    have hlt : ix < cs.length := by rw [hl]; exact (List.getElem?_eq_some_iff.1 hz).1
    exact ⟨cs[ix], .d _ _ (hd ix _ z (List.getElem?_eq_getElem hlt) hz), fun w' _ => by simp [execOp, hv, Instr.extract, hlt]⟩
end
end Go.Proofs.Ytabaflklognhaaa
