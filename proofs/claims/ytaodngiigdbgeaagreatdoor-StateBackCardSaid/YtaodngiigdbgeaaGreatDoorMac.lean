/-
  Conditions: none.
-/
import Derived.IntWalk
import Derived.Lib.ItoaNum
import Derived.OwnWalk
import Derived.Test.YtaodngiigdbgeaaGreatDoorMaa
import Derived.Test.YtaodngiigdbgeaaGreatDoorMab
set_option maxHeartbeats 16000000
set_option maxRecDepth 20000
set_option linter.unusedSimpArgs false
set_option linter.unusedVariables false
namespace Go.Proofs.YtaodngiigdbgeaaGreatDoor
section
open Go.RowKit
def plainEq : Value → Value → Bool
 | .nilIface, .nilIface => false
 | .agg _, .agg _ => false
 | _, _ => true
theorem aOz (op : BinOp) (t : TypeId) (x y : Operand) (u v : Value) (h : plainEq u v = true) (w : World) : (eqGuard op t x y u v).run Tryz.prog w = .ok () w := by
 unfold eqGuard
 cases u <;> cases v <;> first | (exfalso; simp [plainEq] at h; done) | (cases op <;> rfl)
section
variable {E : Entry} {sl : Slots} {ob : Objs}
variable {d : Option Nat} {T t ty : TypeId} {p : String} {af : Array Edge} {g : Option (Nat × Bool)} {x y c : Operand} {k : IntKind} {m n : Int}
theorem iQ {op : BinOp} {u v r : Value} (hx : ev sl x = .d (.val u)) (hy : ev sl y = .d (.val v)) (hg : plainEq u v = true)
  (hr : ∀ w, (binOp op t u v).run Tryz.prog w = .ok r w) : Y E ⟨d, .binOp op t x y ty, T, p, af, g⟩ sl ob (.d (.val r)) := fun a w Pr β κ h =>
 ⟨r, .d _ _ (.val r), fun w' _ => by
  simp only [execOp, bT h hx, bT h hy]
  rw [Sem.run_bind, Sem.run_bind, aOz op t x y _ _ hg w']
  simp only [Result.andThen]
  rw [hr w']
  rfl⟩
theorem aBa (hx : ev sl x = .d (.val (.int .i64 m))) (hy : ev sl y = .d (.val (.int .i64 n))) (h : -9223372036854775808 ≤ m + n ∧ m + n ≤ 9223372036854775807) :
  Y E ⟨d, .binOp .add t x y ty, T, p, af, g⟩ sl ob (.d (.val (.int .i64 (m + n)))) := iQ hx hy rfl fun w => by simp [binOp, Op.intArith, IntWalk.i64_in _ h]
theorem aVr (hx : ev sl x = .d (.val (.int .i64 m))) (hy : ev sl y = .d (.val (.int .i64 n))) (h : -9223372036854775808 ≤ m - n ∧ m - n ≤ 9223372036854775807) :
  Y E ⟨d, .binOp .sub t x y ty, T, p, af, g⟩ sl ob (.d (.val (.int .i64 (m - n)))) := iQ hx hy rfl fun w => by simp [binOp, Op.intArith, IntWalk.i64_in _ h]
theorem y_mul (hx : ev sl x = .d (.val (.int .i64 m))) (hy : ev sl y = .d (.val (.int .i64 n))) (h : -9223372036854775808 ≤ m * n ∧ m * n ≤ 9223372036854775807) :
  Y E ⟨d, .binOp .mul t x y ty, T, p, af, g⟩ sl ob (.d (.val (.int .i64 (m * n)))) := iQ hx hy rfl fun w => by simp [binOp, Op.intArith, IntWalk.i64_in _ h]
theorem y_rem (hx : ev sl x = .d (.val (.int k m))) (hy : ev sl y = .d (.val (.int k n))) (h : 0 ≤ m ∧ 0 < n) :
  Y E ⟨d, .binOp .rem t x y ty, T, p, af, g⟩ sl ob (.d (.val (.int k (m % n)))) := iQ hx hy rfl fun w => by
 have h1 : m.tmod n = m % n := Int.tmod_eq_emod_of_nonneg h.1
 simp [binOp, Op.intDiv, show ¬ n = 0 by omega, h1]
theorem aBb (hx : ev sl x = .d (.val (.int k m))) (hy : ev sl y = .d (.val (.int k n))) : Y E ⟨d, .binOp .lss t x y ty, T, p, af, g⟩ sl ob (.d (.val (.bool (decide (m < n))))) := iQ hx hy rfl fun w => by simp [binOp, Op.intCmp]
theorem y_leq (hx : ev sl x = .d (.val (.int k m))) (hy : ev sl y = .d (.val (.int k n))) : Y E ⟨d, .binOp .leq t x y ty, T, p, af, g⟩ sl ob (.d (.val (.bool (decide (m ≤ n))))) := iQ hx hy rfl fun w => by simp [binOp, Op.intCmp]
theorem y_gtr (hx : ev sl x = .d (.val (.int k m))) (hy : ev sl y = .d (.val (.int k n))) : Y E ⟨d, .binOp .gtr t x y ty, T, p, af, g⟩ sl ob (.d (.val (.bool (decide (n < m))))) := iQ hx hy rfl fun w => by simp [binOp, Op.intCmp]
theorem y_geq (hx : ev sl x = .d (.val (.int k m))) (hy : ev sl y = .d (.val (.int k n))) : Y E ⟨d, .binOp .geq t x y ty, T, p, af, g⟩ sl ob (.d (.val (.bool (decide (n ≤ m))))) := iQ hx hy rfl fun w => by simp [binOp, Op.intCmp]
theorem aVn (hx : ev sl x = .d (.val (.int k m))) (hy : ev sl y = .d (.val (.int k n))) : Y E ⟨d, .binOp .eql t x y ty, T, p, af, g⟩ sl ob (.d (.val (.bool (decide (m = n))))) := iQ hx hy rfl fun w => by simp [binOp, Op.intCmp]; rfl
theorem aVp (hx : ev sl x = .d (.val (.int k m))) (hy : ev sl y = .d (.val (.int k n))) : Y E ⟨d, .binOp .neq t x y ty, T, p, af, g⟩ sl ob (.d (.val (.bool (!decide (m = n))))) := iQ hx hy rfl fun w => by simp [binOp, Op.intCmp]; rfl
variable {s r : ByteArray}
theorem tN (s t : ByteArray) : (s.toList == t.toList) = decide (s = t) := by
 by_cases h : s = t
 ·subst h
  simp
 ·rw [decide_eq_false h, beq_eq_false_iff_ne]
  intro h2
  rw [ByteArray.toList_eq, ByteArray.toList_eq] at h2
  exact h (by cases s; cases t; simp_all)
theorem aRu (hx : ev sl x = .d (.val (.string s))) (hy : ev sl y = .d (.val (.string r))) : Y E ⟨d, .binOp .eql t x y ty, T, p, af, g⟩ sl ob (.d (.val (.bool (decide (s = r))))) := iQ hx hy rfl fun w => by simp [binOp, Op.stringOp, tN]
theorem aRv (hx : ev sl x = .d (.val (.string s))) (hy : ev sl y = .d (.val (.string r))) : Y E ⟨d, .binOp .neq t x y ty, T, p, af, g⟩ sl ob (.d (.val (.bool (!decide (s = r))))) := iQ hx hy rfl fun w => by simp [binOp, Op.stringOp, tN]
theorem uF (hx : ev sl x = .d (.val (.string s))) (hy : ev sl y = .d (.val (.string r))) (h : s.size + r.size ≤ 9223372036854775807) : Y E ⟨d, .binOp .add t x y ty, T, p, af, g⟩ sl ob (.d (.val (.string (s ++ r)))) :=
 iQ hx hy rfl fun w => by
  have : ¬ (((s.size + r.size : Nat) : Int) > IntKind.i64.max) := by simp [IntKind.max, IntKind.signed, IntKind.bits]; omega
  simp only [binOp, Op.stringOp, if_neg this]
  rfl
theorem aVq {b : Bool} (hx : ev sl x = .d (.val (.bool b))) : Y E ⟨d, .unOp .not t x, T, p, af, g⟩ sl ob (.d (.val (.bool (!b)))) := fun a w Pr β κ h =>
 ⟨_, .d _ _ (.val _), fun w' _ => by simp [execOp, bT h hx, Op.unary]⟩
theorem aIb {k' : IntKind} {src dst : TypeId} (hx : ev sl x = .d (.val (.int k m))) (hd' : ki dst = some k') (hs : (Tryz.prog.underlying src).isSome = true) : Y E ⟨d, .convert src dst x, T, p, af, g⟩ sl ob (.d (.val (.int k' (k'.wrap m)))) := fun a w Pr β κ h =>
 ⟨_, .d _ _ (.val _), fun w' _ => by
  obtain ⟨ds, hs⟩ := Option.isSome_iff_exists.1 hs
  have hd := kiok _ _ hd'
  simp [execOp, bT h hx, convert, run_underlying hd, run_underlying hs, Conv.intToInt]⟩
theorem aRq {src dst : TypeId} (hx : ev sl x = .d (.val (.int k m))) (hd' : ki dst = some .i64) (hs : (Tryz.prog.underlying src).isSome = true) (h : -9223372036854775808 ≤ m ∧ m ≤ 9223372036854775807) : Y E ⟨d, .convert src dst x, T, p, af, g⟩ sl ob (.d (.val (.int .i64 m))) := by
 have := aIb (E := E) (sl := sl) (ob := ob) (d := d) (T := T) (p := p) (af := af) (g := g) hx hd' hs
 rwa [IntWalk.i64_in _ h] at this
theorem aVd {src dst : TypeId} (hx : ev sl x = .d (.val (.int k m))) (hd' : ki dst = some .u8) (hs : (Tryz.prog.underlying src).isSome = true) (h : 0 ≤ m ∧ m ≤ 255) : Y E ⟨d, .convert src dst x, T, p, af, g⟩ sl ob (.d (.val (.int .u8 m))) := by
 have := aIb (E := E) (sl := sl) (ob := ob) (d := d) (T := T) (p := p) (af := af) (g := g) hx hd' hs
 rwa [IntWalk.u8_in _ h] at this
theorem aRw (hx : ev sl x = .d (.val (.int .u8 m))) (hy : ev sl y = .d (.val (.int .u8 n))) (h : 0 ≤ m - n ∧ m - n ≤ 255) :
  Y E ⟨d, .binOp .sub t x y ty, T, p, af, g⟩ sl ob (.d (.val (.int .u8 (m - n)))) := iQ hx hy rfl fun w => by simp [binOp, Op.intArith, IntWalk.u8_in _ h]
theorem aVo {A : Array TypeId} (hx : ev sl x = .d (.val (.int .i64 m))) (hy : ev sl y = .d (.val (.int .i64 n))) : Y E ⟨d, .call { callee := .builtin .min, args := #[x, y], argTypes := A }, T, p, af, g⟩ sl ob (.d (.val (.int .i64 (min m n)))) := fun a w Pr β κ h =>
 ⟨_, .d _ _ (.val _), fun w' _ => by
  have e : (if n < m then n else m) = min m n := by simp only [Int.min_def]; split <;> split <;> omega
  simp [execOp, bT h hx, bT h hy, resolve, invoke, builtin, Builtin.min_, Builtin.min2, e]⟩
theorem y_max {A : Array TypeId} (hx : ev sl x = .d (.val (.int .i64 m))) (hy : ev sl y = .d (.val (.int .i64 n))) : Y E ⟨d, .call { callee := .builtin .max, args := #[x, y], argTypes := A }, T, p, af, g⟩ sl ob (.d (.val (.int .i64 (max m n)))) := fun a w Pr β κ h =>
 ⟨_, .d _ _ (.val _), fun w' _ => by
  have e : (if m < n then n else m) = max m n := by simp only [Int.max_def]; split <;> split <;> omega
  simp [execOp, bT h hx, bT h hy, resolve, invoke, builtin, Builtin.max_, Builtin.max2, e]⟩
theorem pT {A : Array TypeId} {t0 : TypeId} (hx : ev sl x = .d (.val (.string s))) (hA : A = #[t0]) (hT : Tryz.prog.underlying t0 = some .string) : Y E ⟨d, .call { callee := .builtin .len, args := #[x], argTypes := A }, T, p, af, g⟩ sl ob (.d (.val (.int .i64 s.size))) := fun a w Pr β κ h =>
 ⟨_, .d _ _ (.val _), fun w' _ => by subst hA; simp [execOp, bT h hx, resolve, invoke, builtin, Builtin.len_, run_underlying hT, goInt]⟩
def bAt (s : ByteArray) (i : Nat) : UInt8 := s.data.toList.getD i 0
theorem y_idx {kk : IntKind} (hx : ev sl x = .d (.val (.string s))) (hy : ev sl y = .d (.val (.int kk m))) (hT : Tryz.prog.underlying t = some .string) {i : Nat} (hi : m = (i : Int)) (h : i < s.size) :
  Y E ⟨d, .index t x y, T, p, af, g⟩ sl ob (.d (.val (.int .u8 (bAt s i).toNat))) := fun a w Pr β κ hg =>
 ⟨_, .d _ _ (.val _), fun w' _ => by
  subst hi
  have h1 : s[i]? = some (bAt s i) := by
   rw [getElem?_pos s i h]
   simp only [bAt, List.getD_eq_getElem?_getD]
   rw [List.getElem?_eq_getElem (by simpa using h)]
   simp
   rfl
  simp [execOp, bT hg hx, bT hg hy, Instr.index, asIntOf, run_underlying hT, h1]⟩
theorem yZ {k : IntKind} {m n : Int} (h : m = n) : V.d (.val (.int k m)) = V.d (.val (.int k n)) := by rw [h]
theorem aVk (k : Nat) : (k : Int) + 1 = ((k + 1 : Nat) : Int) := rfl
theorem aVj (a b : Nat) : (a : Int) + (b : Int) = ((a + b : Nat) : Int) := rfl
theorem lit0 : (0 : Int) = ((0 : Nat) : Int) := rfl
theorem lit1 : (1 : Int) = ((1 : Nat) : Int) := rfl
theorem lit2 : (2 : Int) = ((2 : Nat) : Int) := rfl
theorem lit3 : (3 : Int) = ((3 : Nat) : Int) := rfl
theorem lit4 : (4 : Int) = ((4 : Nat) : Int) := rfl
def lowAt (sl : Slots) (lo : Option Operand) (n : Nat) : Prop := match lo with
 | none => n = 0
 | some y => ∃ kk, ev sl y = .d (.val (.int kk (n : Int)))
def highAt (sl : Slots) (hi : Option Operand) (len n : Nat) : Prop := match hi with
 | none => n = len
 | some y => ∃ kk, ev sl y = .d (.val (.int kk (n : Int)))
theorem sB : lowAt sl none 0 := rfl
theorem sC {kk : IntKind} {i : Nat} (h : ev sl y = .d (.val (.int kk m))) (hm : m = (i : Int)) : lowAt sl (some y) i := ⟨kk, hm ▸ h⟩
theorem pY {len : Nat} : highAt sl none len len := rfl
theorem pZ {kk : IntKind} {i len : Nat} (h : ev sl y = .d (.val (.int kk m))) (hm : m = (i : Int)) : highAt sl (some y) len i := ⟨kk, hm ▸ h⟩
theorem yC {a : Act} {w w' : World} {Pr : Prot} {β : Nat → Value} {κ : Nat → Nat} (hg : Good E sl ob a w Pr β κ) {is : Bool} {len cap l h : Nat} {lo hi : Option Operand} (hl : lowAt sl lo l) (hh : highAt sl hi len h) (h1 : l ≤ h) (h2 : h ≤ len) (h3 : len ≤ cap) :
  (Instr.sliceBounds is len cap (lo.map a.eval) (hi.map a.eval) none).run Tryz.prog w' = .ok (l, h, cap) w' := by
 cases lo with
 | none =>
  have hl : l = 0 := hl
  subst hl
  cases hi with
  | none =>
   have hh : h = len := hh
   subst hh
   simp [Instr.sliceBounds]
  | some y =>
   obtain ⟨k2, hy⟩ := hh
   simp [Instr.sliceBounds, bT hg hy, Instr.sliceBound, asIntOf, show h ≤ cap by omega]
 | some x =>
  obtain ⟨k1, hx⟩ := hl
  cases hi with
  | none =>
   have hh : h = len := hh
   subst hh
   simp [Instr.sliceBounds, bT hg hx, Instr.sliceBound, asIntOf, h1]
  | some y =>
   obtain ⟨k2, hy⟩ := hh
   simp [Instr.sliceBounds, bT hg hy, bT hg hx, Instr.sliceBound, asIntOf, show h ≤ cap by omega, h1]
theorem aJx {lo hi : Option Operand} {l h : Nat} (hx : ev sl x = .d (.val (.string s))) (hT : Tryz.prog.underlying t = some .string) (hl : lowAt sl lo l) (hh : highAt sl hi s.size h) (h1 : l ≤ h) (h2 : h ≤ s.size) :
  Y E ⟨d, .slice t x lo hi none, T, p, af, g⟩ sl ob (.d (.val (.string (s.extract l h)))) := fun a w Pr β κ hg =>
 ⟨_, .d _ _ (.val _), fun w' _ => by simp [execOp, bT hg hx, Instr.sliceAt, Instr.slice, run_underlying hT, yC hg hl hh h1 h2 (Nat.le_refl _)]⟩
theorem aMm {l : List D} {ix : Nat} {z : D} (hx : ev sl x = .d (.tup l)) (hz : l[ix]? = some z) : Y E ⟨d, .extract x ix, T, p, af, g⟩ sl ob (.d z) := fun a w Pr β κ hg => by
 have h := iA hg hx
 generalize hv : a.eval x = v at h
 cases h with
 | tup cs l hl hd =>
  have hlt : ix < cs.length := by rw [hl]; exact (List.getElem?_eq_some_iff.1 hz).1
  exact ⟨cs[ix], .d _ _ (hd ix _ z (List.getElem?_eq_getElem hlt) hz), fun w' _ => by simp [execOp, hv, Instr.extract, hlt]⟩
end
end
section
open Go.RowKit
def signsL : List ByteArray := [⟨#[61, 61]⟩, ⟨#[59]⟩, ⟨#[44]⟩, ⟨#[61]⟩, ⟨#[60]⟩, ⟨#[43]⟩, ⟨#[45]⟩, ⟨#[42]⟩, ⟨#[47]⟩, ⟨#[40]⟩, ⟨#[41]⟩]
def laidG : List (Nat × List D) := [(0, signsL.map D.str), (4, (Lib.pow10Tab.map fun z => Value.int .u64 z).map D.val), (2, [.err]), (3, [.err])]
end
section
open Go.RowKit
section
variable {E : Entry} {sl sl' : Slots} {ob ob' : Objs} {ops : Array Oper} {rest : List Oper} {Q : Exit → Act → World → Prop} {x y : Code} {K : Act → World → Prop} {id id' : Nat} {e : Exit}
theorem aA {d n : Nat} (h : Nat.blt d n = true) : d < n := by simpa [Nat.blt_eq] using h
theorem aC {d n : Nat} (h : Nat.ble d n = true) : d ≤ n := Nat.le_of_ble_eq_true h
theorem aAg {b : Bool} (h : (!b) = true) : b = false := by simpa using h
theorem aAf {b : Bool} (h : (!b) = false) : b = true := by simpa using h
theorem pA (h : AW E x (Exit.then (y.wp Tryz.prog Q) Q) sl ob) : AW E (.seq x y) Q sl ob := ⟨fun a w hi => wp_seq (h.run a w hi)⟩
theorem lC (h : AQ E .normal Q sl ob) : AW E .skip Q sl ob := ⟨fun a w hi => wp_skip (h.run a w hi)⟩
theorem mL (h : AQ E (.exit id) Q sl ob) : AW E (.exit id) Q sl ob := ⟨fun a w hi => wp_exit (h.run a w hi)⟩
theorem oZ (h : AQ E .ret Q sl ob) : AW E .ret Q sl ob := ⟨fun a w hi => wp_ret (h.run a w hi)⟩
theorem oY (h : AW E x (Exit.inBlock id Q) sl ob) : AW E (.block id x) Q sl ob := ⟨fun a w hi => wp_block (h.run a w hi)⟩
theorem oB {c : Operand} {b : Bool} (hc : ev sl c = .d (.val (.bool b))) (h1 : b = true → AW E x Q sl ob) (h2 : b = false → AW E y Q sl ob) : AW E (.cond c x y) Q sl ob := by
 refine ⟨fun a w hi => ?_⟩
 obtain ⟨Pr, β, κ, hg⟩ := hi
 exact wp_cond_split (bT hg hc) (fun h => (h1 h).run a w ⟨Pr, β, κ, hg⟩) (fun h => (h2 h).run a w ⟨Pr, β, κ, hg⟩)
theorem gI {c : Operand} {b : Bool} (hc : ev sl c = .d (.val (.bool b))) (hb : b = true) (h1 : AW E x Q sl ob) : AW E (.cond c x y) Q sl ob := oB hc (fun _ => h1) (fun h => by rw [hb] at h; cases h)
theorem gH {c : Operand} {b : Bool} (hc : ev sl c = .d (.val (.bool b))) (hb : b = false) (h1 : AW E y Q sl ob) : AW E (.cond c x y) Q sl ob := oB hc (fun h => by rw [hb] at h; cases h) (fun _ => h1)
theorem jG {l : List Oper} (h : AL E l.toArray l Q sl ob) : AW E (.region id l.toArray false) Q sl ob := ⟨fun a w hi => wp_region_lit (h.run a w hi)⟩
theorem mK (h : AW E y Q sl ob) : AQ E .normal (Exit.then (y.wp Tryz.prog Q) Q) sl ob := ⟨h.run⟩
theorem jF (h : AQ E (.exit id) Q sl ob) : AQ E (.exit id) (Exit.then K Q) sl ob := ⟨h.run⟩
theorem jE (h : AQ E .ret Q sl ob) : AQ E .ret (Exit.then K Q) sl ob := ⟨h.run⟩
theorem oX (h : AQ E .normal Q sl ob) : AQ E .normal (Exit.inBlock id Q) sl ob := ⟨h.run⟩
theorem lM (h : AQ E .normal Q sl ob) : AQ E (.exit id) (Exit.inBlock id Q) sl ob := ⟨fun a w hi => by simpa [Exit.inBlock] using h.run a w hi⟩
theorem cK (hne : id' ≠ id) (h : AQ E (.exit id') Q sl ob) : AQ E (.exit id') (Exit.inBlock id Q) sl ob := ⟨fun a w hi => by simpa [Exit.inBlock, hne] using h.run a w hi⟩
theorem lL (h : AQ E .ret Q sl ob) : AQ E .ret (Exit.inBlock id Q) sl ob := ⟨h.run⟩
theorem aIh (hs : ∀ p ∈ sl', look sl p.1 = p.2) (ho : ∀ p ∈ ob', find ob p.1 = some p.2) (h : AW E x Q sl' ob') : AW E x Q sl ob := ⟨fun a w hi => h.run a w (hi.less hs ho)⟩
theorem aIg (hs : ∀ p ∈ sl', look sl p.1 = p.2) (ho : ∀ p ∈ ob', find ob p.1 = some p.2) (h : AQ E e Q sl' ob') : AQ E e Q sl ob := ⟨fun a w hi => h.run a w (hi.less hs ho)⟩
theorem kO {s : Slots} : ∀ p ∈ ([] : Slots), look s p.1 = p.2 := by simp
theorem iV {s : Slots} {i : Nat} {v : V} {r : Slots} (h : look s i = v) (hr : ∀ p ∈ r, look s p.1 = p.2) : ∀ p ∈ (i, v) :: r, look s p.1 = p.2 := by
 intro p hp
 rcases List.mem_cons.1 hp with rfl | hp
 ·exact h
 ·exact hr p hp
theorem cU {s : Objs} : ∀ p ∈ ([] : Objs), find s p.1 = some p.2 := by simp
theorem bY {s : Objs} {i : Nat} {v : O} {r : Objs} (h : find s i = some v) (hr : ∀ p ∈ r, find s p.1 = some p.2) : ∀ p ∈ (i, v) :: r, find s p.1 = some p.2 := by
 intro p hp
 rcases List.mem_cons.1 hp with rfl | hp
 ·exact h
 ·exact hr p hp
theorem aB (op : Op) {d : Option Nat} {t : TypeId} {p : String} {af : Array Edge} (h : AL E ops (⟨d, op, t, p, af, none⟩ :: rest) Q sl ob) : AL E ops (⟨d, op, t, p, af, none⟩ :: rest) Q sl ob := h
theorem aXi {op : Op} {d : Option Nat} {t : TypeId} {p : String} {af : Array Edge} {g : Nat × Bool} (h : AL E ops (⟨d, op, t, p, af, some g⟩ :: rest) Q sl ob) : AL E ops (⟨d, op, t, p, af, some g⟩ :: rest) Q sl ob := h
theorem vI {c : Operand} (h : AW E (.cond c x y) Q sl ob) : AW E (.cond c x y) Q sl ob := h
structure LoopK (E : Entry) (I : Nat → Slots → Objs → Prop) (n : Nat) (a : Act) (w : World) : Prop where
 run : ∃ n', n' < n ∧ ∃ sl' ob', Inv E sl' ob' a w ∧ I n' sl' ob'
theorem least {J : Nat → Prop} (h : ∃ n, J n) : ∃ m, J m ∧ ∀ k, J k → m ≤ k := by
 obtain ⟨n, hn⟩ := h
 induction n using Nat.strongRecOn with
 | _ n ih =>
  by_cases hk : ∃ k, k < n ∧ J k
  ·obtain ⟨k, hk1, hk2⟩ := hk
   exact ih k hk1 hk2
  ·exact ⟨n, hn, fun k hk' => Nat.le_of_not_lt fun hlt => hk ⟨k, hlt, hk'⟩⟩
theorem aSg (I : Nat → Slots → Objs → Prop) (n0 : Nat) (h0 : I n0 sl ob) (round : ∀ n sl ob, I n sl ob → AW E x (Exit.then (LoopK E I n) Q) sl ob) : AW E (.loop x) Q sl ob := by
 refine ⟨fun a w hi => ?_⟩
 have hμ : ∀ (a : Act) (w : World), ∃ m, (∃ n sl ob, Inv E sl ob a w ∧ I n sl ob) → (∃ sl ob, Inv E sl ob a w ∧ I m sl ob) ∧ ∀ k, (∃ sl ob, Inv E sl ob a w ∧ I k sl ob) → m ≤ k := by
  intro a w
  by_cases h : ∃ n sl ob, Inv E sl ob a w ∧ I n sl ob
  ·obtain ⟨m, h1, h2⟩ := least (J := fun n => ∃ sl ob, Inv E sl ob a w ∧ I n sl ob) h
   exact ⟨m, fun _ => ⟨h1, h2⟩⟩
  ·exact ⟨0, fun h' => absurd h' h⟩
 refine wp_loop (fun a w => ∃ n sl ob, Inv E sl ob a w ∧ I n sl ob) (fun a w => Classical.choose (hμ a w)) ⟨n0, sl, ob, hi, h0⟩ ?_
 intro a w hJ
 obtain ⟨⟨sl, ob, hi, hI⟩, _⟩ := Classical.choose_spec (hμ a w) hJ
 refine Code.wp_mono ?_ ((round _ sl ob hI).run a w hi)
 intro e a' w' hq
 cases e <;> first
  | exact hq
  | skip
 obtain ⟨n', hlt, sl', ob', hi', hI'⟩ := hq.run
 have hJ' : ∃ n sl ob, Inv E sl ob a' w' ∧ I n sl ob := ⟨n', sl', ob', hi', hI'⟩
 exact ⟨hJ', Nat.lt_of_le_of_lt ((Classical.choose_spec (hμ a' w') hJ').2 n' ⟨sl', ob', hi', hI'⟩) hlt⟩
theorem rP (I : Nat → Slots → Objs → Prop) (n0 : Nat) (sl' : Slots) (ob' : Objs) (h0 : I n0 sl' ob') (hs : ∀ p ∈ sl', look sl p.1 = p.2) (ho : ∀ p ∈ ob', find ob p.1 = some p.2) (round : ∀ n sl ob, I n sl ob → AW E x (Exit.then (LoopK E I n) Q) sl ob) : AW E (.loop x) Q sl ob :=
 aIh hs ho (aSg I n0 h0 round)
theorem rL {I : Nat → Slots → Objs → Prop} {n : Nat} (n' : Nat) (sl' : Slots) (ob' : Objs) (hI : I n' sl' ob') (hlt : n' < n) (hs : ∀ p ∈ sl', look sl p.1 = p.2) (ho : ∀ p ∈ ob', find ob p.1 = some p.2) : AQ E .normal (Exit.then (LoopK E I n) Q) sl ob :=
 ⟨fun _ _ hi => ⟨⟨n', hlt, sl', ob', hi.less hs ho, hI⟩⟩⟩
end
def EnvOk (w : World) (Pr : Prot) : Prop := ∀ g l, (g, l) ∈ laidG → (∀ (j : Nat) (d : D), l[j]? = some d → ∃ u, w.cell? ⟨g, j, none⟩ = some u ∧ Pr g j ∧ RepD w Pr u d) ∧ ∀ j, l[j]? = none → w.cell? ⟨g, j, none⟩ = none ∧ Pr g j
theorem EnvOk.keep {w w' : World} {Pr Pr' : Prot} (h : EnvOk w Pr) (hs : Stays Pr w w') (hp : ∀ b o, Pr b o → Pr' b o) : EnvOk w' Pr' := fun g l hm => ⟨fun j d hj =>
 let ⟨u, h1, h2, h3⟩ := (h g l hm).1 j d hj
 ⟨u, (hs _ _ h2).trans h1, hp _ _ h2, h3.keep hs hp⟩, fun j hj =>
 let ⟨h1, h2⟩ := (h g l hm).2 j hj
 ⟨(hs _ _ h2).trans h1, hp _ _ h2⟩⟩
def PrNew (Pr : Prot) (w w' : World) : Prot := fun b o => Pr b o ∨ (w.heap.size ≤ b ∧ b < w'.heap.size)
def PostR (w : World) (Pr : Prot) (Post : D → Prop) : Ending → World → Prop := fun e w' => ∃ v r, e = .returned v ∧ Post r ∧ RepD w' (PrNew Pr w w') v r ∧ Below w.heap.size w w'
def FnOk (f : FuncId) : Prop := ∃ fn, Tryz.prog.funcs[f]? = some fn ∧ (fn.name == "runtime.NumGoroutine") = false ∧ fn.body.isSome = true
def PureC (f : FuncId) (ds : List D) (Post : D → Prop) : Prop :=
 FnOk f ∧ ∀ (w : World) (Pr : Prot) (vs : List Value), (∀ b o, Pr b o → b < w.heap.size) → EnvOk w Pr → vs.length = ds.length → (∀ (i : Nat) (v : Value) (d : D), vs[i]? = some v → ds[i]? = some d → RepD w Pr v d) →
  Calls Tryz.prog f vs.toArray w (PostR w Pr Post)
theorem PureC.mono {f : FuncId} {ds : List D} {P Q : D → Prop} (h : PureC f ds P) (hq : ∀ r, P r → Q r) : PureC f ds Q :=
 ⟨h.1, fun w Pr vs h1 h2 h3 h4 => (h.2 w Pr vs h1 h2 h3 h4).mono fun _ _ ⟨v, r, e1, e2, e3, e4⟩ => ⟨v, r, e1, hq r e2, e3, e4⟩⟩
def slotsOf : Nat → List D → Slots
 | _, [] => []
 | i, d :: ds => (i, .d d) :: slotsOf (i + 1) ds
theorem sA (ds : List D) (i k : Nat) : look (slotsOf k ds) i = if k ≤ i then (match ds[i - k]? with | some d => .d d | none => .und) else .und := by
 induction ds generalizing k with
 | nil => simp [slotsOf, look]
 | cons d ds ih =>
  simp only [slotsOf]
  by_cases h : i = k
  ·subst h
   rw [iK]
   simp
  ·rw [jS h, ih]
   by_cases h2 : k ≤ i
   ·have h3 : k + 1 ≤ i := by omega
    rw [if_pos h2, if_pos h3, show i - k = (i - (k + 1)) + 1 by omega]
    simp
   ·rw [if_neg h2, if_neg zb]
def Fine (E : Entry) : Prop := EnvOk E.w E.pr ∧ ∀ b o, E.pr b o → b < E.w.heap.size
theorem aE {f : FuncId} {fn : Func} {c : Code} {ds : List D} {Post : D → Prop} (hf : Tryz.prog.funcs[f]? = some fn) (hb : fn.body = some c) (hn : (fn.name == "runtime.NumGoroutine") = false) (N : Nat) (hN : fn.ntmps = N) (hl : ds.length ≤ N)
  (h : ∀ w Pr, Fine ⟨w, Pr, N, [], fun _ => .nilFunc, fun _ => 0, []⟩ → AW ⟨w, Pr, N, [], fun _ => .nilFunc, fun _ => 0, []⟩ c (bodyPost Tryz.prog fn (PostR w Pr Post)) (slotsOf 0 ds) []) : PureC f ds Post := by
 refine ⟨⟨fn, hf, hn, by simp [hb]⟩, fun w Pr vs h1 h2 h3 h4 => calls_of_wp hf hb ?_⟩
 subst hN
 refine (h w Pr ⟨h2, h1⟩).run _ _ ⟨Pr, fun _ => .nilFunc, fun _ => 0, Under.refl _ _, fun _ _ _ => rfl, fun _ _ h => h, fun _ _ h => .inl h, h1, ?_, rfl, fun i => ?_, fun i o ho => by simp [find] at ho, fun i j oi oj g ho => by simp [find] at ho, fun i o g ho => by simp [find] at ho, fun i o ho => by simp [find] at ho, fun i o ho => by simp [find] at ho⟩
 ·simp [h3]; omega
 ·rw [sA]
  simp only [Nat.zero_le, if_true, Nat.sub_zero]
  cases hd : ds[i]? with
  | none => exact .und _
  | some d =>
   have hi : i < vs.length := by rw [h3]; exact (List.getElem?_eq_some_iff.1 hd).1
   have hv : vs[i]? = some vs[i] := List.getElem?_eq_getElem hi
   refine .d _ _ ?_
   have : (vs.toArray ++ Array.replicate (fn.ntmps - vs.toArray.size) undef).getD i undef = vs[i] := by
    rw [Array.getD_eq_getD_getElem?, Array.getElem?_append_left (by simpa using hi)]
    simp [hi]
   rw [this]
   exact h4 i _ d hv hd
theorem aXe {w : World} {Pr : Prot} (hE : EnvOk w Pr) {g : Nat} {name : String} {vs : List Value} (hm : (g, vs.map D.val) ∈ laidG) (hg : Tryz.prog.globalNamed name = some g) (h0 : 0 < vs.length) : w.var? Tryz.prog name = some vs.toArray := by
 obtain ⟨h1, h2⟩ := hE g _ hm
 have hc : ∀ j, w.cell? ⟨g, j, none⟩ = vs[j]? := by
  intro j
  cases hv : vs[j]? with
  | none => exact (h2 j (by simp [hv])).1
  | some v =>
   obtain ⟨u, q1, _, q3⟩ := h1 j (.val v) (by simp [hv])
   cases q3
   exact q1
 have hz := hc 0
 rw [List.getElem?_eq_getElem h0] at hz
 simp only [World.var?, hg, Option.bind_some]
 simp only [World.cell?] at hc hz
 cases hh : w.heap[g]? with
 | none => rw [hh] at hz; cases hz
 | some o =>
  cases o with
  | cells cs t f =>
   simp only [hh, Option.isSome_none, Bool.false_eq_true, if_false] at hc
   simp only [Option.some.injEq]
   apply Array.ext'
   apply List.ext_getElem?
   intro j
   have := hc j
   simpa using this
  | _ => rw [hh] at hz; cases hz
inductive ToD (ob : Objs) : V → D → Prop where
 | d (x : D) : ToD ob (.d x) x
 | row (i k e s : Nat) (l : List (List D)) (h : find ob i = some (.row e s k l)) : ToD ob (.row i k) (.list s l)
 | agg (vs : List V) (ds : List D) (hl : vs.length = ds.length) (h : ∀ (i : Nat) (v : V) (d : D), vs[i]? = some v → ds[i]? = some d → ToD ob v d) : ToD ob (.agg vs) (.agg ds)
 | nil (s : Nat) : ToD ob (.d (.val (.slice none 0 0))) (.list s [])
section
variable {E : Entry} {sl : Slots} {ob : Objs} {a : Act} {w : World} {Pr : Prot} {β : Nat → Value} {κ : Nat → Nat}
theorem aUi (h : Good E sl ob a w Pr β κ) {i e s k : Nat} {l : List (List D)} (ho : find ob i = some (.row e s k l)) : RepD w Pr (β i) (.list s l) := by
 obtain ⟨_, xs, hown, hls, hd, hpr⟩ := h.objs i _ ho
 rcases hown.2 with ⟨h0, hl⟩ | ⟨g, cap, cur, h0, hB, hg, hc, hm, hsz, htk⟩
 ·obtain rfl : l = [] := List.eq_nil_of_length_eq_zero hl
  rw [h0]
  exact .nil _ _ _ (Nat.zero_le _)
 ·rw [h0] at hown hpr ⊢
  have hu : ∀ (p j : Nat), p < l.length → j < s → ∃ u, w.cell? ⟨g, p * s + j, none⟩ = some u ∧ ∀ (x : List D) (d : D), l[p]? = some x → x[j]? = some d → RepD w Pr u d := by
   intro p j hp hj
   have hx : l[p]? = some l[p] := List.getElem?_eq_getElem hp
   have hxl := hls _ (List.getElem_mem hp)
   have hd' : l[p][j]? = some (l[p][j]'zb) := List.getElem?_eq_getElem zb
   obtain ⟨u, hu, hr⟩ := hd p j _ _ hx hd'
   have hlt : p * s + j < l.length * s := Nat.lt_of_lt_of_le (by omega : p * s + j < p * s + s) (by rw [← Nat.succ_mul]; exact Nat.mul_le_mul_right _ hp)
   refine ⟨u, (hown.cellAt _ hlt).trans hu, fun x d h1 h2 => ?_⟩
   rw [hx] at h1
   cases h1
   rw [hd'] at h2
   cases h2
   exact hr
  have hu' : ∀ (p j : Nat), ∃ u, p < l.length → j < s → w.cell? ⟨g, p * s + j, none⟩ = some u ∧ ∀ (x : List D) (d : D), l[p]? = some x → x[j]? = some d → RepD w Pr u d := by
   intro p j
   by_cases hp : p < l.length ∧ j < s
   ·obtain ⟨u, hu⟩ := hu p j hp.1 hp.2
    exact ⟨u, fun _ _ => hu⟩
   ·exact ⟨undef, fun h1 h2 => absurd ⟨h1, h2⟩ hp⟩
  have hb : ∀ (p j : Nat) (x : List D) (d : D), l[p]? = some x → x[j]? = some d → p < l.length ∧ j < s := by
   intro p j x d h1 h2
   have hp := (List.getElem?_eq_some_iff.1 h1).1
   have hj := (List.getElem?_eq_some_iff.1 h2).1
   rw [hls x (List.mem_of_getElem? h1)] at hj
   exact ⟨hp, hj⟩
  refine .list g 0 l.length cap s l (fun p j => Classical.choose (hu' p j)) rfl hls hc hm (fun p j x d h1 h2 => ?_) (fun p j x d h1 h2 => ?_)
  ·obtain ⟨hp, hj⟩ := hb p j x d h1 h2
   rw [Nat.zero_add]
   refine ⟨(Classical.choose_spec (hu' p j) hp hj).1, (hpr g rfl _).2 ?_⟩
   exact Nat.lt_of_lt_of_le (by omega : p * s + j < p * s + s) (by rw [← Nat.succ_mul]; exact Nat.mul_le_mul_right _ hp)
  ·obtain ⟨hp, hj⟩ := hb p j x d h1 h2
   exact (Classical.choose_spec (hu' p j) hp hj).2 x d h1 h2
theorem eZ (h : Good E sl ob a w Pr β κ) {v : V} {d : D} (hd : ToD ob v d) : ∀ u, RepV w Pr β κ u v → RepD w Pr u d := by
 induction hd with
 | d x => exact fun u hu => hu.d_inv
 | nil s =>
  intro u hu
  cases hu.val_inv
  exact .nil _ _ _ (Nat.zero_le _)
 | row i k e s l ho =>
  intro u hu
  cases hu with
  | row _ _ _ hs hk hv =>
   have h1 : κ i = k := (h.objs i _ ho).1
   rw [hv h1.symm]
   exact aUi h ho
 | agg vs ds hl hd ih =>
  intro u hu
  cases hu with
  | agg cs _ hl' hd' =>
   refine .agg cs ds (hl'.trans hl) (fun i v d h1 h2 => ?_)
   have hi : i < vs.length := by rw [hl]; exact (List.getElem?_eq_some_iff.1 h2).1
   have hx : vs[i]? = some vs[i] := List.getElem?_eq_getElem hi
   exact ih i _ d hx h2 v (hd' i v _ h1 hx)
inductive ArgsD (sl : Slots) (ob : Objs) : List Operand → List D → Prop where
 | nil : ArgsD sl ob [] []
 | cons {x : Operand} {xs : List Operand} {d : D} {ds : List D} (h : ToD ob (ev sl x) d) (hr : ArgsD sl ob xs ds) : ArgsD sl ob (x :: xs) (d :: ds)
theorem ArgsD.rep (h : Good E sl ob a w Pr β κ) {xs : List Operand} {ds : List D} (hd : ArgsD sl ob xs ds) : (xs.map a.eval).length = ds.length ∧ ∀ (i : Nat) (v : Value) (d : D), (xs.map a.eval)[i]? = some v → ds[i]? = some d → RepD w Pr v d := by
 induction hd with
 | nil => simp
 | @cons x xs d ds hx hr ih =>
  refine ⟨by simpa using ih.1, fun i v d' h1 h2 => ?_⟩
  cases i with
  | zero =>
   simp at h1 h2
   subst h1 h2
   exact eZ h hx _ (bO h x)
  | succ i => exact ih.2 i v d' (by simpa using h1) (by simpa using h2)
theorem jQ (hE : Fine E) (h : Good E sl ob a w Pr β κ) : EnvOk w Pr := hE.1.keep h.st0 h.pr0
theorem dZ {f : FuncId} (hf : FnOk f) (args : Array Value) (w : World) : (callFunc f args).run Tryz.prog w = .ok (.enter f args) w := by
 obtain ⟨fn, h1, h2, h3⟩ := hf
 have hb : fn.body ≠ none := by cases hbb : fn.body <;> simp_all
 have hn : fn.name ≠ "runtime.NumGoroutine" := by simpa using h2
 simp [callFunc, program, Sem.run, h1, hn, hb]
variable {ops : Array Oper} {rest : List Oper} {Q : Exit → Act → World → Prop} {d : Nat} {ty : TypeId} {p : String} {af : Array Edge}
theorem Good.called (h : Good E sl ob a w Pr β κ) {w' : World} {v : Value} {r : D} (hx : Below w.heap.size w w') (hr : RepD w' (PrNew Pr w w') v r) (hd : d < E.n) : Good E ((d, .d r) :: sl) ob (a.put (some d) v) w' (PrNew Pr w w') β κ :=
 (h.grow hx (fun _ _ h => .inl h) (fun _ _ h => h)).put hd (.d _ _ hr)
theorem vA {f : FuncId} {ds : List D} {Post : D → Prop} {c : Operand} {xs : List Operand} {ats : Array TypeId} (hc : PureC f ds Post) (hf : ev sl c = .d (.val (.func (.func f) #[] #[]))) (hE : Fine E) (hd : d < E.n) (ha : ArgsD sl ob xs ds)
  (hK : ∀ r, Post r → AL E ops rest Q ((d, .d r) :: sl) ob) : AL E ops (⟨some d, .call { callee := .value c, args := xs.toArray, argTypes := ats }, ty, p, af, none⟩ :: rest) Q sl ob := by
 refine ⟨fun a w hi => ?_⟩
 obtain ⟨Pr, β, κ, h⟩ := hi
 refine wpList_plain rfl fun K hKK => ?_
 obtain ⟨hl, hr⟩ := ha.rep h
 have hcall := hc.2 w Pr (xs.map a.eval) h.prl (jQ hE h) hl hr
 have hrun : (execOp a.eval ⟨some d, .call { callee := .value c, args := xs.toArray, argTypes := ats }, ty, p, af, none⟩).run Tryz.prog w = .ok (.enter f (xs.map a.eval).toArray) w := by
  simp [execOp, resolve, Deferred.ofValue, invoke, bT h hf, dZ hc.1]
 unfold Oper.wp
 rw [hrun, Oper.upon_enter]
 refine hcall.mono fun e w' ⟨v, r, he, hp, hrep, hb⟩ => ?_
 subst he
 exact hKK _ _ ((hK r hp).run _ _ ⟨_, β, κ, h.called hb hrep hd⟩)
theorem lN (h0 : E.ob0 = []) (hg : Good E sl ob a w Pr β κ) : Below E.w.heap.size E.w w := Under.below (β := E.β0) (h0 ▸ hg.below)
theorem jU (h0 : E.ob0 = []) (hg : Good E sl ob a w Pr β κ) : ∀ b o, Pr b o → PrNew E.pr E.w w b o := fun b o hb => by
 rcases hg.prn b o hb with h1 | h1 | h1
 ·exact .inl h1
 ·exact .inr ⟨h1, hg.prl b o hb⟩
 ·rw [h0] at h1
  exact absurd h1 rZ
inductive ResD (sl : Slots) (ob : Objs) : ResultVar → D → Prop where
 | tmp (t : Nat) (d : D) (h : ToD ob (look sl t) d) : ResD sl ob (.tmp t) d
theorem gG {fn : Func} {Post : D → Prop} {t : Nat} {r : D} (hr : fn.results = #[.tmp t]) (h : ToD ob (look sl t) r) (hp : Post r) (h0 : E.ob0 = [] := by rfl) (hdf : E.df = [] := by rfl) : AQ E .ret (bodyPost Tryz.prog fn (PostR E.w E.pr Post)) sl ob := by
 refine ⟨fun a w hi => ?_⟩
 obtain ⟨Pr, β, κ, hg⟩ := hi
 refine bodyPost_ret (results_tmp hr _ _ _) (hg.defers.trans hdf) ⟨_, r, rfl, hp, (eZ hg h _ (hg.slots t)).keep (fun _ _ _ => rfl) ?_, lN h0 hg⟩
 exact jU h0 hg
theorem sX {fn : Func} {Post : D → Prop} {t u : Nat} {r q : D} (hr : fn.results = #[.tmp t, .tmp u]) (h : ToD ob (look sl t) r) (h' : ToD ob (look sl u) q) (hp : Post (.tup [r, q])) (h0 : E.ob0 = [] := by rfl) (hdf : E.df = [] := by rfl) : AQ E .ret (bodyPost Tryz.prog fn (PostR E.w E.pr Post)) sl ob := by
 refine ⟨fun a w hi => ?_⟩
 obtain ⟨Pr, β, κ, hg⟩ := hi
 refine bodyPost_ret (results_tmp2 hr _ _ _) (hg.defers.trans hdf) ⟨_, _, rfl, hp, ?_, lN h0 hg⟩
 have hP := jU h0 hg
 have k1 := (eZ hg h _ (hg.slots t)).keep (fun _ _ _ => rfl) hP
 have k2 := (eZ hg h' _ (hg.slots u)).keep (fun _ _ _ => rfl) hP
 refine .tup [_, _] _ rfl (fun i v d h1 h2 => ?_)
 match i with
 | 0 => cases h1; cases h2; exact k1
 | 1 => cases h1; cases h2; exact k2
theorem uB {fn : Func} {Post : D → Prop} {t u z : Nat} {r q s : D} (hr : fn.results = #[.tmp t, .tmp u, .tmp z]) (h : ToD ob (look sl t) r) (h' : ToD ob (look sl u) q) (h'' : ToD ob (look sl z) s) (hp : Post (.tup [r, q, s])) (h0 : E.ob0 = [] := by rfl) (hdf : E.df = [] := by rfl) : AQ E .ret (bodyPost Tryz.prog fn (PostR E.w E.pr Post)) sl ob := by
 refine ⟨fun a w hi => ?_⟩
 obtain ⟨Pr, β, κ, hg⟩ := hi
 refine bodyPost_ret (results_tmp3 hr _ _ _) (hg.defers.trans hdf) ⟨_, _, rfl, hp, ?_, lN h0 hg⟩
 have hP := jU h0 hg
 have k1 := (eZ hg h _ (hg.slots t)).keep (fun _ _ _ => rfl) hP
 have k2 := (eZ hg h' _ (hg.slots u)).keep (fun _ _ _ => rfl) hP
 have k3 := (eZ hg h'' _ (hg.slots z)).keep (fun _ _ _ => rfl) hP
 refine .tup [_, _, _] _ rfl (fun i v d h1 h2 => ?_)
 match i with
 | 0 => cases h1; cases h2; exact k1
 | 1 => cases h1; cases h2; exact k2
 | 2 => cases h1; cases h2; exact k3
end
end
section
open Go.RowKit
theorem aEw {α β : Type} {g : α → Option β} : ∀ {l : List α} {r : List β}, l.mapM g = some r → ∀ {i : Nat} {y : β}, r[i]? = some y → ∃ x, l[i]? = some x ∧ g x = some y := by
 intro l
 induction l with
 | nil => intro r h i y hy; simp at h; subst h; simp at hy
 | cons x l ih =>
  intro r h i y hy
  rw [List.mapM_cons] at h
  cases hx : g x with
  | none => rw [hx] at h; simp at h
  | some z =>
   cases hl : l.mapM g with
   | none => rw [hx, hl] at h; simp at h
   | some r' =>
    rw [hx, hl] at h
    simp at h
    subst h
    cases i with
    | zero => simp at hy; subst hy; exact ⟨x, by simp, hx⟩
    | succ i =>
     obtain ⟨x', h1, h2⟩ := ih hl (i := i) (by simpa using hy)
     exact ⟨x', by simpa using h1, h2⟩
def isOne : TI → Bool
 | .one _ => true
 | .sl .. => true
 | _ => false
def aggK : TI → Option Nat
 | .st z _ => some z.length
 | .ar _ _ _ z => some z.length
 | _ => none
theorem yI {t : TypeId} {z : List Value} {fs : List (Nat × Nat × Nat)} (h : ti t = .st z fs) : ∃ (i : TypeInfo) (F : Array Field), Tryz.prog.info? t = some i ∧ Tryz.prog.underlying t = some (.struct F) ∧ i.size = z.length ∧ i.zero = some (.agg z.toArray) ∧
  F.toList.mapM (fun f => (Tryz.prog.info? f.type).map fun j => (f.offset, j.size, f.type)) = some fs := by
 have hk := aUx t (by rw [h]; intro e; cases e)
 rw [h] at hk
 unfold tiOf at hk
 split at hk
 ·rename_i i F h1 h2
  split at hk
  ·rename_i z' pl h3 h4
   split at hk
   ·rename_i hsz
    simp only [TI.st.injEq] at hk
    obtain ⟨rfl, rfl⟩ := hk
    exact ⟨i, F, h1, h2, by simp [hsz], by simpa using h3, h4⟩
   ·cases hk
  ·cases hk
 ·split at hk
  ·split at hk <;> cases hk
  ·cases hk
 ·split at hk
  ·split at hk
   ·split at hk <;> cases hk
   ·cases hk
  ·cases hk
 ·split at hk
  ·split at hk <;> cases hk
  ·cases hk
 ·cases hk
theorem aGb {t e : TypeId} {n es : Nat} {z : List Value} (h : ti t = .ar n e es z) : ∃ (i j : TypeInfo), Tryz.prog.info? t = some i ∧ Tryz.prog.underlying t = some (.array n e) ∧ i.size = z.length ∧ i.zero = some (.agg z.toArray) ∧ Tryz.prog.info? e = some j ∧ j.size = es := by
 have hk := aUx t (by rw [h]; intro e; cases e)
 rw [h] at hk
 unfold tiOf at hk
 split at hk
 ·split at hk
  ·split at hk <;> cases hk
  ·cases hk
 ·rename_i i n' e h1 h2
  split at hk
  ·rename_i z' j h3 h4
   split at hk
   ·rename_i hsz
    simp only [TI.ar.injEq] at hk
    obtain ⟨rfl, rfl, rfl, rfl⟩ := hk
    exact ⟨i, j, h1, h2, by simp [hsz], by simpa using h3, h4, rfl⟩
   ·cases hk
  ·cases hk
 ·split at hk
  ·split at hk
   ·split at hk <;> cases hk
   ·cases hk
  ·cases hk
 ·split at hk
  ·split at hk <;> cases hk
  ·cases hk
 ·cases hk
theorem mV {t e : TypeId} {es eb : Nat} {ez : Value} (h : ti t = .sl e es eb ez) : ∃ (i j : TypeInfo), Tryz.prog.info? t = some i ∧ Tryz.prog.underlying t = some (.slice e) ∧ i.size = 1 ∧ Tryz.prog.info? e = some j ∧ j.zero = some ez ∧ j.size = es ∧ j.bytes = eb ∧ ez.cells.size = es := by
 have hk := aUx t (by rw [h]; intro e; cases e)
 rw [h] at hk
 unfold tiOf at hk
 split at hk
 ·split at hk
  ·split at hk <;> cases hk
  ·cases hk
 ·split at hk
  ·split at hk <;> cases hk
  ·cases hk
 ·rename_i i e' h1 h2
  split at hk
  ·rename_i j h3
   split at hk
   ·rename_i ez' h4
    split at hk
    ·rename_i hsz
     simp only [TI.sl.injEq] at hk
     obtain ⟨rfl, rfl, rfl, rfl⟩ := hk
     exact ⟨i, j, h1, h2, hsz.1, h3, h4, rfl, rfl, hsz.2⟩
    ·cases hk
   ·cases hk
  ·cases hk
 ·split at hk
  ·split at hk <;> cases hk
  ·cases hk
 ·cases hk
theorem aCz {t : TypeId} {z : Value} (h : ti t = .one z) : ∃ (i : TypeInfo) (dsc : TypeDesc), Tryz.prog.info? t = some i ∧ Tryz.prog.underlying t = some dsc ∧ (∀ F, dsc ≠ .struct F) ∧ (∀ n e, dsc ≠ .array n e) ∧ i.size = 1 ∧ i.zero = some z ∧ z.oneCell' = true := by
 have hk := aUx t (by rw [h]; intro e; cases e)
 rw [h] at hk
 unfold tiOf at hk
 split at hk
 ·split at hk
  ·split at hk <;> cases hk
  ·cases hk
 ·split at hk
  ·split at hk <;> cases hk
  ·cases hk
 ·split at hk
  ·split at hk
   ·split at hk <;> cases hk
   ·cases hk
  ·cases hk
 ·rename_i i dsc hn1 hn2 hn3 h1 h2
  split at hk
  ·rename_i z' h3
   split at hk
   ·rename_i hsz
    simp only [TI.one.injEq] at hk
    subst hk
    exact ⟨i, dsc, h1, h2, hn1, hn2, hsz.1, h3, hsz.2⟩
   ·cases hk
  ·cases hk
 ·cases hk
section
variable {t : TypeId} (w : World)
theorem nH (h : isOne (ti t) = true) : (isAgg t).run Tryz.prog w = .ok false w := by
 cases hti : ti t with
 | one z =>
  obtain ⟨i, dsc, _, h2, hn1, hn2, _⟩ := aCz hti
  simp only [isAgg, run_underlying h2, Sem.run_bind, Result.andThen]
  cases dsc <;> first | rfl | exact absurd rfl (hn1 _) | exact absurd rfl (hn2 _ _)
 | sl e es eb ez =>
  obtain ⟨i, j, _, h2, _⟩ := mV hti
  simp [isAgg, run_underlying h2]
 | _ => rw [hti] at h; cases h
theorem nG {k : Nat} (h : aggK (ti t) = some k) : (isAgg t).run Tryz.prog w = .ok true w ∧ (sizeOf t).run Tryz.prog w = .ok k w := by
 cases hti : ti t with
 | st z fs =>
  obtain ⟨i, F, h1, h2, h3, _⟩ := yI hti
  rw [hti] at h
  simp only [aggK, Option.some.injEq] at h
  simp [isAgg, run_underlying h2, sizeOf, typeInfo, h1, h3, h]
 | ar n e es z =>
  obtain ⟨i, j, h1, h2, h3, _⟩ := aGb hti
  rw [hti] at h
  simp only [aggK, Option.some.injEq] at h
  simp [isAgg, run_underlying h2, sizeOf, typeInfo, h1, h3, h]
 | _ => rw [hti] at h; cases h
theorem mA (h : isOne (ti t) = true) : (sizeOf t).run Tryz.prog w = .ok 1 w := by
 cases hti : ti t with
 | one z =>
  obtain ⟨i, dsc, h1, _, _, _, h3, _⟩ := aCz hti
  simp [sizeOf, typeInfo, h1, h3]
 | sl e es eb ez =>
  obtain ⟨i, j, h1, _, h3, _⟩ := mV hti
  simp [sizeOf, typeInfo, h1, h3]
 | _ => rw [hti] at h; cases h
theorem lG {a : Addr} {v : Value} (h : isOne (ti t) = true) (hc : w.cell? a = some v) : (Instr.loadAt t (.pointer (some a))).run Tryz.prog w = .ok v w := by
 simp [Instr.loadAt, Instr.sureAddr, loadVar, nH w h, load, Sem.run, hc]
theorem lF {b o k : Nat} {cs : List Value} (h : aggK (ti t) = some k) (hl : cs.length = k) (hc : ∀ j v, cs[j]? = some v → w.cell? ⟨b, o + j, none⟩ = some v) : (Instr.loadAt t (.pointer (some ⟨b, o, none⟩))).run Tryz.prog w = .ok (.agg cs.toArray) w := by
 have h2 := run_loadCells_list (P := Tryz.prog) w ⟨b, o, none⟩ cs (fun j v hj => by rw [Addr.add_lit]; exact hc j v hj)
 rw [hl] at h2
 obtain ⟨h3, h4⟩ := nG w h
 simp [Instr.loadAt, Instr.sureAddr, loadVar, h3, h4, h2]
theorem lZ {z : List Value} {fs : List (Nat × Nat × Nat)} {f off n ft b o : Nat} (h : ti t = .st z fs) (hf : fs[f]? = some (off, n + 1, ft)) : (Instr.fieldAt t (.pointer (some ⟨b, o, none⟩)) f).run Tryz.prog w = .ok (.pointer (some ⟨b, o + off, none⟩)) w := by
 obtain ⟨i, F, h1, h2, h3, h4, h5⟩ := yI h
 obtain ⟨x, hx, hy⟩ := aEw h5 hf
 simp only [Option.map_eq_some_iff] at hy
 obtain ⟨j, hj, he⟩ := hy
 simp only [Prod.mk.injEq] at he
 obtain ⟨rfl, he2, rfl⟩ := he
 have hx' : F[f]? = some x := by simpa using hx
 simp [Instr.fieldAt, run_underlying h2, hx', Instr.sureAddr, fieldPlace, sizeOf, typeInfo, hj, he2, Addr.add_lit]
end
end
end Go.Proofs.YtaodngiigdbgeaaGreatDoor
