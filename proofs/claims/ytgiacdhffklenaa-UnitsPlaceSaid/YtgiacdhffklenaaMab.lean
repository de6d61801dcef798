/-
  Conditions: none.
-/
import Derived.IntWalk
import Derived.OwnWalk
import Derived.Laws.Tables
import Derived.Great.BuildSlice
import Derived.Test.YtgiacdhffklenaaMaa
set_option maxHeartbeats 16000000
set_option maxRecDepth 20000
namespace Go.Proofs.Ytgiacdhffklenaa
section
open Go.RowKit
def plainEq : Value → Value → Bool
 | .nilIface, .nilIface => false
 | .agg _, .agg _ => false
 | _, _ => true
theorem no_guard (op : BinOp) (t : TypeId) (x y : Operand) (u v : Value) (h : plainEq u v = true) (w : World) : (eqGuard op t x y u v).run Try.prog w = .ok () w := by
 unfold eqGuard
 cases u <;> cases v <;> first | (exfalso; simp [plainEq] at h; done) | (cases op <;> rfl)
section
variable {E : Entry} {sl : Slots} {ob : Objs}
variable {d : Option Nat} {T t ty : TypeId} {p : String} {af : Array Edge} {g : Option (Nat × Bool)} {x y c : Operand} {k : IntKind} {m n : Int}
theorem y_bin' {op : BinOp} {u v r : Value} (hx : ev sl x = .d (.val u)) (hy : ev sl y = .d (.val v)) (hg : plainEq u v = true)
  (hr : ∀ w, (binOp op t u v).run Try.prog w = .ok r w) : Y E ⟨d, .binOp op t x y ty, T, p, af, g⟩ sl ob (.d (.val r)) := fun a w Pr β κ h =>
 ⟨r, .d _ _ (.val r), fun w' _ => by
  simp only [execOp, good_val h hx, good_val h hy]
  rw [Sem.run_bind, Sem.run_bind, no_guard op t x y _ _ hg w']
  simp only [Result.andThen]
  rw [hr w']
  rfl⟩
theorem y_add (hx : ev sl x = .d (.val (.int .i64 m))) (hy : ev sl y = .d (.val (.int .i64 n))) (h : -9223372036854775808 ≤ m + n ∧ m + n ≤ 9223372036854775807) :
  Y E ⟨d, .binOp .add t x y ty, T, p, af, g⟩ sl ob (.d (.val (.int .i64 (m + n)))) := y_bin' hx hy rfl fun w => by simp [binOp, Op.intArith, IntWalk.i64_in _ h]
theorem y_sub (hx : ev sl x = .d (.val (.int .i64 m))) (hy : ev sl y = .d (.val (.int .i64 n))) (h : -9223372036854775808 ≤ m - n ∧ m - n ≤ 9223372036854775807) :
  Y E ⟨d, .binOp .sub t x y ty, T, p, af, g⟩ sl ob (.d (.val (.int .i64 (m - n)))) := y_bin' hx hy rfl fun w => by simp [binOp, Op.intArith, IntWalk.i64_in _ h]
theorem y_lss (hx : ev sl x = .d (.val (.int k m))) (hy : ev sl y = .d (.val (.int k n))) : Y E ⟨d, .binOp .lss t x y ty, T, p, af, g⟩ sl ob (.d (.val (.bool (decide (m < n))))) := y_bin' hx hy rfl fun w => by simp [binOp, Op.intCmp]
theorem y_leq (hx : ev sl x = .d (.val (.int k m))) (hy : ev sl y = .d (.val (.int k n))) : Y E ⟨d, .binOp .leq t x y ty, T, p, af, g⟩ sl ob (.d (.val (.bool (decide (m ≤ n))))) := y_bin' hx hy rfl fun w => by simp [binOp, Op.intCmp]
theorem y_gtr (hx : ev sl x = .d (.val (.int k m))) (hy : ev sl y = .d (.val (.int k n))) : Y E ⟨d, .binOp .gtr t x y ty, T, p, af, g⟩ sl ob (.d (.val (.bool (decide (n < m))))) := y_bin' hx hy rfl fun w => by simp [binOp, Op.intCmp]
theorem y_geq (hx : ev sl x = .d (.val (.int k m))) (hy : ev sl y = .d (.val (.int k n))) : Y E ⟨d, .binOp .geq t x y ty, T, p, af, g⟩ sl ob (.d (.val (.bool (decide (n ≤ m))))) := y_bin' hx hy rfl fun w => by simp [binOp, Op.intCmp]
theorem y_eql (hx : ev sl x = .d (.val (.int k m))) (hy : ev sl y = .d (.val (.int k n))) : Y E ⟨d, .binOp .eql t x y ty, T, p, af, g⟩ sl ob (.d (.val (.bool (decide (m = n))))) := y_bin' hx hy rfl fun w => by simp [binOp, Op.intCmp]; rfl
theorem y_neq (hx : ev sl x = .d (.val (.int k m))) (hy : ev sl y = .d (.val (.int k n))) : Y E ⟨d, .binOp .neq t x y ty, T, p, af, g⟩ sl ob (.d (.val (.bool (!decide (m = n))))) := y_bin' hx hy rfl fun w => by simp [binOp, Op.intCmp]; rfl
variable {s r : ByteArray}
theorem bytes_beq (s t : ByteArray) : (s.toList == t.toList) = decide (s = t) := by
 by_cases h : s = t
 ·subst h
  simp
 ·rw [decide_eq_false h, beq_eq_false_iff_ne]
  intro h2
  rw [ByteArray.toList_eq, ByteArray.toList_eq] at h2
  exact h (by cases s; cases t; simp_all)
theorem y_seql (hx : ev sl x = .d (.val (.string s))) (hy : ev sl y = .d (.val (.string r))) : Y E ⟨d, .binOp .eql t x y ty, T, p, af, g⟩ sl ob (.d (.val (.bool (decide (s = r))))) := y_bin' hx hy rfl fun w => by simp [binOp, Op.stringOp, bytes_beq]
theorem y_sneq (hx : ev sl x = .d (.val (.string s))) (hy : ev sl y = .d (.val (.string r))) : Y E ⟨d, .binOp .neq t x y ty, T, p, af, g⟩ sl ob (.d (.val (.bool (!decide (s = r))))) := y_bin' hx hy rfl fun w => by simp [binOp, Op.stringOp, bytes_beq]
theorem y_sadd (hx : ev sl x = .d (.val (.string s))) (hy : ev sl y = .d (.val (.string r))) (h : s.size + r.size ≤ 9223372036854775807) : Y E ⟨d, .binOp .add t x y ty, T, p, af, g⟩ sl ob (.d (.val (.string (s ++ r)))) :=
 y_bin' hx hy rfl fun w => by
  have : ¬ (((s.size + r.size : Nat) : Int) > IntKind.i64.max) := by simp [IntKind.max, IntKind.signed, IntKind.bits]; omega
  simp only [binOp, Op.stringOp, if_neg this]
  rfl
theorem y_not {b : Bool} (hx : ev sl x = .d (.val (.bool b))) : Y E ⟨d, .unOp .not t x, T, p, af, g⟩ sl ob (.d (.val (.bool (!b)))) := fun a w Pr β κ h =>
 ⟨_, .d _ _ (.val _), fun w' _ => by simp [execOp, good_val h hx, Op.unary]⟩
theorem y_sub8 (hx : ev sl x = .d (.val (.int .u8 m))) (hy : ev sl y = .d (.val (.int .u8 n))) (h : 0 ≤ m - n ∧ m - n ≤ 255) :
  Y E ⟨d, .binOp .sub t x y ty, T, p, af, g⟩ sl ob (.d (.val (.int .u8 (m - n)))) := y_bin' hx hy rfl fun w => by simp [binOp, Op.intArith, IntWalk.u8_in _ h]
theorem y_slen {A : Array TypeId} {t0 : TypeId} (hx : ev sl x = .d (.val (.string s))) (hA : A = #[t0]) (hT : Try.prog.underlying t0 = some .string) : Y E ⟨d, .call { callee := .builtin .len, args := #[x], argTypes := A }, T, p, af, g⟩ sl ob (.d (.val (.int .i64 s.size))) := fun a w Pr β κ h =>
 ⟨_, .d _ _ (.val _), fun w' _ => by subst hA; simp [execOp, good_val h hx, resolve, invoke, builtin, Builtin.len_, run_underlying hT, goInt]⟩
def bAt (s : ByteArray) (i : Nat) : UInt8 := s.data.toList.getD i 0
theorem y_idx {kk : IntKind} (hx : ev sl x = .d (.val (.string s))) (hy : ev sl y = .d (.val (.int kk m))) (hT : Try.prog.underlying t = some .string) {i : Nat} (hi : m = (i : Int)) (h : i < s.size) :
  Y E ⟨d, .index t x y, T, p, af, g⟩ sl ob (.d (.val (.int .u8 (bAt s i).toNat))) := fun a w Pr β κ hg =>
 ⟨_, .d _ _ (.val _), fun w' _ => by
  subst hi
  have h1 : s[i]? = some (bAt s i) := by
   rw [getElem?_pos s i h]
   simp only [bAt, List.getD_eq_getElem?_getD]
   rw [List.getElem?_eq_getElem (by simpa using h)]
   simp
   rfl
  simp [execOp, good_val hg hx, good_val hg hy, Instr.index, asIntOf, run_underlying hT, h1]⟩
theorem vint {k : IntKind} {m n : Int} (h : m = n) : V.d (.val (.int k m)) = V.d (.val (.int k n)) := by rw [h]
theorem int_s (k : Nat) : (k : Int) + 1 = ((k + 1 : Nat) : Int) := rfl
theorem int_p (a b : Nat) : (a : Int) + (b : Int) = ((a + b : Nat) : Int) := rfl
theorem lit0 : (0 : Int) = ((0 : Nat) : Int) := rfl
theorem lit1 : (1 : Int) = ((1 : Nat) : Int) := rfl
theorem lit2 : (2 : Int) = ((2 : Nat) : Int) := rfl
theorem lit3 : (3 : Int) = ((3 : Nat) : Int) := rfl
theorem lit4 : (4 : Int) = ((4 : Nat) : Int) := rfl
def lowAt (sl : Slots) (lo : Option Operand) (n : Nat) : Prop := match lo with
 | none => n = 0
 | some y => ∃ kk, ev sl y = .d (.val (.int kk (n : Int)))
def highAt (sl : Slots) (hi : Option Operand) (len n : Nat) : Prop := match hi with
 | none => n = len
 | some y => ∃ kk, ev sl y = .d (.val (.int kk (n : Int)))
theorem low_none : lowAt sl none 0 := rfl
theorem low_some {kk : IntKind} {i : Nat} (h : ev sl y = .d (.val (.int kk m))) (hm : m = (i : Int)) : lowAt sl (some y) i := ⟨kk, hm ▸ h⟩
theorem high_none {len : Nat} : highAt sl none len len := rfl
theorem high_some {kk : IntKind} {i len : Nat} (h : ev sl y = .d (.val (.int kk m))) (hm : m = (i : Int)) : highAt sl (some y) len i := ⟨kk, hm ▸ h⟩
theorem run_bounds {a : Act} {w w' : World} {Pr : Prot} {β : Nat → Value} {κ : Nat → Nat} (hg : Good E sl ob a w Pr β κ) {is : Bool} {len cap l h : Nat} {lo hi : Option Operand} (hl : lowAt sl lo l) (hh : highAt sl hi len h) (h1 : l ≤ h) (h2 : h ≤ len) (h3 : len ≤ cap) :
  (Instr.sliceBounds is len cap (lo.map a.eval) (hi.map a.eval) none).run Try.prog w' = .ok (l, h, cap) w' := by
 cases lo with
 | none =>
  have hl : l = 0 := hl
  subst hl
  cases hi with
  | none =>
   have hh : h = len := hh
   subst hh
   simp [Instr.sliceBounds]
  | some y =>
   obtain ⟨k2, hy⟩ := hh
   simp [Instr.sliceBounds, good_val hg hy, Instr.sliceBound, asIntOf, show h ≤ cap by omega]
 | some x =>
  obtain ⟨k1, hx⟩ := hl
  cases hi with
  | none =>
   have hh : h = len := hh
   subst hh
   simp [Instr.sliceBounds, good_val hg hx, Instr.sliceBound, asIntOf, h1]
  | some y =>
   obtain ⟨k2, hy⟩ := hh
   simp [Instr.sliceBounds, good_val hg hy, good_val hg hx, Instr.sliceBound, asIntOf, show h ≤ cap by omega, h1]
theorem y_sub_s {lo hi : Option Operand} {l h : Nat} (hx : ev sl x = .d (.val (.string s))) (hT : Try.prog.underlying t = some .string) (hl : lowAt sl lo l) (hh : highAt sl hi s.size h) (h1 : l ≤ h) (h2 : h ≤ s.size) :
  Y E ⟨d, .slice t x lo hi none, T, p, af, g⟩ sl ob (.d (.val (.string (s.extract l h)))) := fun a w Pr β κ hg =>
 ⟨_, .d _ _ (.val _), fun w' _ => by simp [execOp, good_val hg hx, Instr.sliceAt, Instr.slice, run_underlying hT, run_bounds hg hl hh h1 h2 (Nat.le_refl _)]⟩
theorem y_extract {l : List D} {ix : Nat} {z : D} (hx : ev sl x = .d (.tup l)) (hz : l[ix]? = some z) : Y E ⟨d, .extract x ix, T, p, af, g⟩ sl ob (.d z) := fun a w Pr β κ hg => by
 have h := good_rep hg hx
 generalize hv : a.eval x = v at h
 cases h with
 | tup cs l hl hd =>
  have hlt : ix < cs.length := by rw [hl]; exact (List.getElem?_eq_some_iff.1 hz).1
  exact ⟨cs[ix], .d _ _ (hd ix _ z (List.getElem?_eq_getElem hlt) hz), fun w' _ => by simp [execOp, hv, Instr.extract, hlt]⟩
end
end
section
open Go.RowKit
def signsL : List ByteArray := [⟨#[61, 61]⟩, ⟨#[59]⟩, ⟨#[44]⟩, ⟨#[61]⟩, ⟨#[60]⟩, ⟨#[43]⟩, ⟨#[45]⟩, ⟨#[42]⟩, ⟨#[47]⟩, ⟨#[40]⟩, ⟨#[41]⟩]
def laidG : List (Nat × List D) := []
end
section
open Go.RowKit
section
variable {E : Entry} {sl sl' : Slots} {ob ob' : Objs} {ops : Array Oper} {rest : List Oper} {Q : Exit → Act → World → Prop} {x y : Code} {K : Act → World → Prop} {id id' : Nat} {e : Exit}
theorem lt_ok {d n : Nat} (h : Nat.blt d n = true) : d < n := by simpa [Nat.blt_eq] using h
theorem le_ok {d n : Nat} (h : Nat.ble d n = true) : d ≤ n := Nat.le_of_ble_eq_true h
theorem not_t {b : Bool} (h : (!b) = true) : b = false := by simpa using h
theorem not_f {b : Bool} (h : (!b) = false) : b = true := by simpa using h
theorem aw_seq (h : AW E x (Exit.then (y.wp Try.prog Q) Q) sl ob) : AW E (.seq x y) Q sl ob := ⟨fun a w hi => wp_seq (h.run a w hi)⟩
theorem aw_skip (h : AQ E .normal Q sl ob) : AW E .skip Q sl ob := ⟨fun a w hi => wp_skip (h.run a w hi)⟩
theorem aw_exit (h : AQ E (.exit id) Q sl ob) : AW E (.exit id) Q sl ob := ⟨fun a w hi => wp_exit (h.run a w hi)⟩
theorem aw_ret (h : AQ E .ret Q sl ob) : AW E .ret Q sl ob := ⟨fun a w hi => wp_ret (h.run a w hi)⟩
theorem aw_block (h : AW E x (Exit.inBlock id Q) sl ob) : AW E (.block id x) Q sl ob := ⟨fun a w hi => wp_block (h.run a w hi)⟩
theorem aw_cond {c : Operand} {b : Bool} (hc : ev sl c = .d (.val (.bool b))) (h1 : b = true → AW E x Q sl ob) (h2 : b = false → AW E y Q sl ob) : AW E (.cond c x y) Q sl ob := by
 refine ⟨fun a w hi => ?_⟩
 obtain ⟨Pr, β, κ, hg⟩ := hi
 exact wp_cond_split (good_val hg hc) (fun h => (h1 h).run a w ⟨Pr, β, κ, hg⟩) (fun h => (h2 h).run a w ⟨Pr, β, κ, hg⟩)
theorem aw_cond_t {c : Operand} {b : Bool} (hc : ev sl c = .d (.val (.bool b))) (hb : b = true) (h1 : AW E x Q sl ob) : AW E (.cond c x y) Q sl ob := aw_cond hc (fun _ => h1) (fun h => by rw [hb] at h; cases h)
theorem aw_cond_f {c : Operand} {b : Bool} (hc : ev sl c = .d (.val (.bool b))) (hb : b = false) (h1 : AW E y Q sl ob) : AW E (.cond c x y) Q sl ob := aw_cond hc (fun h => by rw [hb] at h; cases h) (fun _ => h1)
theorem aw_region {l : List Oper} (h : AL E l.toArray l Q sl ob) : AW E (.region id l.toArray false) Q sl ob := ⟨fun a w hi => wp_region_lit (h.run a w hi)⟩
theorem aq_then (h : AW E y Q sl ob) : AQ E .normal (Exit.then (y.wp Try.prog Q) Q) sl ob := ⟨h.run⟩
theorem aq_then_x (h : AQ E (.exit id) Q sl ob) : AQ E (.exit id) (Exit.then K Q) sl ob := ⟨h.run⟩
theorem aq_then_r (h : AQ E .ret Q sl ob) : AQ E .ret (Exit.then K Q) sl ob := ⟨h.run⟩
theorem aq_block (h : AQ E .normal Q sl ob) : AQ E .normal (Exit.inBlock id Q) sl ob := ⟨h.run⟩
theorem aq_block_x (h : AQ E .normal Q sl ob) : AQ E (.exit id) (Exit.inBlock id Q) sl ob := ⟨fun a w hi => by simpa [Exit.inBlock] using h.run a w hi⟩
theorem aq_block_y (hne : id' ≠ id) (h : AQ E (.exit id') Q sl ob) : AQ E (.exit id') (Exit.inBlock id Q) sl ob := ⟨fun a w hi => by simpa [Exit.inBlock, hne] using h.run a w hi⟩
theorem aq_block_r (h : AQ E .ret Q sl ob) : AQ E .ret (Exit.inBlock id Q) sl ob := ⟨h.run⟩
theorem aw_less (hs : ∀ p ∈ sl', look sl p.1 = p.2) (ho : ∀ p ∈ ob', find ob p.1 = some p.2) (h : AW E x Q sl' ob') : AW E x Q sl ob := ⟨fun a w hi => h.run a w (hi.less hs ho)⟩
theorem aq_less (hs : ∀ p ∈ sl', look sl p.1 = p.2) (ho : ∀ p ∈ ob', find ob p.1 = some p.2) (h : AQ E e Q sl' ob') : AQ E e Q sl ob := ⟨fun a w hi => h.run a w (hi.less hs ho)⟩
theorem sub_nil {s : Slots} : ∀ p ∈ ([] : Slots), look s p.1 = p.2 := by simp
theorem sub_cons {s : Slots} {i : Nat} {v : V} {r : Slots} (h : look s i = v) (hr : ∀ p ∈ r, look s p.1 = p.2) : ∀ p ∈ (i, v) :: r, look s p.1 = p.2 := by
 intro p hp
 rcases List.mem_cons.1 hp with rfl | hp
 ·exact h
 ·exact hr p hp
theorem obs_nil {s : Objs} : ∀ p ∈ ([] : Objs), find s p.1 = some p.2 := by simp
theorem obs_cons {s : Objs} {i : Nat} {v : O} {r : Objs} (h : find s i = some v) (hr : ∀ p ∈ r, find s p.1 = some p.2) : ∀ p ∈ (i, v) :: r, find s p.1 = some p.2 := by
 intro p hp
 rcases List.mem_cons.1 hp with rfl | hp
 ·exact h
 ·exact hr p hp
theorem at_op (op : Op) {d : Option Nat} {t : TypeId} {p : String} {af : Array Edge} (h : AL E ops (⟨d, op, t, p, af, none⟩ :: rest) Q sl ob) : AL E ops (⟨d, op, t, p, af, none⟩ :: rest) Q sl ob := h
theorem at_guard {op : Op} {d : Option Nat} {t : TypeId} {p : String} {af : Array Edge} {g : Nat × Bool} (h : AL E ops (⟨d, op, t, p, af, some g⟩ :: rest) Q sl ob) : AL E ops (⟨d, op, t, p, af, some g⟩ :: rest) Q sl ob := h
theorem at_cond {c : Operand} (h : AW E (.cond c x y) Q sl ob) : AW E (.cond c x y) Q sl ob := h
structure LoopK (E : Entry) (I : Nat → Slots → Objs → Prop) (n : Nat) (a : Act) (w : World) : Prop where
 run : ∃ n', n' < n ∧ ∃ sl' ob', Inv E sl' ob' a w ∧ I n' sl' ob'
theorem least {J : Nat → Prop} (h : ∃ n, J n) : ∃ m, J m ∧ ∀ k, J k → m ≤ k := by
 obtain ⟨n, hn⟩ := h
 induction n using Nat.strongRecOn with
 | _ n ih =>
  by_cases hk : ∃ k, k < n ∧ J k
  ·obtain ⟨k, hk1, hk2⟩ := hk
   exact ih k hk1 hk2
  ·exact ⟨n, hn, fun k hk' => Nat.le_of_not_lt fun hlt => hk ⟨k, hlt, hk'⟩⟩
theorem aw_loop (I : Nat → Slots → Objs → Prop) (n0 : Nat) (h0 : I n0 sl ob) (round : ∀ n sl ob, I n sl ob → AW E x (Exit.then (LoopK E I n) Q) sl ob) : AW E (.loop x) Q sl ob := by
 refine ⟨fun a w hi => ?_⟩
 have hμ : ∀ (a : Act) (w : World), ∃ m, (∃ n sl ob, Inv E sl ob a w ∧ I n sl ob) → (∃ sl ob, Inv E sl ob a w ∧ I m sl ob) ∧ ∀ k, (∃ sl ob, Inv E sl ob a w ∧ I k sl ob) → m ≤ k := by
  intro a w
  by_cases h : ∃ n sl ob, Inv E sl ob a w ∧ I n sl ob
  ·obtain ⟨m, h1, h2⟩ := least (J := fun n => ∃ sl ob, Inv E sl ob a w ∧ I n sl ob) h
   exact ⟨m, fun _ => ⟨h1, h2⟩⟩
  ·exact ⟨0, fun h' => absurd h' h⟩
 refine wp_loop (fun a w => ∃ n sl ob, Inv E sl ob a w ∧ I n sl ob) (fun a w => Classical.choose (hμ a w)) ⟨n0, sl, ob, hi, h0⟩ ?_
 intro a w hJ
 obtain ⟨⟨sl, ob, hi, hI⟩, _⟩ := Classical.choose_spec (hμ a w) hJ
 refine Code.wp_mono ?_ ((round _ sl ob hI).run a w hi)
 intro e a' w' hq
 cases e <;> first
  | exact hq
  | skip
 obtain ⟨n', hlt, sl', ob', hi', hI'⟩ := hq.run
 have hJ' : ∃ n sl ob, Inv E sl ob a' w' ∧ I n sl ob := ⟨n', sl', ob', hi', hI'⟩
 exact ⟨hJ', Nat.lt_of_le_of_lt ((Classical.choose_spec (hμ a' w') hJ').2 n' ⟨sl', ob', hi', hI'⟩) hlt⟩
theorem aw_loop2 (I : Nat → Slots → Objs → Prop) (n0 : Nat) (sl' : Slots) (ob' : Objs) (h0 : I n0 sl' ob') (hs : ∀ p ∈ sl', look sl p.1 = p.2) (ho : ∀ p ∈ ob', find ob p.1 = some p.2) (round : ∀ n sl ob, I n sl ob → AW E x (Exit.then (LoopK E I n) Q) sl ob) : AW E (.loop x) Q sl ob :=
 aw_less hs ho (aw_loop I n0 h0 round)
theorem aq_round {I : Nat → Slots → Objs → Prop} {n : Nat} (n' : Nat) (sl' : Slots) (ob' : Objs) (hI : I n' sl' ob') (hlt : n' < n) (hs : ∀ p ∈ sl', look sl p.1 = p.2) (ho : ∀ p ∈ ob', find ob p.1 = some p.2) : AQ E .normal (Exit.then (LoopK E I n) Q) sl ob :=
 ⟨fun _ _ hi => ⟨⟨n', hlt, sl', ob', hi.less hs ho, hI⟩⟩⟩
end
def EnvOk (w : World) (Pr : Prot) : Prop := ∀ g l, (g, l) ∈ laidG → (∀ (j : Nat) (d : D), l[j]? = some d → ∃ u, w.cell? ⟨g, j, none⟩ = some u ∧ Pr g j ∧ RepD w Pr u d) ∧ ∀ j, l[j]? = none → w.cell? ⟨g, j, none⟩ = none ∧ Pr g j
theorem EnvOk.keep {w w' : World} {Pr Pr' : Prot} (h : EnvOk w Pr) (hs : Stays Pr w w') (hp : ∀ b o, Pr b o → Pr' b o) : EnvOk w' Pr' := fun g l hm => ⟨fun j d hj =>
 let ⟨u, h1, h2, h3⟩ := (h g l hm).1 j d hj
 ⟨u, (hs _ _ h2).trans h1, hp _ _ h2, h3.keep hs hp⟩, fun j hj =>
 let ⟨h1, h2⟩ := (h g l hm).2 j hj
 ⟨(hs _ _ h2).trans h1, hp _ _ h2⟩⟩
def PrNew (Pr : Prot) (w w' : World) : Prot := fun b o => Pr b o ∨ (w.heap.size ≤ b ∧ b < w'.heap.size)
def PostR (w : World) (Pr : Prot) (Post : D → Prop) : Ending → World → Prop := fun e w' => ∃ v r, e = .returned v ∧ Post r ∧ RepD w' (PrNew Pr w w') v r ∧ Below w.heap.size w w'
def FnOk (f : FuncId) : Prop := ∃ fn, Try.prog.funcs[f]? = some fn ∧ (fn.name == "runtime.NumGoroutine") = false ∧ fn.body.isSome = true
def PureC (f : FuncId) (ds : List D) (Post : D → Prop) : Prop :=
 FnOk f ∧ ∀ (w : World) (Pr : Prot) (vs : List Value), (∀ b o, Pr b o → b < w.heap.size) → EnvOk w Pr → vs.length = ds.length → (∀ (i : Nat) (v : Value) (d : D), vs[i]? = some v → ds[i]? = some d → RepD w Pr v d) →
  Calls Try.prog f vs.toArray w (PostR w Pr Post)
theorem PureC.mono {f : FuncId} {ds : List D} {P Q : D → Prop} (h : PureC f ds P) (hq : ∀ r, P r → Q r) : PureC f ds Q :=
 ⟨h.1, fun w Pr vs h1 h2 h3 h4 => (h.2 w Pr vs h1 h2 h3 h4).mono fun _ _ ⟨v, r, e1, e2, e3, e4⟩ => ⟨v, r, e1, hq r e2, e3, e4⟩⟩
def slotsOf : Nat → List D → Slots
 | _, [] => []
 | i, d :: ds => (i, .d d) :: slotsOf (i + 1) ds
theorem look_slotsOf (ds : List D) (i k : Nat) : look (slotsOf k ds) i = if k ≤ i then (match ds[i - k]? with | some d => .d d | none => .und) else .und := by
 induction ds generalizing k with
 | nil => simp [slotsOf, look]
 | cons d ds ih =>
  simp only [slotsOf]
  by_cases h : i = k
  ·subst h
   rw [look_eq]
   simp
  ·rw [look_ne h, ih]
   by_cases h2 : k ≤ i
   ·have h3 : k + 1 ≤ i := by omega
    rw [if_pos h2, if_pos h3, show i - k = (i - (k + 1)) + 1 by omega]
    simp
   ·rw [if_neg h2, if_neg (by omega)]
def Fine (E : Entry) : Prop := EnvOk E.w E.pr ∧ ∀ b o, E.pr b o → b < E.w.heap.size
theorem pure_enter {f : FuncId} {fn : Func} {c : Code} {ds : List D} {Post : D → Prop} (hf : Try.prog.funcs[f]? = some fn) (hb : fn.body = some c) (hn : (fn.name == "runtime.NumGoroutine") = false) (N : Nat) (hN : fn.ntmps = N) (hl : ds.length ≤ N)
  (h : ∀ w Pr, Fine ⟨w, Pr, N, [], fun _ => .nilFunc, fun _ => 0, []⟩ → AW ⟨w, Pr, N, [], fun _ => .nilFunc, fun _ => 0, []⟩ c (bodyPost Try.prog fn (PostR w Pr Post)) (slotsOf 0 ds) []) : PureC f ds Post := by
 refine ⟨⟨fn, hf, hn, by simp [hb]⟩, fun w Pr vs h1 h2 h3 h4 => calls_of_wp hf hb ?_⟩
 subst hN
 refine (h w Pr ⟨h2, h1⟩).run _ _ ⟨Pr, fun _ => .nilFunc, fun _ => 0, Under.refl _ _, fun _ _ _ => rfl, fun _ _ h => h, fun _ _ h => .inl h, h1, ?_, rfl, fun i => ?_, fun i o ho => by simp [find] at ho, fun i j oi oj g ho => by simp [find] at ho, fun i o g ho => by simp [find] at ho, fun i o ho => by simp [find] at ho, fun i o ho => by simp [find] at ho⟩
 ·simp [h3]; omega
 ·rw [look_slotsOf]
  simp only [Nat.zero_le, if_true, Nat.sub_zero]
  cases hd : ds[i]? with
  | none => exact .und _
  | some d =>
   have hi : i < vs.length := by rw [h3]; exact (List.getElem?_eq_some_iff.1 hd).1
   have hv : vs[i]? = some vs[i] := List.getElem?_eq_getElem hi
   refine .d _ _ ?_
   have : (vs.toArray ++ Array.replicate (fn.ntmps - vs.toArray.size) undef).getD i undef = vs[i] := by
    rw [Array.getD_eq_getD_getElem?, Array.getElem?_append_left (by simpa using hi)]
    simp [hi]
   rw [this]
   exact h4 i _ d hv hd
inductive ToD (ob : Objs) : V → D → Prop where
 | d (x : D) : ToD ob (.d x) x
 | row (i k e s : Nat) (l : List (List D)) (h : find ob i = some (.row e s k l)) : ToD ob (.row i k) (.list s l)
 | agg (vs : List V) (ds : List D) (hl : vs.length = ds.length) (h : ∀ (i : Nat) (v : V) (d : D), vs[i]? = some v → ds[i]? = some d → ToD ob v d) : ToD ob (.agg vs) (.agg ds)
 | nil (s : Nat) : ToD ob (.d (.val (.slice none 0 0))) (.list s [])
section
variable {E : Entry} {sl : Slots} {ob : Objs} {a : Act} {w : World} {Pr : Prot} {β : Nat → Value} {κ : Nat → Nat}
theorem row_rep (h : Good E sl ob a w Pr β κ) {i e s k : Nat} {l : List (List D)} (ho : find ob i = some (.row e s k l)) : RepD w Pr (β i) (.list s l) := by
 obtain ⟨_, xs, hown, hls, hd, hpr⟩ := h.objs i _ ho
 rcases hown.2 with ⟨h0, hl⟩ | ⟨g, cap, cur, h0, hB, hg, hc, hm, hsz, htk⟩
 ·obtain rfl : l = [] := List.eq_nil_of_length_eq_zero hl
  rw [h0]
  exact .nil _ _ _ (Nat.zero_le _)
 ·rw [h0] at hown hpr ⊢
  have hu : ∀ (p j : Nat), p < l.length → j < s → ∃ u, w.cell? ⟨g, p * s + j, none⟩ = some u ∧ ∀ (x : List D) (d : D), l[p]? = some x → x[j]? = some d → RepD w Pr u d := by
   intro p j hp hj
   have hx : l[p]? = some l[p] := List.getElem?_eq_getElem hp
   have hxl := hls _ (List.getElem_mem hp)
   have hd' : l[p][j]? = some (l[p][j]'(by omega)) := List.getElem?_eq_getElem (by omega)
   obtain ⟨u, hu, hr⟩ := hd p j _ _ hx hd'
   have hlt : p * s + j < l.length * s := Nat.lt_of_lt_of_le (by omega : p * s + j < p * s + s) (by rw [← Nat.succ_mul]; exact Nat.mul_le_mul_right _ hp)
   refine ⟨u, (hown.cellAt _ hlt).trans hu, fun x d h1 h2 => ?_⟩
   rw [hx] at h1
   cases h1
   rw [hd'] at h2
   cases h2
   exact hr
  have hu' : ∀ (p j : Nat), ∃ u, p < l.length → j < s → w.cell? ⟨g, p * s + j, none⟩ = some u ∧ ∀ (x : List D) (d : D), l[p]? = some x → x[j]? = some d → RepD w Pr u d := by
   intro p j
   by_cases hp : p < l.length ∧ j < s
   ·obtain ⟨u, hu⟩ := hu p j hp.1 hp.2
    exact ⟨u, fun _ _ => hu⟩
   ·exact ⟨undef, fun h1 h2 => absurd ⟨h1, h2⟩ hp⟩
  have hb : ∀ (p j : Nat) (x : List D) (d : D), l[p]? = some x → x[j]? = some d → p < l.length ∧ j < s := by
   intro p j x d h1 h2
   have hp := (List.getElem?_eq_some_iff.1 h1).1
   have hj := (List.getElem?_eq_some_iff.1 h2).1
   rw [hls x (List.mem_of_getElem? h1)] at hj
   exact ⟨hp, hj⟩
  refine .list g 0 l.length cap s l (fun p j => Classical.choose (hu' p j)) rfl hls hc hm (fun p j x d h1 h2 => ?_) (fun p j x d h1 h2 => ?_)
  ·obtain ⟨hp, hj⟩ := hb p j x d h1 h2
   rw [Nat.zero_add]
   refine ⟨(Classical.choose_spec (hu' p j) hp hj).1, (hpr g rfl _).2 ?_⟩
   exact Nat.lt_of_lt_of_le (by omega : p * s + j < p * s + s) (by rw [← Nat.succ_mul]; exact Nat.mul_le_mul_right _ hp)
  ·obtain ⟨hp, hj⟩ := hb p j x d h1 h2
   exact (Classical.choose_spec (hu' p j) hp hj).2 x d h1 h2
theorem toD_rep (h : Good E sl ob a w Pr β κ) {v : V} {d : D} (hd : ToD ob v d) : ∀ u, RepV w Pr β κ u v → RepD w Pr u d := by
 induction hd with
 | d x => exact fun u hu => hu.d_inv
 | nil s =>
  intro u hu
  cases hu.val_inv
  exact .nil _ _ _ (Nat.zero_le _)
 | row i k e s l ho =>
  intro u hu
  cases hu with
  | row _ _ _ hs hk hv =>
   have h1 : κ i = k := (h.objs i _ ho).1
   rw [hv h1.symm]
   exact row_rep h ho
 | agg vs ds hl hd ih =>
  intro u hu
  cases hu with
  | agg cs _ hl' hd' =>
   refine .agg cs ds (hl'.trans hl) (fun i v d h1 h2 => ?_)
   have hi : i < vs.length := by rw [hl]; exact (List.getElem?_eq_some_iff.1 h2).1
   have hx : vs[i]? = some vs[i] := List.getElem?_eq_getElem hi
   exact ih i _ d hx h2 v (hd' i v _ h1 hx)
inductive ArgsD (sl : Slots) (ob : Objs) : List Operand → List D → Prop where
 | nil : ArgsD sl ob [] []
 | cons {x : Operand} {xs : List Operand} {d : D} {ds : List D} (h : ToD ob (ev sl x) d) (hr : ArgsD sl ob xs ds) : ArgsD sl ob (x :: xs) (d :: ds)
theorem ArgsD.rep (h : Good E sl ob a w Pr β κ) {xs : List Operand} {ds : List D} (hd : ArgsD sl ob xs ds) : (xs.map a.eval).length = ds.length ∧ ∀ (i : Nat) (v : Value) (d : D), (xs.map a.eval)[i]? = some v → ds[i]? = some d → RepD w Pr v d := by
 induction hd with
 | nil => simp
 | @cons x xs d ds hx hr ih =>
  refine ⟨by simpa using ih.1, fun i v d' h1 h2 => ?_⟩
  cases i with
  | zero =>
   simp at h1 h2
   subst h1 h2
   exact toD_rep h hx _ (good_ev h x)
  | succ i => exact ih.2 i v d' (by simpa using h1) (by simpa using h2)
theorem env_now (hE : Fine E) (h : Good E sl ob a w Pr β κ) : EnvOk w Pr := hE.1.keep h.st0 h.pr0
theorem run_callFunc {f : FuncId} (hf : FnOk f) (args : Array Value) (w : World) : (callFunc f args).run Try.prog w = .ok (.enter f args) w := by
 obtain ⟨fn, h1, h2, h3⟩ := hf
 have hb : fn.body ≠ none := by cases hbb : fn.body <;> simp_all
 have hn : fn.name ≠ "runtime.NumGoroutine" := by simpa using h2
 simp [callFunc, program, Sem.run, h1, hn, hb]
variable {ops : Array Oper} {rest : List Oper} {Q : Exit → Act → World → Prop} {d : Nat} {ty : TypeId} {p : String} {af : Array Edge}
theorem Good.called (h : Good E sl ob a w Pr β κ) {w' : World} {v : Value} {r : D} (hx : Below w.heap.size w w') (hr : RepD w' (PrNew Pr w w') v r) (hd : d < E.n) : Good E ((d, .d r) :: sl) ob (a.put (some d) v) w' (PrNew Pr w w') β κ :=
 (h.grow hx (fun _ _ h => .inl h) (fun _ _ h => h)).put hd (.d _ _ hr)
theorem al_call {f : FuncId} {ds : List D} {Post : D → Prop} {c : Operand} {xs : List Operand} {ats : Array TypeId} (hc : PureC f ds Post) (hf : ev sl c = .d (.val (.func (.func f) #[] #[]))) (hE : Fine E) (hd : d < E.n) (ha : ArgsD sl ob xs ds)
  (hK : ∀ r, Post r → AL E ops rest Q ((d, .d r) :: sl) ob) : AL E ops (⟨some d, .call { callee := .value c, args := xs.toArray, argTypes := ats }, ty, p, af, none⟩ :: rest) Q sl ob := by
 refine ⟨fun a w hi => ?_⟩
 obtain ⟨Pr, β, κ, h⟩ := hi
 refine wpList_plain rfl fun K hKK => ?_
 obtain ⟨hl, hr⟩ := ha.rep h
 have hcall := hc.2 w Pr (xs.map a.eval) h.prl (env_now hE h) hl hr
 have hrun : (execOp a.eval ⟨some d, .call { callee := .value c, args := xs.toArray, argTypes := ats }, ty, p, af, none⟩).run Try.prog w = .ok (.enter f (xs.map a.eval).toArray) w := by
  simp [execOp, resolve, Deferred.ofValue, invoke, good_val h hf, run_callFunc hc.1]
 unfold Oper.wp
 rw [hrun, Oper.upon_enter]
 refine hcall.mono fun e w' ⟨v, r, he, hp, hrep, hb⟩ => ?_
 subst he
 exact hKK _ _ ((hK r hp).run _ _ ⟨_, β, κ, h.called hb hrep hd⟩)
theorem below_of (h0 : E.ob0 = []) (hg : Good E sl ob a w Pr β κ) : Below E.w.heap.size E.w w := Under.below (β := E.β0) (h0 ▸ hg.below)
theorem prNew_of (h0 : E.ob0 = []) (hg : Good E sl ob a w Pr β κ) : ∀ b o, Pr b o → PrNew E.pr E.w w b o := fun b o hb => by
 rcases hg.prn b o hb with h1 | h1 | h1
 ·exact .inl h1
 ·exact .inr ⟨h1, hg.prl b o hb⟩
 ·rw [h0] at h1
  exact absurd h1 lent_nil
inductive ResD (sl : Slots) (ob : Objs) : ResultVar → D → Prop where
 | tmp (t : Nat) (d : D) (h : ToD ob (look sl t) d) : ResD sl ob (.tmp t) d
theorem ret_one {fn : Func} {Post : D → Prop} {t : Nat} {r : D} (hr : fn.results = #[.tmp t]) (h : ToD ob (look sl t) r) (hp : Post r) (h0 : E.ob0 = [] := by rfl) (hdf : E.df = [] := by rfl) : AQ E .ret (bodyPost Try.prog fn (PostR E.w E.pr Post)) sl ob := by
 refine ⟨fun a w hi => ?_⟩
 obtain ⟨Pr, β, κ, hg⟩ := hi
 refine bodyPost_ret (results_tmp hr _ _ _) (hg.defers.trans hdf) ⟨_, r, rfl, hp, (toD_rep hg h _ (hg.slots t)).keep (fun _ _ _ => rfl) ?_, below_of h0 hg⟩
 exact prNew_of h0 hg
theorem ret_two {fn : Func} {Post : D → Prop} {t u : Nat} {r q : D} (hr : fn.results = #[.tmp t, .tmp u]) (h : ToD ob (look sl t) r) (h' : ToD ob (look sl u) q) (hp : Post (.tup [r, q])) (h0 : E.ob0 = [] := by rfl) (hdf : E.df = [] := by rfl) : AQ E .ret (bodyPost Try.prog fn (PostR E.w E.pr Post)) sl ob := by
 refine ⟨fun a w hi => ?_⟩
 obtain ⟨Pr, β, κ, hg⟩ := hi
 refine bodyPost_ret (results_tmp2 hr _ _ _) (hg.defers.trans hdf) ⟨_, _, rfl, hp, ?_, below_of h0 hg⟩
 have hP := prNew_of h0 hg
 have k1 := (toD_rep hg h _ (hg.slots t)).keep (fun _ _ _ => rfl) hP
 have k2 := (toD_rep hg h' _ (hg.slots u)).keep (fun _ _ _ => rfl) hP
 refine .tup [_, _] _ rfl (fun i v d h1 h2 => ?_)
 match i with
 | 0 => cases h1; cases h2; exact k1
 | 1 => cases h1; cases h2; exact k2
theorem ret_three {fn : Func} {Post : D → Prop} {t u z : Nat} {r q s : D} (hr : fn.results = #[.tmp t, .tmp u, .tmp z]) (h : ToD ob (look sl t) r) (h' : ToD ob (look sl u) q) (h'' : ToD ob (look sl z) s) (hp : Post (.tup [r, q, s])) (h0 : E.ob0 = [] := by rfl) (hdf : E.df = [] := by rfl) : AQ E .ret (bodyPost Try.prog fn (PostR E.w E.pr Post)) sl ob := by
 refine ⟨fun a w hi => ?_⟩
 obtain ⟨Pr, β, κ, hg⟩ := hi
 refine bodyPost_ret (results_tmp3 hr _ _ _) (hg.defers.trans hdf) ⟨_, _, rfl, hp, ?_, below_of h0 hg⟩
 have hP := prNew_of h0 hg
 have k1 := (toD_rep hg h _ (hg.slots t)).keep (fun _ _ _ => rfl) hP
 have k2 := (toD_rep hg h' _ (hg.slots u)).keep (fun _ _ _ => rfl) hP
 have k3 := (toD_rep hg h'' _ (hg.slots z)).keep (fun _ _ _ => rfl) hP
 refine .tup [_, _, _] _ rfl (fun i v d h1 h2 => ?_)
 match i with
 | 0 => cases h1; cases h2; exact k1
 | 1 => cases h1; cases h2; exact k2
 | 2 => cases h1; cases h2; exact k3
end
end
section
open Go.RowKit
theorem mapM_get {α β : Type} {g : α → Option β} : ∀ {l : List α} {r : List β}, l.mapM g = some r → ∀ {i : Nat} {y : β}, r[i]? = some y → ∃ x, l[i]? = some x ∧ g x = some y := by
 intro l
 induction l with
 | nil => intro r h i y hy; simp at h; subst h; simp at hy
 | cons x l ih =>
  intro r h i y hy
  rw [List.mapM_cons] at h
  cases hx : g x with
  | none => rw [hx] at h; simp at h
  | some z =>
   cases hl : l.mapM g with
   | none => rw [hx, hl] at h; simp at h
   | some r' =>
    rw [hx, hl] at h
    simp at h
    subst h
    cases i with
    | zero => simp at hy; subst hy; exact ⟨x, by simp, hx⟩
    | succ i =>
     obtain ⟨x', h1, h2⟩ := ih hl (i := i) (by simpa using hy)
     exact ⟨x', by simpa using h1, h2⟩
def isOne : TI → Bool
 | .one _ => true
 | .sl .. => true
 | _ => false
def aggK : TI → Option Nat
 | .st z _ => some z.length
 | .ar _ _ _ z => some z.length
 | _ => none
theorem ti_st {t : TypeId} {z : List Value} {fs : List (Nat × Nat × Nat)} (h : ti t = .st z fs) : ∃ (i : TypeInfo) (F : Array Field), Try.prog.info? t = some i ∧ Try.prog.underlying t = some (.struct F) ∧ i.size = z.length ∧ i.zero = some (.agg z.toArray) ∧
  F.toList.mapM (fun f => (Try.prog.info? f.type).map fun j => (f.offset, j.size, f.type)) = some fs := by
 have hk := tiok t (by rw [h]; intro e; cases e)
 rw [h] at hk
 unfold tiOf at hk
 split at hk
 ·rename_i i F h1 h2
  split at hk
  ·rename_i z' pl h3 h4
   split at hk
   ·rename_i hsz
    simp only [TI.st.injEq] at hk
    obtain ⟨rfl, rfl⟩ := hk
    exact ⟨i, F, h1, h2, by simp [hsz], by simpa using h3, h4⟩
   ·cases hk
  ·cases hk
 ·split at hk
  ·split at hk <;> cases hk
  ·cases hk
 ·split at hk
  ·split at hk
   ·split at hk <;> cases hk
   ·cases hk
  ·cases hk
 ·split at hk
  ·split at hk <;> cases hk
  ·cases hk
 ·cases hk
theorem ti_ar {t e : TypeId} {n es : Nat} {z : List Value} (h : ti t = .ar n e es z) : ∃ (i j : TypeInfo), Try.prog.info? t = some i ∧ Try.prog.underlying t = some (.array n e) ∧ i.size = z.length ∧ i.zero = some (.agg z.toArray) ∧ Try.prog.info? e = some j ∧ j.size = es := by
 have hk := tiok t (by rw [h]; intro e; cases e)
 rw [h] at hk
 unfold tiOf at hk
 split at hk
 ·split at hk
  ·split at hk <;> cases hk
  ·cases hk
 ·rename_i i n' e h1 h2
  split at hk
  ·rename_i z' j h3 h4
   split at hk
   ·rename_i hsz
    simp only [TI.ar.injEq] at hk
    obtain ⟨rfl, rfl, rfl, rfl⟩ := hk
    exact ⟨i, j, h1, h2, by simp [hsz], by simpa using h3, h4, rfl⟩
   ·cases hk
  ·cases hk
 ·split at hk
  ·split at hk
   ·split at hk <;> cases hk
   ·cases hk
  ·cases hk
 ·split at hk
  ·split at hk <;> cases hk
  ·cases hk
 ·cases hk
theorem ti_sl {t e : TypeId} {es eb : Nat} {ez : Value} (h : ti t = .sl e es eb ez) : ∃ (i j : TypeInfo), Try.prog.info? t = some i ∧ Try.prog.underlying t = some (.slice e) ∧ i.size = 1 ∧ Try.prog.info? e = some j ∧ j.zero = some ez ∧ j.size = es ∧ j.bytes = eb ∧ ez.cells.size = es := by
 have hk := tiok t (by rw [h]; intro e; cases e)
 rw [h] at hk
 unfold tiOf at hk
 split at hk
 ·split at hk
  ·split at hk <;> cases hk
  ·cases hk
 ·split at hk
  ·split at hk <;> cases hk
  ·cases hk
 ·rename_i i e' h1 h2
  split at hk
  ·rename_i j h3
   split at hk
   ·rename_i ez' h4
    split at hk
    ·rename_i hsz
     simp only [TI.sl.injEq] at hk
     obtain ⟨rfl, rfl, rfl, rfl⟩ := hk
     exact ⟨i, j, h1, h2, hsz.1, h3, h4, rfl, rfl, hsz.2⟩
    ·cases hk
   ·cases hk
  ·cases hk
 ·split at hk
  ·split at hk <;> cases hk
  ·cases hk
 ·cases hk
theorem ti_one {t : TypeId} {z : Value} (h : ti t = .one z) : ∃ (i : TypeInfo) (dsc : TypeDesc), Try.prog.info? t = some i ∧ Try.prog.underlying t = some dsc ∧ (∀ F, dsc ≠ .struct F) ∧ (∀ n e, dsc ≠ .array n e) ∧ i.size = 1 ∧ i.zero = some z ∧ z.oneCell' = true := by
 have hk := tiok t (by rw [h]; intro e; cases e)
 rw [h] at hk
 unfold tiOf at hk
 split at hk
 ·split at hk
  ·split at hk <;> cases hk
  ·cases hk
 ·split at hk
  ·split at hk <;> cases hk
  ·cases hk
 ·split at hk
  ·split at hk
   ·split at hk <;> cases hk
   ·cases hk
  ·cases hk
 ·rename_i i dsc hn1 hn2 hn3 h1 h2
  split at hk
  ·rename_i z' h3
   split at hk
   ·rename_i hsz
    simp only [TI.one.injEq] at hk
    subst hk
    exact ⟨i, dsc, h1, h2, hn1, hn2, hsz.1, h3, hsz.2⟩
   ·cases hk
  ·cases hk
 ·cases hk
section
variable {t : TypeId} (w : World)
theorem run_isAgg_one (h : isOne (ti t) = true) : (isAgg t).run Try.prog w = .ok false w := by
 cases hti : ti t with
 | one z =>
  obtain ⟨i, dsc, _, h2, hn1, hn2, _⟩ := ti_one hti
  simp only [isAgg, run_underlying h2, Sem.run_bind, Result.andThen]
  cases dsc <;> first | rfl | exact absurd rfl (hn1 _) | exact absurd rfl (hn2 _ _)
 | sl e es eb ez =>
  obtain ⟨i, j, _, h2, _⟩ := ti_sl hti
  simp [isAgg, run_underlying h2]
 | _ => rw [hti] at h; cases h
theorem run_isAgg_agg {k : Nat} (h : aggK (ti t) = some k) : (isAgg t).run Try.prog w = .ok true w ∧ (sizeOf t).run Try.prog w = .ok k w := by
 cases hti : ti t with
 | st z fs =>
  obtain ⟨i, F, h1, h2, h3, _⟩ := ti_st hti
  rw [hti] at h
  simp only [aggK, Option.some.injEq] at h
  simp [isAgg, run_underlying h2, sizeOf, typeInfo, h1, h3, h]
 | ar n e es z =>
  obtain ⟨i, j, h1, h2, h3, _⟩ := ti_ar hti
  rw [hti] at h
  simp only [aggK, Option.some.injEq] at h
  simp [isAgg, run_underlying h2, sizeOf, typeInfo, h1, h3, h]
 | _ => rw [hti] at h; cases h
theorem run_sizeOf_one (h : isOne (ti t) = true) : (sizeOf t).run Try.prog w = .ok 1 w := by
 cases hti : ti t with
 | one z =>
  obtain ⟨i, dsc, h1, _, _, _, h3, _⟩ := ti_one hti
  simp [sizeOf, typeInfo, h1, h3]
 | sl e es eb ez =>
  obtain ⟨i, j, h1, _, h3, _⟩ := ti_sl hti
  simp [sizeOf, typeInfo, h1, h3]
 | _ => rw [hti] at h; cases h
theorem run_load_one {a : Addr} {v : Value} (h : isOne (ti t) = true) (hc : w.cell? a = some v) : (Instr.loadAt t (.pointer (some a))).run Try.prog w = .ok v w := by
 simp [Instr.loadAt, Instr.sureAddr, loadVar, run_isAgg_one w h, load, Sem.run, hc]
theorem run_load_agg {b o k : Nat} {cs : List Value} (h : aggK (ti t) = some k) (hl : cs.length = k) (hc : ∀ j v, cs[j]? = some v → w.cell? ⟨b, o + j, none⟩ = some v) : (Instr.loadAt t (.pointer (some ⟨b, o, none⟩))).run Try.prog w = .ok (.agg cs.toArray) w := by
 have h2 := run_loadCells_list (P := Try.prog) w ⟨b, o, none⟩ cs (fun j v hj => by rw [Addr.add_lit]; exact hc j v hj)
 rw [hl] at h2
 obtain ⟨h3, h4⟩ := run_isAgg_agg w h
 simp [Instr.loadAt, Instr.sureAddr, loadVar, h3, h4, h2]
theorem run_field_addr {z : List Value} {fs : List (Nat × Nat × Nat)} {f off n ft b o : Nat} (h : ti t = .st z fs) (hf : fs[f]? = some (off, n + 1, ft)) : (Instr.fieldAt t (.pointer (some ⟨b, o, none⟩)) f).run Try.prog w = .ok (.pointer (some ⟨b, o + off, none⟩)) w := by
 obtain ⟨i, F, h1, h2, h3, h4, h5⟩ := ti_st h
 obtain ⟨x, hx, hy⟩ := mapM_get h5 hf
 simp only [Option.map_eq_some_iff] at hy
 obtain ⟨j, hj, he⟩ := hy
 simp only [Prod.mk.injEq] at he
 obtain ⟨rfl, he2, rfl⟩ := he
 have hx' : F[f]? = some x := by simpa using hx
 simp [Instr.fieldAt, run_underlying h2, hx', Instr.sureAddr, fieldPlace, sizeOf, typeInfo, hj, he2, Addr.add_lit]
end
end
section
open Go.RowKit
section
variable {E : Entry} {sl : Slots} {ob : Objs} {a : Act} {w : World} {Pr : Prot} {β : Nat → Value} {κ : Nat → Nat}
theorem Kept.rep {w' : World} {v : Value} {d : D} (hk : Kept Pr β ob w w') (h : RepD w Pr v d) : RepD w' Pr v d := h.keep hk.stays (fun _ _ h => h)
theorem list_form {v : Value} {s : Nat} {l : List (List D)} (h : RepD w Pr v (.list s l)) : ∃ A c, v = .slice A l.length c ∧ l.length ≤ c ∧ c ≤ maxLen := by
 cases h with
 | nil A c _ hm => exact ⟨A, c, rfl, Nat.zero_le _, hm⟩
 | list b o n c _ _ u hn hs hc hm hr hd => subst hn; exact ⟨_, c, rfl, hc, hm⟩
theorem list_at {v : Value} {s : Nat} {l : List (List D)} (h : RepD w Pr v (.list s l)) {i : Nat} {e : List D} (he : l[i]? = some e) : ∃ (b o c : Nat) (u : Nat → Value), v = .slice (some ⟨b, o, none⟩) l.length c ∧ e.length = s ∧
  ∀ (j : Nat) (d : D), e[j]? = some d → w.cell? ⟨b, o + i * s + j, none⟩ = some (u j) ∧ Pr b (o + i * s + j) ∧ RepD w Pr (u j) d := by
 cases h with
 | nil A c _ hm => simp at he
 | list b o n c _ _ u hn hs hc hm hr hd =>
  subst hn
  exact ⟨b, o, c, u i, rfl, hs e (List.mem_of_getElem? he), fun j d hj => ⟨(hr i j e d he hj).1, (hr i j e d he hj).2, hd i j e d he hj⟩⟩
variable {d : Option Nat} {t T ty : TypeId} {p : String} {af : Array Edge} {g : Option (Nat × Bool)} {x y c : Operand} {m : Int}
theorem y_llen {s n : Nat} {l : List (List D)} {t0 : TypeId} {A : Array TypeId} (hx : ToD ob (ev sl x) (.list s l)) (hA : A = #[t0]) (hT : ∃ e es eb ez, ti t0 = .sl e es eb ez) (hn : l.length = n) :
  Y E ⟨d, .call { callee := .builtin .len, args := #[x], argTypes := A }, T, p, af, g⟩ sl ob (.d (.val (.int .i64 n))) := fun a w Pr β κ h => by
 subst hA hn
 obtain ⟨e, es, eb, ez, hT⟩ := hT
 obtain ⟨_, _, _, hu, _⟩ := ti_sl hT
 obtain ⟨A, c, hv, _⟩ := list_form (toD_rep h hx _ (good_ev h x))
 exact ⟨_, .d _ _ (.val _), fun w' _ => by simp [execOp, hv, resolve, invoke, builtin, Builtin.len_, run_underlying hu, goInt]⟩
theorem y_ix {s i : Nat} {l : List (List D)} {e' : List D} {e eb : Nat} {ez : Value} {kk : IntKind} (hx : ToD ob (ev sl x) (.list s l)) (hy : ev sl y = .d (.val (.int kk m))) (hT : ti t = .sl e s eb ez) (hi : m = (i : Int)) (he : l[i]? = some e') :
  Y E ⟨d, .indexAddr t x y, T, p, af, g⟩ sl ob (.ep e' 0) := fun a w Pr β κ h => by
 subst hi
 obtain ⟨_, j, _, hu, _, hj, _, hs, _⟩ := ti_sl hT
 obtain ⟨b, o, c, u, hv, hl, hc⟩ := list_at (toD_rep h hx _ (good_ev h x)) he
 have hlt : i < l.length := (List.getElem?_eq_some_iff.1 he).1
 refine ⟨.pointer (some ⟨b, o + i * s + 0, none⟩), .ep b (o + i * s) 0 e' u hc, fun w' _ => ?_⟩
 have hsz : (sizeOf e).run Try.prog w' = .ok s w' := by simp [sizeOf, typeInfo, hj, hs]
 simp [execOp, hv, good_val h hy, Instr.indexAt, asIntOf, run_underlying hu, hsz, hlt, Addr.add_lit]
theorem take_all {α : Type} {l : List α} {o k : Nat} (h : o = 0) (hl : l.length = k) : (l.drop o).take k = l := by subst h hl; simp
theorem get_map {α β : Type} {f : α → β} {l : List α} {i : Nat} (h : i < l.length) : (l.map f)[i]? = some (f l[i]) := by simp [h]
theorem int_nat (m : Int) (h : 0 ≤ m) : m = (m.toNat : Int) := by omega
theorem y_load1 {l : List D} {o : Nat} {z : D} (hx : ev sl x = .ep l o) (hz : l[o]? = some z) (hT : isOne (ti t) = true) : Y E ⟨d, .load t x, T, p, af, g⟩ sl ob (.d z) := fun a w Pr β κ h => by
 have hv := good_ev h x
 rw [hx] at hv
 generalize hav : a.eval x = v at hv
 cases hv with
 | ep b q _ _ u hr =>
  obtain ⟨h1, h2, h3⟩ := hr o z hz
  exact ⟨u o, .d _ _ h3, fun w' hk => by
   have := run_load_one (t := t) w' hT ((hk.stays _ _ h2).trans h1)
   simp [execOp, hav, this]⟩
theorem y_loadA {l l' : List D} {o k : Nat} (hx : ev sl x = .ep l o) (hT : aggK (ti t) = some k) (hl : (l.drop o).take k = l') (hk : l'.length = k) : Y E ⟨d, .load t x, T, p, af, g⟩ sl ob (.d (.agg l')) := fun a w Pr β κ h => by
 have hv := good_ev h x
 rw [hx] at hv
 generalize hav : a.eval x = v at hv
 cases hv with
 | ep b q _ _ u hr =>
  have hget : ∀ (j : Nat) (z : D), l'[j]? = some z → l[o + j]? = some z := by
   intro j z hj
   rw [← hl, List.getElem?_take] at hj
   split at hj
   ·rw [List.getElem?_drop] at hj
    exact hj
   ·cases hj
  have hlt : ∀ j, j < k → ∃ z, l'[j]? = some z := fun j hj => ⟨_, List.getElem?_eq_getElem (by omega)⟩
  let cs : List Value := (List.range k).map fun j => u (o + j)
  have hcs : cs.length = k := by simp [cs]
  have hget2 : ∀ (j : Nat) (v : Value), cs[j]? = some v → j < k ∧ v = u (o + j) := by
   intro j v hj
   have hjl : j < k := by have := (List.getElem?_eq_some_iff.1 hj).1; omega
   simp [cs, hjl] at hj
   exact ⟨hjl, hj.symm⟩
  refine ⟨.agg cs.toArray, .d _ _ (.agg cs l' (by omega) fun j v z h1 h2 => ?_), fun w' hkept => ?_⟩
  ·obtain ⟨_, rfl⟩ := hget2 j v h1
   exact (hr _ z (hget j z h2)).2.2
  ·have := run_load_agg (t := t) w' (b := b) (o := q + o) hT hcs (fun j v hj => by
    obtain ⟨hjl, rfl⟩ := hget2 j v hj
    obtain ⟨z, hz⟩ := hlt j hjl
    obtain ⟨h1, h2, _⟩ := hr _ z (hget j z hz)
    rw [Nat.add_assoc]
    exact (hkept.stays _ _ h2).trans h1)
   simp [execOp, hav, this]
theorem y_faddr {l : List D} {o f off n ft : Nat} {z : List Value} {fs : List (Nat × Nat × Nat)} (hx : ev sl x = .ep l o) (hT : ti t = .st z fs) (hf : fs[f]? = some (off, n + 1, ft)) : Y E ⟨d, .fieldAddr t x f, T, p, af, g⟩ sl ob (.ep l (o + off)) := fun a w Pr β κ h => by
 have hv := good_ev h x
 rw [hx] at hv
 generalize hav : a.eval x = v at hv
 cases hv with
 | ep b q _ _ u hr =>
  refine ⟨.pointer (some ⟨b, q + (o + off), none⟩), .ep b q (o + off) l u hr, fun w' _ => ?_⟩
  have := run_field_addr w' (b := b) (o := q + o) hT hf
  simp [execOp, hav, this, Nat.add_assoc]
theorem y_fbox {i o f off n ft : Nat} {z : List Value} {fs : List (Nat × Nat × Nat)} (hx : ev sl x = .box i o) (hT : ti t = .st z fs) (hf : fs[f]? = some (off, n + 1, ft)) : Y E ⟨d, .fieldAddr t x f, T, p, af, g⟩ sl ob (.box i (o + off)) := fun a w Pr β κ h => by
 have hv := good_ev h x
 rw [hx] at hv
 generalize hav : a.eval x = v at hv
 cases hv with
 | box _ _ gg hb =>
  refine ⟨.pointer (some ⟨gg, o + off, none⟩), .box i (o + off) gg hb, fun w' _ => ?_⟩
  have := run_field_addr w' (b := gg) (o := o) hT hf
  simp [execOp, hav, this]
theorem box_at (h : Good E sl ob a w Pr β κ) {i o : Nat} {T : TypeId} {l : List V} (hx : ev sl x = .box i o) (hf : find ob i = some (.box T l)) :
  ∃ (b : Nat) (cs : List Value), a.eval x = .pointer (some ⟨b, o, none⟩) ∧ β i = .pointer (some ⟨b, 0, none⟩) ∧ w.heap[b]? = some (.cells cs.toArray T (0, 0)) ∧ cs.length = l.length ∧
   (∀ (j : Nat) (v : Value) (x : V), cs[j]? = some v → l[j]? = some x → RepV w Pr β κ v x) ∧ ∀ w', Kept Pr β ob w w' → ∀ j v, cs[j]? = some v → w'.cell? ⟨b, j, none⟩ = some v := by
 have hv := good_ev h x
 rw [hx] at hv
 generalize a.eval x = v at hv
 cases hv with
 | box _ _ b hb =>
  obtain ⟨b', cs, hb', hB, hh, hl, hv, hno⟩ := h.objs i _ hf
  rw [hb'] at hb
  simp only [Value.pointer.injEq, Option.some.injEq, Addr.mk.injEq, and_true] at hb
  subst hb
  refine ⟨b', cs, rfl, hb', hh, hl, hv, fun w' hk j v hj => ?_⟩
  have := (hk.objs i _ b' hf (by rw [hb']; rfl)).trans hh
  rw [cell_of_row w' b' j _ _ (0, 0) this]
  simpa using hj
theorem y_bload1 {i o : Nat} {T' : TypeId} {l : List V} {z : V} (hx : ev sl x = .box i o) (hf : find ob i = some (.box T' l)) (hz : l[o]? = some z) (hT : isOne (ti t) = true) : Y E ⟨d, .load t x, T, p, af, g⟩ sl ob z := fun a w Pr β κ h => by
 obtain ⟨b, cs, hav, _, _, hl, hv, hc⟩ := box_at h hx hf
 have ho : o < cs.length := by rw [hl]; exact (List.getElem?_eq_some_iff.1 hz).1
 have hco : cs[o]? = some cs[o] := List.getElem?_eq_getElem ho
 exact ⟨cs[o], hv o _ z hco hz, fun w' hk => by
  have := run_load_one (t := t) w' hT (hc w' hk o _ hco)
  simp [execOp, hav, this]⟩
def unD : List V → Option (List D)
 | [] => some []
 | .d x :: r => (unD r).map (x :: ·)
 | _ :: _ => none
theorem unD_map : ∀ {l : List V} {ds : List D}, unD l = some ds → l = ds.map V.d := by
 intro l
 induction l with
 | nil => intro ds h; simp only [unD, Option.some.injEq] at h; subst h; rfl
 | cons v l ih =>
  intro ds h
  cases v <;> simp only [unD, Option.map_eq_some_iff, reduceCtorEq] at h
  obtain ⟨r, hr, rfl⟩ := h
  rw [ih hr]
  rfl
theorem y_bloadA {i o k : Nat} {T' : TypeId} {l : List V} {ds : List D} (hx : ev sl x = .box i o) (hf : find ob i = some (.box T' l)) (hT : aggK (ti t) = some k) (hl : unD ((l.drop o).take k) = some ds) (hk : ds.length = k) :
  Y E ⟨d, .load t x, T, p, af, g⟩ sl ob (.d (.agg ds)) := fun a w Pr β κ h => by
 obtain ⟨b, cs, hav, _, _, hcl, hv, hc⟩ := box_at h hx hf
 have hget : ∀ (j : Nat) (z : D), ds[j]? = some z → l[o + j]? = some (.d z) := by
  intro j z hj
  have h1 : ((l.drop o).take k)[j]? = some (.d z) := by rw [unD_map hl]; simp [hj]
  rw [List.getElem?_take] at h1
  split at h1
  ·rw [List.getElem?_drop] at h1
   exact h1
  ·cases h1
 have hlen : k = 0 ∨ o + k ≤ l.length := by
  by_cases hk0 : k = 0
  ·exact .inl hk0
  ·right
   have hz : ds[k - 1]? = some (ds[k - 1]'(by omega)) := List.getElem?_eq_getElem (by omega)
   have := (List.getElem?_eq_some_iff.1 (hget _ _ hz)).1
   omega
 have hcs : ((cs.drop o).take k).length = k := by simp; omega
 have hget2 : ∀ (j : Nat) (v : Value), ((cs.drop o).take k)[j]? = some v → j < k ∧ cs[o + j]? = some v := by
  intro j v hj
  have hjl : j < k := by have := (List.getElem?_eq_some_iff.1 hj).1; omega
  rw [List.getElem?_take, if_pos hjl, List.getElem?_drop] at hj
  exact ⟨hjl, hj⟩
 refine ⟨.agg ((cs.drop o).take k).toArray, .d _ _ (.agg _ ds (by omega) fun j v z h1 h2 => ?_), fun w' hkept => ?_⟩
 ·exact (hv _ v _ (hget2 j v h1).2 (hget j z h2)).d_inv
 ·have := run_load_agg (t := t) w' (b := b) (o := o) hT hcs (fun j v hj => hc w' hkept _ v (hget2 j v hj).2)
  simp [execOp, hav, this]
theorem y_arr {l : List D} {n i : Nat} {kk : IntKind} {r : D} (hx : ev sl x = .d (.agg l)) (hy : ev sl y = .d (.val (.int kk m))) {e : TypeId} {z : List Value} (hT : ti t = .ar n e 1 z) (h1 : isOne (ti e) = true) (hi : m = (i : Int)) (hin : i < n) (hr : l[i]? = some r) :
  Y E ⟨d, .index t x y, T, p, af, g⟩ sl ob (.d r) := fun a w Pr β κ h => by
 subst hi
 have hv := good_rep h hx
 generalize hav : a.eval x = v at hv
 cases hv with
 | agg cs _ hl hd =>
  obtain ⟨_, _, _, hu, _⟩ := ti_ar hT
  have ho : i < cs.length := by rw [hl]; exact (List.getElem?_eq_some_iff.1 hr).1
  have hco : cs[i]? = some cs[i] := List.getElem?_eq_getElem ho
  exact ⟨cs[i], .d _ _ (hd _ _ _ hco hr), fun w' _ => by simp [execOp, hav, good_val h hy, Instr.index, asIntOf, run_underlying hu, hin, run_sizeOf_one w' h1, part, run_isAgg_one w' h1, hco]⟩
theorem y_glob {l : List D} {k gl : Nat} (hE : Fine E) (hm : (gl, l) ∈ laidG) (hT : aggK (ti t) = some k) (hl : l.length = k) : Y E ⟨d, .load t (.global gl), T, p, af, g⟩ sl ob (.d (.agg l)) := fun a w Pr β κ h => by
 have henv := (env_now hE h gl l hm).1
 have hu : ∀ j, ∃ u, ∀ z, l[j]? = some z → w.cell? ⟨gl, j, none⟩ = some u ∧ Pr gl j ∧ RepD w Pr u z := by
  intro j
  cases hz : l[j]? with
  | none => exact ⟨undef, fun z h => by cases h⟩
  | some z =>
   obtain ⟨u, hu⟩ := henv j z hz
   exact ⟨u, fun z' h => by cases h; exact hu⟩
 let cs : List Value := (List.range k).map fun j => Classical.choose (hu j)
 have hcs : cs.length = k := by simp [cs]
 have hget2 : ∀ (j : Nat) (v : Value), cs[j]? = some v → j < k ∧ v = Classical.choose (hu j) := by
  intro j v hj
  have hjl : j < k := by have := (List.getElem?_eq_some_iff.1 hj).1; omega
  simp [cs, hjl] at hj
  exact ⟨hjl, hj.symm⟩
 refine ⟨.agg cs.toArray, .d _ _ (.agg cs l (by omega) fun j v z h1 h2 => ?_), fun w' hkept => ?_⟩
 ·obtain ⟨_, rfl⟩ := hget2 j v h1
  exact (Classical.choose_spec (hu j) z h2).2.2
 ·have := run_load_agg (t := t) w' (b := gl) (o := 0) hT hcs (fun j v hj => by
   obtain ⟨hjl, rfl⟩ := hget2 j v hj
   have hz : l[j]? = some (l[j]'(by omega)) := List.getElem?_eq_getElem (by omega)
   obtain ⟨h1, h2, _⟩ := Classical.choose_spec (hu j) _ hz
   rw [Nat.zero_add]
   exact (hkept.stays _ _ h2).trans h1)
  simp [execOp, Act.eval, this]
end
end
end Go.Proofs.Ytgiacdhffklenaa
