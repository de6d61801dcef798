/-
  What the library's functions do, as pure calls; numbers as text. Conditions: none.
-/
import Derived.Lib.AppendIntMem
import Derived.Test.YtfgibalcdjlnhaaDoorMal
namespace Go.Proofs.YtfgibalcdjlnhaaDoor
open Go.RowKit

theorem repD_val {w : World} {Pr : Prot} {u v : Value} (h : RepD w Pr v (.val u)) : v = u := by
  cases h
  rfl
theorem pure_vals {f : FuncId} {us : List Value} {Post : D → Prop} (hf : FnOk f) (h : ∀ w Pr, (∀ b o, Pr b o → b < w.heap.size) → EnvOk w Pr → Calls Tryd.prog f us.toArray w (PostR w Pr Post)) : PureC f (us.map D.val) Post := by
  refine ⟨hf, fun w Pr vs h1 h2 h3 h4 => ?_⟩
  have e : vs = us := by
    apply List.ext_getElem?
    intro i
    have hl : vs.length = us.length := by simpa using h3
    by_cases hi : i < vs.length
    · have := h4 i vs[i] (.val us[i]) (List.getElem?_eq_getElem hi) (by simp [List.getElem?_eq_getElem (show i < us.length by omega)])
      rw [List.getElem?_eq_getElem hi, List.getElem?_eq_getElem (by omega), repD_val this]
    · rw [List.getElem?_eq_none (by omega), List.getElem?_eq_none (by omega)]
  subst e
  exact h w Pr h1 h2
def itoaB (n : Int) : ByteArray := ⟨(Lib.itoa n).toArray⟩
theorem itoa_any (n : Int) (h0 : -9223372036854775808 ≤ n) (h1 : n ≤ 9223372036854775807) : PureC 44 [.int n] (· = .str (itoaB n)) := by
  refine pure_vals (us := [.int .i64 n]) ⟨_, Tryd.func44, by decide, rfl⟩ (fun w Pr _ hE => ?_)
  have ht : Lib.TabIs Tryd.prog w "internal/strconv.uint64pow10" .u64 Lib.pow10Tab := tab_of hE (by unfold laidG; exact List.mem_cons_self) (by kernel_rfl) (by decide)
  refine (Tryd.strconv_Itoa n h0 h1 w ht).mono fun e w' ⟨he, k, os, hw⟩ => ?_
  subst hw
  exact ⟨_, _, he, rfl, .val _, Lib.below_grow _ _ (Nat.le_refl _) k os⟩
theorem indexbyte_any (s : ByteArray) (c : Int) : PureC 49 [.str s, .val (.int .u8 c)] (· = .int (Lib.indexByte s.data.toList c.toNat.toUInt8)) := by
  refine pure_vals (us := [.string s, .int .u8 c]) ⟨_, Tryd.func49, by decide, rfl⟩ (fun w Pr _ _ => ?_)
  refine (Tryd.strings_IndexByte s c w).mono fun e w' ⟨he, hw⟩ => ?_
  subst hw
  exact ⟨_, _, he, rfl, .val _, Below.refl _ _⟩
theorem rep_two {w : World} {Pr : Prot} {u v : Value} {x y : D} (hu : RepD w Pr u x) (hv : RepD w Pr v y) : RepD w Pr (.tuple #[u, v]) (.tup [x, y]) := by
  refine .tup [u, v] _ rfl (fun i v d h1 h2 => ?_)
  match i with
  | 0 => cases h1; cases h2; exact hu
  | 1 => cases h1; cases h2; exact hv
theorem cutprefix_any (s p : ByteArray) : PureC 51 [.str s, .str p] (· = .tup [.str ⟨(Lib.trimPrefix s.data.toList p.data.toList).toArray⟩, .bool (Lib.hasPrefix s.data.toList p.data.toList)]) := by
  refine pure_vals (us := [.string s, .string p]) ⟨_, Tryd.func51, by decide, rfl⟩ (fun w Pr _ _ => ?_)
  refine (Tryd.strings_CutPrefix s p w).mono fun e w' ⟨he, hw⟩ => ?_
  subst hw
  exact ⟨_, _, he, rfl, rep_two (.val _) (.val _), Below.refl _ _⟩
/-- Atoi: the number and no error, or some number and an error -/
def AtoiD (s : ByteArray) (r : D) : Prop := match Lib.atoiAll s.data.toList with
  | .ok v => r = .tup [.int v, .val .nilIface]
  | _ => ∃ n, r = .tup [.int n, .err]
theorem err_var {w : World} {Pr : Prot} (hE : EnvOk w Pr) {g : Nat} (hm : (g, [D.err]) ∈ laidG) : ∃ ev, w.cell? ⟨g, 0, none⟩ = some ev ∧ (ev = .nilIface ∨ ∃ te pe, ev = .iface te pe) := by
  obtain ⟨u, h1, _, h3⟩ := (hE g _ hm).1 0 .err rfl
  cases h3
  exact ⟨_, h1, .inr ⟨_, _, rfl⟩⟩
theorem atoi_any (s : ByteArray) (hs : s.size ≤ 281474976710656) : PureC 50 [.str s] (AtoiD s) := by
  refine pure_vals (us := [.string s]) ⟨_, Tryd.func50, by decide, rfl⟩ (fun w Pr _ hE => ?_)
  cases h : Lib.atoiAll s.data.toList with
  | ok v =>
    refine (Tryd.strconv_Atoi_ok s (by omega) v h w).mono fun e w' ⟨he, hw⟩ => ?_
    refine ⟨_, _, he, by unfold AtoiD; rw [h], rep_two (.val _) (.val _), ?_⟩
    rcases hw with rfl | ⟨t, rfl⟩
    · exact Below.refl _ _
    · exact Lib.bytesWorld_below _ _ _
  | range =>
    obtain ⟨ev, h1, h2⟩ := err_var hE (g := 2) (by unfold laidG; exact List.mem_cons_of_mem _ (List.mem_cons_of_mem _ List.mem_cons_self))
    refine (Tryd.strconv_Atoi_range s hs h ev w h1 h2).mono fun e w' ⟨N, he, _, _, hb⟩ => ?_
    exact ⟨_, _, he, by unfold AtoiD; rw [h]; exact ⟨_, rfl⟩, rep_two (.val _) (.err _ _), hb⟩
  | _ =>
    obtain ⟨ev, h1, h2⟩ := err_var hE (g := 1) (by unfold laidG; exact List.mem_cons_of_mem _ List.mem_cons_self)
    refine (Tryd.strconv_Atoi_syntax s hs (fun v hv => by rw [hv] at h; cases h) (fun hv => by rw [hv] at h; cases h) ev w h1 h2).mono fun e w' ⟨N, he, _, _, hb⟩ => ?_
    exact ⟨_, _, he, by unfold AtoiD; rw [h]; exact ⟨_, rfl⟩, rep_two (.val _) (.err _ _), hb⟩
theorem errT : ∃ ms, Tryd.prog.underlying 84 = some (.interface ms) := ⟨_, Tryd.underlying84⟩
section
variable {E : Entry} {sl : Slots} {ob : Objs} {d : Option Nat} {t ty T : TypeId} {p : String} {af : Array Edge} {g : Option (Nat × Bool)} {x : Operand}
theorem y_errneq (hx : ev sl x = .d .err) (ht : ∃ ms, Tryd.prog.underlying t = some (.interface ms)) : Y E ⟨d, .binOp .neq t x (.const .nilIface) ty, T, p, af, g⟩ sl ob (.d (.val (.bool true))) := fun a w Pr β κ h => by
  have hv := good_rep h hx
  generalize hav : a.eval x = v at hv
  cases hv with
  | err te u =>
    obtain ⟨ms, ht⟩ := ht
    have hc : a.eval (.const Value.nilIface) = Value.nilIface := rfl
    refine ⟨_, .d _ _ (.val _), fun w' _ => ?_⟩
    have h1 : (Op.equalIn Op.maxDepth t (.iface te u) .nilIface).run Tryd.prog w' = .ok false w' := by
      have : ∀ d : Nat, (Op.equalIn (d + 1) t (.iface te u) .nilIface).run Tryd.prog w' = .ok false w' := fun d => by simp [Op.equalIn, run_underlying ht]
      exact this 9999
    simp [execOp, hav, hc, eqGuard_at_iface, binOp, Op.equal, h1]
theorem y_nilneq (hx : ev sl x = .d (.val .nilIface)) (ht : ∃ ms, Tryd.prog.underlying t = some (.interface ms)) : Y E ⟨d, .binOp .neq t x (.const .nilIface) ty, T, p, af, g⟩ sl ob (.d (.val (.bool false))) := fun a w Pr β κ h => by
  obtain ⟨ms, ht⟩ := ht
  have hc : a.eval (.const Value.nilIface) = Value.nilIface := rfl
  refine ⟨_, .d _ _ (.val _), fun w' _ => ?_⟩
  have h1 : (Op.equalIn Op.maxDepth t .nilIface .nilIface).run Tryd.prog w' = .ok true w' := by
    have : ∀ d : Nat, (Op.equalIn (d + 1) t .nilIface .nilIface).run Tryd.prog w' = .ok true w' := fun d => by simp [Op.equalIn, run_underlying ht]
    exact this 9999
  simp [execOp, good_val h hx, hc, eqGuard_nil_constR, binOp, Op.equal, h1]
end
end Go.Proofs.YtfgibalcdjlnhaaDoor
