/-
  The walk of the laws' own word small. Conditions: none.
-/
import Derived.Test.YtnaepobgpfhidaaDoorLeaseF
import Derived.Laws.StructEq
import Derived.ChangeKeysEq
namespace Go.Proofs.YtnaepobgpfhidaaDoor
open Go.RowKit

theorem g_call {l m : Lse} {who now span e : Int} (hs : isInt span) (h : grantV l who now span = (m, e)) : PureC 9 [.agg [.int l.who, .int l.epoch, .int l.frm, .int l.til], .int who, .int now, .int span] (· = .tup [.agg [.int m.who, .int m.epoch, .int m.frm, .int m.til], .int e]) := by
  have := grant_any l who now span hs
  rw [h] at this
  exact this
theorem m_call {l : Lse} {who epoch now e : Int} (h : mayV l who epoch now = e) : PureC 11 [.agg [.int l.who, .int l.epoch, .int l.frm, .int l.til], .int who, .int epoch, .int now] (· = .int e) := by
  have := may_any l who epoch now
  rw [h] at this
  exact this
theorem sg1 : grantV ⟨0, 0, 0, 0⟩ 3 10 5 = (⟨3, 1, 10, 15⟩, 0) := by rfl
theorem sg2 : grantV ⟨3, 1, 10, 15⟩ 4 15 5 = (⟨3, 1, 10, 15⟩, 26) := by rfl
theorem sg3 : grantV ⟨3, 1, 10, 15⟩ 4 16 5 = (⟨4, 2, 16, 21⟩, 0) := by rfl
theorem sg4 : grantV ⟨3, 1, 10, 15⟩ 3 12 20 = (⟨3, 1, 10, 32⟩, 0) := by rfl
theorem sg5 : grantV ⟨3, 1, 10, 15⟩ 3 12 1 = (⟨3, 1, 10, 15⟩, 0) := by rfl
theorem sm1 : mayV ⟨3, 1, 10, 15⟩ 3 1 15 = 0 := by rfl
theorem sm2 : mayV ⟨3, 1, 10, 15⟩ 3 1 16 = 20 := by rfl
theorem sm3 : mayV ⟨3, 1, 10, 15⟩ 3 1 9 = 19 := by rfl
theorem sm4 : mayV ⟨3, 1, 10, 15⟩ 4 1 15 = 26 := by rfl
theorem sm5 : mayV ⟨3, 1, 10, 15⟩ 3 2 15 = 26 := by rfl
theorem openO_frame {n : Int} {s : ByteArray} (h1 : 1 ≤ n) (h2 : n ≤ 1048576) (h3 : s.size ≤ 20000) : openO (frameW n s) = some (n, s) := openO_is ⟨h1, h2, h3, by rw [frameW, if_pos ⟨h1, h2, h3⟩]⟩
theorem sv1 : validV [frameW 1 ⟨#[97]⟩, frameW 2 ⟨#[98]⟩, frameW 1 ⟨#[99]⟩, frameW 2 ⟨#[100]⟩, frameW 3 ⟨#[101]⟩] = [⟨#[97]⟩, ⟨#[98]⟩, ⟨#[100]⟩, ⟨#[101]⟩] := by
  unfold validV
  simp only [List.foldl_cons, List.foldl_nil]
  have a1 : vStep (0, []) (frameW 1 ⟨#[97]⟩) = (1, [⟨#[97]⟩]) := vStep_yes (openO_frame (by decide) (by decide) (by decide)) (by decide)
  have a2 : vStep (1, [⟨#[97]⟩]) (frameW 2 ⟨#[98]⟩) = (2, [⟨#[97]⟩, ⟨#[98]⟩]) := vStep_yes (openO_frame (by decide) (by decide) (by decide)) (by decide)
  have a3 : vStep (2, [⟨#[97]⟩, ⟨#[98]⟩]) (frameW 1 ⟨#[99]⟩) = (2, [⟨#[97]⟩, ⟨#[98]⟩]) := vStep_less (openO_frame (by decide) (by decide) (by decide)) (by decide)
  have a4 : vStep (2, [⟨#[97]⟩, ⟨#[98]⟩]) (frameW 2 ⟨#[100]⟩) = (2, [⟨#[97]⟩, ⟨#[98]⟩, ⟨#[100]⟩]) := vStep_yes (openO_frame (by decide) (by decide) (by decide)) (by decide)
  have a5 : vStep (2, [⟨#[97]⟩, ⟨#[98]⟩, ⟨#[100]⟩]) (frameW 3 ⟨#[101]⟩) = (3, [⟨#[97]⟩, ⟨#[98]⟩, ⟨#[100]⟩, ⟨#[101]⟩]) := vStep_yes (openO_frame (by decide) (by decide) (by decide)) (by decide)
  rw [a1, a2, a3, a4, a5]
section
variable {E : Entry} {sl : Slots} {ob : Objs} {d : Option Nat} {t ty T : TypeId} {p : String} {af : Array Edge} {g : Option (Nat × Bool)} {x y : Operand}
theorem rep_agg4 {w : World} {Pr : Prot} {v : Value} {a b c e : Int} (h : RepD w Pr v (.agg [.int a, .int b, .int c, .int e])) : v = .agg #[.int .i64 a, .int .i64 b, .int .i64 c, .int .i64 e] := by
  cases h with
  | agg cs l hl hd =>
    match cs, hl with
    | [v0, v1, v2, v3], _ =>
      have h0 := hd 0 _ _ rfl rfl
      have h1 := hd 1 _ _ rfl rfl
      have h2 := hd 2 _ _ rfl rfl
      have h3 := hd 3 _ _ rfl rfl
      cases h0
      cases h1
      cases h2
      cases h3
      rfl
theorem eqF {n : Nat} {xs ys : Array Value} {k : IntKind} {a b : Int} {f : Field} {fs : List Field} {w : World} (hn : f.name ≠ "_") (hp : Tryd.prog.plainKey f.type = true) (ht : Tryd.prog.underlying f.type = some (.int k)) (hx : xs[f.offset]? = some (.int k a)) (hy : ys[f.offset]? = some (.int k b)) :
    (Op.eqFields (n + 1) xs ys (f :: fs)).run Tryd.prog w = if a == b then (Op.eqFields (n + 1) xs ys fs).run Tryd.prog w else .ok false w := by
  simp only [Op.eqFields, if_pos hn, Sem.run_bind, run_part_plain w hp hx, run_part_plain w hp hy, Result.andThen_ok, run_equalIn_int w n f.type k k a b ht, Sem.run_ite]
  cases hab : (a == b)
  · simp [Sem.run_pure]
  · simp
theorem y_eqlse {a b c e a' b' c' e' : Int} (hx : ev sl x = .d (.agg [.int a, .int b, .int c, .int e])) (hy : ev sl y = .d (.agg [.int a', .int b', .int c', .int e'])) :
    Y E ⟨d, .binOp .eql 23 x y ty, T, p, af, g⟩ sl ob (.d (.bool (a == a' && b == b' && c == c' && e == e'))) := fun ac w Pr β κ h => by
  have h1 := rep_agg4 (good_rep h hx)
  have h2 := rep_agg4 (good_rep h hy)
  refine ⟨_, .d _ _ (.val _), fun w' _ => ?_⟩
  simp only [execOp, h1, h2]
  rw [Sem.run_bind, Sem.run_bind, run_eqGuard_agg w' .eql _ x y _ _ (by kernel_rfl)]
  simp only [Result.andThen]
  rw [run_eql_struct, run_equalIn_agg w' 9999 _ _ _ (by kernel_rfl) (by kernel_rfl)]
  have hq : ((Tryd.prog.fieldsOf 23).toList.map fun f => (f.name, f.type, f.offset)) = [("Who", 3, 0), ("Epoch", 3, 1), ("From", 3, 2), ("Until", 3, 3)] := by kernel_rfl
  generalize (Tryd.prog.fieldsOf 23).toList = fl at hq ⊢
  obtain ⟨f0, f1, f2, f3, rfl⟩ : ∃ f0 f1 f2 f3, fl = [f0, f1, f2, f3] := by
    have hl : fl.length = 4 := by simpa using congrArg List.length hq
    clear hq
    match fl, hl with
    | [f0, f1, f2, f3], _ => exact ⟨_, _, _, _, rfl⟩
  simp only [List.map_cons, List.map_nil, List.cons.injEq, Prod.mk.injEq, and_true] at hq
  obtain ⟨⟨n0, t0, o0⟩, ⟨n1, t1, o1⟩, ⟨n2, t2, o2⟩, ⟨n3, t3, o3⟩⟩ := hq
  have hp : Tryd.prog.plainKey 3 = true := by kernel_rfl
  have hu := Tryd.underlying3
  rw [eqF (by rw [n0]; decide) (by rw [t0]; exact hp) (by rw [t0]; exact hu) (by rw [o0]; rfl) (by rw [o0]; rfl), eqF (by rw [n1]; decide) (by rw [t1]; exact hp) (by rw [t1]; exact hu) (by rw [o1]; rfl) (by rw [o1]; rfl), eqF (by rw [n2]; decide) (by rw [t2]; exact hp) (by rw [t2]; exact hu) (by rw [o2]; rfl) (by rw [o2]; rfl), eqF (by rw [n3]; decide) (by rw [t3]; exact hp) (by rw [t3]; exact hu) (by rw [o3]; rfl) (by rw [o3]; rfl)]
  simp only [Op.eqFields]
  cases a == a' <;> cases b == b' <;> cases c == c' <;> cases e == e' <;> simp [Sem.run_pure]
end
end Go.Proofs.YtnaepobgpfhidaaDoor
