/-
  The equations by which values are brought to their plain form, in one: so that a walk names one. Conditions: none.
-/
import Derived.Test.YtabaflklognhaaaAbsRow
namespace Go.Proofs.Ytabaflklognhaaa

theorem normList {α : Type} : (∀ (n : Nat) (x : α) l, List.take (n + 1) (x :: l) = x :: l.take n) ∧ (∀ l : List α, l.take 0 = []) ∧
    (∀ (n : Nat) (x : α) l, List.drop (n + 1) (x :: l) = l.drop n) ∧ (∀ l : List α, l.drop 0 = l) ∧ (∀ (x : α) l m, (x :: l) ++ m = x :: (l ++ m)) ∧ (∀ l : List α, [] ++ l = l) ∧ (∀ l : List α, l ++ [] = l) ∧
    (∀ (x : α) l, (x :: l).length = l.length + 1) ∧ (([] : List α).length = 0) ∧ (∀ n : Nat, List.drop n ([] : List α) = []) ∧ (∀ n : Nat, List.take n ([] : List α) = []) ∧
    (∀ (x : α) l, (x :: l)[0]? = some x) ∧ (∀ (x : α) l (n : Nat), (x :: l)[n + 1]? = l[n]?) ∧ (∀ (h : Decidable True) (a b : α), @ite α True h a b = a) := by
  refine ⟨fun _ _ _ => rfl, fun _ => rfl, fun _ _ _ => rfl, fun _ => rfl, fun _ _ _ => rfl, fun _ => rfl, fun _ => List.append_nil _, fun _ _ => rfl, rfl, fun _ => List.drop_nil, fun _ => List.take_nil, fun _ _ => rfl, fun _ _ _ => rfl, fun _ _ _ => if_pos trivial⟩
theorem normMap {α β : Type} : (∀ (f : α → β) x l, List.map f (x :: l) = f x :: l.map f) ∧ (∀ f : α → β, List.map f [] = []) ∧ (∀ (f : α → β) x, Option.map f (some x) = some (f x)) := ⟨fun _ _ _ => rfl, fun _ => rfl, fun _ _ => rfl⟩
theorem normV : (∀ (l : List V) o n, put l o n = l.take o ++ n ++ l.drop (o + n.length)) ∧ (∀ (l : List D) o n, putD l o n = l.take o ++ n ++ l.drop (o + n.length)) ∧
    (∀ l, cellsV (.d (.agg l)) = l.map V.d) ∧ (∀ l, cellsV (.agg l) = l) ∧ (∀ v, cellsV (.d (.val v)) = v.cells.toList.map fun u => .d (.val u)) ∧ (∀ i k, cellsV (.row i k) = [.row i k]) ∧ (∀ i k, cellsV (.box i k) = [.box i k]) ∧
    (∀ s l, cellsV (.d (.list s l)) = [.d (.list s l)]) ∧ (∀ l, cellsD (.agg l) = l) ∧ (∀ v, cellsD (.val v) = v.cells.toList.map D.val) ∧ (∀ s l, cellsD (.list s l) = [.list s l]) ∧
    (∀ s l, chunk s 0 l = []) ∧ (∀ s n l, chunk s (n + 1) l = l.take s :: chunk s n (l.drop s)) ∧ (unD [] = some []) ∧ (∀ x r, unD (.d x :: r) = (unD r).map (x :: ·)) ∧
    (∀ k n, (Value.int k n).cells = #[.int k n]) ∧ (∀ s, (Value.string s).cells = #[.string s]) ∧ (∀ b, (Value.bool b).cells = #[.bool b]) ∧ (∀ a n c, (Value.slice a n c).cells = #[.slice a n c]) ∧ (∀ xs, (Value.agg xs).cells = xs) ∧
    (∀ f ds, dfill f ds [] = some ds) ∧ (∀ n : Nat, 0 + n = n) ∧ (∀ n : Nat, (n ≤ n) = True) ∧ (∀ p : Prop, (p ∧ p) = p) := by
  refine ⟨fun _ _ _ => rfl, fun _ _ _ => rfl, fun _ => rfl, fun _ => rfl, fun _ => rfl, fun _ _ => rfl, fun _ _ => rfl, fun _ _ => rfl, fun _ => rfl, fun _ => rfl, fun _ _ => rfl, fun _ _ => rfl, fun _ _ _ => rfl, rfl, fun _ _ => rfl, fun _ _ => rfl, fun _ => rfl, fun _ => rfl, fun _ _ _ => rfl, fun _ => rfl, fun _ _ => rfl, Nat.zero_add, fun n => eq_true (Nat.le_refl n), fun p => and_self p⟩
end Go.Proofs.Ytabaflklognhaaa
