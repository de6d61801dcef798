/-
  What comes in: lists of numbers, of texts, of operations. Conditions: none.
-/
import Derived.Test.YtfgibalcdjlnhaaDoorMaw
namespace Go.Proofs.YtfgibalcdjlnhaaDoor
open Go.ChangeShapes Go.WideShapes Go.ChangeAt Go.RowKit Go.Deep Go.Joins

theorem max_of {n : Nat} (h : n ≤ maxLen) : n ≤ 9223372036854775807 := by unfold maxLen at h; omega
section
variable {H : Type} {enc : TypeId × Value → H} {w : World} {base : Nat}
theorem show_ints : Show enc Tryd.prog w base 23 1 (fun l : List Int => [.list 1 (l.map fun n => [.int n])]) (fun l => l.length ≤ maxLen ∧ ∀ e ∈ l, IntKind.i64.min ≤ e ∧ e ≤ IntKind.i64.max) :=
  show_list Tryd.underlying23 (by kernel_rfl) (by decide) (show_int Tryd.underlying3)
theorem show_texts : Show enc Tryd.prog w base 22 1 (fun l : List ByteArray => [.list 1 (l.map fun s => [.str s])]) (fun l => l.length ≤ maxLen ∧ ∀ e ∈ l, e.size ≤ maxLen) :=
  show_list Tryd.underlying22 (by kernel_rfl) (by decide) (show_string Tryd.underlying9)
/-- what comes in as an operation -/
structure Opn.In (o : Opn) : Prop where
  kind : i64 o.kind
  s : o.s.size ≤ 9223372036854775807
  n : i64 o.n
  keep : o.keep.length ≤ 9223372036854775807
end
end Go.Proofs.YtfgibalcdjlnhaaDoor
