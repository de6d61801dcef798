/-
  Values that came in. Conditions: none.
-/
import Derived.Test.YtliagfabkkcohaaDoorShow
import Derived.Test.YtliagfabkkcohaaDoorWalkH
namespace Go.Proofs.YtliagfabkkcohaaDoor
open Go.ChangeShapes Go.WideShapes Go.ChangeAt Go.RowKit Go.Deep Go.Joins

section
variable {H : Type} {enc : TypeId × Value → H} {w : World} {base : Nat}
theorem show_ints : Show enc Tryd.prog w base 22 1 (fun l : List Int => [.list 1 (l.map fun n => [.int n])]) (fun l => l.length ≤ maxLen ∧ ∀ n ∈ l, isInt n) :=
  show_list Tryd.underlying22 (by kernel_rfl) (by decide) (show_int Tryd.underlying3)
theorem show_texts : Show enc Tryd.prog w base 23 1 (fun l : List ByteArray => [.list 1 (l.map fun s => [.str s])]) (fun l => l.length ≤ maxLen ∧ ∀ s ∈ l, s.size ≤ maxLen) :=
  show_list Tryd.underlying23 (by kernel_rfl) (by decide) (show_string Tryd.underlying9)
theorem show_val : Show enc Tryd.prog w base 25 5 Val.cells (fun v => v.ok ∧ v.l.length ≤ maxLen ∧ v.t.length ≤ maxLen ∧ v.s.size ≤ maxLen ∧ ∀ s ∈ v.t, s.size ≤ maxLen) :=
  (show_struct Tryd.underlying25 (by kernel_rfl) (shows_cons (show_int Tryd.underlying3) rfl (by kernel_rfl) (shows_cons (show_int Tryd.underlying3) rfl (by kernel_rfl)
    (shows_cons (show_string Tryd.underlying9) rfl (by kernel_rfl) (shows_cons show_ints rfl (by kernel_rfl) (shows_cons show_texts rfl (by kernel_rfl) shows_nil)))))).as Val.cells _
    (fun x => ⟨x.1, x.2.1, x.2.2.1, x.2.2.2.1, x.2.2.2.2.1⟩) (fun _ => rfl) (fun x ⟨h1, h2, h3, h4, h5, _⟩ => ⟨⟨h1, h2, h4.2⟩, h4.1, h5.1, h3, h5.2⟩)
theorem show_vals : Show enc Tryd.prog w base 28 1 (fun l : List Val => [.list 5 (l.map Val.cells)]) (fun l => l.length ≤ maxLen ∧ ∀ v ∈ l, v.ok ∧ v.l.length ≤ maxLen ∧ v.t.length ≤ maxLen ∧ v.s.size ≤ maxLen ∧ ∀ s ∈ v.t, s.size ≤ maxLen) :=
  show_list Tryd.underlying28 (by kernel_rfl) (by decide) show_val
end
end Go.Proofs.YtliagfabkkcohaaDoor
