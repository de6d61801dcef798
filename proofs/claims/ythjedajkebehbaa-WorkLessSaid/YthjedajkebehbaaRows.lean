/-
  No cell of these rows narrows 'for every input' (looked for: loops, veiled, ifaces, maps, wideKeys, modest, calm, conditions, laid).
  DERIVED. THE GIVEN ROWS OF THIS SEAT. 4 by the template 'for every input the law returns true; each argument reads behind the call as it read before'; 0 by the template 'total and deterministic' (their statements: YthjedajkebehbaaTotals.lean).
  GIVEN WITH THE SEED: the statements are not yours to turn. If you find one false, say at which input.
  Laid BY PROGRAM, IN A SANDBOX (cutbox-rows.mjs): the forced cells as the released guide's own fill.sh prints them over the translation 4353fe3b218d310d… (all of the seat's roots in one cut). By AI agents, Wed Nov 11 2026. No macro, syntax, notation, axiom, sorry.
-/
import Derived.Test.YthjedajkebehbaaChecked
import GoSem.Claim
import GoSem.ClaimJoined
import GoSem.ClaimMapViews
import Derived.JoinedTies
import Derived.KernelRfl
namespace Go.Proofs.Ythjedajkebehbaa
/- THE CELL 'sum', in the pinned program and in every row, IS THE sha256 OF THE DUMP (.gsa) THAT YthjedajkebehbaaProg.lean LOADS. Nothing in Lean hashes anything: it is a label: what it is worth is what the hold of that sum in a sandbox is worth. -/
noncomputable def Try.pinned : Pinned := { name := "ythjedajkebehbaa", sum := "4353fe3b218d310dc528c9063f9d548979aad01d56f8d5b3b8e226e34411b6ca", checked := Try.checked }
namespace Rows
def none {H : Type} : Left H := { results := [], args := [] }

/-- 'tonneaulaw19.WorkTells': WHATEVER THE INPUT: true; the input reads as it did. -/
def workTellsSpec : ChangeSpec := { name := "workTells", fn := fun _ => fun
  | [d1, d2, d3] => { results := [.lit (.bool true)], args := [d1, d2, d3] }
  | _ => none }
def workTellsRow : OpenClaim := { program := "ythjedajkebehbaa", sum := "4353fe3b218d310dc528c9063f9d548979aad01d56f8d5b3b8e226e34411b6ca", func := "tonneau/tonneaulaw19.WorkTells", spec := "workTells", unfollowed := true, recurses := true, apart := false }
def WorkTellsSaid : Prop := workTellsRow.holds Try.pinned (OpenSpec.ofChange workTellsSpec)

/-- ITS FALSE NEIGHBOUR: 'it returns false'. Refute it at one input. -/
def workTellsWrong : ChangeSpec := { name := "workTells", fn := fun _ => fun
  | [d1, d2, d3] => { results := [.lit (.bool false)], args := [d1, d2, d3] }
  | _ => none }
def WorkTellsWrongFalsely : Prop := workTellsRow.holds Try.pinned (OpenSpec.ofChange workTellsWrong)

/-- 'tonneaulaw19.WorkWorst': WHATEVER THE INPUT: true; the input reads as it did. -/
def workWorstSpec : ChangeSpec := { name := "workWorst", fn := fun _ => fun
  | [d1, d2, d3, d4, d5] => { results := [.lit (.bool true)], args := [d1, d2, d3, d4, d5] }
  | _ => none }
def workWorstRow : OpenClaim := { program := "ythjedajkebehbaa", sum := "4353fe3b218d310dc528c9063f9d548979aad01d56f8d5b3b8e226e34411b6ca", func := "tonneau/tonneaulaw19.WorkWorst", spec := "workWorst", unfollowed := true, recurses := true, apart := false }
def WorkWorstSaid : Prop := workWorstRow.holds Try.pinned (OpenSpec.ofChange workWorstSpec)

/-- ITS FALSE NEIGHBOUR: 'it returns false'. Refute it at one input. -/
def workWorstWrong : ChangeSpec := { name := "workWorst", fn := fun _ => fun
  | [d1, d2, d3, d4, d5] => { results := [.lit (.bool false)], args := [d1, d2, d3, d4, d5] }
  | _ => none }
def WorkWorstWrongFalsely : Prop := workWorstRow.holds Try.pinned (OpenSpec.ofChange workWorstWrong)

/-- 'tonneaulaw19.WorkSpare': WHATEVER THE INPUT: true; the input reads as it did. -/
def workSpareSpec : ChangeSpec := { name := "workSpare", fn := fun _ => fun
  | [d1, d2, d3, d4] => { results := [.lit (.bool true)], args := [d1, d2, d3, d4] }
  | _ => none }
def workSpareRow : OpenClaim := { program := "ythjedajkebehbaa", sum := "4353fe3b218d310dc528c9063f9d548979aad01d56f8d5b3b8e226e34411b6ca", func := "tonneau/tonneaulaw19.WorkSpare", spec := "workSpare", unfollowed := true, recurses := true, apart := false }
def WorkSpareSaid : Prop := workSpareRow.holds Try.pinned (OpenSpec.ofChange workSpareSpec)

/-- ITS FALSE NEIGHBOUR: 'it returns false'. Refute it at one input. -/
def workSpareWrong : ChangeSpec := { name := "workSpare", fn := fun _ => fun
  | [d1, d2, d3, d4] => { results := [.lit (.bool false)], args := [d1, d2, d3, d4] }
  | _ => none }
def WorkSpareWrongFalsely : Prop := workSpareRow.holds Try.pinned (OpenSpec.ofChange workSpareWrong)

/-- 'tonneaulaw19.WorkLess': WHATEVER THE INPUT: true; the input reads as it did. -/
def workLessSpec : ChangeSpec := { name := "workLess", fn := fun _ => fun
  | [d1, d2, d3, d4, d5] => { results := [.lit (.bool true)], args := [d1, d2, d3, d4, d5] }
  | _ => none }
def workLessRow : OpenClaim := { program := "ythjedajkebehbaa", sum := "4353fe3b218d310dc528c9063f9d548979aad01d56f8d5b3b8e226e34411b6ca", func := "tonneau/tonneaulaw19.WorkLess", spec := "workLess", unfollowed := true, recurses := true, apart := false }
def WorkLessSaid : Prop := workLessRow.holds Try.pinned (OpenSpec.ofChange workLessSpec)

/-- ITS FALSE NEIGHBOUR: 'it returns false'. Refute it at one input. -/
def workLessWrong : ChangeSpec := { name := "workLess", fn := fun _ => fun
  | [d1, d2, d3, d4, d5] => { results := [.lit (.bool false)], args := [d1, d2, d3, d4, d5] }
  | _ => none }
def WorkLessWrongFalsely : Prop := workLessRow.holds Try.pinned (OpenSpec.ofChange workLessWrong)

/- THE SECOND FORM. 'bulk': how many values and letters a reading holds, each counted each time it is reached (what is shared counts as often as it is met; a slice's spare places count too). A statement '..UptoSaid' is the law's where the arguments, and the package variables that the reading takes, are together of bulk at most 1048576: NARROWER than '..Said'. Prove '..Said' where nothing that the law and all that it calls make is longer than what came in: it says more and counts as full. Else prove '..UptoSaid'. A law counts once. -/
mutual
def uptoBulk {H : Type} : DataW H → Nat
  | .lit (.string bytes) => bytes.length + 1
  | .lit _ => 1
  | .nil => 1
  | .ptr d => uptoBulk d + 1
  | .slice elems spare => uptoBulkAll elems + uptoBulkAll spare + 1
  | .agg parts => uptoBulkAll parts + 1
  | .iface _ d => uptoBulk d + 1
  | .map entries => uptoBulkEntries entries + 1
  | .held _ => 1
def uptoBulkAll {H : Type} : List (DataW H) → Nat
  | [] => 0
  | d :: r => uptoBulk d + uptoBulkAll r
def uptoBulkEntries {H : Type} : List (Lit × DataW H) → Nat
  | [] => 0
  | x :: r => uptoBulkEntry x + uptoBulkEntries r
def uptoBulkEntry {H : Type} : Lit × DataW H → Nat
  | (.string bytes, d) => bytes.length + uptoBulk d + 1
  | (_, d) => uptoBulk d + 1
 end
def uptoSmall : (H : Type) → List (DataW H) → Bool := fun _ ds => decide (uptoBulkAll ds ≤ 1048576)
def OpenSpec.upto (s : _root_.Go.ChangeSpec) : _root_.Go.OpenSpec := { _root_.Go.OpenSpec.ofChange s with cond := some uptoSmall }

/-- 'tonneaulaw19.WorkTells', WHERE WHAT IT READS IS OF BULK AT MOST 1048576: true; the input reads as it did. -/
def workTellsUptoRow : OpenClaim := { program := "ythjedajkebehbaa", sum := "4353fe3b218d310dc528c9063f9d548979aad01d56f8d5b3b8e226e34411b6ca", func := "tonneau/tonneaulaw19.WorkTells", spec := "workTells", unfollowed := true, recurses := true, apart := false, narrowed := true }
def WorkTellsUptoSaid : Prop := workTellsUptoRow.holds Try.pinned (OpenSpec.upto workTellsSpec)

/-- 'tonneaulaw19.WorkWorst', WHERE WHAT IT READS IS OF BULK AT MOST 1048576: true; the input reads as it did. -/
def workWorstUptoRow : OpenClaim := { program := "ythjedajkebehbaa", sum := "4353fe3b218d310dc528c9063f9d548979aad01d56f8d5b3b8e226e34411b6ca", func := "tonneau/tonneaulaw19.WorkWorst", spec := "workWorst", unfollowed := true, recurses := true, apart := false, narrowed := true }
def WorkWorstUptoSaid : Prop := workWorstUptoRow.holds Try.pinned (OpenSpec.upto workWorstSpec)

/-- 'tonneaulaw19.WorkSpare', WHERE WHAT IT READS IS OF BULK AT MOST 1048576: true; the input reads as it did. -/
def workSpareUptoRow : OpenClaim := { program := "ythjedajkebehbaa", sum := "4353fe3b218d310dc528c9063f9d548979aad01d56f8d5b3b8e226e34411b6ca", func := "tonneau/tonneaulaw19.WorkSpare", spec := "workSpare", unfollowed := true, recurses := true, apart := false, narrowed := true }
def WorkSpareUptoSaid : Prop := workSpareUptoRow.holds Try.pinned (OpenSpec.upto workSpareSpec)

/-- 'tonneaulaw19.WorkLess', WHERE WHAT IT READS IS OF BULK AT MOST 1048576: true; the input reads as it did. -/
def workLessUptoRow : OpenClaim := { program := "ythjedajkebehbaa", sum := "4353fe3b218d310dc528c9063f9d548979aad01d56f8d5b3b8e226e34411b6ca", func := "tonneau/tonneaulaw19.WorkLess", spec := "workLess", unfollowed := true, recurses := true, apart := false, narrowed := true }
def WorkLessUptoSaid : Prop := workLessUptoRow.holds Try.pinned (OpenSpec.upto workLessSpec)

end Rows
end Go.Proofs.Ythjedajkebehbaa
