/-
  No cell of these rows narrows 'for every input' (looked for: loops, veiled, ifaces, maps, wideKeys, modest, calm, conditions, laid).
  DERIVED. THE GIVEN ROWS OF THIS SEAT. 5 by the template 'for every input the law returns true; each argument reads behind the call as it read before'; 0 by the template 'total and deterministic' (their statements: YteahkgoedibimaaTotals.lean).
  GIVEN WITH THE SEED: the statements are not yours to turn. If you find one false, say at which input.
  Laid BY PROGRAM, IN A SANDBOX (cutbox-rows.mjs): the forced cells as the released guide's own fill.sh prints them over the translation 4c963f110affc657… (all of the seat's roots in one cut). By AI agents, Wed Nov 11 2026. No macro, syntax, notation, axiom, sorry.
-/
import Derived.Test.YteahkgoedibimaaChecked
import GoSem.Claim
import GoSem.ClaimJoined
import GoSem.ClaimMapViews
import Derived.JoinedTies
import Derived.KernelRfl
namespace Go.Proofs.Yteahkgoedibimaa
/- THE CELL 'sum', in the pinned program and in every row, IS THE sha256 OF THE DUMP (.gsa) THAT YteahkgoedibimaaProg.lean LOADS. Nothing in Lean hashes anything: it is a label: what it is worth is what the hold of that sum in a sandbox is worth. -/
noncomputable def Try.pinned : Pinned := { name := "yteahkgoedibimaa", sum := "4c963f110affc657145451f0717e046c28d1041fa817090fb5cd69cc52f63e63", checked := Try.checked }
namespace Rows
def none {H : Type} : Left H := { results := [], args := [] }

/-- 'tonneaulaw16.ReactTells': WHATEVER THE INPUT: true; the input reads as it did. -/
def reactTellsSpec : ChangeSpec := { name := "reactTells", fn := fun _ => fun
  | [d1, d2, d3, d4] => { results := [.lit (.bool true)], args := [d1, d2, d3, d4] }
  | _ => none }
def reactTellsRow : OpenClaim := { program := "yteahkgoedibimaa", sum := "4c963f110affc657145451f0717e046c28d1041fa817090fb5cd69cc52f63e63", func := "tonneau/tonneaulaw16.ReactTells", spec := "reactTells", unfollowed := true, recurses := true, apart := false }
def ReactTellsSaid : Prop := reactTellsRow.holds Try.pinned (OpenSpec.ofChange reactTellsSpec)

/-- ITS FALSE NEIGHBOUR: 'it returns false'. Refute it at one input. -/
def reactTellsWrong : ChangeSpec := { name := "reactTells", fn := fun _ => fun
  | [d1, d2, d3, d4] => { results := [.lit (.bool false)], args := [d1, d2, d3, d4] }
  | _ => none }
def ReactTellsWrongFalsely : Prop := reactTellsRow.holds Try.pinned (OpenSpec.ofChange reactTellsWrong)

/-- 'tonneaulaw16.ReactKeeps': WHATEVER THE INPUT: true; the input reads as it did. -/
def reactKeepsSpec : ChangeSpec := { name := "reactKeeps", fn := fun _ => fun
  | [d1, d2] => { results := [.lit (.bool true)], args := [d1, d2] }
  | _ => none }
def reactKeepsRow : OpenClaim := { program := "yteahkgoedibimaa", sum := "4c963f110affc657145451f0717e046c28d1041fa817090fb5cd69cc52f63e63", func := "tonneau/tonneaulaw16.ReactKeeps", spec := "reactKeeps", unfollowed := true, recurses := true, apart := false }
def ReactKeepsSaid : Prop := reactKeepsRow.holds Try.pinned (OpenSpec.ofChange reactKeepsSpec)

/-- ITS FALSE NEIGHBOUR: 'it returns false'. Refute it at one input. -/
def reactKeepsWrong : ChangeSpec := { name := "reactKeeps", fn := fun _ => fun
  | [d1, d2] => { results := [.lit (.bool false)], args := [d1, d2] }
  | _ => none }
def ReactKeepsWrongFalsely : Prop := reactKeepsRow.holds Try.pinned (OpenSpec.ofChange reactKeepsWrong)

/-- 'tonneaulaw16.ReactOnly': WHATEVER THE INPUT: true; the input reads as it did. -/
def reactOnlySpec : ChangeSpec := { name := "reactOnly", fn := fun _ => fun
  | [d] => { results := [.lit (.bool true)], args := [d] }
  | _ => none }
def reactOnlyRow : OpenClaim := { program := "yteahkgoedibimaa", sum := "4c963f110affc657145451f0717e046c28d1041fa817090fb5cd69cc52f63e63", func := "tonneau/tonneaulaw16.ReactOnly", spec := "reactOnly", unfollowed := true, recurses := true, apart := false }
def ReactOnlySaid : Prop := reactOnlyRow.holds Try.pinned (OpenSpec.ofChange reactOnlySpec)

/-- ITS FALSE NEIGHBOUR: 'it returns false'. Refute it at one input. -/
def reactOnlyWrong : ChangeSpec := { name := "reactOnly", fn := fun _ => fun
  | [d] => { results := [.lit (.bool false)], args := [d] }
  | _ => none }
def ReactOnlyWrongFalsely : Prop := reactOnlyRow.holds Try.pinned (OpenSpec.ofChange reactOnlyWrong)

/-- 'tonneaulaw16.ReactPast': WHATEVER THE INPUT: true; the input reads as it did. -/
def reactPastSpec : ChangeSpec := { name := "reactPast", fn := fun _ => fun
  | [d1, d2, d3, d4, d5] => { results := [.lit (.bool true)], args := [d1, d2, d3, d4, d5] }
  | _ => none }
def reactPastRow : OpenClaim := { program := "yteahkgoedibimaa", sum := "4c963f110affc657145451f0717e046c28d1041fa817090fb5cd69cc52f63e63", func := "tonneau/tonneaulaw16.ReactPast", spec := "reactPast", unfollowed := true, recurses := true, apart := false }
def ReactPastSaid : Prop := reactPastRow.holds Try.pinned (OpenSpec.ofChange reactPastSpec)

/-- ITS FALSE NEIGHBOUR: 'it returns false'. Refute it at one input. -/
def reactPastWrong : ChangeSpec := { name := "reactPast", fn := fun _ => fun
  | [d1, d2, d3, d4, d5] => { results := [.lit (.bool false)], args := [d1, d2, d3, d4, d5] }
  | _ => none }
def ReactPastWrongFalsely : Prop := reactPastRow.holds Try.pinned (OpenSpec.ofChange reactPastWrong)

/-- 'tonneaulaw16.ReactMore': WHATEVER THE INPUT: true; the input reads as it did. -/
def reactMoreSpec : ChangeSpec := { name := "reactMore", fn := fun _ => fun
  | [d1, d2, d3] => { results := [.lit (.bool true)], args := [d1, d2, d3] }
  | _ => none }
def reactMoreRow : OpenClaim := { program := "yteahkgoedibimaa", sum := "4c963f110affc657145451f0717e046c28d1041fa817090fb5cd69cc52f63e63", func := "tonneau/tonneaulaw16.ReactMore", spec := "reactMore", unfollowed := true, recurses := true, apart := false }
def ReactMoreSaid : Prop := reactMoreRow.holds Try.pinned (OpenSpec.ofChange reactMoreSpec)

/-- ITS FALSE NEIGHBOUR: 'it returns false'. Refute it at one input. -/
def reactMoreWrong : ChangeSpec := { name := "reactMore", fn := fun _ => fun
  | [d1, d2, d3] => { results := [.lit (.bool false)], args := [d1, d2, d3] }
  | _ => none }
def ReactMoreWrongFalsely : Prop := reactMoreRow.holds Try.pinned (OpenSpec.ofChange reactMoreWrong)

/- THE SECOND FORM. 'bulk': how many values and letters a reading holds, each counted each time it is reached (what is shared counts as often as it is met; a slice's spare places count too). A statement '..UptoSaid' is the law's where the arguments, and the package variables that the reading takes, are together of bulk at most 1048576: NARROWER than '..Said'. Prove '..Said' where nothing that the law and all that it calls make is longer than what came in: it says more and counts as full. Else prove '..UptoSaid'. A law counts once. -/
mutual
def uptoBulk {H : Type} : DataW H → Nat
  | .lit (.string bytes) => bytes.length + 1
  | .lit _ => 1
  | .nil => 1
  | .ptr d => uptoBulk d + 1
  | .slice elems spare => uptoBulkAll elems + uptoBulkAll spare + 1
  | .agg parts => uptoBulkAll parts + 1
  | .iface _ d => uptoBulk d + 1
  | .map entries => uptoBulkEntries entries + 1
  | .held _ => 1
def uptoBulkAll {H : Type} : List (DataW H) → Nat
  | [] => 0
  | d :: r => uptoBulk d + uptoBulkAll r
def uptoBulkEntries {H : Type} : List (Lit × DataW H) → Nat
  | [] => 0
  | x :: r => uptoBulkEntry x + uptoBulkEntries r
def uptoBulkEntry {H : Type} : Lit × DataW H → Nat
  | (.string bytes, d) => bytes.length + uptoBulk d + 1
  | (_, d) => uptoBulk d + 1
 end
def uptoSmall : (H : Type) → List (DataW H) → Bool := fun _ ds => decide (uptoBulkAll ds ≤ 1048576)
def OpenSpec.upto (s : _root_.Go.ChangeSpec) : _root_.Go.OpenSpec := { _root_.Go.OpenSpec.ofChange s with cond := some uptoSmall }

/-- 'tonneaulaw16.ReactTells', WHERE WHAT IT READS IS OF BULK AT MOST 1048576: true; the input reads as it did. -/
def reactTellsUptoRow : OpenClaim := { program := "yteahkgoedibimaa", sum := "4c963f110affc657145451f0717e046c28d1041fa817090fb5cd69cc52f63e63", func := "tonneau/tonneaulaw16.ReactTells", spec := "reactTells", unfollowed := true, recurses := true, apart := false, narrowed := true }
def ReactTellsUptoSaid : Prop := reactTellsUptoRow.holds Try.pinned (OpenSpec.upto reactTellsSpec)

/-- 'tonneaulaw16.ReactKeeps', WHERE WHAT IT READS IS OF BULK AT MOST 1048576: true; the input reads as it did. -/
def reactKeepsUptoRow : OpenClaim := { program := "yteahkgoedibimaa", sum := "4c963f110affc657145451f0717e046c28d1041fa817090fb5cd69cc52f63e63", func := "tonneau/tonneaulaw16.ReactKeeps", spec := "reactKeeps", unfollowed := true, recurses := true, apart := false, narrowed := true }
def ReactKeepsUptoSaid : Prop := reactKeepsUptoRow.holds Try.pinned (OpenSpec.upto reactKeepsSpec)

/-- 'tonneaulaw16.ReactOnly', WHERE WHAT IT READS IS OF BULK AT MOST 1048576: true; the input reads as it did. -/
def reactOnlyUptoRow : OpenClaim := { program := "yteahkgoedibimaa", sum := "4c963f110affc657145451f0717e046c28d1041fa817090fb5cd69cc52f63e63", func := "tonneau/tonneaulaw16.ReactOnly", spec := "reactOnly", unfollowed := true, recurses := true, apart := false, narrowed := true }
def ReactOnlyUptoSaid : Prop := reactOnlyUptoRow.holds Try.pinned (OpenSpec.upto reactOnlySpec)

/-- 'tonneaulaw16.ReactPast', WHERE WHAT IT READS IS OF BULK AT MOST 1048576: true; the input reads as it did. -/
def reactPastUptoRow : OpenClaim := { program := "yteahkgoedibimaa", sum := "4c963f110affc657145451f0717e046c28d1041fa817090fb5cd69cc52f63e63", func := "tonneau/tonneaulaw16.ReactPast", spec := "reactPast", unfollowed := true, recurses := true, apart := false, narrowed := true }
def ReactPastUptoSaid : Prop := reactPastUptoRow.holds Try.pinned (OpenSpec.upto reactPastSpec)

/-- 'tonneaulaw16.ReactMore', WHERE WHAT IT READS IS OF BULK AT MOST 1048576: true; the input reads as it did. -/
def reactMoreUptoRow : OpenClaim := { program := "yteahkgoedibimaa", sum := "4c963f110affc657145451f0717e046c28d1041fa817090fb5cd69cc52f63e63", func := "tonneau/tonneaulaw16.ReactMore", spec := "reactMore", unfollowed := true, recurses := true, apart := false, narrowed := true }
def ReactMoreUptoSaid : Prop := reactMoreUptoRow.holds Try.pinned (OpenSpec.upto reactMoreSpec)

end Rows
end Go.Proofs.Yteahkgoedibimaa
