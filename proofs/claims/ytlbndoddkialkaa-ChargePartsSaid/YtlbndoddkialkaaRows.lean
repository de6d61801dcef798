/-
  No cell of these rows narrows 'for every input' (looked for: loops, veiled, ifaces, maps, wideKeys, modest, calm, conditions, laid).
  DERIVED. THE GIVEN ROWS OF THIS SEAT. 4 by the template 'for every input the law returns true; each argument reads behind the call as it read before'; 0 by the template 'total and deterministic' (their statements: YtlbndoddkialkaaTotals.lean).
  GIVEN WITH THE SEED: the statements are not yours to turn. If you find one false, say at which input.
  Laid BY PROGRAM, IN A SANDBOX (cutbox-rows.mjs): the forced cells as the released guide's own fill.sh prints them over the translation 105b947065cbeb8e… (all of the seat's roots in one cut). By AI agents, Wed Nov 11 2026. No macro, syntax, notation, axiom, sorry.
-/
import Derived.Test.YtlbndoddkialkaaChecked
import GoSem.Claim
import GoSem.ClaimJoined
import GoSem.ClaimMapViews
import Derived.JoinedTies
import Derived.KernelRfl
namespace Go.Proofs.Ytlbndoddkialkaa
/- THE CELL 'sum', in the pinned program and in every row, IS THE sha256 OF THE DUMP (.gsa) THAT YtlbndoddkialkaaProg.lean LOADS. Nothing in Lean hashes anything: it is a label: what it is worth is what the hold of that sum in a sandbox is worth. -/
noncomputable def Try.pinned : Pinned := { name := "ytlbndoddkialkaa", sum := "105b947065cbeb8e7b519378ef05f3c2b700f0b75fbe1d32c1e80acec1eb0329", checked := Try.checked }
namespace Rows
def none {H : Type} : Left H := { results := [], args := [] }

/-- 'tonneaulaw18.ChargeTells': WHATEVER THE INPUT: true; the input reads as it did. -/
def chargeTellsSpec : ChangeSpec := { name := "chargeTells", fn := fun _ => fun
  | [d1, d2, d3] => { results := [.lit (.bool true)], args := [d1, d2, d3] }
  | _ => none }
def chargeTellsRow : OpenClaim := { program := "ytlbndoddkialkaa", sum := "105b947065cbeb8e7b519378ef05f3c2b700f0b75fbe1d32c1e80acec1eb0329", func := "tonneau/tonneaulaw18.ChargeTells", spec := "chargeTells", unfollowed := true, recurses := true, apart := false }
def ChargeTellsSaid : Prop := chargeTellsRow.holds Try.pinned (OpenSpec.ofChange chargeTellsSpec)

/-- ITS FALSE NEIGHBOUR: 'it returns false'. Refute it at one input. -/
def chargeTellsWrong : ChangeSpec := { name := "chargeTells", fn := fun _ => fun
  | [d1, d2, d3] => { results := [.lit (.bool false)], args := [d1, d2, d3] }
  | _ => none }
def ChargeTellsWrongFalsely : Prop := chargeTellsRow.holds Try.pinned (OpenSpec.ofChange chargeTellsWrong)

/-- 'tonneaulaw18.ChargeHolds': WHATEVER THE INPUT: true; the input reads as it did. -/
def chargeHoldsSpec : ChangeSpec := { name := "chargeHolds", fn := fun _ => fun
  | [d1, d2, d3, d4] => { results := [.lit (.bool true)], args := [d1, d2, d3, d4] }
  | _ => none }
def chargeHoldsRow : OpenClaim := { program := "ytlbndoddkialkaa", sum := "105b947065cbeb8e7b519378ef05f3c2b700f0b75fbe1d32c1e80acec1eb0329", func := "tonneau/tonneaulaw18.ChargeHolds", spec := "chargeHolds", unfollowed := true, recurses := true, apart := false }
def ChargeHoldsSaid : Prop := chargeHoldsRow.holds Try.pinned (OpenSpec.ofChange chargeHoldsSpec)

/-- ITS FALSE NEIGHBOUR: 'it returns false'. Refute it at one input. -/
def chargeHoldsWrong : ChangeSpec := { name := "chargeHolds", fn := fun _ => fun
  | [d1, d2, d3, d4] => { results := [.lit (.bool false)], args := [d1, d2, d3, d4] }
  | _ => none }
def ChargeHoldsWrongFalsely : Prop := chargeHoldsRow.holds Try.pinned (OpenSpec.ofChange chargeHoldsWrong)

/-- 'tonneaulaw18.ChargeNeeds': WHATEVER THE INPUT: true; the input reads as it did. -/
def chargeNeedsSpec : ChangeSpec := { name := "chargeNeeds", fn := fun _ => fun
  | [d1, d2, d3, d4] => { results := [.lit (.bool true)], args := [d1, d2, d3, d4] }
  | _ => none }
def chargeNeedsRow : OpenClaim := { program := "ytlbndoddkialkaa", sum := "105b947065cbeb8e7b519378ef05f3c2b700f0b75fbe1d32c1e80acec1eb0329", func := "tonneau/tonneaulaw18.ChargeNeeds", spec := "chargeNeeds", unfollowed := true, recurses := true, apart := false }
def ChargeNeedsSaid : Prop := chargeNeedsRow.holds Try.pinned (OpenSpec.ofChange chargeNeedsSpec)

/-- ITS FALSE NEIGHBOUR: 'it returns false'. Refute it at one input. -/
def chargeNeedsWrong : ChangeSpec := { name := "chargeNeeds", fn := fun _ => fun
  | [d1, d2, d3, d4] => { results := [.lit (.bool false)], args := [d1, d2, d3, d4] }
  | _ => none }
def ChargeNeedsWrongFalsely : Prop := chargeNeedsRow.holds Try.pinned (OpenSpec.ofChange chargeNeedsWrong)

/-- 'tonneaulaw18.ChargeParts': WHATEVER THE INPUT: true; the input reads as it did. -/
def chargePartsSpec : ChangeSpec := { name := "chargeParts", fn := fun _ => fun
  | [d1, d2, d3, d4] => { results := [.lit (.bool true)], args := [d1, d2, d3, d4] }
  | _ => none }
def chargePartsRow : OpenClaim := { program := "ytlbndoddkialkaa", sum := "105b947065cbeb8e7b519378ef05f3c2b700f0b75fbe1d32c1e80acec1eb0329", func := "tonneau/tonneaulaw18.ChargeParts", spec := "chargeParts", unfollowed := true, recurses := true, apart := false }
def ChargePartsSaid : Prop := chargePartsRow.holds Try.pinned (OpenSpec.ofChange chargePartsSpec)

/-- ITS FALSE NEIGHBOUR: 'it returns false'. Refute it at one input. -/
def chargePartsWrong : ChangeSpec := { name := "chargeParts", fn := fun _ => fun
  | [d1, d2, d3, d4] => { results := [.lit (.bool false)], args := [d1, d2, d3, d4] }
  | _ => none }
def ChargePartsWrongFalsely : Prop := chargePartsRow.holds Try.pinned (OpenSpec.ofChange chargePartsWrong)

/- THE SECOND FORM. 'bulk': how many values and letters a reading holds, each counted each time it is reached (what is shared counts as often as it is met; a slice's spare places count too). A statement '..UptoSaid' is the law's where the arguments, and the package variables that the reading takes, are together of bulk at most 1048576: NARROWER than '..Said'. Prove '..Said' where nothing that the law and all that it calls make is longer than what came in: it says more and counts as full. Else prove '..UptoSaid'. A law counts once. -/
mutual
def uptoBulk {H : Type} : DataW H → Nat
  | .lit (.string bytes) => bytes.length + 1
  | .lit _ => 1
  | .nil => 1
  | .ptr d => uptoBulk d + 1
  | .slice elems spare => uptoBulkAll elems + uptoBulkAll spare + 1
  | .agg parts => uptoBulkAll parts + 1
  | .iface _ d => uptoBulk d + 1
  | .map entries => uptoBulkEntries entries + 1
  | .held _ => 1
def uptoBulkAll {H : Type} : List (DataW H) → Nat
  | [] => 0
  | d :: r => uptoBulk d + uptoBulkAll r
def uptoBulkEntries {H : Type} : List (Lit × DataW H) → Nat
  | [] => 0
  | x :: r => uptoBulkEntry x + uptoBulkEntries r
def uptoBulkEntry {H : Type} : Lit × DataW H → Nat
  | (.string bytes, d) => bytes.length + uptoBulk d + 1
  | (_, d) => uptoBulk d + 1
 end
def uptoSmall : (H : Type) → List (DataW H) → Bool := fun _ ds => decide (uptoBulkAll ds ≤ 1048576)
def OpenSpec.upto (s : _root_.Go.ChangeSpec) : _root_.Go.OpenSpec := { _root_.Go.OpenSpec.ofChange s with cond := some uptoSmall }

/-- 'tonneaulaw18.ChargeTells', WHERE WHAT IT READS IS OF BULK AT MOST 1048576: true; the input reads as it did. -/
def chargeTellsUptoRow : OpenClaim := { program := "ytlbndoddkialkaa", sum := "105b947065cbeb8e7b519378ef05f3c2b700f0b75fbe1d32c1e80acec1eb0329", func := "tonneau/tonneaulaw18.ChargeTells", spec := "chargeTells", unfollowed := true, recurses := true, apart := false, narrowed := true }
def ChargeTellsUptoSaid : Prop := chargeTellsUptoRow.holds Try.pinned (OpenSpec.upto chargeTellsSpec)

/-- 'tonneaulaw18.ChargeHolds', WHERE WHAT IT READS IS OF BULK AT MOST 1048576: true; the input reads as it did. -/
def chargeHoldsUptoRow : OpenClaim := { program := "ytlbndoddkialkaa", sum := "105b947065cbeb8e7b519378ef05f3c2b700f0b75fbe1d32c1e80acec1eb0329", func := "tonneau/tonneaulaw18.ChargeHolds", spec := "chargeHolds", unfollowed := true, recurses := true, apart := false, narrowed := true }
def ChargeHoldsUptoSaid : Prop := chargeHoldsUptoRow.holds Try.pinned (OpenSpec.upto chargeHoldsSpec)

/-- 'tonneaulaw18.ChargeNeeds', WHERE WHAT IT READS IS OF BULK AT MOST 1048576: true; the input reads as it did. -/
def chargeNeedsUptoRow : OpenClaim := { program := "ytlbndoddkialkaa", sum := "105b947065cbeb8e7b519378ef05f3c2b700f0b75fbe1d32c1e80acec1eb0329", func := "tonneau/tonneaulaw18.ChargeNeeds", spec := "chargeNeeds", unfollowed := true, recurses := true, apart := false, narrowed := true }
def ChargeNeedsUptoSaid : Prop := chargeNeedsUptoRow.holds Try.pinned (OpenSpec.upto chargeNeedsSpec)

/-- 'tonneaulaw18.ChargeParts', WHERE WHAT IT READS IS OF BULK AT MOST 1048576: true; the input reads as it did. -/
def chargePartsUptoRow : OpenClaim := { program := "ytlbndoddkialkaa", sum := "105b947065cbeb8e7b519378ef05f3c2b700f0b75fbe1d32c1e80acec1eb0329", func := "tonneau/tonneaulaw18.ChargeParts", spec := "chargeParts", unfollowed := true, recurses := true, apart := false, narrowed := true }
def ChargePartsUptoSaid : Prop := chargePartsUptoRow.holds Try.pinned (OpenSpec.upto chargePartsSpec)

end Rows
end Go.Proofs.Ytlbndoddkialkaa
