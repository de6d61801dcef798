/-
  No cell of these rows narrows 'for every input' (looked for: loops, veiled, ifaces, maps, wideKeys, modest, calm, conditions, laid).
  DERIVED. THE GIVEN ROWS OF THIS SEAT. 5 by the template 'for every input the law returns true; each argument reads behind the call as it read before'; 0 by the template 'total and deterministic' (their statements: YtcienmbbfcljnaaTotals.lean).
  GIVEN WITH THE SEED: the statements are not yours to turn. If you find one false, say at which input.
  Laid BY PROGRAM, IN A SANDBOX (cutbox-rows.mjs): the forced cells as the released guide's own fill.sh prints them over the translation 2dbeaf14b7510dee… (all of the seat's roots in one cut). By AI agents, Wed Nov 11 2026. No macro, syntax, notation, axiom, sorry.
-/
import Derived.Test.YtcienmbbfcljnaaChecked
import GoSem.Claim
import GoSem.ClaimJoined
import GoSem.ClaimMapViews
import Derived.JoinedTies
import Derived.KernelRfl
namespace Go.Proofs.Ytcienmbbfcljnaa
/- THE CELL 'sum', in the pinned program and in every row, IS THE sha256 OF THE DUMP (.gsa) THAT YtcienmbbfcljnaaProg.lean LOADS. Nothing in Lean hashes anything: it is a label: what it is worth is what the hold of that sum in a sandbox is worth. -/
noncomputable def Try.pinned : Pinned := { name := "ytcienmbbfcljnaa", sum := "2dbeaf14b7510dee8a8e1ddc0b2cb1c887957315219d958765c60be786759289", checked := Try.checked }
namespace Rows
def none {H : Type} : Left H := { results := [], args := [] }

/-- 'tonneaulaw37.TiersTells': WHATEVER THE INPUT: true; the input reads as it did. -/
def tiersTellsSpec : ChangeSpec := { name := "tiersTells", fn := fun _ => fun
  | [d1, d2, d3, d4] => { results := [.lit (.bool true)], args := [d1, d2, d3, d4] }
  | _ => none }
def tiersTellsRow : OpenClaim := { program := "ytcienmbbfcljnaa", sum := "2dbeaf14b7510dee8a8e1ddc0b2cb1c887957315219d958765c60be786759289", func := "tonneau/tonneaulaw37.TiersTells", spec := "tiersTells", unfollowed := true, recurses := true, apart := false }
def TiersTellsSaid : Prop := tiersTellsRow.holds Try.pinned (OpenSpec.ofChange tiersTellsSpec)

/-- ITS FALSE NEIGHBOUR: 'it returns false'. Refute it at one input. -/
def tiersTellsWrong : ChangeSpec := { name := "tiersTells", fn := fun _ => fun
  | [d1, d2, d3, d4] => { results := [.lit (.bool false)], args := [d1, d2, d3, d4] }
  | _ => none }
def TiersTellsWrongFalsely : Prop := tiersTellsRow.holds Try.pinned (OpenSpec.ofChange tiersTellsWrong)

/-- 'tonneaulaw37.TiersOnce': WHATEVER THE INPUT: true; the input reads as it did. -/
def tiersOnceSpec : ChangeSpec := { name := "tiersOnce", fn := fun _ => fun
  | [d1, d2] => { results := [.lit (.bool true)], args := [d1, d2] }
  | _ => none }
def tiersOnceRow : OpenClaim := { program := "ytcienmbbfcljnaa", sum := "2dbeaf14b7510dee8a8e1ddc0b2cb1c887957315219d958765c60be786759289", func := "tonneau/tonneaulaw37.TiersOnce", spec := "tiersOnce", unfollowed := true, recurses := true, apart := false }
def TiersOnceSaid : Prop := tiersOnceRow.holds Try.pinned (OpenSpec.ofChange tiersOnceSpec)

/-- ITS FALSE NEIGHBOUR: 'it returns false'. Refute it at one input. -/
def tiersOnceWrong : ChangeSpec := { name := "tiersOnce", fn := fun _ => fun
  | [d1, d2] => { results := [.lit (.bool false)], args := [d1, d2] }
  | _ => none }
def TiersOnceWrongFalsely : Prop := tiersOnceRow.holds Try.pinned (OpenSpec.ofChange tiersOnceWrong)

/-- 'tonneaulaw37.TiersOrder': WHATEVER THE INPUT: true; the input reads as it did. -/
def tiersOrderSpec : ChangeSpec := { name := "tiersOrder", fn := fun _ => fun
  | [d1, d2, d3, d4] => { results := [.lit (.bool true)], args := [d1, d2, d3, d4] }
  | _ => none }
def tiersOrderRow : OpenClaim := { program := "ytcienmbbfcljnaa", sum := "2dbeaf14b7510dee8a8e1ddc0b2cb1c887957315219d958765c60be786759289", func := "tonneau/tonneaulaw37.TiersOrder", spec := "tiersOrder", unfollowed := true, recurses := true, apart := false }
def TiersOrderSaid : Prop := tiersOrderRow.holds Try.pinned (OpenSpec.ofChange tiersOrderSpec)

/-- ITS FALSE NEIGHBOUR: 'it returns false'. Refute it at one input. -/
def tiersOrderWrong : ChangeSpec := { name := "tiersOrder", fn := fun _ => fun
  | [d1, d2, d3, d4] => { results := [.lit (.bool false)], args := [d1, d2, d3, d4] }
  | _ => none }
def TiersOrderWrongFalsely : Prop := tiersOrderRow.holds Try.pinned (OpenSpec.ofChange tiersOrderWrong)

/-- 'tonneaulaw37.TiersMore': WHATEVER THE INPUT: true; the input reads as it did. -/
def tiersMoreSpec : ChangeSpec := { name := "tiersMore", fn := fun _ => fun
  | [d1, d2, d3, d4, d5] => { results := [.lit (.bool true)], args := [d1, d2, d3, d4, d5] }
  | _ => none }
def tiersMoreRow : OpenClaim := { program := "ytcienmbbfcljnaa", sum := "2dbeaf14b7510dee8a8e1ddc0b2cb1c887957315219d958765c60be786759289", func := "tonneau/tonneaulaw37.TiersMore", spec := "tiersMore", unfollowed := true, recurses := true, apart := false }
def TiersMoreSaid : Prop := tiersMoreRow.holds Try.pinned (OpenSpec.ofChange tiersMoreSpec)

/-- ITS FALSE NEIGHBOUR: 'it returns false'. Refute it at one input. -/
def tiersMoreWrong : ChangeSpec := { name := "tiersMore", fn := fun _ => fun
  | [d1, d2, d3, d4, d5] => { results := [.lit (.bool false)], args := [d1, d2, d3, d4, d5] }
  | _ => none }
def TiersMoreWrongFalsely : Prop := tiersMoreRow.holds Try.pinned (OpenSpec.ofChange tiersMoreWrong)

/-- 'tonneaulaw37.TiersSplit': WHATEVER THE INPUT: true; the input reads as it did. -/
def tiersSplitSpec : ChangeSpec := { name := "tiersSplit", fn := fun _ => fun
  | [d1, d2, d3, d4] => { results := [.lit (.bool true)], args := [d1, d2, d3, d4] }
  | _ => none }
def tiersSplitRow : OpenClaim := { program := "ytcienmbbfcljnaa", sum := "2dbeaf14b7510dee8a8e1ddc0b2cb1c887957315219d958765c60be786759289", func := "tonneau/tonneaulaw37.TiersSplit", spec := "tiersSplit", unfollowed := true, recurses := true, apart := false }
def TiersSplitSaid : Prop := tiersSplitRow.holds Try.pinned (OpenSpec.ofChange tiersSplitSpec)

/-- ITS FALSE NEIGHBOUR: 'it returns false'. Refute it at one input. -/
def tiersSplitWrong : ChangeSpec := { name := "tiersSplit", fn := fun _ => fun
  | [d1, d2, d3, d4] => { results := [.lit (.bool false)], args := [d1, d2, d3, d4] }
  | _ => none }
def TiersSplitWrongFalsely : Prop := tiersSplitRow.holds Try.pinned (OpenSpec.ofChange tiersSplitWrong)

/- THE SECOND FORM. 'bulk': how many values and letters a reading holds, each counted each time it is reached (what is shared counts as often as it is met; a slice's spare places count too). A statement '..UptoSaid' is the law's where the arguments, and the package variables that the reading takes, are together of bulk at most 1048576: NARROWER than '..Said'. Prove '..Said' where nothing that the law and all that it calls make is longer than what came in: it says more and counts as full. Else prove '..UptoSaid'. A law counts once. -/
mutual
def uptoBulk {H : Type} : DataW H → Nat
  | .lit (.string bytes) => bytes.length + 1
  | .lit _ => 1
  | .nil => 1
  | .ptr d => uptoBulk d + 1
  | .slice elems spare => uptoBulkAll elems + uptoBulkAll spare + 1
  | .agg parts => uptoBulkAll parts + 1
  | .iface _ d => uptoBulk d + 1
  | .map entries => uptoBulkEntries entries + 1
  | .held _ => 1
def uptoBulkAll {H : Type} : List (DataW H) → Nat
  | [] => 0
  | d :: r => uptoBulk d + uptoBulkAll r
def uptoBulkEntries {H : Type} : List (Lit × DataW H) → Nat
  | [] => 0
  | x :: r => uptoBulkEntry x + uptoBulkEntries r
def uptoBulkEntry {H : Type} : Lit × DataW H → Nat
  | (.string bytes, d) => bytes.length + uptoBulk d + 1
  | (_, d) => uptoBulk d + 1
 end
def uptoSmall : (H : Type) → List (DataW H) → Bool := fun _ ds => decide (uptoBulkAll ds ≤ 1048576)
def OpenSpec.upto (s : _root_.Go.ChangeSpec) : _root_.Go.OpenSpec := { _root_.Go.OpenSpec.ofChange s with cond := some uptoSmall }

/-- 'tonneaulaw37.TiersTells', WHERE WHAT IT READS IS OF BULK AT MOST 1048576: true; the input reads as it did. -/
def tiersTellsUptoRow : OpenClaim := { program := "ytcienmbbfcljnaa", sum := "2dbeaf14b7510dee8a8e1ddc0b2cb1c887957315219d958765c60be786759289", func := "tonneau/tonneaulaw37.TiersTells", spec := "tiersTells", unfollowed := true, recurses := true, apart := false, narrowed := true }
def TiersTellsUptoSaid : Prop := tiersTellsUptoRow.holds Try.pinned (OpenSpec.upto tiersTellsSpec)

/-- 'tonneaulaw37.TiersOnce', WHERE WHAT IT READS IS OF BULK AT MOST 1048576: true; the input reads as it did. -/
def tiersOnceUptoRow : OpenClaim := { program := "ytcienmbbfcljnaa", sum := "2dbeaf14b7510dee8a8e1ddc0b2cb1c887957315219d958765c60be786759289", func := "tonneau/tonneaulaw37.TiersOnce", spec := "tiersOnce", unfollowed := true, recurses := true, apart := false, narrowed := true }
def TiersOnceUptoSaid : Prop := tiersOnceUptoRow.holds Try.pinned (OpenSpec.upto tiersOnceSpec)

/-- 'tonneaulaw37.TiersOrder', WHERE WHAT IT READS IS OF BULK AT MOST 1048576: true; the input reads as it did. -/
def tiersOrderUptoRow : OpenClaim := { program := "ytcienmbbfcljnaa", sum := "2dbeaf14b7510dee8a8e1ddc0b2cb1c887957315219d958765c60be786759289", func := "tonneau/tonneaulaw37.TiersOrder", spec := "tiersOrder", unfollowed := true, recurses := true, apart := false, narrowed := true }
def TiersOrderUptoSaid : Prop := tiersOrderUptoRow.holds Try.pinned (OpenSpec.upto tiersOrderSpec)

/-- 'tonneaulaw37.TiersMore', WHERE WHAT IT READS IS OF BULK AT MOST 1048576: true; the input reads as it did. -/
def tiersMoreUptoRow : OpenClaim := { program := "ytcienmbbfcljnaa", sum := "2dbeaf14b7510dee8a8e1ddc0b2cb1c887957315219d958765c60be786759289", func := "tonneau/tonneaulaw37.TiersMore", spec := "tiersMore", unfollowed := true, recurses := true, apart := false, narrowed := true }
def TiersMoreUptoSaid : Prop := tiersMoreUptoRow.holds Try.pinned (OpenSpec.upto tiersMoreSpec)

/-- 'tonneaulaw37.TiersSplit', WHERE WHAT IT READS IS OF BULK AT MOST 1048576: true; the input reads as it did. -/
def tiersSplitUptoRow : OpenClaim := { program := "ytcienmbbfcljnaa", sum := "2dbeaf14b7510dee8a8e1ddc0b2cb1c887957315219d958765c60be786759289", func := "tonneau/tonneaulaw37.TiersSplit", spec := "tiersSplit", unfollowed := true, recurses := true, apart := false, narrowed := true }
def TiersSplitUptoSaid : Prop := tiersSplitUptoRow.holds Try.pinned (OpenSpec.upto tiersSplitSpec)

end Rows
end Go.Proofs.Ytcienmbbfcljnaa
