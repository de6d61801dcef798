/-
  NARROWER THAN 'FOR EVERY INPUT', by the rows' own cells (each row's printed sentence says how): UnitsTells: loops · UnitsPlace: loops · UnitsReplace: loops · UnitsMore: loops.
  DERIVED. THE GIVEN ROWS OF THIS SEAT. 4 by the template 'for every input the law returns true; each argument reads behind the call as it read before'; 0 by the template 'total and deterministic' (their statements: YtgiacdhffklenaaTotals.lean).
  GIVEN WITH THE SEED: the statements are not yours to turn. If you find one false, say at which input.
  Laid BY PROGRAM, IN A SANDBOX (cutbox-rows.mjs): the forced cells as the released guide's own fill.sh prints them over the translation 448f1912a7c19d41… (all of the seat's roots in one cut). By AI agents, Wed Nov 11 2026. No macro, syntax, notation, axiom, sorry.
-/
import Derived.Test.YtgiacdhffklenaaChecked
import GoSem.Claim
import GoSem.ClaimJoined
import GoSem.ClaimMapViews
import Derived.JoinedTies
import Derived.KernelRfl
namespace Go.Proofs.Ytgiacdhffklenaa
/- THE CELL 'sum', in the pinned program and in every row, IS THE sha256 OF THE DUMP (.gsa) THAT YtgiacdhffklenaaProg.lean LOADS. Nothing in Lean hashes anything: it is a label: what it is worth is what the hold of that sum in a sandbox is worth. -/
noncomputable def Try.pinned : Pinned := { name := "ytgiacdhffklenaa", sum := "448f1912a7c19d4145d031fec201b8765bb2d2eae10552729e0ecafcb5c2ddee", checked := Try.checked }
namespace Rows
def none {H : Type} : Left H := { results := [], args := [] }

/-- 'tonneaulaw31.UnitsTells': WHATEVER THE INPUT: true; the input reads as it did. -/
def unitsTellsSpec : ChangeSpec := { name := "unitsTells", fn := fun _ => fun
  | [d1, d2, d3, d4] => { results := [.lit (.bool true)], args := [d1, d2, d3, d4] }
  | _ => none }
def unitsTellsRow : OpenClaim := { program := "ytgiacdhffklenaa", sum := "448f1912a7c19d4145d031fec201b8765bb2d2eae10552729e0ecafcb5c2ddee", func := "tonneau/tonneaulaw31.UnitsTells", spec := "unitsTells", unfollowed := true, recurses := true, loops := true, apart := false }
def UnitsTellsSaid : Prop := unitsTellsRow.holds Try.pinned (OpenSpec.ofChange unitsTellsSpec)

/-- ITS FALSE NEIGHBOUR: 'it returns false'. Refute it at one input. -/
def unitsTellsWrong : ChangeSpec := { name := "unitsTells", fn := fun _ => fun
  | [d1, d2, d3, d4] => { results := [.lit (.bool false)], args := [d1, d2, d3, d4] }
  | _ => none }
def UnitsTellsWrongFalsely : Prop := unitsTellsRow.holds Try.pinned (OpenSpec.ofChange unitsTellsWrong)

/-- 'tonneaulaw31.UnitsPlace': WHATEVER THE INPUT: true; the input reads as it did. -/
def unitsPlaceSpec : ChangeSpec := { name := "unitsPlace", fn := fun _ => fun
  | [d1, d2] => { results := [.lit (.bool true)], args := [d1, d2] }
  | _ => none }
def unitsPlaceRow : OpenClaim := { program := "ytgiacdhffklenaa", sum := "448f1912a7c19d4145d031fec201b8765bb2d2eae10552729e0ecafcb5c2ddee", func := "tonneau/tonneaulaw31.UnitsPlace", spec := "unitsPlace", unfollowed := true, recurses := true, loops := true, apart := false }
def UnitsPlaceSaid : Prop := unitsPlaceRow.holds Try.pinned (OpenSpec.ofChange unitsPlaceSpec)

/-- ITS FALSE NEIGHBOUR: 'it returns false'. Refute it at one input. -/
def unitsPlaceWrong : ChangeSpec := { name := "unitsPlace", fn := fun _ => fun
  | [d1, d2] => { results := [.lit (.bool false)], args := [d1, d2] }
  | _ => none }
def UnitsPlaceWrongFalsely : Prop := unitsPlaceRow.holds Try.pinned (OpenSpec.ofChange unitsPlaceWrong)

/-- 'tonneaulaw31.UnitsReplace': WHATEVER THE INPUT: true; the input reads as it did. -/
def unitsReplaceSpec : ChangeSpec := { name := "unitsReplace", fn := fun _ => fun
  | [d1, d2, d3, d4] => { results := [.lit (.bool true)], args := [d1, d2, d3, d4] }
  | _ => none }
def unitsReplaceRow : OpenClaim := { program := "ytgiacdhffklenaa", sum := "448f1912a7c19d4145d031fec201b8765bb2d2eae10552729e0ecafcb5c2ddee", func := "tonneau/tonneaulaw31.UnitsReplace", spec := "unitsReplace", unfollowed := true, recurses := true, loops := true, apart := false }
def UnitsReplaceSaid : Prop := unitsReplaceRow.holds Try.pinned (OpenSpec.ofChange unitsReplaceSpec)

/-- ITS FALSE NEIGHBOUR: 'it returns false'. Refute it at one input. -/
def unitsReplaceWrong : ChangeSpec := { name := "unitsReplace", fn := fun _ => fun
  | [d1, d2, d3, d4] => { results := [.lit (.bool false)], args := [d1, d2, d3, d4] }
  | _ => none }
def UnitsReplaceWrongFalsely : Prop := unitsReplaceRow.holds Try.pinned (OpenSpec.ofChange unitsReplaceWrong)

/-- 'tonneaulaw31.UnitsMore': WHATEVER THE INPUT: true; the input reads as it did. -/
def unitsMoreSpec : ChangeSpec := { name := "unitsMore", fn := fun _ => fun
  | [d1, d2, d3] => { results := [.lit (.bool true)], args := [d1, d2, d3] }
  | _ => none }
def unitsMoreRow : OpenClaim := { program := "ytgiacdhffklenaa", sum := "448f1912a7c19d4145d031fec201b8765bb2d2eae10552729e0ecafcb5c2ddee", func := "tonneau/tonneaulaw31.UnitsMore", spec := "unitsMore", unfollowed := true, recurses := true, loops := true, apart := false }
def UnitsMoreSaid : Prop := unitsMoreRow.holds Try.pinned (OpenSpec.ofChange unitsMoreSpec)

/-- ITS FALSE NEIGHBOUR: 'it returns false'. Refute it at one input. -/
def unitsMoreWrong : ChangeSpec := { name := "unitsMore", fn := fun _ => fun
  | [d1, d2, d3] => { results := [.lit (.bool false)], args := [d1, d2, d3] }
  | _ => none }
def UnitsMoreWrongFalsely : Prop := unitsMoreRow.holds Try.pinned (OpenSpec.ofChange unitsMoreWrong)

/- THE SECOND FORM. 'bulk': how many values and letters a reading holds, each counted each time it is reached (what is shared counts as often as it is met; a slice's spare places count too). A statement '..UptoSaid' is the law's where the arguments, and the package variables that the reading takes, are together of bulk at most 1048576: NARROWER than '..Said'. Prove '..Said' where nothing that the law and all that it calls make is longer than what came in: it says more and counts as full. Else prove '..UptoSaid'. A law counts once. -/
mutual
def uptoBulk {H : Type} : DataW H → Nat
  | .lit (.string bytes) => bytes.length + 1
  | .lit _ => 1
  | .nil => 1
  | .ptr d => uptoBulk d + 1
  | .slice elems spare => uptoBulkAll elems + uptoBulkAll spare + 1
  | .agg parts => uptoBulkAll parts + 1
  | .iface _ d => uptoBulk d + 1
  | .map entries => uptoBulkEntries entries + 1
  | .held _ => 1
def uptoBulkAll {H : Type} : List (DataW H) → Nat
  | [] => 0
  | d :: r => uptoBulk d + uptoBulkAll r
def uptoBulkEntries {H : Type} : List (Lit × DataW H) → Nat
  | [] => 0
  | x :: r => uptoBulkEntry x + uptoBulkEntries r
def uptoBulkEntry {H : Type} : Lit × DataW H → Nat
  | (.string bytes, d) => bytes.length + uptoBulk d + 1
  | (_, d) => uptoBulk d + 1
 end
def uptoSmall : (H : Type) → List (DataW H) → Bool := fun _ ds => decide (uptoBulkAll ds ≤ 1048576)
def OpenSpec.upto (s : _root_.Go.ChangeSpec) : _root_.Go.OpenSpec := { _root_.Go.OpenSpec.ofChange s with cond := some uptoSmall }

/-- 'tonneaulaw31.UnitsTells', WHERE WHAT IT READS IS OF BULK AT MOST 1048576: true; the input reads as it did. -/
def unitsTellsUptoRow : OpenClaim := { program := "ytgiacdhffklenaa", sum := "448f1912a7c19d4145d031fec201b8765bb2d2eae10552729e0ecafcb5c2ddee", func := "tonneau/tonneaulaw31.UnitsTells", spec := "unitsTells", unfollowed := true, recurses := true, loops := true, apart := false, narrowed := true }
def UnitsTellsUptoSaid : Prop := unitsTellsUptoRow.holds Try.pinned (OpenSpec.upto unitsTellsSpec)

/-- 'tonneaulaw31.UnitsPlace', WHERE WHAT IT READS IS OF BULK AT MOST 1048576: true; the input reads as it did. -/
def unitsPlaceUptoRow : OpenClaim := { program := "ytgiacdhffklenaa", sum := "448f1912a7c19d4145d031fec201b8765bb2d2eae10552729e0ecafcb5c2ddee", func := "tonneau/tonneaulaw31.UnitsPlace", spec := "unitsPlace", unfollowed := true, recurses := true, loops := true, apart := false, narrowed := true }
def UnitsPlaceUptoSaid : Prop := unitsPlaceUptoRow.holds Try.pinned (OpenSpec.upto unitsPlaceSpec)

/-- 'tonneaulaw31.UnitsReplace', WHERE WHAT IT READS IS OF BULK AT MOST 1048576: true; the input reads as it did. -/
def unitsReplaceUptoRow : OpenClaim := { program := "ytgiacdhffklenaa", sum := "448f1912a7c19d4145d031fec201b8765bb2d2eae10552729e0ecafcb5c2ddee", func := "tonneau/tonneaulaw31.UnitsReplace", spec := "unitsReplace", unfollowed := true, recurses := true, loops := true, apart := false, narrowed := true }
def UnitsReplaceUptoSaid : Prop := unitsReplaceUptoRow.holds Try.pinned (OpenSpec.upto unitsReplaceSpec)

/-- 'tonneaulaw31.UnitsMore', WHERE WHAT IT READS IS OF BULK AT MOST 1048576: true; the input reads as it did. -/
def unitsMoreUptoRow : OpenClaim := { program := "ytgiacdhffklenaa", sum := "448f1912a7c19d4145d031fec201b8765bb2d2eae10552729e0ecafcb5c2ddee", func := "tonneau/tonneaulaw31.UnitsMore", spec := "unitsMore", unfollowed := true, recurses := true, loops := true, apart := false, narrowed := true }
def UnitsMoreUptoSaid : Prop := unitsMoreUptoRow.holds Try.pinned (OpenSpec.upto unitsMoreSpec)

end Rows
end Go.Proofs.Ytgiacdhffklenaa
