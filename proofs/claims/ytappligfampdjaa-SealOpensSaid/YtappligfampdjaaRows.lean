/-
  No cell of these rows narrows 'for every input' (looked for: loops, veiled, ifaces, maps, wideKeys, modest, calm, conditions, laid).
  DERIVED. THE GIVEN ROWS OF THIS SEAT. 4 by the template 'for every input the law returns true; each argument reads behind the call as it read before'; 0 by the template 'total and deterministic' (their statements: YtappligfampdjaaTotals.lean).
  GIVEN WITH THE SEED: the statements are not yours to turn. If you find one false, say at which input.
  Laid BY PROGRAM, IN A SANDBOX (cutbox-rows.mjs): the forced cells as the released guide's own fill.sh prints them over the translation 9dee567f32828559… (all of the seat's roots in one cut). By AI agents, Wed Nov 11 2026. No macro, syntax, notation, axiom, sorry.
-/
import Derived.Test.YtappligfampdjaaChecked
import GoSem.Claim
import GoSem.ClaimJoined
import GoSem.ClaimMapViews
import Derived.JoinedTies
import Derived.KernelRfl
namespace Go.Proofs.Ytappligfampdjaa
/- THE CELL 'sum', in the pinned program and in every row, IS THE sha256 OF THE DUMP (.gsa) THAT YtappligfampdjaaProg.lean LOADS. Nothing in Lean hashes anything: it is a label: what it is worth is what the hold of that sum in a sandbox is worth. -/
noncomputable def Try.pinned : Pinned := { name := "ytappligfampdjaa", sum := "9dee567f328285591f429f7f521c96069d61a942ef2598ae9599c7196decd1a2", checked := Try.checked }
namespace Rows
def none {H : Type} : Left H := { results := [], args := [] }

/-- 'tonneaulaw08.SealMakes': WHATEVER THE INPUT: true; the input reads as it did. -/
def sealMakesSpec : ChangeSpec := { name := "sealMakes", fn := fun _ => fun
  | [d1, d2] => { results := [.lit (.bool true)], args := [d1, d2] }
  | _ => none }
def sealMakesRow : OpenClaim := { program := "ytappligfampdjaa", sum := "9dee567f328285591f429f7f521c96069d61a942ef2598ae9599c7196decd1a2", func := "tonneau/tonneaulaw08.SealMakes", spec := "sealMakes", plainKeys := false, apart := false }
def SealMakesSaid : Prop := sealMakesRow.holds Try.pinned (OpenSpec.ofChange sealMakesSpec)

/-- ITS FALSE NEIGHBOUR: 'it returns false'. Refute it at one input. -/
def sealMakesWrong : ChangeSpec := { name := "sealMakes", fn := fun _ => fun
  | [d1, d2] => { results := [.lit (.bool false)], args := [d1, d2] }
  | _ => none }
def SealMakesWrongFalsely : Prop := sealMakesRow.holds Try.pinned (OpenSpec.ofChange sealMakesWrong)

/-- 'tonneaulaw08.SealMarks': WHATEVER THE INPUT: true; the input reads as it did. -/
def sealMarksSpec : ChangeSpec := { name := "sealMarks", fn := fun _ => fun
  | [d] => { results := [.lit (.bool true)], args := [d] }
  | _ => none }
def sealMarksRow : OpenClaim := { program := "ytappligfampdjaa", sum := "9dee567f328285591f429f7f521c96069d61a942ef2598ae9599c7196decd1a2", func := "tonneau/tonneaulaw08.SealMarks", spec := "sealMarks", plainKeys := false, apart := false }
def SealMarksSaid : Prop := sealMarksRow.holds Try.pinned (OpenSpec.ofChange sealMarksSpec)

/-- ITS FALSE NEIGHBOUR: 'it returns false'. Refute it at one input. -/
def sealMarksWrong : ChangeSpec := { name := "sealMarks", fn := fun _ => fun
  | [d] => { results := [.lit (.bool false)], args := [d] }
  | _ => none }
def SealMarksWrongFalsely : Prop := sealMarksRow.holds Try.pinned (OpenSpec.ofChange sealMarksWrong)

/-- 'tonneaulaw08.SealTells': WHATEVER THE INPUT: true; the input reads as it did. -/
def sealTellsSpec : ChangeSpec := { name := "sealTells", fn := fun _ => fun
  | [d1, d2] => { results := [.lit (.bool true)], args := [d1, d2] }
  | _ => none }
def sealTellsRow : OpenClaim := { program := "ytappligfampdjaa", sum := "9dee567f328285591f429f7f521c96069d61a942ef2598ae9599c7196decd1a2", func := "tonneau/tonneaulaw08.SealTells", spec := "sealTells", plainKeys := false, apart := false }
def SealTellsSaid : Prop := sealTellsRow.holds Try.pinned (OpenSpec.ofChange sealTellsSpec)

/-- ITS FALSE NEIGHBOUR: 'it returns false'. Refute it at one input. -/
def sealTellsWrong : ChangeSpec := { name := "sealTells", fn := fun _ => fun
  | [d1, d2] => { results := [.lit (.bool false)], args := [d1, d2] }
  | _ => none }
def SealTellsWrongFalsely : Prop := sealTellsRow.holds Try.pinned (OpenSpec.ofChange sealTellsWrong)

/-- 'tonneaulaw08.SealOpens': WHATEVER THE INPUT: true; the input reads as it did. -/
def sealOpensSpec : ChangeSpec := { name := "sealOpens", fn := fun _ => fun
  | [d1, d2] => { results := [.lit (.bool true)], args := [d1, d2] }
  | _ => none }
def sealOpensRow : OpenClaim := { program := "ytappligfampdjaa", sum := "9dee567f328285591f429f7f521c96069d61a942ef2598ae9599c7196decd1a2", func := "tonneau/tonneaulaw08.SealOpens", spec := "sealOpens", inPlace := ["maps.clone"], plainKeys := false, apart := false }
def SealOpensSaid : Prop := sealOpensRow.holds Try.pinned (OpenSpec.ofChange sealOpensSpec)

/-- ITS FALSE NEIGHBOUR: 'it returns false'. Refute it at one input. -/
def sealOpensWrong : ChangeSpec := { name := "sealOpens", fn := fun _ => fun
  | [d1, d2] => { results := [.lit (.bool false)], args := [d1, d2] }
  | _ => none }
def SealOpensWrongFalsely : Prop := sealOpensRow.holds Try.pinned (OpenSpec.ofChange sealOpensWrong)

/- THE SECOND FORM. 'bulk': how many values and letters a reading holds, each counted each time it is reached (what is shared counts as often as it is met; a slice's spare places count too). A statement '..UptoSaid' is the law's where the arguments, and the package variables that the reading takes, are together of bulk at most 1048576: NARROWER than '..Said'. Prove '..Said' where nothing that the law and all that it calls make is longer than what came in: it says more and counts as full. Else prove '..UptoSaid'. A law counts once. -/
mutual
def uptoBulk {H : Type} : DataW H → Nat
  | .lit (.string bytes) => bytes.length + 1
  | .lit _ => 1
  | .nil => 1
  | .ptr d => uptoBulk d + 1
  | .slice elems spare => uptoBulkAll elems + uptoBulkAll spare + 1
  | .agg parts => uptoBulkAll parts + 1
  | .iface _ d => uptoBulk d + 1
  | .map entries => uptoBulkEntries entries + 1
  | .held _ => 1
def uptoBulkAll {H : Type} : List (DataW H) → Nat
  | [] => 0
  | d :: r => uptoBulk d + uptoBulkAll r
def uptoBulkEntries {H : Type} : List (Lit × DataW H) → Nat
  | [] => 0
  | x :: r => uptoBulkEntry x + uptoBulkEntries r
def uptoBulkEntry {H : Type} : Lit × DataW H → Nat
  | (.string bytes, d) => bytes.length + uptoBulk d + 1
  | (_, d) => uptoBulk d + 1
 end
def uptoSmall : (H : Type) → List (DataW H) → Bool := fun _ ds => decide (uptoBulkAll ds ≤ 1048576)
def OpenSpec.upto (s : _root_.Go.ChangeSpec) : _root_.Go.OpenSpec := { _root_.Go.OpenSpec.ofChange s with cond := some uptoSmall }

/-- 'tonneaulaw08.SealMakes', WHERE WHAT IT READS IS OF BULK AT MOST 1048576: true; the input reads as it did. -/
def sealMakesUptoRow : OpenClaim := { program := "ytappligfampdjaa", sum := "9dee567f328285591f429f7f521c96069d61a942ef2598ae9599c7196decd1a2", func := "tonneau/tonneaulaw08.SealMakes", spec := "sealMakes", plainKeys := false, apart := false, narrowed := true }
def SealMakesUptoSaid : Prop := sealMakesUptoRow.holds Try.pinned (OpenSpec.upto sealMakesSpec)

/-- 'tonneaulaw08.SealMarks', WHERE WHAT IT READS IS OF BULK AT MOST 1048576: true; the input reads as it did. -/
def sealMarksUptoRow : OpenClaim := { program := "ytappligfampdjaa", sum := "9dee567f328285591f429f7f521c96069d61a942ef2598ae9599c7196decd1a2", func := "tonneau/tonneaulaw08.SealMarks", spec := "sealMarks", plainKeys := false, apart := false, narrowed := true }
def SealMarksUptoSaid : Prop := sealMarksUptoRow.holds Try.pinned (OpenSpec.upto sealMarksSpec)

/-- 'tonneaulaw08.SealTells', WHERE WHAT IT READS IS OF BULK AT MOST 1048576: true; the input reads as it did. -/
def sealTellsUptoRow : OpenClaim := { program := "ytappligfampdjaa", sum := "9dee567f328285591f429f7f521c96069d61a942ef2598ae9599c7196decd1a2", func := "tonneau/tonneaulaw08.SealTells", spec := "sealTells", plainKeys := false, apart := false, narrowed := true }
def SealTellsUptoSaid : Prop := sealTellsUptoRow.holds Try.pinned (OpenSpec.upto sealTellsSpec)

/-- 'tonneaulaw08.SealOpens', WHERE WHAT IT READS IS OF BULK AT MOST 1048576: true; the input reads as it did. -/
def sealOpensUptoRow : OpenClaim := { program := "ytappligfampdjaa", sum := "9dee567f328285591f429f7f521c96069d61a942ef2598ae9599c7196decd1a2", func := "tonneau/tonneaulaw08.SealOpens", spec := "sealOpens", inPlace := ["maps.clone"], plainKeys := false, apart := false, narrowed := true }
def SealOpensUptoSaid : Prop := sealOpensUptoRow.holds Try.pinned (OpenSpec.upto sealOpensSpec)

end Rows
end Go.Proofs.Ytappligfampdjaa
