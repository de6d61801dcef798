/-
  NARROWER THAN 'FOR EVERY INPUT', by the rows' own cells (each row's printed sentence says how): LexTells: laid · LexBack: laid · LexPlaces: laid · LexJoins: laid · LexErrors: laid · LexWords: laid.
  DERIVED. THE GIVEN ROWS OF THIS SEAT. 6 by the template 'for every input the law returns true; each argument reads behind the call as it read before'; 0 by the template 'total and deterministic' (their statements: YtchdjdipiiijkaaDoorTotals.lean).
  GIVEN WITH THE SEED: the statements are not yours to turn. If you find one false, say at which input.
  Laid BY PROGRAM, IN A SANDBOX (cutbox-rows.mjs): the forced cells as the released guide's own fill.sh prints them over the translation f844f144fa029a61… (all of the seat's roots in one cut). By AI agents, Wed Nov 11 2026. No macro, syntax, notation, axiom, sorry.
-/
import Derived.Test.YtchdjdipiiijkaaDoorChecked
import GoSem.Claim
import GoSem.ClaimJoined
import GoSem.ClaimMapViews
import Derived.JoinedTies
import Derived.KernelRfl
namespace Go.Proofs.YtchdjdipiiijkaaDoor
/- THE CELL 'sum', in the pinned program and in every row, IS THE sha256 OF THE DUMP (.gsa) THAT YtchdjdipiiijkaaDoorProg.lean LOADS. Nothing in Lean hashes anything: it is a label: what it is worth is what the hold of that sum in a sandbox is worth. -/
noncomputable def Tryd.pinned : Pinned := { name := "ytchdjdipiiijkaadoor", sum := "f844f144fa029a618099bb89bc13f6ba0abc4f2e4fd6ee4c0a16acae17db403c", checked := Tryd.checked }
namespace Rows
def none {H : Type} : Left H := { results := [], args := [] }

/- WHAT THE LISTED PACKAGE-LEVEL VARIABLES READ AS WHEN THE CALL BEGINS. Each datum BY PROGRAM (the guide's laid-datum.mjs) off the statement by which the dump's own 'gosem.cut.vars' lays the variable. In a bare row this is a premise. The card (YtchdjdipiiijkaaDoorCards.lean) ties it to the program's text. -/
def laid_tonneau_lex_signs {H : Type} : DataW H := .agg [.lit (.string [61, 61]), .lit (.string [59]), .lit (.string [44]), .lit (.string [61]), .lit (.string [60]), .lit (.string [43]), .lit (.string [45]), .lit (.string [42]), .lit (.string [47]), .lit (.string [40]), .lit (.string [41])]

/-- 'tonneaulaw29.LexTells': WHATEVER THE INPUT: true; the input reads as it did. -/
def lexTellsSpec : ChangeSpec := { name := "lexTells", fn := fun _ => fun
  | [d1, d2] => { results := [.lit (.bool true)], args := [d1, d2] }
  | _ => none }
def lexTellsRow : OpenClaim := { program := "ytchdjdipiiijkaadoor", sum := "f844f144fa029a618099bb89bc13f6ba0abc4f2e4fd6ee4c0a16acae17db403c", func := "tonneau/tonneaulaw29.LexTells", spec := "lexTells", inPlace := ["internal/abi.NoEscape", "internal/bytealg.MakeNoZero"], unfollowed := true, recurses := true, named := ["tonneau/lex.signs"], apart := false, laid := [("tonneau/lex.signs", laid_tonneau_lex_signs)] }
def LexTellsSaid : Prop := lexTellsRow.holds Tryd.pinned (OpenSpec.ofChange lexTellsSpec)

/-- ITS FALSE NEIGHBOUR: 'it returns false'. Refute it at one input. -/
def lexTellsWrong : ChangeSpec := { name := "lexTells", fn := fun _ => fun
  | [d1, d2] => { results := [.lit (.bool false)], args := [d1, d2] }
  | _ => none }
def LexTellsWrongFalsely : Prop := lexTellsRow.holds Tryd.pinned (OpenSpec.ofChange lexTellsWrong)

/-- 'tonneaulaw29.LexBack': WHATEVER THE INPUT: true; the input reads as it did. -/
def lexBackSpec : ChangeSpec := { name := "lexBack", fn := fun _ => fun
  | [d] => { results := [.lit (.bool true)], args := [d] }
  | _ => none }
def lexBackRow : OpenClaim := { program := "ytchdjdipiiijkaadoor", sum := "f844f144fa029a618099bb89bc13f6ba0abc4f2e4fd6ee4c0a16acae17db403c", func := "tonneau/tonneaulaw29.LexBack", spec := "lexBack", inPlace := ["internal/abi.NoEscape", "internal/bytealg.MakeNoZero"], unfollowed := true, recurses := true, named := ["tonneau/lex.signs"], apart := false, laid := [("tonneau/lex.signs", laid_tonneau_lex_signs)] }
def LexBackSaid : Prop := lexBackRow.holds Tryd.pinned (OpenSpec.ofChange lexBackSpec)

/-- ITS FALSE NEIGHBOUR: 'it returns false'. Refute it at one input. -/
def lexBackWrong : ChangeSpec := { name := "lexBack", fn := fun _ => fun
  | [d] => { results := [.lit (.bool false)], args := [d] }
  | _ => none }
def LexBackWrongFalsely : Prop := lexBackRow.holds Tryd.pinned (OpenSpec.ofChange lexBackWrong)

/-- 'tonneaulaw29.LexPlaces': WHATEVER THE INPUT: true; the input reads as it did. -/
def lexPlacesSpec : ChangeSpec := { name := "lexPlaces", fn := fun _ => fun
  | [d] => { results := [.lit (.bool true)], args := [d] }
  | _ => none }
def lexPlacesRow : OpenClaim := { program := "ytchdjdipiiijkaadoor", sum := "f844f144fa029a618099bb89bc13f6ba0abc4f2e4fd6ee4c0a16acae17db403c", func := "tonneau/tonneaulaw29.LexPlaces", spec := "lexPlaces", inPlace := ["internal/abi.NoEscape", "internal/bytealg.MakeNoZero"], unfollowed := true, recurses := true, named := ["tonneau/lex.signs"], apart := false, laid := [("tonneau/lex.signs", laid_tonneau_lex_signs)] }
def LexPlacesSaid : Prop := lexPlacesRow.holds Tryd.pinned (OpenSpec.ofChange lexPlacesSpec)

/-- ITS FALSE NEIGHBOUR: 'it returns false'. Refute it at one input. -/
def lexPlacesWrong : ChangeSpec := { name := "lexPlaces", fn := fun _ => fun
  | [d] => { results := [.lit (.bool false)], args := [d] }
  | _ => none }
def LexPlacesWrongFalsely : Prop := lexPlacesRow.holds Tryd.pinned (OpenSpec.ofChange lexPlacesWrong)

/-- 'tonneaulaw29.LexJoins': WHATEVER THE INPUT: true; the input reads as it did. -/
def lexJoinsSpec : ChangeSpec := { name := "lexJoins", fn := fun _ => fun
  | [d1, d2, d3] => { results := [.lit (.bool true)], args := [d1, d2, d3] }
  | _ => none }
def lexJoinsRow : OpenClaim := { program := "ytchdjdipiiijkaadoor", sum := "f844f144fa029a618099bb89bc13f6ba0abc4f2e4fd6ee4c0a16acae17db403c", func := "tonneau/tonneaulaw29.LexJoins", spec := "lexJoins", inPlace := ["internal/abi.NoEscape", "internal/bytealg.MakeNoZero"], unfollowed := true, recurses := true, named := ["tonneau/lex.signs"], apart := false, laid := [("tonneau/lex.signs", laid_tonneau_lex_signs)] }
def LexJoinsSaid : Prop := lexJoinsRow.holds Tryd.pinned (OpenSpec.ofChange lexJoinsSpec)

/-- ITS FALSE NEIGHBOUR: 'it returns false'. Refute it at one input. -/
def lexJoinsWrong : ChangeSpec := { name := "lexJoins", fn := fun _ => fun
  | [d1, d2, d3] => { results := [.lit (.bool false)], args := [d1, d2, d3] }
  | _ => none }
def LexJoinsWrongFalsely : Prop := lexJoinsRow.holds Tryd.pinned (OpenSpec.ofChange lexJoinsWrong)

/-- 'tonneaulaw29.LexErrors': WHATEVER THE INPUT: true; the input reads as it did. -/
def lexErrorsSpec : ChangeSpec := { name := "lexErrors", fn := fun _ => fun
  | [d] => { results := [.lit (.bool true)], args := [d] }
  | _ => none }
def lexErrorsRow : OpenClaim := { program := "ytchdjdipiiijkaadoor", sum := "f844f144fa029a618099bb89bc13f6ba0abc4f2e4fd6ee4c0a16acae17db403c", func := "tonneau/tonneaulaw29.LexErrors", spec := "lexErrors", inPlace := ["internal/abi.NoEscape", "internal/bytealg.MakeNoZero"], unfollowed := true, recurses := true, named := ["tonneau/lex.signs"], apart := false, laid := [("tonneau/lex.signs", laid_tonneau_lex_signs)] }
def LexErrorsSaid : Prop := lexErrorsRow.holds Tryd.pinned (OpenSpec.ofChange lexErrorsSpec)

/-- ITS FALSE NEIGHBOUR: 'it returns false'. Refute it at one input. -/
def lexErrorsWrong : ChangeSpec := { name := "lexErrors", fn := fun _ => fun
  | [d] => { results := [.lit (.bool false)], args := [d] }
  | _ => none }
def LexErrorsWrongFalsely : Prop := lexErrorsRow.holds Tryd.pinned (OpenSpec.ofChange lexErrorsWrong)

/-- 'tonneaulaw29.LexWords': WHATEVER THE INPUT: true; the input reads as it did. -/
def lexWordsSpec : ChangeSpec := { name := "lexWords", fn := fun _ => fun
  | [d] => { results := [.lit (.bool true)], args := [d] }
  | _ => none }
def lexWordsRow : OpenClaim := { program := "ytchdjdipiiijkaadoor", sum := "f844f144fa029a618099bb89bc13f6ba0abc4f2e4fd6ee4c0a16acae17db403c", func := "tonneau/tonneaulaw29.LexWords", spec := "lexWords", inPlace := ["internal/abi.NoEscape", "internal/bytealg.MakeNoZero"], unfollowed := true, recurses := true, named := ["tonneau/lex.signs"], apart := false, laid := [("tonneau/lex.signs", laid_tonneau_lex_signs)] }
def LexWordsSaid : Prop := lexWordsRow.holds Tryd.pinned (OpenSpec.ofChange lexWordsSpec)

/-- ITS FALSE NEIGHBOUR: 'it returns false'. Refute it at one input. -/
def lexWordsWrong : ChangeSpec := { name := "lexWords", fn := fun _ => fun
  | [d] => { results := [.lit (.bool false)], args := [d] }
  | _ => none }
def LexWordsWrongFalsely : Prop := lexWordsRow.holds Tryd.pinned (OpenSpec.ofChange lexWordsWrong)

/- THE SECOND FORM. 'bulk': how many values and letters a reading holds, each counted each time it is reached (what is shared counts as often as it is met; a slice's spare places count too). A statement '..UptoSaid' is the law's where the arguments, and the package variables that the reading takes, are together of bulk at most 1048576: NARROWER than '..Said'. Prove '..Said' where nothing that the law and all that it calls make is longer than what came in: it says more and counts as full. Else prove '..UptoSaid'. A law counts once. -/
mutual
def uptoBulk {H : Type} : DataW H → Nat
  | .lit (.string bytes) => bytes.length + 1
  | .lit _ => 1
  | .nil => 1
  | .ptr d => uptoBulk d + 1
  | .slice elems spare => uptoBulkAll elems + uptoBulkAll spare + 1
  | .agg parts => uptoBulkAll parts + 1
  | .iface _ d => uptoBulk d + 1
  | .map entries => uptoBulkEntries entries + 1
  | .held _ => 1
def uptoBulkAll {H : Type} : List (DataW H) → Nat
  | [] => 0
  | d :: r => uptoBulk d + uptoBulkAll r
def uptoBulkEntries {H : Type} : List (Lit × DataW H) → Nat
  | [] => 0
  | x :: r => uptoBulkEntry x + uptoBulkEntries r
def uptoBulkEntry {H : Type} : Lit × DataW H → Nat
  | (.string bytes, d) => bytes.length + uptoBulk d + 1
  | (_, d) => uptoBulk d + 1
 end
def uptoSmall : (H : Type) → List (DataW H) → Bool := fun _ ds => decide (uptoBulkAll ds ≤ 1048576)
def OpenSpec.upto (s : _root_.Go.ChangeSpec) : _root_.Go.OpenSpec := { _root_.Go.OpenSpec.ofChange s with cond := some uptoSmall }

/-- 'tonneaulaw29.LexTells', WHERE WHAT IT READS IS OF BULK AT MOST 1048576: true; the input reads as it did. -/
def lexTellsUptoRow : OpenClaim := { program := "ytchdjdipiiijkaadoor", sum := "f844f144fa029a618099bb89bc13f6ba0abc4f2e4fd6ee4c0a16acae17db403c", func := "tonneau/tonneaulaw29.LexTells", spec := "lexTells", inPlace := ["internal/abi.NoEscape", "internal/bytealg.MakeNoZero"], unfollowed := true, recurses := true, named := ["tonneau/lex.signs"], apart := false, laid := [("tonneau/lex.signs", laid_tonneau_lex_signs)], narrowed := true }
def LexTellsUptoSaid : Prop := lexTellsUptoRow.holds Tryd.pinned (OpenSpec.upto lexTellsSpec)

/-- 'tonneaulaw29.LexBack', WHERE WHAT IT READS IS OF BULK AT MOST 1048576: true; the input reads as it did. -/
def lexBackUptoRow : OpenClaim := { program := "ytchdjdipiiijkaadoor", sum := "f844f144fa029a618099bb89bc13f6ba0abc4f2e4fd6ee4c0a16acae17db403c", func := "tonneau/tonneaulaw29.LexBack", spec := "lexBack", inPlace := ["internal/abi.NoEscape", "internal/bytealg.MakeNoZero"], unfollowed := true, recurses := true, named := ["tonneau/lex.signs"], apart := false, laid := [("tonneau/lex.signs", laid_tonneau_lex_signs)], narrowed := true }
def LexBackUptoSaid : Prop := lexBackUptoRow.holds Tryd.pinned (OpenSpec.upto lexBackSpec)

/-- 'tonneaulaw29.LexPlaces', WHERE WHAT IT READS IS OF BULK AT MOST 1048576: true; the input reads as it did. -/
def lexPlacesUptoRow : OpenClaim := { program := "ytchdjdipiiijkaadoor", sum := "f844f144fa029a618099bb89bc13f6ba0abc4f2e4fd6ee4c0a16acae17db403c", func := "tonneau/tonneaulaw29.LexPlaces", spec := "lexPlaces", inPlace := ["internal/abi.NoEscape", "internal/bytealg.MakeNoZero"], unfollowed := true, recurses := true, named := ["tonneau/lex.signs"], apart := false, laid := [("tonneau/lex.signs", laid_tonneau_lex_signs)], narrowed := true }
def LexPlacesUptoSaid : Prop := lexPlacesUptoRow.holds Tryd.pinned (OpenSpec.upto lexPlacesSpec)

/-- 'tonneaulaw29.LexJoins', WHERE WHAT IT READS IS OF BULK AT MOST 1048576: true; the input reads as it did. -/
def lexJoinsUptoRow : OpenClaim := { program := "ytchdjdipiiijkaadoor", sum := "f844f144fa029a618099bb89bc13f6ba0abc4f2e4fd6ee4c0a16acae17db403c", func := "tonneau/tonneaulaw29.LexJoins", spec := "lexJoins", inPlace := ["internal/abi.NoEscape", "internal/bytealg.MakeNoZero"], unfollowed := true, recurses := true, named := ["tonneau/lex.signs"], apart := false, laid := [("tonneau/lex.signs", laid_tonneau_lex_signs)], narrowed := true }
def LexJoinsUptoSaid : Prop := lexJoinsUptoRow.holds Tryd.pinned (OpenSpec.upto lexJoinsSpec)

/-- 'tonneaulaw29.LexErrors', WHERE WHAT IT READS IS OF BULK AT MOST 1048576: true; the input reads as it did. -/
def lexErrorsUptoRow : OpenClaim := { program := "ytchdjdipiiijkaadoor", sum := "f844f144fa029a618099bb89bc13f6ba0abc4f2e4fd6ee4c0a16acae17db403c", func := "tonneau/tonneaulaw29.LexErrors", spec := "lexErrors", inPlace := ["internal/abi.NoEscape", "internal/bytealg.MakeNoZero"], unfollowed := true, recurses := true, named := ["tonneau/lex.signs"], apart := false, laid := [("tonneau/lex.signs", laid_tonneau_lex_signs)], narrowed := true }
def LexErrorsUptoSaid : Prop := lexErrorsUptoRow.holds Tryd.pinned (OpenSpec.upto lexErrorsSpec)

/-- 'tonneaulaw29.LexWords', WHERE WHAT IT READS IS OF BULK AT MOST 1048576: true; the input reads as it did. -/
def lexWordsUptoRow : OpenClaim := { program := "ytchdjdipiiijkaadoor", sum := "f844f144fa029a618099bb89bc13f6ba0abc4f2e4fd6ee4c0a16acae17db403c", func := "tonneau/tonneaulaw29.LexWords", spec := "lexWords", inPlace := ["internal/abi.NoEscape", "internal/bytealg.MakeNoZero"], unfollowed := true, recurses := true, named := ["tonneau/lex.signs"], apart := false, laid := [("tonneau/lex.signs", laid_tonneau_lex_signs)], narrowed := true }
def LexWordsUptoSaid : Prop := lexWordsUptoRow.holds Tryd.pinned (OpenSpec.upto lexWordsSpec)

end Rows
end Go.Proofs.YtchdjdipiiijkaaDoor
