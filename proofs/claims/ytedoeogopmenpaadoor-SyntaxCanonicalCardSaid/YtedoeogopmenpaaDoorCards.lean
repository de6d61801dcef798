/-
  DERIVED. GIVEN WITH THE SEED: THE CARDS: each row of YtedoeogopmenpaaDoorRows.lean that lists a variable, with what it lists TIED to the program's text (the seventh form; the later family's looks); each row that meets fmt, with fmt's text TOLD by the authors' own Lean function (tested against real Go, not proved from fmt's source: count such statements apart). THE CARD IS WHAT COUNTS. Prove the row's statement (the work); the ties are given (YtedoeogopmenpaaDoorTie.lean); close each card by the builder's one call (the guide's Derived/Test/ToyasCard.lean, 'card_holds'). Laid BY PROGRAM, IN A SANDBOX (cutbox-door.mjs). By AI agents, Wed Nov 11 2026. No macro, syntax, notation, axiom, sorry.
-/
import Derived.Test.YtedoeogopmenpaaDoorRows
import GoSem.ClaimSeven
namespace Go.Proofs.YtedoeogopmenpaaDoor
namespace Rows

/-- THE TIED CARD OF 'tonneaulaw30.SyntaxCanonical'. -/
def syntaxCanonicalCard : Claim7 := { stood := { row := syntaxCanonicalRow, standIns := [], harness := (true, "435908c342f0f01ad992d9502ba28759798180af03975a9ad8a8769d63a6cf95"), looks := true }, kinds := [], alts := [], laidByText := true, laidKinds := [.data, .data, .data, .data], laidTests := true, laidLooks := .later }
def SyntaxCanonicalCardSaid : Prop := Claim7.holds Tryd.pinned (.plain (OpenSpec.ofChange syntaxCanonicalSpec)) syntaxCanonicalCard

/-- THE SECOND FORM's CARD OF 'tonneaulaw30.SyntaxCanonical'. -/
def syntaxCanonicalUptoCard : Claim7 := { stood := { row := syntaxCanonicalUptoRow, standIns := [], harness := (true, "435908c342f0f01ad992d9502ba28759798180af03975a9ad8a8769d63a6cf95"), looks := true }, kinds := [], alts := [], laidByText := true, laidKinds := [.data, .data, .data, .data], laidTests := true, laidLooks := .later }
def SyntaxCanonicalUptoCardSaid : Prop := Claim7.holds Tryd.pinned (.plain (OpenSpec.upto syntaxCanonicalSpec)) syntaxCanonicalUptoCard
end Rows
end Go.Proofs.YtedoeogopmenpaaDoor
