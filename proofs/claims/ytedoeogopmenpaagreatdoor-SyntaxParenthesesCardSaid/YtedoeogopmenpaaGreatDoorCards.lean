/-
  DERIVED. GIVEN WITH THE SEED: THE CARDS: each row of YtedoeogopmenpaaGreatDoorRows.lean that lists a variable, with what it lists TIED to the program's text (the seventh form; the later family's looks); each row that meets fmt, with fmt's text TOLD by the authors' own Lean function (tested against real Go, not proved from fmt's source: count such statements apart). THE CARD IS WHAT COUNTS. Prove the row's statement (the work); the ties are given (YtedoeogopmenpaaGreatDoorTie.lean); close each card by the builder's one call (the guide's Derived/Test/ToyasCard.lean, 'card_holds'). Laid BY PROGRAM, IN A SANDBOX (cutbox-door.mjs). By AI agents, Wed Nov 11 2026. No macro, syntax, notation, axiom, sorry.
-/
import Derived.Test.YtedoeogopmenpaaGreatDoorRows
import GoSem.ClaimSeven
namespace Go.Proofs.YtedoeogopmenpaaGreatDoor
namespace Rows

/-- THE TIED CARD OF 'tonneaulaw30.SyntaxTells'. -/
def syntaxTellsCard : Claim7 := { stood := { row := syntaxTellsRow, standIns := [], harness := (true, "53c624d733e7d8212a1b08b9936eb79ac9df4dac5c11fc938541be99e4f410e3"), looks := true }, kinds := [], alts := [], laidByText := true, laidKinds := [.data, .data, .data, .data], laidTests := true, laidLooks := .later }
def SyntaxTellsCardSaid : Prop := Claim7.holds Tryz.pinned (.plain (OpenSpec.ofChange syntaxTellsSpec)) syntaxTellsCard

/-- THE TIED CARD OF 'tonneaulaw30.SyntaxPrints'. -/
def syntaxPrintsCard : Claim7 := { stood := { row := syntaxPrintsRow, standIns := [], harness := (true, "53c624d733e7d8212a1b08b9936eb79ac9df4dac5c11fc938541be99e4f410e3"), looks := true }, kinds := [], alts := [], laidByText := true, laidKinds := [.data, .data, .data, .data], laidTests := true, laidLooks := .later }
def SyntaxPrintsCardSaid : Prop := Claim7.holds Tryz.pinned (.plain (OpenSpec.ofChange syntaxPrintsSpec)) syntaxPrintsCard

/-- THE TIED CARD OF 'tonneaulaw30.SyntaxBack'. -/
def syntaxBackCard : Claim7 := { stood := { row := syntaxBackRow, standIns := [], harness := (true, "53c624d733e7d8212a1b08b9936eb79ac9df4dac5c11fc938541be99e4f410e3"), looks := true }, kinds := [], alts := [], laidByText := true, laidKinds := [.data, .data, .data, .data], laidTests := true, laidLooks := .later }
def SyntaxBackCardSaid : Prop := Claim7.holds Tryz.pinned (.plain (OpenSpec.ofChange syntaxBackSpec)) syntaxBackCard

/-- THE TIED CARD OF 'tonneaulaw30.SyntaxLines'. -/
def syntaxLinesCard : Claim7 := { stood := { row := syntaxLinesRow, standIns := [], harness := (true, "53c624d733e7d8212a1b08b9936eb79ac9df4dac5c11fc938541be99e4f410e3"), looks := true }, kinds := [], alts := [], laidByText := true, laidKinds := [.data, .data, .data, .data], laidTests := true, laidLooks := .later }
def SyntaxLinesCardSaid : Prop := Claim7.holds Tryz.pinned (.plain (OpenSpec.ofChange syntaxLinesSpec)) syntaxLinesCard

/-- THE TIED CARD OF 'tonneaulaw30.SyntaxParentheses'. -/
def syntaxParenthesesCard : Claim7 := { stood := { row := syntaxParenthesesRow, standIns := [], harness := (true, "53c624d733e7d8212a1b08b9936eb79ac9df4dac5c11fc938541be99e4f410e3"), looks := true }, kinds := [], alts := [], laidByText := true, laidKinds := [.data, .data, .data, .data], laidTests := true, laidLooks := .later }
def SyntaxParenthesesCardSaid : Prop := Claim7.holds Tryz.pinned (.plain (OpenSpec.ofChange syntaxParenthesesSpec)) syntaxParenthesesCard

/-- THE SECOND FORM's CARD OF 'tonneaulaw30.SyntaxTells'. -/
def syntaxTellsUptoCard : Claim7 := { stood := { row := syntaxTellsUptoRow, standIns := [], harness := (true, "53c624d733e7d8212a1b08b9936eb79ac9df4dac5c11fc938541be99e4f410e3"), looks := true }, kinds := [], alts := [], laidByText := true, laidKinds := [.data, .data, .data, .data], laidTests := true, laidLooks := .later }
def SyntaxTellsUptoCardSaid : Prop := Claim7.holds Tryz.pinned (.plain (OpenSpec.upto syntaxTellsSpec)) syntaxTellsUptoCard

/-- THE SECOND FORM's CARD OF 'tonneaulaw30.SyntaxPrints'. -/
def syntaxPrintsUptoCard : Claim7 := { stood := { row := syntaxPrintsUptoRow, standIns := [], harness := (true, "53c624d733e7d8212a1b08b9936eb79ac9df4dac5c11fc938541be99e4f410e3"), looks := true }, kinds := [], alts := [], laidByText := true, laidKinds := [.data, .data, .data, .data], laidTests := true, laidLooks := .later }
def SyntaxPrintsUptoCardSaid : Prop := Claim7.holds Tryz.pinned (.plain (OpenSpec.upto syntaxPrintsSpec)) syntaxPrintsUptoCard

/-- THE SECOND FORM's CARD OF 'tonneaulaw30.SyntaxBack'. -/
def syntaxBackUptoCard : Claim7 := { stood := { row := syntaxBackUptoRow, standIns := [], harness := (true, "53c624d733e7d8212a1b08b9936eb79ac9df4dac5c11fc938541be99e4f410e3"), looks := true }, kinds := [], alts := [], laidByText := true, laidKinds := [.data, .data, .data, .data], laidTests := true, laidLooks := .later }
def SyntaxBackUptoCardSaid : Prop := Claim7.holds Tryz.pinned (.plain (OpenSpec.upto syntaxBackSpec)) syntaxBackUptoCard

/-- THE SECOND FORM's CARD OF 'tonneaulaw30.SyntaxLines'. -/
def syntaxLinesUptoCard : Claim7 := { stood := { row := syntaxLinesUptoRow, standIns := [], harness := (true, "53c624d733e7d8212a1b08b9936eb79ac9df4dac5c11fc938541be99e4f410e3"), looks := true }, kinds := [], alts := [], laidByText := true, laidKinds := [.data, .data, .data, .data], laidTests := true, laidLooks := .later }
def SyntaxLinesUptoCardSaid : Prop := Claim7.holds Tryz.pinned (.plain (OpenSpec.upto syntaxLinesSpec)) syntaxLinesUptoCard

/-- THE SECOND FORM's CARD OF 'tonneaulaw30.SyntaxParentheses'. -/
def syntaxParenthesesUptoCard : Claim7 := { stood := { row := syntaxParenthesesUptoRow, standIns := [], harness := (true, "53c624d733e7d8212a1b08b9936eb79ac9df4dac5c11fc938541be99e4f410e3"), looks := true }, kinds := [], alts := [], laidByText := true, laidKinds := [.data, .data, .data, .data], laidTests := true, laidLooks := .later }
def SyntaxParenthesesUptoCardSaid : Prop := Claim7.holds Tryz.pinned (.plain (OpenSpec.upto syntaxParenthesesSpec)) syntaxParenthesesUptoCard
end Rows
end Go.Proofs.YtedoeogopmenpaaGreatDoor
