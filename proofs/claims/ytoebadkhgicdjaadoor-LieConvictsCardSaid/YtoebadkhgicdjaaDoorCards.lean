/-
  DERIVED. GIVEN WITH THE SEED: THE CARDS: each row of YtoebadkhgicdjaaDoorRows.lean that lists a variable, with what it lists TIED to the program's text (the seventh form; the later family's looks); each row that meets fmt, with fmt's text TOLD by the authors' own Lean function (tested against real Go, not proved from fmt's source: count such statements apart). THE CARD IS WHAT COUNTS. Prove the row's statement (the work); the ties are given (YtoebadkhgicdjaaDoorTie.lean); close each card by the builder's one call (the guide's Derived/Test/ToyasCard.lean, 'card_holds'). Laid BY PROGRAM, IN A SANDBOX (cutbox-door.mjs). By AI agents, Wed Nov 11 2026. No macro, syntax, notation, axiom, sorry.
-/
import Derived.Test.YtoebadkhgicdjaaDoorRows
import GoSem.ClaimSeven
namespace Go.Proofs.YtoebadkhgicdjaaDoor
namespace Rows

/-- THE TIED CARD OF 'tonneaulaw44.LieTells'. -/
def lieTellsCard : Claim7 := { stood := { row := lieTellsRow, standIns := [], harness := (true, "2d99024560b7e72b6ea5652c749c03cee5c8059e008bbadf0850a7c842a09116"), looks := true }, kinds := [], alts := [], laidByText := true, laidKinds := [.data, .data, .data, .sentinel, .sentinel], laidTests := true, laidLooks := .later }
def LieTellsCardSaid : Prop := Claim7.holds Tryd.pinned (.plain (OpenSpec.ofChange lieTellsSpec)) lieTellsCard

/-- THE TIED CARD OF 'tonneaulaw44.LieTruth'. -/
def lieTruthCard : Claim7 := { stood := { row := lieTruthRow, standIns := [], harness := (true, "2d99024560b7e72b6ea5652c749c03cee5c8059e008bbadf0850a7c842a09116"), looks := true }, kinds := [], alts := [], laidByText := true, laidKinds := [.data, .data, .data, .sentinel, .sentinel], laidTests := true, laidLooks := .later }
def LieTruthCardSaid : Prop := Claim7.holds Tryd.pinned (.plain (OpenSpec.ofChange lieTruthSpec)) lieTruthCard

/-- THE TIED CARD OF 'tonneaulaw44.LieTexts'. -/
def lieTextsCard : Claim7 := { stood := { row := lieTextsRow, standIns := [], harness := (true, "2d99024560b7e72b6ea5652c749c03cee5c8059e008bbadf0850a7c842a09116"), looks := true }, kinds := [], alts := [], laidByText := true, laidKinds := [.data, .data, .data, .sentinel, .sentinel], laidTests := true, laidLooks := .later }
def LieTextsCardSaid : Prop := Claim7.holds Tryd.pinned (.plain (OpenSpec.ofChange lieTextsSpec)) lieTextsCard

/-- THE TIED CARD OF 'tonneaulaw44.LieConvicts'. -/
def lieConvictsCard : Claim7 := { stood := { row := lieConvictsRow, standIns := [], harness := (true, "2d99024560b7e72b6ea5652c749c03cee5c8059e008bbadf0850a7c842a09116"), looks := true }, kinds := [], alts := [], laidByText := true, laidKinds := [.data, .data, .data, .sentinel, .sentinel], laidTests := true, laidLooks := .later }
def LieConvictsCardSaid : Prop := Claim7.holds Tryd.pinned (.plain (OpenSpec.ofChange lieConvictsSpec)) lieConvictsCard

/-- THE SECOND FORM's CARD OF 'tonneaulaw44.LieTells'. -/
def lieTellsUptoCard : Claim7 := { stood := { row := lieTellsUptoRow, standIns := [], harness := (true, "2d99024560b7e72b6ea5652c749c03cee5c8059e008bbadf0850a7c842a09116"), looks := true }, kinds := [], alts := [], laidByText := true, laidKinds := [.data, .data, .data, .sentinel, .sentinel], laidTests := true, laidLooks := .later }
def LieTellsUptoCardSaid : Prop := Claim7.holds Tryd.pinned (.plain (OpenSpec.upto lieTellsSpec)) lieTellsUptoCard

/-- THE SECOND FORM's CARD OF 'tonneaulaw44.LieTruth'. -/
def lieTruthUptoCard : Claim7 := { stood := { row := lieTruthUptoRow, standIns := [], harness := (true, "2d99024560b7e72b6ea5652c749c03cee5c8059e008bbadf0850a7c842a09116"), looks := true }, kinds := [], alts := [], laidByText := true, laidKinds := [.data, .data, .data, .sentinel, .sentinel], laidTests := true, laidLooks := .later }
def LieTruthUptoCardSaid : Prop := Claim7.holds Tryd.pinned (.plain (OpenSpec.upto lieTruthSpec)) lieTruthUptoCard

/-- THE SECOND FORM's CARD OF 'tonneaulaw44.LieTexts'. -/
def lieTextsUptoCard : Claim7 := { stood := { row := lieTextsUptoRow, standIns := [], harness := (true, "2d99024560b7e72b6ea5652c749c03cee5c8059e008bbadf0850a7c842a09116"), looks := true }, kinds := [], alts := [], laidByText := true, laidKinds := [.data, .data, .data, .sentinel, .sentinel], laidTests := true, laidLooks := .later }
def LieTextsUptoCardSaid : Prop := Claim7.holds Tryd.pinned (.plain (OpenSpec.upto lieTextsSpec)) lieTextsUptoCard

/-- THE SECOND FORM's CARD OF 'tonneaulaw44.LieConvicts'. -/
def lieConvictsUptoCard : Claim7 := { stood := { row := lieConvictsUptoRow, standIns := [], harness := (true, "2d99024560b7e72b6ea5652c749c03cee5c8059e008bbadf0850a7c842a09116"), looks := true }, kinds := [], alts := [], laidByText := true, laidKinds := [.data, .data, .data, .sentinel, .sentinel], laidTests := true, laidLooks := .later }
def LieConvictsUptoCardSaid : Prop := Claim7.holds Tryd.pinned (.plain (OpenSpec.upto lieConvictsSpec)) lieConvictsUptoCard
end Rows
end Go.Proofs.YtoebadkhgicdjaaDoor
