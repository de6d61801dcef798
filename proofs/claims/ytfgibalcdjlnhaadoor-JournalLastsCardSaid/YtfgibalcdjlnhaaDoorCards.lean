/-
  DERIVED. GIVEN WITH THE SEED: THE CARDS: each row of YtfgibalcdjlnhaaDoorRows.lean that lists a variable, with what it lists TIED to the program's text (the seventh form; the later family's looks); each row that meets fmt, with fmt's text TOLD by the authors' own Lean function (tested against real Go, not proved from fmt's source: count such statements apart). THE CARD IS WHAT COUNTS. Prove the row's statement (the work); the ties are given (YtfgibalcdjlnhaaDoorTie.lean); close each card by the builder's one call (the guide's Derived/Test/ToyasCard.lean, 'card_holds'). Laid BY PROGRAM, IN A SANDBOX (cutbox-door.mjs). By AI agents, Wed Nov 11 2026. No macro, syntax, notation, axiom, sorry.
-/
import Derived.Test.YtfgibalcdjlnhaaDoorRows
import GoSem.ClaimSeven
namespace Go.Proofs.YtfgibalcdjlnhaaDoor
namespace Rows

/-- THE TIED CARD OF 'tonneaulaw03.JournalTorn'. -/
def journalTornCard : Claim7 := { stood := { row := journalTornRow, standIns := [], harness := (true, "5a0459962b5fd5741efa2d38091590b14796fbe20c6385f9a143e167d5b532dc"), looks := true }, kinds := [], alts := [], laidByText := true, laidKinds := [.data, .data, .data, .sentinel, .sentinel], laidTests := true, laidLooks := .later }
def JournalTornCardSaid : Prop := Claim7.holds Tryd.pinned (.plain (OpenSpec.ofChange journalTornSpec)) journalTornCard

/-- THE TIED CARD OF 'tonneaulaw03.JournalReads'. -/
def journalReadsCard : Claim7 := { stood := { row := journalReadsRow, standIns := [], harness := (true, "5a0459962b5fd5741efa2d38091590b14796fbe20c6385f9a143e167d5b532dc"), looks := true }, kinds := [], alts := [], laidByText := true, laidKinds := [.data, .data, .data, .sentinel, .sentinel], laidTests := true, laidLooks := .later }
def JournalReadsCardSaid : Prop := Claim7.holds Tryd.pinned (.plain (OpenSpec.ofChange journalReadsSpec)) journalReadsCard

/-- THE TIED CARD OF 'tonneaulaw03.JournalStays'. -/
def journalStaysCard : Claim7 := { stood := { row := journalStaysRow, standIns := [], harness := (true, "5a0459962b5fd5741efa2d38091590b14796fbe20c6385f9a143e167d5b532dc"), looks := true }, kinds := [], alts := [], laidByText := true, laidKinds := [.data, .data, .data, .sentinel, .sentinel], laidTests := true, laidLooks := .later }
def JournalStaysCardSaid : Prop := Claim7.holds Tryd.pinned (.plain (OpenSpec.ofChange journalStaysSpec)) journalStaysCard

/-- THE TIED CARD OF 'tonneaulaw03.JournalLasts'. -/
def journalLastsCard : Claim7 := { stood := { row := journalLastsRow, standIns := [], harness := (true, "5a0459962b5fd5741efa2d38091590b14796fbe20c6385f9a143e167d5b532dc"), looks := true }, kinds := [], alts := [], laidByText := true, laidKinds := [.data, .data, .data, .sentinel, .sentinel], laidTests := true, laidLooks := .later }
def JournalLastsCardSaid : Prop := Claim7.holds Tryd.pinned (.plain (OpenSpec.ofChange journalLastsSpec)) journalLastsCard

/-- THE SECOND FORM's CARD OF 'tonneaulaw03.JournalTorn'. -/
def journalTornUptoCard : Claim7 := { stood := { row := journalTornUptoRow, standIns := [], harness := (true, "5a0459962b5fd5741efa2d38091590b14796fbe20c6385f9a143e167d5b532dc"), looks := true }, kinds := [], alts := [], laidByText := true, laidKinds := [.data, .data, .data, .sentinel, .sentinel], laidTests := true, laidLooks := .later }
def JournalTornUptoCardSaid : Prop := Claim7.holds Tryd.pinned (.plain (OpenSpec.upto journalTornSpec)) journalTornUptoCard

/-- THE SECOND FORM's CARD OF 'tonneaulaw03.JournalReads'. -/
def journalReadsUptoCard : Claim7 := { stood := { row := journalReadsUptoRow, standIns := [], harness := (true, "5a0459962b5fd5741efa2d38091590b14796fbe20c6385f9a143e167d5b532dc"), looks := true }, kinds := [], alts := [], laidByText := true, laidKinds := [.data, .data, .data, .sentinel, .sentinel], laidTests := true, laidLooks := .later }
def JournalReadsUptoCardSaid : Prop := Claim7.holds Tryd.pinned (.plain (OpenSpec.upto journalReadsSpec)) journalReadsUptoCard

/-- THE SECOND FORM's CARD OF 'tonneaulaw03.JournalStays'. -/
def journalStaysUptoCard : Claim7 := { stood := { row := journalStaysUptoRow, standIns := [], harness := (true, "5a0459962b5fd5741efa2d38091590b14796fbe20c6385f9a143e167d5b532dc"), looks := true }, kinds := [], alts := [], laidByText := true, laidKinds := [.data, .data, .data, .sentinel, .sentinel], laidTests := true, laidLooks := .later }
def JournalStaysUptoCardSaid : Prop := Claim7.holds Tryd.pinned (.plain (OpenSpec.upto journalStaysSpec)) journalStaysUptoCard

/-- THE SECOND FORM's CARD OF 'tonneaulaw03.JournalLasts'. -/
def journalLastsUptoCard : Claim7 := { stood := { row := journalLastsUptoRow, standIns := [], harness := (true, "5a0459962b5fd5741efa2d38091590b14796fbe20c6385f9a143e167d5b532dc"), looks := true }, kinds := [], alts := [], laidByText := true, laidKinds := [.data, .data, .data, .sentinel, .sentinel], laidTests := true, laidLooks := .later }
def JournalLastsUptoCardSaid : Prop := Claim7.holds Tryd.pinned (.plain (OpenSpec.upto journalLastsSpec)) journalLastsUptoCard
end Rows
end Go.Proofs.YtfgibalcdjlnhaaDoor
