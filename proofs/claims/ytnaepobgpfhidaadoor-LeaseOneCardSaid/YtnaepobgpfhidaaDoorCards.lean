/-
  DERIVED. GIVEN WITH THE SEED: THE CARDS: each row of YtnaepobgpfhidaaDoorRows.lean that lists a variable, with what it lists TIED to the program's text (the seventh form; the later family's looks); each row that meets fmt, with fmt's text TOLD by the authors' own Lean function (tested against real Go, not proved from fmt's source: count such statements apart). THE CARD IS WHAT COUNTS. Prove the row's statement (the work); the ties are given (YtnaepobgpfhidaaDoorTie.lean); close each card by the builder's one call (the guide's Derived/Test/ToyasCard.lean, 'card_holds'). Laid BY PROGRAM, IN A SANDBOX (cutbox-door.mjs). By AI agents, Wed Nov 11 2026. No macro, syntax, notation, axiom, sorry.
-/
import Derived.Test.YtnaepobgpfhidaaDoorRows
import GoSem.ClaimSeven
namespace Go.Proofs.YtnaepobgpfhidaaDoor
namespace Rows

/-- THE TIED CARD OF 'tonneaulaw39.LeaseTells'. -/
def leaseTellsCard : Claim7 := { stood := { row := leaseTellsRow, standIns := [], harness := (true, "23c792a4e87111a3a7f28973b7d3e277c7a9105700ab026c3203a16ab1837b36"), looks := true }, kinds := [], alts := [], laidByText := true, laidKinds := [.data, .data, .data, .sentinel, .sentinel], laidTests := true, laidLooks := .later }
def LeaseTellsCardSaid : Prop := Claim7.holds Tryd.pinned (.plain (OpenSpec.ofChange leaseTellsSpec)) leaseTellsCard

/-- THE TIED CARD OF 'tonneaulaw39.LeaseOne'. -/
def leaseOneCard : Claim7 := { stood := { row := leaseOneRow, standIns := [], harness := (true, "23c792a4e87111a3a7f28973b7d3e277c7a9105700ab026c3203a16ab1837b36"), looks := true }, kinds := [], alts := [], laidByText := true, laidKinds := [.data, .data, .data, .sentinel, .sentinel], laidTests := true, laidLooks := .later }
def LeaseOneCardSaid : Prop := Claim7.holds Tryd.pinned (.plain (OpenSpec.ofChange leaseOneSpec)) leaseOneCard

/-- THE TIED CARD OF 'tonneaulaw39.LeaseFrames'. -/
def leaseFramesCard : Claim7 := { stood := { row := leaseFramesRow, standIns := [], harness := (true, "23c792a4e87111a3a7f28973b7d3e277c7a9105700ab026c3203a16ab1837b36"), looks := true }, kinds := [], alts := [], laidByText := true, laidKinds := [.data, .data, .data, .sentinel, .sentinel], laidTests := true, laidLooks := .later }
def LeaseFramesCardSaid : Prop := Claim7.holds Tryd.pinned (.plain (OpenSpec.ofChange leaseFramesSpec)) leaseFramesCard

/-- THE TIED CARD OF 'tonneaulaw39.LeaseReads'. -/
def leaseReadsCard : Claim7 := { stood := { row := leaseReadsRow, standIns := [], harness := (true, "23c792a4e87111a3a7f28973b7d3e277c7a9105700ab026c3203a16ab1837b36"), looks := true }, kinds := [], alts := [], laidByText := true, laidKinds := [.data, .data, .data, .sentinel, .sentinel], laidTests := true, laidLooks := .later }
def LeaseReadsCardSaid : Prop := Claim7.holds Tryd.pinned (.plain (OpenSpec.ofChange leaseReadsSpec)) leaseReadsCard

/-- THE SECOND FORM's CARD OF 'tonneaulaw39.LeaseTells'. -/
def leaseTellsUptoCard : Claim7 := { stood := { row := leaseTellsUptoRow, standIns := [], harness := (true, "23c792a4e87111a3a7f28973b7d3e277c7a9105700ab026c3203a16ab1837b36"), looks := true }, kinds := [], alts := [], laidByText := true, laidKinds := [.data, .data, .data, .sentinel, .sentinel], laidTests := true, laidLooks := .later }
def LeaseTellsUptoCardSaid : Prop := Claim7.holds Tryd.pinned (.plain (OpenSpec.upto leaseTellsSpec)) leaseTellsUptoCard

/-- THE SECOND FORM's CARD OF 'tonneaulaw39.LeaseOne'. -/
def leaseOneUptoCard : Claim7 := { stood := { row := leaseOneUptoRow, standIns := [], harness := (true, "23c792a4e87111a3a7f28973b7d3e277c7a9105700ab026c3203a16ab1837b36"), looks := true }, kinds := [], alts := [], laidByText := true, laidKinds := [.data, .data, .data, .sentinel, .sentinel], laidTests := true, laidLooks := .later }
def LeaseOneUptoCardSaid : Prop := Claim7.holds Tryd.pinned (.plain (OpenSpec.upto leaseOneSpec)) leaseOneUptoCard

/-- THE SECOND FORM's CARD OF 'tonneaulaw39.LeaseFrames'. -/
def leaseFramesUptoCard : Claim7 := { stood := { row := leaseFramesUptoRow, standIns := [], harness := (true, "23c792a4e87111a3a7f28973b7d3e277c7a9105700ab026c3203a16ab1837b36"), looks := true }, kinds := [], alts := [], laidByText := true, laidKinds := [.data, .data, .data, .sentinel, .sentinel], laidTests := true, laidLooks := .later }
def LeaseFramesUptoCardSaid : Prop := Claim7.holds Tryd.pinned (.plain (OpenSpec.upto leaseFramesSpec)) leaseFramesUptoCard

/-- THE SECOND FORM's CARD OF 'tonneaulaw39.LeaseReads'. -/
def leaseReadsUptoCard : Claim7 := { stood := { row := leaseReadsUptoRow, standIns := [], harness := (true, "23c792a4e87111a3a7f28973b7d3e277c7a9105700ab026c3203a16ab1837b36"), looks := true }, kinds := [], alts := [], laidByText := true, laidKinds := [.data, .data, .data, .sentinel, .sentinel], laidTests := true, laidLooks := .later }
def LeaseReadsUptoCardSaid : Prop := Claim7.holds Tryd.pinned (.plain (OpenSpec.upto leaseReadsSpec)) leaseReadsUptoCard
end Rows
end Go.Proofs.YtnaepobgpfhidaaDoor
