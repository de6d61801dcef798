/-
  The walk of the laws' own word small, and of few. Conditions: none.
-/
import Derived.Test.YtnaepobgpfhidaaDoorLeaseE
namespace Go.Proofs.YtnaepobgpfhidaaDoor
open Go.RowKit

end Go.Proofs.YtnaepobgpfhidaaDoor
