/-
  The package's variables that stay as they are laid. Conditions: none.
-/
import Derived.Test.YtliagfabkkcohaaDoorAbs
import Derived.Lib.ItoaNum
namespace Go.Proofs.YtliagfabkkcohaaDoor
open Go.RowKit

/-- The variables that are read, block by block. -/
def laidG : List (Nat × List D) := [(0, (Lib.pow10Tab.map fun z => Value.int .u64 z).map D.val), (2, [.err]), (3, [.err])]
end Go.Proofs.YtliagfabkkcohaaDoor
