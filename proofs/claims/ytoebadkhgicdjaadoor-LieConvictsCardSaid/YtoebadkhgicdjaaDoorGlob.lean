/-
  The package's variables that stay as they are laid. Conditions: none.
-/
import Derived.Test.YtoebadkhgicdjaaDoorAbs
import Derived.Lib.ItoaNum
namespace Go.Proofs.YtoebadkhgicdjaaDoor
open Go.RowKit

/-- The variables that are read, block by block. -/
def laidG : List (Nat × List D) := [(3, (Lib.pow10Tab.map fun z => Value.int .u64 z).map D.val), (1, [.err]), (2, [.err])]
end Go.Proofs.YtoebadkhgicdjaaDoor
