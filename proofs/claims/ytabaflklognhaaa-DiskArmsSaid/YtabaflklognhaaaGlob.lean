/-
  The package's variables that stay as they are laid: none are read. Conditions: none.
-/
import Derived.Test.YtabaflklognhaaaAbs
namespace Go.Proofs.Ytabaflklognhaaa
open Go.RowKit

/-- The variables that are read, block by block. -/
def laidG : List (Nat × List D) := []
end Go.Proofs.Ytabaflklognhaaa
