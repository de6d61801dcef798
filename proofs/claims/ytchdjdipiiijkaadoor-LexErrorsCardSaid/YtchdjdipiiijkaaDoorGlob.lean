/-
  The package's variables that stay as they are laid. Conditions: none.
-/
import Derived.Test.YtchdjdipiiijkaaDoorAbs
namespace Go.Proofs.YtchdjdipiiijkaaDoor
open Go.RowKit

def signsL : List ByteArray := [⟨#[61, 61]⟩, ⟨#[59]⟩, ⟨#[44]⟩, ⟨#[61]⟩, ⟨#[60]⟩, ⟨#[43]⟩, ⟨#[45]⟩, ⟨#[42]⟩, ⟨#[47]⟩, ⟨#[40]⟩, ⟨#[41]⟩]
/-- The variables that are read, block by block. -/
def laidG : List (Nat × List D) := [(0, signsL.map D.str)]
end Go.Proofs.YtchdjdipiiijkaaDoor
