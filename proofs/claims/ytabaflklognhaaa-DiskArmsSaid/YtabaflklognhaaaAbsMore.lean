/-
  More operations over abstract states. Conditions: none.
-/
import Derived.Test.YtabaflklognhaaaAbsMix
import Derived.Laws.StructEq
namespace Go.Proofs.Ytabaflklognhaaa
open Go.RowKit

section
variable {E : Entry} {sl : Slots} {ob : Objs} {d : Option Nat} {t T ty : TypeId} {p : String} {af : Array Edge} {g : Option (Nat × Bool)} {x y : Operand} {b c : Bool}
theorem y_beql (hx : ev sl x = .d (.val (.bool b))) (hy : ev sl y = .d (.val (.bool c))) (ht : Try.prog.underlying t = some .bool) : Y E ⟨d, .binOp .eql t x y ty, T, p, af, g⟩ sl ob (.d (.val (.bool (b == c)))) := y_bin' hx hy rfl fun w => by
  have h := run_equalIn_bool' w 9999 t b c ht
  simp only [binOp, Op.equal, Sem.run_bind]
  rw [show Op.maxDepth = 9999 + 1 from rfl, h]
  rfl
theorem y_bneq (hx : ev sl x = .d (.val (.bool b))) (hy : ev sl y = .d (.val (.bool c))) (ht : Try.prog.underlying t = some .bool) : Y E ⟨d, .binOp .neq t x y ty, T, p, af, g⟩ sl ob (.d (.val (.bool (b != c)))) := y_bin' hx hy rfl fun w => by
  have h := run_equalIn_bool' w 9999 t b c ht
  simp only [binOp, Op.equal, Sem.run_bind]
  rw [show Op.maxDepth = 9999 + 1 from rfl, h]
  rfl
end
end Go.Proofs.Ytabaflklognhaaa
