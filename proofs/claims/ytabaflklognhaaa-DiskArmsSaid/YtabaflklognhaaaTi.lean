/-
  What a type is, in short: its cells, its zero, its fields. Conditions: none.
-/
import Derived.WalkKit
namespace Go.Proofs.Ytabaflklognhaaa
open Go.RowKit

inductive TI where
  | no
  | one (z : Value)
  | st (z : List Value) (fs : List (Nat × Nat × Nat))
  | ar (n e es : Nat) (z : List Value)
  | sl (e es eb : Nat) (ez : Value)

def tiOf (P : Program) (t : TypeId) : TI :=
  match P.info? t, P.underlying t with
  | some i, some (.struct fs) =>
    match i.zero, fs.toList.mapM (fun f => (P.info? f.type).map fun j => (f.offset, j.size, f.type)) with
    | some (.agg z), some pl => if z.size = i.size then .st z.toList pl else .no
    | _, _ => .no
  | some i, some (.array n e) =>
    match i.zero, P.info? e with
    | some (.agg z), some j => if z.size = i.size then .ar n e j.size z.toList else .no
    | _, _ => .no
  | some i, some (.slice e) =>
    match P.info? e with
    | some j => match j.zero with
      | some ez => if i.size = 1 ∧ ez.cells.size = j.size then .sl e j.size j.bytes ez else .no
      | none => .no
    | none => .no
  | some i, some _ => match i.zero with
    | some z => if i.size = 1 ∧ z.oneCell' = true then .one z else .no
    | none => .no
  | _, _ => .no
end Go.Proofs.Ytabaflklognhaaa
