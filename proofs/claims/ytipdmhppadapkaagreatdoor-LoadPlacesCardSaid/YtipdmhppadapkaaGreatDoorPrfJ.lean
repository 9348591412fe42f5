/-
  append(x, make([]T, m)...) onto a row of the call's own.
-/
import Derived.Test.YtipdmhppadapkaaGreatDoorBD
import Derived.Lib.AppendZeros
namespace Go.Proofs.YtipdmhppadapkaaGreatDoor
open Go.RowKit

section
variable {P : Program} {ops : Array Oper} {rest : List Oper} {o : Oper} {a : Act} {Q : Exit → Act → World → Prop}
end
def msgH (r ro : List UInt8) (q : Nat) (m : List UInt8) : List UInt8 := keyed 2 (r ++ ro ++ List.replicate 28 0 ++ putNum q 4 false ++ m)
end Go.Proofs.YtipdmhppadapkaaGreatDoor
