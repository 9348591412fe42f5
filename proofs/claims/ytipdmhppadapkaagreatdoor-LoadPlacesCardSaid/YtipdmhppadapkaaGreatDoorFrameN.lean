/-
  How nodes among the arguments are opened.
-/
import Derived.Test.YtipdmhppadapkaaGreatDoorFrame
namespace Go.Proofs.YtipdmhppadapkaaGreatDoor.Frame
open Go.ChangeShapes Go.WideShapes Go.ChangeAt Go.RowKit

section
variable {H : Type} {enc : TypeId × Value → H} {P : Program} {W : World}
end
end Go.Proofs.YtipdmhppadapkaaGreatDoor.Frame
