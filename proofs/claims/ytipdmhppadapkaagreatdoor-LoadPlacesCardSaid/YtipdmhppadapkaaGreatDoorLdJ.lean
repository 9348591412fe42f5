/-
  Walk: the reference's Check.
-/
import Derived.Test.YtipdmhppadapkaaGreatDoorLdI
namespace Go.Proofs.YtipdmhppadapkaaGreatDoor
open Go.RowKit Sha

end Go.Proofs.YtipdmhppadapkaaGreatDoor
