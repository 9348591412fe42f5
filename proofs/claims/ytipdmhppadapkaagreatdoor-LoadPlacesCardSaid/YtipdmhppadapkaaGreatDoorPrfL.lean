/-
  Walk: prf.Msg.
-/
import Derived.Test.YtipdmhppadapkaaGreatDoorPrfK
import Derived.Test.YtipdmhppadapkaaGreatDoorBC
namespace Go.Proofs.YtipdmhppadapkaaGreatDoor
open Go.RowKit Sha

end Go.Proofs.YtipdmhppadapkaaGreatDoor
