/-
  Walk: portreeveref04.Msg.
-/
import Derived.Test.YtipdmhppadapkaaGreatDoorPrfJ
namespace Go.Proofs.YtipdmhppadapkaaGreatDoor
open Go.RowKit Sha

end Go.Proofs.YtipdmhppadapkaaGreatDoor
