/-
  Walk: portreeveref04.Verify.
-/
import Derived.Test.YtipdmhppadapkaaGreatDoorXmA
namespace Go.Proofs.YtipdmhppadapkaaGreatDoor
open Go.RowKit Sha

end Go.Proofs.YtipdmhppadapkaaGreatDoor
