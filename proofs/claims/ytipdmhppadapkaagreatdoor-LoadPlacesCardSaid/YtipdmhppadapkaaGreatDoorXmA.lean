/-
  Walk: xmss.Verify.
-/
import Derived.Test.YtipdmhppadapkaaGreatDoorBH
import Derived.Test.YtipdmhppadapkaaGreatDoorPrfL
import Derived.Test.YtipdmhppadapkaaGreatDoorBX
namespace Go.Proofs.YtipdmhppadapkaaGreatDoor
open Go.RowKit Sha

def kOid (kb : List UInt8) : Nat := rdNum kb 0 4 false
def kRoot (kb : List UInt8) : Nd := (kb.drop 4).take 32
def kSeed (kb : List UInt8) : Nd := kb.drop 36
/-- the root that a signature leads to -/
def sigTop (ro sd : Nd) (m : List UInt8) (g : Sg) : Nd := rootV sd (ltLeaf sd g.i (pubsV g.ots (msgH g.r ro g.i m) sd g.i)) g.i g.auth
def verErr (kb m sg : List UInt8) : Int :=
  if keyOk kb = false then 80 else if sigOk sg (kOid kb) = false then 81 else if sigTop (kRoot kb) (kSeed kb) m (sigVal sg (kOid kb)) == kRoot kb then 0 else 82
end Go.Proofs.YtipdmhppadapkaaGreatDoor
