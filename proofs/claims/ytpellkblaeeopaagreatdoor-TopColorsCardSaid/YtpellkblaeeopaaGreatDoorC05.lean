/-
  Parts: SrtF SrtG.
-/
import Derived.Test.YtpellkblaeeopaaGreatDoorC04
/-
  Walk: partitionOrdered at uint64.
-/
namespace Go.Proofs.YtpellkblaeeopaaGreatDoor
open Go.RowKit

end Go.Proofs.YtpellkblaeeopaaGreatDoor
/-
  Walk: partitionEqualOrdered at uint64.
-/
namespace Go.Proofs.YtpellkblaeeopaaGreatDoor
open Go.RowKit

end Go.Proofs.YtpellkblaeeopaaGreatDoor
