/-
  Parts: SrtH SrtI.
-/
import Derived.Test.YtpellkblaeeopaaGreatDoorC05
/-
  Walk: partialInsertionSortOrdered at uint64.
-/
namespace Go.Proofs.YtpellkblaeeopaaGreatDoor
open Go.RowKit

end Go.Proofs.YtpellkblaeeopaaGreatDoor
/-
  Walk: breakPatternsOrdered at uint64.
-/
namespace Go.Proofs.YtpellkblaeeopaaGreatDoor
open Go.RowKit

end Go.Proofs.YtpellkblaeeopaaGreatDoor
