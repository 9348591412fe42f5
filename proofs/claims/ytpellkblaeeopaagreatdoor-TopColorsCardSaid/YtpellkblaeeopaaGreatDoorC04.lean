/-
  Parts: SrtC SrtD SrtE.
-/
import Derived.Test.YtpellkblaeeopaaGreatDoorC03
/-
  Walks: slices.siftDownOrdered, heapSortOrdered at uint64.
-/
namespace Go.Proofs.YtpellkblaeeopaaGreatDoor
open Go.RowKit

end Go.Proofs.YtpellkblaeeopaaGreatDoor
/-
  Walks: reverseRangeOrdered at uint64, xorshift, bits.Len.
-/
namespace Go.Proofs.YtpellkblaeeopaaGreatDoor
open Go.RowKit

end Go.Proofs.YtpellkblaeeopaaGreatDoor
/-
  Walks: choosePivotOrdered at uint64.
-/
namespace Go.Proofs.YtpellkblaeeopaaGreatDoor
open Go.RowKit

/-- the pivot's functions: they read the row, and count at block zb -/
structure PV (w : World) (g : Nat) (d : Array Nat) (R : List Value) (zb : Nat) : Prop where
  row : NR w g d R
  cnt : ∃ s, Blk w zb 3 #[.int .i64 s]
  ne : zb ≠ g
theorem PV.chg {w w' : World} {g : Nat} {d : Array Nat} {R : List Value} {zb : Nat} (h : PV w g d R zb) (k : Chg (OnlyG zb) w w') (hc : ∃ s, Blk w' zb 3 #[.int .i64 s]) : PV w' g d R zb := ⟨Blk.chg h.row k (fun e => h.ne (Eq.symm e)), hc, h.ne⟩
end Go.Proofs.YtpellkblaeeopaaGreatDoor
