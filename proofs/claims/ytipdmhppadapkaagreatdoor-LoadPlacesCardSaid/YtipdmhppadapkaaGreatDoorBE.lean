/-
  Parts: ChA ChB ChC WotsA WotsB WotsC WotsD ChD.
-/
import Derived.Test.YtipdmhppadapkaaGreatDoorBD
import Derived.Test.YtipdmhppadapkaaGreatDoorBA
import Derived.RangeFuncNested
import Derived.RangeFuncBound
import Derived.RangeFuncCalls
import Derived.RangeFuncLeaves
import Derived.RangeFuncFrom
import Derived.Shelf.Abstract
import Derived.Shelf.RegionOpen
import Derived.WalkKit
import Derived.OwnWalkIn
import Derived.TacticsInMore
import Derived.LoopNIn
import Derived.LoopIn
/-
  WOTS+ chains: plain laws; the walk of a step.
-/
namespace Go.Proofs.YtipdmhppadapkaaGreatDoor
open Go.RowKit Sha

/-- one step of a chain -/
def stepH (x : Ad) (sd nd : List UInt8) : List UInt8 := fH (prfH sd (x.withMask 0)) (xorL nd (prfH sd (x.withMask 1)))
/-- the address of a chain's step -/
def otsAd (a b c : Nat) : Ad := ⟨0, 0, 0, a, b, c, 0⟩
/-- the node after k steps -/
def chainN (sd : List UInt8) (a b from' : Nat) : Nat → List UInt8 → List UInt8
  | 0, nd => nd
  | k + 1, nd => stepH (otsAd a b (from' + k)) sd (chainN sd a b from' k nd)
end Go.Proofs.YtipdmhppadapkaaGreatDoor
/-
  Walk: wots.Chain.
-/
namespace Go.Proofs.YtipdmhppadapkaaGreatDoor
open Go.RowKit Sha

end Go.Proofs.YtipdmhppadapkaaGreatDoor
/-
  Walk: wots.Chain, the inputs that it refuses; portreeveref04.Chain.
-/
namespace Go.Proofs.YtipdmhppadapkaaGreatDoor
open Go.RowKit Sha

end Go.Proofs.YtipdmhppadapkaaGreatDoor
/-
  Walk: the iterator of the digits of a message (wots.digits): what it yields, in order.
-/
namespace Go.Proofs.YtipdmhppadapkaaGreatDoor
open Go.RowKit Go.Shelf

attribute [local go_sem] Oper.semAt_some

/-- a digit of the message -/
def dig (m : List UInt8) (i : Nat) : Nat := if i % 2 = 0 then (m[i / 2]?.getD 0).toNat / 16 else (m[i / 2]?.getD 0).toNat % 16
def dsum (m : List UInt8) : Nat → Nat
  | 0 => 0
  | k + 1 => dsum m k + (15 - dig m k)
def digAll (m : List UInt8) (i : Nat) : Nat := if i < 64 then dig m i else dsum m 64 / 2 ^ (4 * (66 - i)) % 16
def upto {α : Type} (f : Nat → α) (k : Nat) : List α := (List.range k).map f
end Go.Proofs.YtipdmhppadapkaaGreatDoor
/-
  Walk: wots.Digits: the row of the digits.
-/
namespace Go.Proofs.YtipdmhppadapkaaGreatDoor
open Go.RowKit Go.Shelf

attribute [local go_sem] Oper.semAt_some

def icells (l : List Nat) : List Value := l.map fun (n : Nat) => Value.int .i64 (n : Int)
theorem icells_zero (n : Nat) : (icells (List.replicate n 0)).toArray = Array.replicate n (.int .i64 0) := by simp [icells]
def zeros67 : List Nat := List.replicate 67 0
section
variable {F : Fence} {n : Nat} {P : Program} {ops : Array Oper} {rest : List Oper} {o : Oper} {a : Act} {Q : Exit → Act → World → Prop}
end

theorem Blk.kept {w w' : World} {g : Nat} {t : TypeId} {cs : Array Value} {row : Option Nat} (h : Blk w g t cs) (hg : w.grownBy w' row) (hr : ∀ r, row = some r → ∃ o : Obj, w.heap[r]? = some o ∧ o.isCells = false) : Blk w' g t cs :=
  h.grown hg (fun e => by
    obtain ⟨o, h1, h2⟩ := hr g e.symm
    rw [h] at h1; cases h1; simp [Obj.isCells] at h2)

theorem zero67 (w : World) : (zeroValue 164).run Tryz.prog w = .ok (.agg (icells zeros67).toArray) w := by rw [zeros67, icells_zero]; kernel_rfl
attribute [go_sem] zero67

end Go.Proofs.YtipdmhppadapkaaGreatDoor
/-
  Walk: portreeveref04.Digits: the same row of digits.
-/
namespace Go.Proofs.YtipdmhppadapkaaGreatDoor
open Go.RowKit

end Go.Proofs.YtipdmhppadapkaaGreatDoor
/-
  Walks: portreevelaw06.awake; the statements WotsDigits and WotsUnlike.
-/
namespace Go.Proofs.YtipdmhppadapkaaGreatDoor
open Go.RowKit

section
variable {P : Program}
end
end Go.Proofs.YtipdmhppadapkaaGreatDoor
/-
  Walk: portreeveref04.Chain.
-/
namespace Go.Proofs.YtipdmhppadapkaaGreatDoor
open Go.RowKit Sha

end Go.Proofs.YtipdmhppadapkaaGreatDoor
