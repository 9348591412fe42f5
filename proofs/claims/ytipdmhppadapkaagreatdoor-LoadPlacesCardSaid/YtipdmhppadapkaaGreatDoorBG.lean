/-
  Parts: Two LtB LtC LtD LtE.
-/
import Derived.Test.YtipdmhppadapkaaGreatDoorBA
import Derived.Test.YtipdmhppadapkaaGreatDoorBF
/-
  A law for 'l, r := x, y' of whole values: two loads, two new blocks, two stores, in any order that the edges allow.
-/
namespace Go.Proofs.YtipdmhppadapkaaGreatDoor
open Go.RowKit
namespace Reg
section
variable {P : Program} {ops : Array Oper} {Q : Exit → Act → World → Prop}
structure Two (ty : TypeId) (d1 d2 u1 u2 : Nat) (A B z : Array Value) (a0 : Act) (w0 : World) (L : Array Bool) (a : Act) (w : World) : Prop where
  size : L.size = 6
  defers : a.defers = a0.defers
  tmps : a.tmps.size = a0.tmps.size
  ext : Ext w0 w
  other : ∀ t, t ≠ d1 → t ≠ d2 → t ≠ u1 → t ≠ u2 → a.tmps[t]? = a0.tmps[t]?
  c0 : L.getD 0 false = true → a.tmps[u1]? = some (.agg A)
  c1 : L.getD 1 false = true → a.tmps[u2]? = some (.agg B)
  c2 : L.getD 2 false = true → ∃ b, a.tmps[d1]? = some (ptr b) ∧ w0.heap.size ≤ b ∧ Blk w b ty (if L.getD 4 false then A else z)
  c3 : L.getD 3 false = true → ∃ b, a.tmps[d2]? = some (ptr b) ∧ w0.heap.size ≤ b ∧ Blk w b ty (if L.getD 5 false then B else z)
  ne : L.getD 2 false = true → L.getD 3 false = true → a.tmps[d1]? ≠ a.tmps[d2]?
  f4 : L.getD 4 false = true → L.getD 2 false = true
  f5 : L.getD 5 false = true → L.getD 3 false = true

end
end Reg
end Go.Proofs.YtipdmhppadapkaaGreatDoor
/-
  Walk: ltree.Root.
-/
namespace Go.Proofs.YtipdmhppadapkaaGreatDoor
open Go.RowKit Sha

end Go.Proofs.YtipdmhppadapkaaGreatDoor
/-
  Walk: portreeveref04.Root.
-/
namespace Go.Proofs.YtipdmhppadapkaaGreatDoor
open Go.RowKit Sha

end Go.Proofs.YtipdmhppadapkaaGreatDoor
/-
  Walks: both Roots at any neighbours; the law of chapter 07 is awake; the law LtreeRoots.
-/
namespace Go.Proofs.YtipdmhppadapkaaGreatDoor
open Go.RowKit Sha

end Go.Proofs.YtipdmhppadapkaaGreatDoor
/-
  Walk: the law LtreeSplits.
-/
namespace Go.Proofs.YtipdmhppadapkaaGreatDoor
open Go.RowKit Sha

end Go.Proofs.YtipdmhppadapkaaGreatDoor
