/-
  Walk: load.Check.
-/
import Derived.Test.YtipdmhppadapkaaGreatDoorLdF
namespace Go.Proofs.YtipdmhppadapkaaGreatDoor
open Go.RowKit Sha

def vVer (l : List UInt8) (g : Gu) (c : Ctr) : Nat := if vErr l g c = 0 then (gHd l g).ver else 0
def vDig (l : List UInt8) (g : Gu) (c : Ctr) : List UInt8 := if vErr l g c = 0 then (gHd l g).dig else z32
def vPay (l : List UInt8) (g : Gu) (c : Ctr) : List UInt8 := if vErr l g c = 0 then gPay l g else []
/-- a verdict -/
def CkRet (w : World) (l : List UInt8) (g : Gu) (c : Ctr) (e : Ending) (w' : World) : Prop :=
  ∃ A k, e = .returned (.agg (vdCells (vErr l g c) (vVer l g c) (vDig l g c) A (vPay l g c).length k).toArray) ∧ (vPay l g c).length ≤ k ∧ Rd w' w'.heap.size 1 A (vPay l g c).length (bcells (vPay l g c)) ∧ Below w.heap.size w w'
theorem blk4a (w : World) (o1 o2 o3 : Obj) (t : TypeId) (cs : Array Value) : Blk ((((w.alloc (.cells cs t)).alloc o1).alloc o2).alloc o3) w.heap.size t cs := (((Blk.new w t cs).alloc o1).alloc o2).alloc o3
theorem blk4b (w : World) (o0 o2 o3 : Obj) (t : TypeId) (cs : Array Value) : Blk ((((w.alloc o0).alloc (.cells cs t)).alloc o2).alloc o3) (w.heap.size + 1) t cs := by
  have h := (((Blk.new (w.alloc o0) t cs).alloc o2).alloc o3)
  rwa [World.size_alloc] at h
theorem blk4c (w : World) (o0 o1 o3 : Obj) (t : TypeId) (cs : Array Value) : Blk ((((w.alloc o0).alloc o1).alloc (.cells cs t)).alloc o3) (w.heap.size + 2) t cs := by
  have h := ((Blk.new ((w.alloc o0).alloc o1) t cs).alloc o3)
  rwa [World.size_alloc, World.size_alloc] at h
theorem blk4d (w : World) (o0 o1 o2 : Obj) (t : TypeId) (cs : Array Value) : Blk ((((w.alloc o0).alloc o1).alloc o2).alloc (.cells cs t)) (w.heap.size + 3) t cs := by
  have h := (Blk.new (((w.alloc o0).alloc o1).alloc o2) t cs)
  rwa [World.size_alloc, World.size_alloc, World.size_alloc] at h

end Go.Proofs.YtipdmhppadapkaaGreatDoor
