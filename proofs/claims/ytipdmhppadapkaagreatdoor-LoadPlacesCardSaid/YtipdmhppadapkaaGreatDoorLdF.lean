/-
  Walk: load.Check's checks, one behind the other.
-/
import Derived.Test.YtipdmhppadapkaaGreatDoorLdE
namespace Go.Proofs.YtipdmhppadapkaaGreatDoor
open Go.RowKit Sha

/-- the blocks of load.Check: the variable, the flash, the counter, the result, the row of checks; the look is block x -/
structure LSt (w0 : World) (v y z br bs x f : Nat) (c : Ctr) (W : World) : Prop where
  bel : Below w0.heap.size w0 W
  hv : Blk W v 80 #[.pointer (some ⟨x, 0, none⟩)]
  hy : Blk W y 43 #[.pointer (some ⟨f, 0, none⟩)]
  hz : Blk W z 34 c.cells
  hr : Blk W br 41 vdz
  hs : Blk W bs 85 (ckRow v y z)
structure LNe (w0 : World) (v y z br bs x : Nat) : Prop where
  x0 : w0.heap.size ≤ x
  v : v ≠ x
  y : y ≠ x
  z : z ≠ x
  br : br ≠ x
  bs : bs ≠ x
theorem LSt.chg {w0 : World} {v y z br bs x f : Nat} {c : Ctr} {W W' : World} (h : LSt w0 v y z br bs x f c W) (n : LNe w0 v y z br bs x) (k : Chg (fun b => b = x) W W') : LSt w0 v y z br bs x f c W' :=
  ⟨h.bel.trans (k.below (by rintro b rfl; exact n.x0) h.bel.size), h.hv.chg k n.v, h.hy.chg k n.y, h.hz.chg k n.z, h.hr.chg k n.br, h.hs.chg k n.bs⟩
/-- the look behind the first check -/
def LkAt (l : List UInt8) (g : Gu) (x br : Nat) (W : World) : Prop :=
  ∃ A1 c1 A2 c2 A3 c3, Lk W x g (gHd l g) (.slice A1 (splA (gReg l g) (gOid g)).length c1) (.slice A2 (splB (gReg l g) (gOid g)).length c2) (.slice A3 (gPay l g).length c3) ∧
    Rd W W.heap.size 1 A1 (splA (gReg l g) (gOid g)).length (bcells (splA (gReg l g) (gOid g))) ∧ Rd W W.heap.size 1 A2 (splB (gReg l g) (gOid g)).length (bcells (splB (gReg l g) (gOid g))) ∧ Rd W W.heap.size 1 A3 (gPay l g).length (bcells (gPay l g)) ∧
    ((splA (gReg l g) (gOid g)).length ≤ c1 ∧ c1 ≤ 9223372036854775807) ∧ ((splB (gReg l g) (gOid g)).length ≤ c2 ∧ c2 ≤ 9223372036854775807) ∧ ((gPay l g).length ≤ c3 ∧ c3 ≤ 9223372036854775807) ∧ (∀ y, A3 = some y → y.block ≠ br) ∧ IsU8 W A3
theorem LkAt.ext {l : List UInt8} {g : Gu} {x br : Nat} {W W' : World} (h : LkAt l g x br W) (k : Below W.heap.size W W') : LkAt l g x br W' := by
  obtain ⟨A1, c1, A2, c2, A3, c3, h1, h2, h3, h4, h5, h6, h7, h8, h9⟩ := h
  exact ⟨A1, c1, A2, c2, A3, c3, h1.below k h1.lt, (h2.below k).more k.size, (h3.below k).more k.size, (h4.below k).more k.size, h5, h6, h7, h8, h9.below k⟩
def CkS (w0 : World) (v y z br bs x f : Nat) (l : List UInt8) (g : Gu) (c : Ctr) (k : Nat) (W : World) : Prop :=
  LSt w0 v y z br bs x f c W ∧ (k = 0 → Lk W x g zhd (.slice none 0 0) (.slice none 0 0) (.slice none 0 0)) ∧ (0 < k → LkAt l g x br W)
end Go.Proofs.YtipdmhppadapkaaGreatDoor
