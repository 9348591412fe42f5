/-
  Parts: ShaE ShaK PrfA PrfB PrfC PrfD PrfE.
-/
import Derived.Test.YtipdmhppadapkaaGreatDoorBB
import Derived.StillTailTactics
import Derived.Deep.Cut
import Derived.Test.YtipdmhppadapkaaGreatDoorBA
import Derived.ArgAppend
/-
  Walk: portreeveref03.Block: the same block taken in.
-/
namespace Go.Proofs.YtipdmhppadapkaaGreatDoor
open Go.RowKit Sha

attribute [local go_sem] u_add3' u_add4' u_notm u_uc u_shl24 u_shl16 u_shl8 u_shr3 u_shr10 u_xor u_and u_or u_not u_add u_add' u_shr u_shl u_shl' rotr_alt

def z8 : Array Value := rcells 8 []
/-- the blocks that the reference keeps while it takes a block in -/
structure RB (w : World) (b2 b4 b5 b6 : Nat) (v : V8) (cs : Array Value) (wr : World) : Prop where
  le2 : w.heap.size ≤ b2
  lt4 : b2 < b4
  lt5 : b4 < b5
  lt6 : b5 < b6
  H : Blk wr b2 110 (wcells v.list).toArray
  O : Blk wr b4 110 z8
  K : Blk wr b5 167 (wcells kTab).toArray
  M : Blk wr b6 167 cs
  B : Below w.heap.size w wr
namespace RB
variable {w wr : World} {b2 b4 b5 b6 : Nat} {v : V8} {cs : Array Value}
theorem le6 (h : RB w b2 b4 b5 b6 v cs wr) : w.heap.size ≤ b6 := by have := h.le2; have := h.lt4; have := h.lt5; have := h.lt6; omega
theorem drew (h : RB w b2 b4 b5 b6 v cs wr) : RB w b2 b4 b5 b6 v cs wr.drew := ⟨h.le2, h.lt4, h.lt5, h.lt6, h.H.drew, h.O.drew, h.K.drew, h.M.drew, h.B.drew⟩
theorem set (h : RB w b2 b4 b5 b6 v cs wr) (k : Nat) (x : Value) : RB w b2 b4 b5 b6 v (cs.setIfInBounds k x) (wr.setCell ⟨b6, k, none⟩ x) :=
  ⟨h.le2, h.lt4, h.lt5, h.lt6, h.H.far (by have := h.lt4; have := h.lt5; have := h.lt6; simp; omega) _, h.O.far (by have := h.lt5; have := h.lt6; simp; omega) _, h.K.far (by have := h.lt6; simp; omega) _, h.M.set_ k x, h.B.setCell (p := ⟨b6, k, none⟩) (by have := h.le6; simpa using this) x⟩
theorem chg (h : RB w b2 b4 b5 b6 v cs wr) {w' : World} {g : Nat} (c : Chg (fun b => b = g) wr w') (hg : b6 < g) : RB w b2 b4 b5 b6 v cs w' := by
  have l2 := h.le2
  have l4 := h.lt4
  have l5 := h.lt5
  have l6 := h.lt6
  exact ⟨l2, l4, l5, l6, h.H.chg c (show ¬ b2 = g by omega), h.O.chg c (show ¬ b4 = g by omega), h.K.chg c (show ¬ b5 = g by omega), h.M.chg c (show ¬ b6 = g by omega), h.B.trans (c.below (fun k e => by have e : k = g := e; omega) h.B.size)⟩
end RB
end Go.Proofs.YtipdmhppadapkaaGreatDoor
/-
  Walks: portreeveref03.Pad, Sum.
-/
namespace Go.Proofs.YtipdmhppadapkaaGreatDoor
open Go.RowKit Sha

attribute [local go_sem] u_shr24 u_shr16 u_shr8 u_shr u_ob u_ob'

end Go.Proofs.YtipdmhppadapkaaGreatDoor
/-
  Walks: prf.Keyed and portreeveref04.Keyed.
-/
namespace Go.Proofs.YtipdmhppadapkaaGreatDoor
open Go.RowKit Sha

/-- a hash of a kind -/
def keyed (kind : Nat) (b : List UInt8) : List UInt8 := Sha.sum (List.replicate 28 0 ++ putNum kind 4 false ++ b)
end Go.Proofs.YtipdmhppadapkaaGreatDoor
/-
  Walks: prf.F, prf.H.
-/
namespace Go.Proofs.YtipdmhppadapkaaGreatDoor
open Go.RowKit Sha

theorem ok2 {W : World} {A A2 : Option Addr} {c c2 : Nat} {l l2 : List UInt8} (h : Rd W W.heap.size 1 A 32 (bcells l)) (h2 : Rd W W.heap.size 1 A2 32 (bcells l2)) : ∀ b ∈ [(⟨A, 32, c, l⟩ : Bs), ⟨A2, 32, c2, l2⟩], b.ok W W.heap.size := by
  intro b hb; simp only [List.mem_cons, List.not_mem_nil, or_false] at hb; rcases hb with rfl | rfl <;> assumption
def fH (k m : List UInt8) : List UInt8 := keyed 0 (k ++ m)
def hH2 (k l r : List UInt8) : List UInt8 := keyed 1 (k ++ l ++ r)

end Go.Proofs.YtipdmhppadapkaaGreatDoor
/-
  Walks: portreeveref04.F, H.
-/
namespace Go.Proofs.YtipdmhppadapkaaGreatDoor
open Go.RowKit Sha

section
variable {P : Program} {ops : Array Oper} {rest : List Oper} {o : Oper} {a : Act} {Q : Exit → Act → World → Prop}
end
end Go.Proofs.YtipdmhppadapkaaGreatDoor
/-
  Walks: prf.Xor, portreeveref04.Xor.
-/
namespace Go.Proofs.YtipdmhppadapkaaGreatDoor
open Go.RowKit Sha

def xorL (a b : List UInt8) : List UInt8 := List.zipWith (fun x y => x ^^^ y) a b
theorem u8_xorB (a b : UInt8) : bits .xor .u8 (a.toNat : Int) (b.toNat : Int) = ((a ^^^ b).toNat : Int) := by
  rw [u8_xor_nat _ _ a.toNat_lt b.toNat_lt, UInt8.toNat_xor]
attribute [local go_sem] u8_xorB

end Go.Proofs.YtipdmhppadapkaaGreatDoor
/-
  Walks of the statements PrfXors, PrfNodes.
-/
namespace Go.Proofs.YtipdmhppadapkaaGreatDoor
open Go.RowKit Sha

end Go.Proofs.YtipdmhppadapkaaGreatDoor
