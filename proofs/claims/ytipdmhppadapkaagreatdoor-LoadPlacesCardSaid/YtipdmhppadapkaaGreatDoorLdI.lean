/-
  Walks: SameVerdict of verdicts that are one; few.
-/
import Derived.Test.YtipdmhppadapkaaGreatDoorLdG
namespace Go.Proofs.YtipdmhppadapkaaGreatDoor
open Go.RowKit Sha

/-- a verdict of an error alone -/
theorem CkRet.bad {w w' : World} {l : List UInt8} {g : Gu} {c : Ctr} {E : Int} (hE : vErr l g c = E) (h0 : E ≠ 0) (B : Below w.heap.size w w') : CkRet w l g c (.returned (.agg (vdCells E 0 z32 none 0 0).toArray)) w' := by
  have h1 : ¬ vErr l g c = 0 := by rw [hE]; exact h0
  have e1 : vVer l g c = 0 := by rw [vVer, if_neg h1]
  have e2 : vDig l g c = z32 := by rw [vDig, if_neg h1]
  have e3 : vPay l g c = [] := by rw [vPay, if_neg h1]
  unfold CkRet
  rw [e1, e2, e3, hE]
  exact ⟨none, 0, rfl, Nat.le_refl _, Rd.nil _ _ _ _, B⟩
end Go.Proofs.YtipdmhppadapkaaGreatDoor
