/-
  Walks: SameVerdict of verdicts that are one; few.
-/
import Derived.Test.YtipdmhppadapkaaGreatDoorLdG
namespace Go.Proofs.YtipdmhppadapkaaGreatDoor
open Go.RowKit Sha

theorem vd_e {w : World} {b : Nat} {E : Int} {ver : Nat} {dig : List UInt8} {A : Option Addr} {n k : Nat} (h : Blk w b 41 (vdCells E ver dig A n k).toArray) : w.cell? ⟨b, 0, none⟩ = some (.int .i64 E) := (h.cell 0).trans rfl
theorem vd_ver {w : World} {b : Nat} {E : Int} {ver : Nat} {dig : List UInt8} {A : Option Addr} {n k : Nat} (h : Blk w b 41 (vdCells E ver dig A n k).toArray) : w.cell? ⟨b, 1, none⟩ = some (.int .u32 (ver : Int)) := (h.cell 1).trans rfl
theorem vd_dig {w : World} {b : Nat} {E : Int} {ver : Nat} {dig : List UInt8} {A : Option Addr} {n k : Nat} (h : Blk w b 41 (vdCells E ver dig A n k).toArray) : w.rangeAt b 2 (bcells dig) := range_of (n := 2) h rfl
theorem vd_pay {w : World} {b : Nat} {E : Int} {ver : Nat} {dig : List UInt8} {A : Option Addr} {n k : Nat} (h : Blk w b 41 (vdCells E ver dig A n k).toArray) (hd : dig.length = 32) : w.cell? ⟨b, 34, none⟩ = some (.slice A n k) := by
  rw [h.cell, List.getElem?_toArray, vdCells]
  exact get_app (n := 34) (by simp [bcells_length, hd]) 0
theorem errAt_zero {E : Nat → Int} : ∀ {k : Nat}, (∀ i, i < k → E i = 0) → firstE E k = 0
  | 0, _ => rfl
  | k + 1, h => by rw [firstE, if_neg (by rw [errAt_zero (fun i hi => h i (by omega))]; simp)]; exact h k (by omega)
/-- the first error, where those ahead of it are 0 -/
theorem vErr_at {l : List UInt8} {g : Gu} {c : Ctr} (k : Nat) (hk : k < 7) (h : ∀ i, i < k → errAt l g c i = 0) (he : errAt l g c k ≠ 0) : vErr l g c = errAt l g c k := by
  have h1 : firstE (errAt l g c) (k + 1) = errAt l g c k := by rw [firstE, if_neg (by rw [errAt_zero h]; simp)]
  rw [vErr, firstE_bad (k := k + 1) (by rw [h1]; exact he) 7 (by omega), h1]
theorem vErr_ok {l : List UInt8} {g : Gu} {c : Ctr} (h : ∀ i, i < 7 → errAt l g c i = 0) : vErr l g c = 0 := errAt_zero h
/-- a verdict of an error alone -/
theorem CkRet.bad {w w' : World} {l : List UInt8} {g : Gu} {c : Ctr} {E : Int} (hE : vErr l g c = E) (h0 : E ≠ 0) (B : Below w.heap.size w w') : CkRet w l g c (.returned (.agg (vdCells E 0 z32 none 0 0).toArray)) w' := by
  have h1 : ¬ vErr l g c = 0 := by rw [hE]; exact h0
  have e1 : vVer l g c = 0 := by rw [vVer, if_neg h1]
  have e2 : vDig l g c = z32 := by rw [vDig, if_neg h1]
  have e3 : vPay l g c = [] := by rw [vPay, if_neg h1]
  unfold CkRet
  rw [e1, e2, e3, hE]
  exact ⟨none, 0, rfl, Nat.le_refl _, Rd.nil _ _ _ _, B⟩
end Go.Proofs.YtipdmhppadapkaaGreatDoor
