/-
  How the arguments are opened for the walks, whatever the law.
-/
import Derived.Test.YtipdmhppadapkaaGreatDoorBA
import Derived.ProofKit
import Derived.OpenShut
import Derived.ShutString
import Derived.ChangeOld
import Derived.Below
namespace Go.Proofs.YtipdmhppadapkaaGreatDoor.Frame
open Go.ChangeShapes Go.WideShapes Go.ChangeAt Go.RowKit
open Go.ChangeMaps (open_string shut_string)

theorem own : ownKnob Tryz.prog.godebug = none := by kernel_rfl
theorem laidOut : laidOutB Tryz.prog = true := by kernel_rfl

section
variable {H : Type} {enc : TypeId × Value → H} {P : Program} {W : World}
theorem open_bytes {t e : TypeId} {r : Reach} {b0 : Nat} {v : Value} {d : DataW H} {p : List MemPlace} (ht : P.underlying t = some (.slice e)) (he : P.underlying e = some (.int .u8)) (hC : P.cellsOf e = 1)
    (hval : Value.okWide P W r b0 t v) (h : DataW.Trod enc P W 0 (fun _ => true) true t v d p) :
    ∃ A n c l, v = .slice A n c ∧ Rd W W.heap.size 1 A n (bcells l) ∧ n ≤ c ∧ c ≤ 9223372036854775807 := by
  obtain ⟨A, n, c, rfl⟩ := okWide_slice ht hval
  obtain ⟨fuel, hf⟩ := h
  rcases open_ints ht he hC hf with ⟨hcs, _⟩ | ⟨x, l, c', zs, hcs, _, hl, hm, hz, _, hcell, hwz⟩
  · simp [Value.cells] at hcs
    obtain ⟨rfl, rfl, rfl⟩ := hcs
    exact ⟨none, 0, 0, [], rfl, Rd.nil _ _ _ _, Nat.le_refl _, by omega⟩
  · simp [Value.cells] at hcs
    obtain ⟨rfl, rfl, rfl⟩ := hcs
    simp at hz
    refine ⟨some x, n, c, (zs.take n).map fun z => UInt8.ofNat z.toNat, rfl, ⟨by simp [bcells]; omega, fun k v hv => ?_⟩, hl, by simp only [maxLen] at hm; omega⟩
    have hk : k < n := by
      have := (List.getElem?_eq_some_iff.1 hv).1
      simp [bcells] at this; omega
    have hkz : k < zs.length := by omega
    have hc := hcell k hkz
    have hw := hwz (zs[k]) (List.getElem_mem hkz)
    simp [Lit.wf, IntKind.min, IntKind.max, IntKind.bits, IntKind.signed] at hw
    have hu : ((UInt8.ofNat (zs[k]).toNat).toNat : Int) = zs[k] := by
      rw [UInt8.toNat_ofNat']; omega
    have hv' : v = .int .u8 (zs[k]) := by
      simp [bcells, hk, List.getElem?_eq_getElem hkz] at hv
      rw [← hv]
      congr 1
      omega
    rw [List.getD_eq_getElem?_getD, List.getElem?_eq_getElem hkz] at hc
    have hlt : x.block < W.heap.size := by
      have := block_lt_of_cell hc
      rw [addr_block] at this; exact this
    exact ⟨x, rfl, hlt, by rw [hv']; exact hc⟩
end
end Go.Proofs.YtipdmhppadapkaaGreatDoor.Frame
