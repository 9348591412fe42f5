/-
  A string as an argument.
-/
import Derived.Test.YtnjfghlgknnhmaaFrame
import Derived.ChangeMaps5
namespace Go.Proofs.Ytnjfghlgknnhmaa.Frame
open Go.ChangeShapes Go.WideShapes Go.ChangeAt Go.RowKit
open Go.ChangeMaps (open_string shut_string)

theorem open_strL {P : Program} {H : Type} {enc : TypeId × Value → H} {w : World} {r : Reach} {b0 base : Nat} {sp : Nat → Bool} {held : Bool} {t : TypeId} {v : Value} {d : DataW H} {p : List MemPlace} (ht : P.underlying t = some .string)
    (hval : Value.okWide P w r b0 t v) (h : DataW.Trod enc P w base sp held t v d p) : ∃ S : List UInt8, v = .string ⟨S.toArray⟩ ∧ S.length ≤ 9223372036854775807 := by
  obtain ⟨s, rfl, _, _, hs⟩ := open_string ht hval h
  cases s with
  | mk a => exact ⟨a.toList, by simp, by simpa [ByteArray.size, maxLen] using hs⟩
end Go.Proofs.Ytnjfghlgknnhmaa.Frame
