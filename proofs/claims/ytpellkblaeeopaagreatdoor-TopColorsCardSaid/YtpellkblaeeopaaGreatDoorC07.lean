/-
  Parts: SrtJ.
-/
import Derived.Test.YtpellkblaeeopaaGreatDoorC06
/-
  Walk: pdqsortOrdered at uint64.
-/
namespace Go.Proofs.YtpellkblaeeopaaGreatDoor
open Go.RowKit

/-- what stands of the sort: once [aa, bb) is sorted, all is -/
structure PI (aa bb n : Nat) (d : Array Nat) (G : Array Nat → Prop) : Prop where
  below : Sort.Below ltN aa bb d
  size : d.size = n
  le : bb ≤ n
  fin : ∀ X, Sort.PermIn aa bb d X → Sort.SortedIn ltN aa bb X → G X
namespace PI
variable {aa bb n p : Nat} {d d2 : Array Nat} {G : Array Nat → Prop}
theorem perm (h : PI aa bb n d G) (hp : Sort.PermIn aa bb d d2) : PI aa bb n d2 G :=
  ⟨h.below.perm (by rw [h.size]; exact h.le) hp, by rw [hp.1]; exact h.size, h.le, fun X h1 h2 => h.fin X (Sort.permIn_trans _ _ _ aa bb hp h1) h2⟩
end PI

end Go.Proofs.YtpellkblaeeopaaGreatDoor
