/-
  []api.Node as an argument.
-/
import Derived.Test.YtgfdjfglfipjfaaDoorOpen
import Derived.Test.YtgfdjfglfipjfaaDoorBA
namespace Go.Proofs.YtgfdjfglfipjfaaDoor.Frame
open Go.ChangeShapes Go.WideShapes Go.ChangeAt Go.RowKit

section
variable {H : Type} {enc : TypeId × Value → H} {W : World}
theorem raw_nodes {cs : List Value} (h : Raw enc Tryd.prog W 22 cs) : ∃ A n c, ∃ l : List (List UInt8), cs = [.slice A n c] ∧ n = l.length ∧ n ≤ c ∧ c ≤ 9223372036854775807 ∧ Rd W W.heap.size 32 A n (ncells l) ∧ ∀ x ∈ l, x.length = 32 := by
  have c32 : Tryd.prog.cellsOf 24 = 32 := by kernel_rfl
  have c8 : Tryd.prog.cellsOf 5 = 1 := by kernel_rfl
  obtain ⟨A, n, c, L, h1, h2, h3, h4, h5, h6⟩ := raw_slice Tryd.underlying22 h
  obtain ⟨ns, rfl, hq⟩ := choose_eq (f := bcells) (Q := fun x => x.length = 32) L fun a ha => raw_bytes Tryd.underlying24 Tryd.underlying5 c8 c32 (h6 a ha).2
  rw [c32] at h5
  exact ⟨A, n, c, ns, h1, by rw [← h4]; simp, h2, h3, h5, hq⟩
set_option maxRecDepth 100000 in
theorem open_nodes {r : Reach} {b0 : Nat} {v : Value} {d : DataW H} {p : List MemPlace} (hval : Value.okWide Tryd.prog W r b0 22 v) (h : DataW.Trod enc Tryd.prog W 0 (fun _ => true) true 22 v d p) :
    ∃ A n c, ∃ l : List (List UInt8), v = .slice A n c ∧ n = l.length ∧ n ≤ c ∧ Rd W W.heap.size 32 A n (ncells l) ∧ ∀ x ∈ l, x.length = 32 := by
  obtain ⟨A, n, c, l, h1, h2, h3, _, h5, h6⟩ := raw_nodes (slice_of Tryd.underlying22 hval h)
  simp only [List.cons.injEq, and_true] at h1
  exact ⟨A, n, c, l, h1, h2, h3, h5, h6⟩
end
end Go.Proofs.YtgfdjfglfipjfaaDoor.Frame
