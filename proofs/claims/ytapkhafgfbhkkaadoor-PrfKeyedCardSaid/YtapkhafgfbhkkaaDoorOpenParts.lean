/-
  [][]byte as an argument.
-/
import Derived.Test.YtapkhafgfbhkkaaDoorOpen
import Derived.Test.YtapkhafgfbhkkaaDoorWordC
namespace Go.Proofs.YtapkhafgfbhkkaaDoor.Frame
open Go.ChangeShapes Go.WideShapes Go.ChangeAt Go.RowKit
theorem flat_one {α β : Type} (f : α → β) (l : List α) : (l.map fun b => [f b]).flatten = l.map f := by
  induction l with
  | nil => rfl
  | cons x l ih => rw [List.map_cons, List.flatten_cons, ih]; rfl
section
variable {H : Type} {enc : TypeId × Value → H} {W : World}
theorem raw_bytesB {cs : List Value} (hc1 : cs.length = 1) (h : Raw enc Tryd.prog W 25 cs) : ∃ b : Bs, cs = [b.val] ∧ b.ok W W.heap.size ∧ b.n ≤ b.c ∧ b.c ≤ 9223372036854775807 := by
  have c8 : Tryd.prog.cellsOf 5 = 1 := by kernel_rfl
  obtain ⟨A, n, c, L, h1, h2, h3, h4, h5, h6⟩ := raw_slice Tryd.underlying25 h
  obtain ⟨l, rfl, _⟩ := choose_eq (f := fun b : UInt8 => [Value.int .u8 (b.toNat : Int)]) (Q := fun _ => True) L fun a ha => by
    obtain ⟨z, e, w⟩ := raw_int Tryd.underlying5 (h6 a ha).2
    exact ⟨UInt8.ofNat z.toNat, by rw [e, wf_byte w], trivial⟩
  rw [c8] at h5
  have e : (l.map fun b : UInt8 => [Value.int .u8 (b.toNat : Int)]).flatten = bcells l := flat_one _ l
  rw [e] at h5
  exact ⟨⟨A, n, c, l⟩, h1, h5, h2, h3⟩
theorem open_parts {r : Reach} {b0 : Nat} {v : Value} {d : DataW H} {p : List MemPlace} (hval : Value.okWide Tryd.prog W r b0 23 v) (h : DataW.Trod enc Tryd.prog W 0 (fun _ => true) true 23 v d p) :
    ∃ A n c, ∃ ps : List Bs, v = .slice A n c ∧ Rd W W.heap.size 1 A n (ps.map Bs.val) ∧ (∀ b ∈ ps, b.ok W W.heap.size) ∧ ∀ b ∈ ps, b.n ≤ b.c ∧ b.c ≤ 9223372036854775807 := by
  have c1 : Tryd.prog.cellsOf 25 = 1 := by kernel_rfl
  obtain ⟨A, n, c, L, h1, _, _, h4, h5, h6⟩ := raw_slice Tryd.underlying23 (slice_of Tryd.underlying23 hval h)
  obtain ⟨ps, rfl, hq⟩ := choose_eq (f := fun b : Bs => [b.val]) (Q := fun b => b.ok W W.heap.size ∧ b.n ≤ b.c ∧ b.c ≤ 9223372036854775807) L fun a ha => raw_bytesB (by rw [(h6 a ha).1, c1]) (h6 a ha).2
  rw [c1] at h5
  simp only [List.cons.injEq, and_true] at h1
  have e : (ps.map fun b => [b.val]).flatten = ps.map Bs.val := flat_one _ ps
  rw [e] at h5
  exact ⟨A, n, c, ps, h1, h5, fun b hb => (hq b hb).1, fun b hb => (hq b hb).2⟩
end
end Go.Proofs.YtapkhafgfbhkkaaDoor.Frame
