/-
  []portreevelaw09.Deed as an argument.
-/
import Derived.Test.YtjfmgoickokbjaaOpenSpan
import Derived.Test.YtjfmgoickokbjaaMaR
namespace Go.Proofs.Ytjfmgoickokbjaa.Frame
open Go.ChangeShapes Go.WideShapes Go.ChangeAt Go.RowKit

section
variable {H : Type} {enc : TypeId × Value → H} {W : World}
set_option maxRecDepth 100000 in
theorem raw_deed {cs : List Value} (h : Raw enc Try.prog W 69 cs) : ∃ k : Dd, cs = k.cells ∧ k.ok W W.heap.size := by
  have hs := Try.underlying69
  have h4 : Try.prog.cellsOf 69 = 4 := by kernel_rfl
  have hl : cs.length = 4 := by rw [raw_len_struct hs h, h4]
  have c0 : Try.prog.cellsOf 3 = 1 := by kernel_rfl
  have c1 : Try.prog.cellsOf 22 = 1 := by kernel_rfl
  have c2 : Try.prog.cellsOf 26 = 1 := by kernel_rfl
  have f0 : Raw enc Try.prog W 3 ((cs.drop 0).take (Try.prog.cellsOf 3)) := raw_field hs h 0 _ rfl
  have f1 : Raw enc Try.prog W 22 ((cs.drop 1).take (Try.prog.cellsOf 22)) := raw_field hs h 1 _ rfl
  have f2 : Raw enc Try.prog W 22 ((cs.drop 2).take (Try.prog.cellsOf 22)) := raw_field hs h 2 _ rfl
  have f3 : Raw enc Try.prog W 26 ((cs.drop 3).take (Try.prog.cellsOf 26)) := raw_field hs h 3 _ rfl
  rw [c0] at f0
  rw [c1] at f1 f2
  rw [c2] at f3
  obtain ⟨z0, e0, w0⟩ := raw_int Try.underlying3 f0
  obtain ⟨z1, e1, w1⟩ := raw_int Try.underlying22 f1
  obtain ⟨o1, ho1, rfl⟩ := wfm_u64 w1
  obtain ⟨z2, e2, w2⟩ := raw_int Try.underlying22 f2
  obtain ⟨o2, ho2, rfl⟩ := wfm_u64 w2
  obtain ⟨A, n, c, l, e3, r1, r2, r3⟩ := raw_bslice f3
  refine ⟨⟨z0, o1, o2, A, n, c, l⟩, ?_, ⟨w0, ho1, ho2, ⟨r2, r3⟩, r1⟩⟩
  have e : cs = (cs.drop 0).take 1 ++ ((cs.drop 1).take 1 ++ ((cs.drop 2).take 1 ++ (cs.drop 3).take 1)) := by
    have e5 : (cs.drop 3).take 1 = cs.drop 3 := List.take_of_length_le (by rw [List.length_drop, hl]; omega)
    rw [e5, ← cells_split (cs := cs) (o := 2) (s := 1), ← cells_split (cs := cs) (o := 1) (s := 1), List.drop_zero, List.take_append_drop]
  rw [e, e0, e1, e2, e3]; rfl
set_option maxRecDepth 100000 in
theorem open_deeds {r : Reach} {b0 : Nat} {v : Value} {d : DataW H} {p : List MemPlace} (hval : Value.okWide Try.prog W r b0 67 v) (h : DataW.Trod enc Try.prog W 0 (fun _ => true) true 67 v d p) :
    ∃ A n c, ∃ J : List Dd, v = .slice A n c ∧ Rd W W.heap.size 4 A n (dcells J) ∧ ∀ k ∈ J, k.ok W W.heap.size := by
  have c2 : Try.prog.cellsOf 69 = 4 := by kernel_rfl
  obtain ⟨A, n, c, L, h1, _, _, h4, h5, h6⟩ := raw_slice Try.underlying67 (slice_of Try.underlying67 hval h)
  obtain ⟨J, rfl, hq⟩ := choose_eq (f := Dd.cells) (Q := fun k => k.ok W W.heap.size) L fun a ha => raw_deed (h6 a ha).2
  rw [c2, flat_list] at h5
  simp only [List.cons.injEq, and_true] at h1
  exact ⟨A, n, c, J, h1, h5, hq⟩
end
end Go.Proofs.Ytjfmgoickokbjaa.Frame
