/-
  api.Header as an argument.
-/
import Derived.Test.YtnjfghlgknnhmaaOpen
import Derived.Test.YtnjfghlgknnhmaaImgC
namespace Go.Proofs.Ytnjfghlgknnhmaa.Frame
open Go.ChangeShapes Go.WideShapes Go.ChangeAt Go.RowKit

theorem wfh_u32 {a : Int} (h : (Lit.int .u32 a).wf = true) : ∃ n : Nat, n < 4294967296 ∧ a = n := by
  simp [Lit.wf, IntKind.min, IntKind.max, IntKind.bits, IntKind.signed] at h
  exact ⟨a.toNat, by omega, by omega⟩
set_option maxRecDepth 100000 in
theorem open_hd {H : Type} {enc : TypeId × Value → H} {W : World} {r : Reach} {b0 : Nat} {v : Value} {d : DataW H} {p : List MemPlace}
    (hval : Value.okWide Try.prog W r b0 55 v) (h : DataW.Trod enc Try.prog W 0 (fun _ => true) true 55 v d p) :
    ∃ x : Hd, v = .agg (hdCells x).toArray ∧ x.ok := by
  have hs := Try.underlying55
  obtain ⟨cs, rfl, hr⟩ := agg_of hs hval h
  have h35 : Try.prog.cellsOf 55 = 35 := by kernel_rfl
  have hl : cs.length = 35 := by rw [raw_len_struct hs hr, h35]
  have c1 : Try.prog.cellsOf 22 = 1 := by kernel_rfl
  have c2 : Try.prog.cellsOf 9 = 1 := by kernel_rfl
  have c32 : Try.prog.cellsOf 29 = 32 := by kernel_rfl
  have c8 : Try.prog.cellsOf 5 = 1 := by kernel_rfl
  have f0 : Raw enc Try.prog W 22 ((cs.drop 0).take (Try.prog.cellsOf 22)) := raw_field hs hr 0 _ rfl
  have f1 : Raw enc Try.prog W 22 ((cs.drop 1).take (Try.prog.cellsOf 22)) := raw_field hs hr 1 _ rfl
  have f2 : Raw enc Try.prog W 9 ((cs.drop 2).take (Try.prog.cellsOf 9)) := raw_field hs hr 2 _ rfl
  have f3 : Raw enc Try.prog W 29 ((cs.drop 3).take (Try.prog.cellsOf 29)) := raw_field hs hr 3 _ rfl
  rw [c1] at f0 f1
  rw [c2] at f2
  rw [c32] at f3
  obtain ⟨z, e0, w0⟩ := raw_int Try.underlying22 f0
  obtain ⟨o, ho, rfl⟩ := wfh_u32 w0
  obtain ⟨z1, e1, w1⟩ := raw_int Try.underlying22 f1
  obtain ⟨o1, ho1, rfl⟩ := wfh_u32 w1
  obtain ⟨s, e2, hs2⟩ := raw_string Try.underlying9 f2
  obtain ⟨d, e3, hd3⟩ := raw_bytes Try.underlying29 Try.underlying5 c8 c32 f3
  obtain ⟨arr⟩ := s
  refine ⟨⟨o, o1, arr.toList, d⟩, ?_, ⟨ho, ho1, by simpa [ByteArray.size, maxLen] using hs2, hd3⟩⟩
  congr 1
  have e : cs = (cs.drop 0).take 1 ++ ((cs.drop 1).take 1 ++ ((cs.drop 2).take 1 ++ (cs.drop 3).take 32)) := by
    have e3 : (cs.drop 3).take 32 = cs.drop 3 := List.take_of_length_le (by rw [List.length_drop, hl]; omega)
    rw [e3, ← cells_split (cs := cs) (o := 2) (s := 1), ← cells_split (cs := cs) (o := 1) (s := 1), List.drop_zero, List.take_append_drop]
  rw [e, e0, e1, e2, e3]
  simp [hdCells]
end Go.Proofs.Ytnjfghlgknnhmaa.Frame
