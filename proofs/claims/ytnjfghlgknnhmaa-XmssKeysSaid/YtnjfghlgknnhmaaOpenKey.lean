/-
  api.Key as an argument.
-/
import Derived.Test.YtnjfghlgknnhmaaOpen
import Derived.Test.YtnjfghlgknnhmaaXmssE
namespace Go.Proofs.Ytnjfghlgknnhmaa.Frame
open Go.ChangeShapes Go.WideShapes Go.ChangeAt Go.RowKit

theorem wfn_u32 {a : Int} (h : (Lit.int .u32 a).wf = true) : ∃ n : Nat, n < 4294967296 ∧ a = n := by
  simp [Lit.wf, IntKind.min, IntKind.max, IntKind.bits, IntKind.signed] at h
  exact ⟨a.toNat, by omega, by omega⟩
set_option maxRecDepth 100000 in
theorem open_key {H : Type} {enc : TypeId × Value → H} {W : World} {r : Reach} {b0 : Nat} {v : Value} {d : DataW H} {p : List MemPlace}
    (hval : Value.okWide Try.prog W r b0 41 v) (h : DataW.Trod enc Try.prog W 0 (fun _ => true) true 41 v d p) :
    ∃ o r s, v = .agg (keyCells o r s).toArray ∧ o < 4294967296 ∧ r.length = 32 ∧ s.length = 32 := by
  have hs := Try.underlying41
  obtain ⟨cs, rfl, hr⟩ := agg_of hs hval h
  have h65 : Try.prog.cellsOf 41 = 65 := by kernel_rfl
  have hl : cs.length = 65 := by rw [raw_len_struct hs hr, h65]
  have c1 : Try.prog.cellsOf 22 = 1 := by kernel_rfl
  have c32 : Try.prog.cellsOf 29 = 32 := by kernel_rfl
  have c8 : Try.prog.cellsOf 5 = 1 := by kernel_rfl
  have f0 : Raw enc Try.prog W 22 ((cs.drop 0).take (Try.prog.cellsOf 22)) := raw_field hs hr 0 _ rfl
  have f1 : Raw enc Try.prog W 29 ((cs.drop 1).take (Try.prog.cellsOf 29)) := raw_field hs hr 1 _ rfl
  have f2 : Raw enc Try.prog W 29 ((cs.drop 33).take (Try.prog.cellsOf 29)) := raw_field hs hr 2 _ rfl
  rw [c1] at f0
  rw [c32] at f1 f2
  obtain ⟨z, e0, w0⟩ := raw_int Try.underlying22 f0
  obtain ⟨o, ho, rfl⟩ := wfn_u32 w0
  obtain ⟨r, e1, hr1⟩ := raw_bytes Try.underlying29 Try.underlying5 c8 c32 f1
  obtain ⟨s, e2, hs1⟩ := raw_bytes Try.underlying29 Try.underlying5 c8 c32 f2
  refine ⟨o, r, s, ?_, ho, hr1, hs1⟩
  congr 1
  have e : cs = (cs.drop 0).take 1 ++ ((cs.drop 1).take 32 ++ (cs.drop 33).take 32) := by
    have e3 : (cs.drop 33).take 32 = cs.drop 33 := List.take_of_length_le (by rw [List.length_drop, hl]; omega)
    rw [e3, ← cells_split (cs := cs) (o := 1) (s := 32), List.drop_zero, List.take_append_drop]
  rw [e, e0, e1, e2]
  rfl
end Go.Proofs.Ytnjfghlgknnhmaa.Frame
