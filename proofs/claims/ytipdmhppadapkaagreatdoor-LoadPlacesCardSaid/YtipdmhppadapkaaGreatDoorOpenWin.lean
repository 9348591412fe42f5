/-
  api.Window as an argument.
-/
import Derived.Test.YtipdmhppadapkaaGreatDoorOpenSpan
import Derived.Test.YtipdmhppadapkaaGreatDoorPlB
namespace Go.Proofs.YtipdmhppadapkaaGreatDoor.Frame
open Go.ChangeShapes Go.WideShapes Go.ChangeAt Go.RowKit

section
variable {H : Type} {enc : TypeId × Value → H} {W : World}
set_option maxRecDepth 100000 in
theorem open_win {r : Reach} {b0 : Nat} {v : Value} {d : DataW H} {p : List MemPlace} (hval : Value.okWide Tryz.prog W r b0 57 v) (h : DataW.Trod enc Tryz.prog W 0 (fun _ => true) true 57 v d p) :
    ∃ b : Win, v = .agg b.cells ∧ b.ok := by
  have hs := Tryz.underlying57
  obtain ⟨cs, rfl, hr⟩ := agg_of hs hval h
  have h4 : Tryz.prog.cellsOf 57 = 4 := by kernel_rfl
  have hl : cs.length = 4 := by rw [raw_len_struct hs hr, h4]
  have c1 : Tryz.prog.cellsOf 24 = 1 := by kernel_rfl
  have c2 : Tryz.prog.cellsOf 3 = 1 := by kernel_rfl
  have f0 : Raw enc Tryz.prog W 24 ((cs.drop 0).take (Tryz.prog.cellsOf 24)) := raw_field hs hr 0 _ rfl
  have f1 : Raw enc Tryz.prog W 24 ((cs.drop 1).take (Tryz.prog.cellsOf 24)) := raw_field hs hr 1 _ rfl
  have f2 : Raw enc Tryz.prog W 24 ((cs.drop 2).take (Tryz.prog.cellsOf 24)) := raw_field hs hr 2 _ rfl
  have f3 : Raw enc Tryz.prog W 3 ((cs.drop 3).take (Tryz.prog.cellsOf 3)) := raw_field hs hr 3 _ rfl
  rw [c1] at f0 f1 f2
  rw [c2] at f3
  obtain ⟨z0, e0, w0⟩ := raw_int Tryz.underlying24 f0
  obtain ⟨o0, ho0, rfl⟩ := wfm_u64 w0
  obtain ⟨z1, e1, w1⟩ := raw_int Tryz.underlying24 f1
  obtain ⟨o1, ho1, rfl⟩ := wfm_u64 w1
  obtain ⟨z2, e2, w2⟩ := raw_int Tryz.underlying24 f2
  obtain ⟨o2, ho2, rfl⟩ := wfm_u64 w2
  obtain ⟨z3, e3, w3⟩ := raw_int Tryz.underlying3 f3
  refine ⟨⟨o0, o1, o2, z3⟩, ?_, ⟨ho0, ho1, ho2, w3⟩⟩
  congr 1
  have e : cs = (cs.drop 0).take 1 ++ ((cs.drop 1).take 1 ++ ((cs.drop 2).take 1 ++ (cs.drop 3).take 1)) := by
    have e5 : (cs.drop 3).take 1 = cs.drop 3 := List.take_of_length_le (by rw [List.length_drop, hl]; omega)
    rw [e5, ← cells_split (cs := cs) (o := 2) (s := 1), ← cells_split (cs := cs) (o := 1) (s := 1), List.drop_zero, List.take_append_drop]
  rw [e, e0, e1, e2, e3]; rfl
end
end Go.Proofs.YtipdmhppadapkaaGreatDoor.Frame
