/-
  api.Key as an argument.
-/
import Derived.Test.YtgfdjfglfipjfaaDoorOpen
import Derived.Test.YtgfdjfglfipjfaaDoorBX
namespace Go.Proofs.YtgfdjfglfipjfaaDoor.Frame
open Go.ChangeShapes Go.WideShapes Go.ChangeAt Go.RowKit

theorem wfn_u32 {a : Int} (h : (Lit.int .u32 a).wf = true) : ∃ n : Nat, n < 4294967296 ∧ a = n := by
  simp [Lit.wf, IntKind.min, IntKind.max, IntKind.bits, IntKind.signed] at h
  exact ⟨a.toNat, by omega, by omega⟩
set_option maxRecDepth 100000 in
theorem open_key {H : Type} {enc : TypeId × Value → H} {W : World} {r : Reach} {b0 : Nat} {v : Value} {d : DataW H} {p : List MemPlace}
    (hval : Value.okWide Tryd.prog W r b0 42 v) (h : DataW.Trod enc Tryd.prog W 0 (fun _ => true) true 42 v d p) :
    ∃ o r s, v = .agg (keyCells o r s).toArray ∧ o < 4294967296 ∧ r.length = 32 ∧ s.length = 32 := by
  have hs := Tryd.underlying42
  obtain ⟨cs, rfl, hr⟩ := agg_of hs hval h
  have h65 : Tryd.prog.cellsOf 42 = 65 := by kernel_rfl
  have hl : cs.length = 65 := by rw [raw_len_struct hs hr, h65]
  have c1 : Tryd.prog.cellsOf 25 = 1 := by kernel_rfl
  have c32 : Tryd.prog.cellsOf 24 = 32 := by kernel_rfl
  have c8 : Tryd.prog.cellsOf 5 = 1 := by kernel_rfl
  have f0 : Raw enc Tryd.prog W 25 ((cs.drop 0).take (Tryd.prog.cellsOf 25)) := raw_field hs hr 0 _ rfl
  have f1 : Raw enc Tryd.prog W 24 ((cs.drop 1).take (Tryd.prog.cellsOf 24)) := raw_field hs hr 1 _ rfl
  have f2 : Raw enc Tryd.prog W 24 ((cs.drop 33).take (Tryd.prog.cellsOf 24)) := raw_field hs hr 2 _ rfl
  rw [c1] at f0
  rw [c32] at f1 f2
  obtain ⟨z, e0, w0⟩ := raw_int Tryd.underlying25 f0
  obtain ⟨o, ho, rfl⟩ := wfn_u32 w0
  obtain ⟨r, e1, hr1⟩ := raw_bytes Tryd.underlying24 Tryd.underlying5 c8 c32 f1
  obtain ⟨s, e2, hs1⟩ := raw_bytes Tryd.underlying24 Tryd.underlying5 c8 c32 f2
  refine ⟨o, r, s, ?_, ho, hr1, hs1⟩
  congr 1
  have e : cs = (cs.drop 0).take 1 ++ ((cs.drop 1).take 32 ++ (cs.drop 33).take 32) := by
    have e3 : (cs.drop 33).take 32 = cs.drop 33 := List.take_of_length_le (by rw [List.length_drop, hl]; omega)
    rw [e3, ← cells_split (cs := cs) (o := 1) (s := 32), List.drop_zero, List.take_append_drop]
  rw [e, e0, e1, e2]
  rfl
end Go.Proofs.YtgfdjfglfipjfaaDoor.Frame
