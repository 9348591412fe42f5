/-
  Walks: SameVerdict of verdicts that are one; few; awake.
-/
import Derived.Test.YtipdmhppadapkaaGreatDoorLdJ
namespace Go.Proofs.YtipdmhppadapkaaGreatDoor
open Go.RowKit Sha

def ga : Gu := ⟨[], false, 0, 1, 0, 0, 0, List.replicate 68 0, none, 0, 0, 0, .slice none 0 0, .slice none 0 0, .slice none 0 0⟩
theorem ga_ok (w : World) (B : Nat) : ga.ok w B := ⟨by simp [ga], by decide, by decide, by simp [ga], fun h => by simp [ga] at h, by decide, rfl, rfl, rfl⟩
theorem run_ga (w : World) : (Instr.build 31 #[(3, .int .u32 1)]).run Tryz.prog w = .ok (.agg ga.cells.toArray) w := by
  have := run_build_from (P := Tryz.prog) w (t := 31) (z := gz.cells.toArray) #[(3, .int .u32 1)] [.int .u32 1] [(0, 1), (1, 1), (2, 1), (3, 1), (4, 1), (5, 1), (6, 1), (7, 68), (75, 1), (76, 1), (77, 1), (78, 1)] 3 3
    Tryz.underlying31 (by kernel_rfl) (by kernel_rfl) rfl (by simp [Rows1, Value.cells]) (by simp [flat, Value.cells, gz, Gu.cells, bcells_length])
  rw [this]
  have e : (flat [Value.int .u32 1]) = [.int .u32 1] := rfl
  rw [e]
  generalize hz : List.replicate 68 (0 : UInt8) = Z
  simp [gz, ga, Gu.cells, hz]
theorem run_ca (w : World) : (Instr.build 34 #[]).run Tryz.prog w = .ok (.agg (Ctr.mk 0 0).cells) w := by kernel_rfl
theorem run_vd0 (e : Int) (v : Nat) (dig : List UInt8) (A : Option Addr) (n c : Nat) (w : World) : (Instr.field 41 (.agg (vdCells e v dig A n c).toArray) 0).run Tryz.prog w = .ok (.int .i64 e) w := by
  have hc : (vdCells e v dig A n c)[0]? = some (.int .i64 e) := rfl
  simp [Instr.field, run_underlying Tryz.underlying41, asAgg, part, isAgg, run_underlying Tryz.underlying32, hc]
end Go.Proofs.YtipdmhppadapkaaGreatDoor
