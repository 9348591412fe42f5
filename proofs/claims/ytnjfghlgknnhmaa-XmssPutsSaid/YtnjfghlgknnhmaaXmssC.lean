/-
  Walk of the statement XmssKinds.
-/
import Derived.Test.YtnjfghlgknnhmaaXmssB
namespace Go.Proofs.Ytnjfghlgknnhmaa
open Go.RowKit

theorem wf_u32' {a : Int} (h : (Lit.int .u32 a).wf = true) : ∃ n : Nat, n < 4294967296 ∧ a = n := by
  simp [Lit.wf, IntKind.min, IntKind.max, IntKind.bits, IntKind.signed] at h
  exact ⟨a.toNat, by omega, by omega⟩

set_option maxHeartbeats 1000000 in
theorem xmssKinds_walk (w : World) (a0 : Int) (w0 : (Lit.int .u32 a0).wf = true) :
    Calls Try.prog 3 #[.int .u32 a0] w fun e w' => e = .returned (.bool true) ∧ Below w.heap.size w w' := by
  obtain ⟨o, ho, rfl⟩ := wf_u32' w0
  clear w0
  have hh : hgt o ≤ 20 := by unfold hgt; split <;> (try split) <;> (try split) <;> omega
  go_enter Try.func3, Try.ntmps3
  go_wp2_with fail
  refine (awake08 w).mono ?_
  rintro e w1 ⟨rfl, hB1⟩
  go_wp2_with fail
  refine (mHeight_any o w1).mono ?_
  rintro e w2 ⟨rfl, rfl⟩
  go_wp2_with fail
  refine (rHeight_any o w1).mono ?_
  rintro e w2 ⟨rfl, rfl⟩
  go_wp2_with fail
  refine (mSize_any o w1).mono ?_
  rintro e w2 ⟨rfl, rfl⟩
  cases hk : isKind o with
  | false =>
    have hz : sigSize o = 0 := by simp [sigSize, hk]
    rw [hz]
    go_wp2
    go_ret
    exact ⟨rfl, hB1⟩
  | true =>
    have hz : sigSize o = 36 + 32 * (67 + hgt o) := by simp [sigSize, hk]
    rw [hz]
    go_wp2
    go_ret
    exact ⟨rfl, hB1⟩
end Go.Proofs.Ytnjfghlgknnhmaa
