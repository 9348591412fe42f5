/-
  Walk: bits.OnesCount of a small number.
-/
import Derived.Test.YtgfdjfglfipjfaaDoorBH
namespace Go.Proofs.YtgfdjfglfipjfaaDoor
open Go.RowKit

def powK (n : Nat) : Bool := [1, 2, 4, 8, 16, 32].contains n
set_option maxRecDepth 100000 in
set_option maxHeartbeats 2000000 in
theorem ones64_any (n : Nat) (hn : n ≤ 40) (w : World) :
    Calls Tryd.prog 68 #[.int .u64 (n : Int)] w fun e w' => (∃ r : Int, e = .returned (.int .i64 r) ∧ (r = 1 ↔ powK n = true)) ∧ w' = w := by
  go_enter Tryd.func68, Tryd.ntmps68
  go_wp2_with fail
  go_ret
  refine ⟨⟨_, rfl, ?_⟩, rfl⟩
  have h := Nat.lt_succ_of_le hn
  clear hn
  revert n
  decide +kernel
set_option maxRecDepth 100000 in
set_option maxHeartbeats 2000000 in
theorem ones_any (n : Nat) (hn : n ≤ 40) (w : World) :
    Calls Tryd.prog 36 #[.int .u64 (n : Int)] w fun e w' => (∃ r : Int, e = .returned (.int .i64 r) ∧ (r = 1 ↔ powK n = true)) ∧ w' = w := by
  go_enter Tryd.func36, Tryd.ntmps36
  go_wp2_with fail
  refine (ones64_any n hn w).mono ?_
  rintro e w' ⟨⟨r, rfl, hr⟩, rfl⟩
  go_wp2
  go_ret
  exact ⟨⟨r, rfl, hr⟩, rfl⟩
end Go.Proofs.YtgfdjfglfipjfaaDoor
