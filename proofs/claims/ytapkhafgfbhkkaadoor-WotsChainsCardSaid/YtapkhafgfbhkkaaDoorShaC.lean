/-
  Walks: turns of words (bits.RotateLeft32, sha.mixed, sha.turned; portreeveref03.turn).
-/
import Derived.Test.YtapkhafgfbhkkaaDoorShaB
import Derived.Deep.QuietTactic
import Derived.BigQuiet
namespace Go.Proofs.YtapkhafgfbhkkaaDoor
open Go.RowKit Sha

theorem rot_and (k : Int) (m : Nat) (hk : k = (m : Int) - 32) (h1 : 1 ≤ m) (h2 : m ≤ 31) : bits .and .u64 (IntKind.u64.wrap k) 31 = (m : Int) := by
  have e : IntKind.u64.wrap k = ((18446744073709551584 + m : Nat) : Int) := by
    subst hk
    simp only [IntKind.wrap, IntKind.bits, IntKind.signed]; simp; omega
  have h : (31 : Int) = ((31 : Nat) : Int) := rfl
  rw [e, h, u64_and_nat _ 31 (by omega) (by decide)]
  congr 1
  rw [show (31 : Nat) = 2 ^ 5 - 1 from rfl, Nat.and_two_pow_sub_one_eq_mod]
  omega

theorem wrap_neg (a : Nat) (h : a ≤ 100) : IntKind.i64.wrap (-(a : Int)) = -(a : Int) := IntWalk.i64_in _ (by omega)
theorem u_shr3 (x : W) : u x / (8 : Int) = u (x >>> 3) := u_shr x 3
theorem u_shr10 (x : W) : u x / (1024 : Int) = u (x >>> 10) := u_shr x 10
theorem u_shl24 (x : W) : IntKind.u32.wrap (u x * (16777216 : Int)) = u (x <<< 24) := u_shl x 24
theorem u_shl16 (x : W) : IntKind.u32.wrap (u x * (65536 : Int)) = u (x <<< 16) := u_shl x 16
theorem u_shl8 (x : W) : IntKind.u32.wrap (u x * (256 : Int)) = u (x <<< 8) := u_shl x 8
theorem u_uc' (c : UInt8) : IntKind.u32.wrap (c.toNat : Int) = u (uc c) := u_uc c
attribute [local go_sem] u_shr3 u_shr10 u_xor u_and u_or u_not u_add u_add' u_shr u_shl u_shl' rotr_alt
set_option maxHeartbeats 400000 in
theorem rotl_any (x : W) (k : Int) (m : Nat) (hk : k = (m : Int) - 32) (h1 : 1 ≤ m) (h2 : m ≤ 31) (w : World) :
    Calls Tryd.prog 76 #[.int .u32 (u x), .int .i64 k] w fun e w' => e = .returned (.int .u32 (u (rotr x (32 - m)))) ∧ w = w' := by
  have hb := rot_and k m hk h1 h2
  have hx := u_nonneg x
  have hx2 := u_lt x
  clear hk
  go_enter Tryd.func76, Tryd.ntmps76
  go_wp2
  go_ret
  exact ⟨by rw [← rotr_alt, show 32 - (32 - m) = m by omega]; rfl, rfl⟩
theorem rotl_k (x : W) (k : Int) (h1 : -31 ≤ k) (h2 : k ≤ -1) (w : World) :
    Calls Tryd.prog 76 #[.int .u32 (u x), .int .i64 k] w fun e w' => e = .returned (.int .u32 (u (rotr x (-k).toNat))) ∧ w = w' := by
  have := rotl_any x k (k + 32).toNat (by omega) (by omega) (by omega) w
  rwa [show 32 - (k + 32).toNat = (-k).toNat by omega] at this

theorem rotl_same (x : W) (k : Int) (h1 : -31 ≤ k) (h2 : k ≤ -1) (w : World) :
    Calls Tryd.prog 76 #[.int .u32 (u x), .int .i64 k] w fun e w' => e = .returned (.int .u32 (u (rotr x (-k).toNat))) ∧ w' = w :=
  (rotl_k x k h1 h2 w).mono fun _ _ ⟨h, k⟩ => ⟨h, k.symm⟩

set_option maxHeartbeats 400000 in
theorem mixed_lo0 (x : W) (w : World) :
    Calls Tryd.prog 73 #[.int .u32 (u x), .int .i64 7, .int .i64 18, .int .i64 3] w fun e w' => e = .returned (.int .u32 (u (lo0 x))) ∧ ∃ q, w' = w.drewN q := by
  have n1 : IntKind.i64.wrap (-7) = -7 := wrap_neg 7 (by omega)
  have n2 : IntKind.i64.wrap (-18) = -18 := wrap_neg 18 (by omega)
  go_enter Tryd.func73, Tryd.ntmps73
  go_wp2_with fail
  go_quiet ((go_at_call 76; refine Calls.quiet_of_same (rotl_same _ _ (by omega) (by omega) _)))
  go_wp2
  go_ret
  exact ⟨rfl, nq, rfl⟩
set_option maxHeartbeats 400000 in
theorem mixed_lo1 (x : W) (w : World) :
    Calls Tryd.prog 73 #[.int .u32 (u x), .int .i64 17, .int .i64 19, .int .i64 10] w fun e w' => e = .returned (.int .u32 (u (lo1 x))) ∧ ∃ q, w' = w.drewN q := by
  have n1 : IntKind.i64.wrap (-17) = -17 := wrap_neg 17 (by omega)
  have n2 : IntKind.i64.wrap (-19) = -19 := wrap_neg 19 (by omega)
  go_enter Tryd.func73, Tryd.ntmps73
  go_wp2_with fail
  go_quiet ((go_at_call 76; refine Calls.quiet_of_same (rotl_same _ _ (by omega) (by omega) _)))
  go_wp2
  go_ret
  exact ⟨rfl, nq, rfl⟩
set_option maxHeartbeats 400000 in
theorem turned_any (x : W) (a b c : Int) (a1 : 1 ≤ a) (a2 : a ≤ 31) (b1 : 1 ≤ b) (b2 : b ≤ 31) (c1 : 1 ≤ c) (c2 : c ≤ 31) (w : World) :
    Calls Tryd.prog 74 #[.int .u32 (u x), .int .i64 a, .int .i64 b, .int .i64 c] w fun e w' => e = .returned (.int .u32 (u (rotr x a.toNat ^^^ rotr x b.toNat ^^^ rotr x c.toNat))) ∧ w' = w := by
  go_enter Tryd.func74, Tryd.ntmps74
  go_wp2_with fail
  refine (rotl_k x (-a) (by omega) (by omega) w).mono ?_
  rintro e w' ⟨rfl, rfl⟩
  go_wp2_with fail
  refine (rotl_k x (-b) (by omega) (by omega) w).mono ?_
  rintro e w' ⟨rfl, rfl⟩
  go_wp2_with fail
  refine (rotl_k x (-c) (by omega) (by omega) w).mono ?_
  rintro e w' ⟨rfl, rfl⟩
  go_wp2
  go_ret
  exact ⟨rfl, rfl⟩
set_option maxHeartbeats 400000 in
theorem rturn_any (x : W) (n : Int) (h1 : 1 ≤ n) (h2 : n ≤ 31) (w : World) :
    Calls Tryd.prog 67 #[.int .u32 (u x), .int .i64 n] w fun e w' => e = .returned (.int .u32 (u (rotr x n.toNat))) ∧ ∃ q, w' = w.drewN q := by
  obtain ⟨m, rfl⟩ := Int.eq_ofNat_of_zero_le (a := n) (by omega)
  go_enter Tryd.func67, Tryd.ntmps67
  have n1 : IntKind.i64.wrap (32 - (m : Int)) = 32 - (m : Int) := IntWalk.i64_in _ (by omega)
  go_wp2_with fail
  go_quiet (fail)
  go_wp2
  go_ret
  exact ⟨rfl, nq, rfl⟩
def zw (n : Nat) : Array Value := rcells n []
theorem zero64w (w : World) : (zeroValue 95).run Tryd.prog w = .ok (.agg (zw 64)) w := by kernel_rfl
theorem u_notm (x : W) : bits .xor .u32 IntKind.u32.max (u x) = u (~~~x) := u_not x
theorem u_add3' (a b c : W) : (u a + u b + u c) % (4294967296 : Int) = u (a + b + c) := by rw [← u_add', ← u_add', Int.emod_add_emod]
theorem u_add4' (a b c d : W) : (u a + u b + u c + u d) % (4294967296 : Int) = u (a + b + c + d) := by rw [← u_add', ← u_add3', Int.emod_add_emod]
end Go.Proofs.YtapkhafgfbhkkaaDoor
