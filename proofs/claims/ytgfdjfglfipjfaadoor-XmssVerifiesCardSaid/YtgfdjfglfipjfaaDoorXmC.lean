/-
  Walk: the law XmssVerifies.
-/
import Derived.Test.YtgfdjfglfipjfaaDoorXmB
namespace Go.Proofs.YtgfdjfglfipjfaaDoor
open Go.RowKit Sha

set_option maxRecDepth 100000 in
set_option maxHeartbeats 4000000 in
theorem xmssVerifies_walk (w : World) (hT : Tabs w) (A0 : Option Addr) (n0 c0 : Nat) (kb : List UInt8) (h0 : Rd w w.heap.size 1 A0 n0 (bcells kb)) (hc0 : n0 ≤ c0) (_hm0 : c0 ≤ 9223372036854775807)
    (A1 : Option Addr) (n1 c1 : Nat) (m : List UInt8) (h1 : Rd w w.heap.size 1 A1 n1 (bcells m)) (hc1 : n1 ≤ c1) (hm1 : c1 ≤ 9223372036854775807)
    (A2 : Option Addr) (n2 c2 : Nat) (sg : List UInt8) (h2 : Rd w w.heap.size 1 A2 n2 (bcells sg)) (hc2 : n2 ≤ c2) (_hm2 : c2 ≤ 9223372036854775807) :
    Calls Tryd.prog 9 #[.slice A0 n0 c0, .slice A1 n1 c1, .slice A2 n2 c2] w fun e w' => e = .returned (.bool true) ∧ Below w.heap.size w w' := by
  go_enter Tryd.func9, Tryd.ntmps9
  go_wp2_with fail
  refine (awake08 w).mono ?_
  rintro e W1 ⟨rfl, B1⟩
  go_wp2_with fail
  all_goals (try (go_ret; exact ⟨rfl, B1⟩))
  have k0 : n0 ≤ 200 := by omega
  have k1 : n1 ≤ 500 := by omega
  have k2 : n2 ≤ 3000 := by omega
  refine (mVerify_any A0 n0 c0 kb k0 hc0 A1 n1 c1 m k1 ⟨hc1, hm1⟩ A2 n2 c2 sg k2 hc2 W1 ((h0.below B1).more B1.size) ((h1.below B1).more B1.size) ((h2.below B1).more B1.size) (hT.below B1)).mono ?_
  rintro e W2 ⟨rfl, hB2⟩
  have B2 := B1.trans (hB2.mono B1.size)
  have hcall := rVerify_any A0 n0 c0 kb k0 hc0 A1 n1 c1 m k1 ⟨hc1, hm1⟩ A2 n2 c2 sg k2 hc2 W2 ((h0.below B2).more B2.size) ((h1.below B2).more B2.size) ((h2.below B2).more B2.size)
  generalize verErr kb m sg = V at *
  go_wp2_with fail
  refine hcall.mono ?_
  rintro e W3 ⟨rfl, hB3⟩
  have B3 := B2.trans (hB3.mono B2.size)
  clear hcall
  go_wp2
  go_ret
  exact ⟨rfl, B3⟩
end Go.Proofs.YtgfdjfglfipjfaaDoor
