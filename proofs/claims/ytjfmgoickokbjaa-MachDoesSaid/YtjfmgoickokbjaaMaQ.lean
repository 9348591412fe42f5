/-
  Walk: the law MachFlashes.
-/
import Derived.Test.YtjfmgoickokbjaaMaP
namespace Go.Proofs.Ytjfmgoickokbjaa
open Go.RowKit

theorem nat_u32 {a : Int} (h : (Lit.int .u32 a).wf = true) : ∃ n : Nat, n < 4294967296 ∧ a = n := by
  simp [Lit.wf, IntKind.min, IntKind.max, IntKind.bits, IntKind.signed] at h
  exact ⟨a.toNat, by omega, by omega⟩
theorem nat_u64 {a : Int} (h : (Lit.int .u64 a).wf = true) : ∃ n : Nat, n < 18446744073709551616 ∧ a = n := by
  simp [Lit.wf, IntKind.min, IntKind.max, IntKind.bits, IntKind.signed] at h
  exact ⟨a.toNat, by omega, by omega⟩

set_option maxRecDepth 100000 in
set_option maxHeartbeats 2000000 in
theorem machFlashes_walk (w : World) (A : Option Addr) (n c : Nat) (l : List UInt8) (hR : Rd w w.heap.size 1 A n (bcells l)) (hnc : n ≤ c) (_hc : c ≤ 9223372036854775807) (off : Int) (wo : (Lit.int .u32 off).wf = true) (k : Int) (wk : (Lit.int .u32 k).wf = true) :
    Calls Try.prog 5 #[.slice A n c, .int .u32 off, .int .u32 k] w fun e w' => e = .returned (.bool true) ∧ Below w.heap.size w w' := by
  obtain ⟨off, ho, rfl⟩ := nat_u32 wo
  obtain ⟨k, hk, rfl⟩ := nat_u32 wk
  have hl : n = l.length := by have := hR.len; rw [bcells_length] at this; omega
  have HL := Lib.hid hl
  clear wo wk hl
  go_enter Try.func5, Try.ntmps5
  go_wp2_with fail
  refine (awake09 w).mono ?_
  rintro e W1 ⟨rfl, B1⟩
  go_wp2_with fail
  all_goals (try (go_ret; exact ⟨rfl, B1⟩))
  have hn3 : n ≤ 3000 := by omega
  refine (burn_any A n c l (by omega) W1 ((hR.below B1).more B1.size)).mono ?_
  rintro e W2 ⟨f, rfl, hf, hF, hB2⟩
  have B2 := B1.trans (hB2.mono B1.size)
  have hq := flNe f
  have hln := flen_any f l W2 hF
  rw [← HL.out] at hln
  clear hB2 B1
  go_wp2_with fail
  refine Calls.mono hln ?_
  rintro e w' ⟨rfl, rfl⟩
  obtain ⟨X, hX⟩ : ∃ X, X = getV l off k := ⟨_, rfl⟩
  obtain ⟨E, hE⟩ : ∃ E, E = getE l off k := ⟨_, rfl⟩
  have hg := mget_any f l (by rw [← HL.out]; omega) off k ho hk W2 hF
  have hg2 := fun W h => rget_any A n c l (by omega) hnc off k ho hk W h
  rw [← hX, ← hE] at hg hg2
  clear hln hX hE hF hq
  go_wp2_with fail
  refine Calls.mono hg ?_
  rintro e W3 ⟨A3, c3, rfl, _, r3, hB3⟩
  have B3 := B2.trans (hB3.mono B2.size)
  have hg4 := hg2 W3 ((hR.below B3).more B3.size)
  clear hg hg2 B2 hB3
  go_wp2_with fail
  refine Calls.mono hg4 ?_
  rintro e W4 ⟨A4, c4, rfl, _, r4, hB4⟩
  have B4 := B3.trans (hB4.mono B3.size)
  have s3 := run_str W4 26 9 5 A3 X.length c3 X Try.underlying26 Try.underlying5 Try.underlying9 (r3.below hB4)
  have s4 := run_str W4 26 9 5 A4 X.length c4 X Try.underlying26 Try.underlying5 Try.underlying9 r4
  clear hg4 r3 r4 hB4 B3
  go_wp2
  go_ret
  exact ⟨rfl, B4⟩
end Go.Proofs.Ytjfmgoickokbjaa
