/-
  Walks: memory and flash that nobody made; slices.Clone; the flash.
-/
import Derived.Test.YtjfmgoickokbjaaMaN
namespace Go.Proofs.Ytjfmgoickokbjaa
open Go.RowKit

set_option maxRecDepth 100000 in
theorem askNil (a n : Nat) (hn : n ≤ 1048576) (w : World) : Calls Try.prog 35 #[.pointer none, .int .u64 (a : Int), .int .u64 (n : Int)] w fun e w' => e = .returned (.int .i64 90) ∧ w = w' := by
  have hd : decide ((1048576 : Int) < (n : Int)) = false := decide_eq_false (by omega)
  have hpn := ptrNil
  clear hn
  go_enter Try.func35, Try.ntmps35
  go_wp2
  go_ret
  exact ⟨rfl, rfl⟩
set_option maxRecDepth 100000 in
theorem readNil (a n : Nat) (hn : n ≤ 1048576) (w : World) : Calls Try.prog 13 #[.pointer none, .int .u64 (a : Int), .int .u64 (n : Int)] w fun e w' => e = .returned (.tuple #[.slice none 0 0, .int .i64 90]) ∧ w = w' := by
  go_enter Try.func13, Try.ntmps13
  go_wp2_with fail
  refine (askNil a n hn w).mono ?_
  rintro e w' ⟨rfl, rfl⟩
  go_wp2
  go_ret2
  exact ⟨rfl, rfl⟩
set_option maxRecDepth 100000 in
theorem wordNil (a : Nat) (w : World) : Calls Try.prog 24 #[.pointer none, .int .u64 (a : Int)] w fun e w' => e = .returned (.tuple #[.int .u64 0, .int .i64 90]) ∧ w = w' := by
  obtain ⟨r, hr⟩ : ∃ r, r = a % 8 := ⟨_, rfl⟩
  have hr1 : (a : Int) % 8 = (r : Int) := by omega
  have hask := askNil a 8 (by omega) w
  clear hr
  go_enter Try.func24, Try.ntmps24
  by_cases h0 : r = 0
  · subst h0
    go_wp2_with fail
    refine hask.mono ?_
    rintro e w' ⟨rfl, rfl⟩
    clear hask
    go_wp2
    go_ret2
    exact ⟨rfl, rfl⟩
  · have hne : ((r : Int) != 0) = true := by simp; omega
    clear h0 hask
    go_wp2
    go_ret2
    exact ⟨rfl, rfl⟩
set_option maxRecDepth 100000 in
theorem writeNil (a : Nat) (A : Option Addr) (n c : Nat) (hn : n ≤ 1048576) (w : World) : Calls Try.prog 14 #[.pointer none, .int .u64 (a : Int), .slice A n c] w fun e w' => e = .returned (.int .i64 90) ∧ w = w' := by
  have hcv : IntKind.u64.wrap (n : Int) = (n : Int) := IntWalk.u64_in _ (by omega)
  go_enter Try.func14, Try.ntmps14
  go_wp2_with fail
  refine (askNil a n hn w).mono ?_
  rintro e w' ⟨rfl, rfl⟩
  clear hcv
  go_wp2
  go_ret
  exact ⟨rfl, rfl⟩
set_option maxRecDepth 100000 in
set_option maxHeartbeats 1000000 in
theorem zeroNil (s : Array Value) (w : World) : Calls Try.prog 32 #[.pointer none, .agg s] w fun e w' => e = .returned (.int .i64 90) ∧ Below w.heap.size w w' := by
  have B1 : Below w.heap.size w (w.alloc (.cells s 24)) := (Below.refl _ _).alloc (Nat.le_refl _) _
  go_enter Try.func32, Try.ntmps32
  go_wp2_with fail
  generalize w.alloc (.cells s 24) = W1 at *
  refine Flow.wp_region_flow (W1.heap.size) [] [] (by kernel_rfl) (by kernel_rfl) (Nat.le_refl _) (fun _ h => by cases h) Flow.facts_nil ?_
  refine Flow.pass_old (X := .pointer none) 0 (Flow.met_none rfl) (.inl rfl) (by kernel_rfl) (by kernel_rfl) rfl ?_
  refine Flow.pass_val (.bool true) (Flow.met_none rfl) (fun a W hH => ?_) ?_
  · have e0 := Flow.see_new 10 0 hH.sees (by kernel_rfl) (by kernel_rfl) rfl rfl
    have hq := ptrNil W; go_simp; first | done | rfl
  refine Flow.pass_copy 11 1 (Flow.met_none rfl) (.inl rfl) (by kernel_rfl) (by kernel_rfl) rfl rfl (fun _ _ => Flow.kept_eqs _ _) ?_
  refine Flow.pass_skip (fun a W hH => Flow.not_wanted 2 false 12 hH rfl rfl (by kernel_rfl) (by kernel_rfl) rfl rfl) ?_
  refine Flow.pass_skip (fun a W hH => Flow.not_wanted 2 false 12 hH rfl rfl (by kernel_rfl) (by kernel_rfl) rfl rfl) ?_
  refine Flow.pass_skip (fun a W hH => Flow.not_wanted 2 false 12 hH rfl rfl (by kernel_rfl) (by kernel_rfl) rfl rfl) ?_
  refine Flow.pass_skip (fun a W hH => Flow.not_wanted 2 false 12 hH rfl rfl (by kernel_rfl) (by kernel_rfl) rfl rfl) ?_
  refine Flow.pass_skip (fun a W hH => Flow.not_wanted 2 false 12 hH rfl rfl (by kernel_rfl) (by kernel_rfl) rfl rfl) ?_
  refine Flow.pass_skip (fun a W hH => Flow.not_wanted 2 false 12 hH rfl rfl (by kernel_rfl) (by kernel_rfl) rfl rfl) ?_
  refine Flow.pass_skip (fun a W hH => Flow.not_wanted 2 false 12 hH rfl rfl (by kernel_rfl) (by kernel_rfl) rfl rfl) ?_
  refine Flow.pass_val (.bool true) (Flow.met_none rfl) (fun a W hH => ?_) ?_
  · have e0 := Flow.see_new 12 2 hH.sees (by kernel_rfl) (by kernel_rfl) rfl rfl
    have e1 := Flow.see_new 19 9 hH.sees (by kernel_rfl) (by kernel_rfl) rfl rfl
    go_simp; first | done | rfl
  refine Flow.pass_end [none, none, none, none, none, none, none, none, none, none, some 10, some 11, some 12, some 13, some 14, some 15, some 16, some 17, some 18, some 19, some 20, none, none, none, none, none, none, none, none, none, none, none, none, none, none, none, none, none, none, none, none, none, none, none, none, none, none, none, none, none, none, none, none, none, none, none, none, none, none, none, none, none, none, none, none, none, none, none, none, none, none, none, none, none, none, none, none, none] (by kernel_rfl) ?_
  intro f gg w9 hB hfa hT hfg
  have h20 : f 20 = _ := (hfg 20 10 (by kernel_rfl)).trans (hT 10 _ (by kernel_rfl) rfl)
  simp only [Reg.sel, h20]
  have B9 := B1.drew.trans (hB.mono B1.size)
  clear hT hfg hfa
  go_wp2
  go_ret
  exact ⟨rfl, B9⟩
theorem touchedNil (w : World) : Calls Try.prog 30 #[.pointer none] w fun e w' => e = .returned (.slice none 0 0) ∧ w = w' := by
  have hpn := ptrNil
  go_enter Try.func30, Try.ntmps30
  go_wp2
  go_ret
  exact ⟨rfl, rfl⟩
theorem flNil (w : World) : (binOp .eql 44 (.pointer none) (.pointer none)).run Try.prog w = .ok (.bool true) w := by kernel_rfl
theorem flNe (p : Nat) (w : World) : (binOp .eql 44 (.pointer (some ⟨p, 0, none⟩)) (.pointer none)).run Try.prog w = .ok (.bool false) w := by kernel_rfl
theorem lenNil (w : World) : Calls Try.prog 19 #[.pointer none] w fun e w' => e = .returned (.int .i64 0) ∧ w = w' := by
  have hpn := flNil
  go_enter Try.func19, Try.ntmps19
  go_wp2
  go_ret
  exact ⟨rfl, rfl⟩
set_option maxRecDepth 100000 in
theorem getNil (a n : Nat) (w : World) : Calls Try.prog 20 #[.pointer none, .int .u32 (a : Int), .int .u32 (n : Int)] w fun e w' => e = .returned (.tuple #[.slice none 0 0, .int .i64 (if n = 0 then 0 else 151)]) ∧ w = w' := by
  have hpn := flNil
  by_cases h0 : n = 0
  · subst h0
    go_enter Try.func20, Try.ntmps20
    go_wp2
    go_ret2
    exact ⟨rfl, rfl⟩
  · have hi : Hid ((if n = 0 then (0 : Int) else 151) = 151) := Lib.hid (if_neg h0)
    have hpos : 0 < n := by omega
    clear h0
    go_enter Try.func20, Try.ntmps20
    go_wp2
    go_ret2
    try rw [hi.out]
    exact ⟨rfl, rfl⟩

set_option maxRecDepth 100000 in
set_option maxHeartbeats 1000000 in
theorem machNone_walk (w : World) (a : Int) (wa : (Lit.int .u64 a).wf = true) (n : Int) (wn : (Lit.int .u32 n).wf = true) (A : Option Addr) (k c : Nat) (l : List UInt8) (_hR : Rd w w.heap.size 1 A k (bcells l)) (_hkc : k ≤ c) (_hc : c ≤ 9223372036854775807) :
    Calls Try.prog 9 #[.int .u64 a, .int .u32 n, .slice A k c] w fun e w' => e = .returned (.bool true) ∧ Below w.heap.size w w' := by
  obtain ⟨ad, had, rfl⟩ : ∃ n : Nat, n < 18446744073709551616 ∧ a = n := ⟨a.toNat, by simp [Lit.wf, IntKind.min, IntKind.max, IntKind.bits, IntKind.signed] at wa; omega, by simp [Lit.wf, IntKind.min, IntKind.max, IntKind.bits, IntKind.signed] at wa; omega⟩
  obtain ⟨x, hx, rfl⟩ : ∃ m : Nat, m < 4294967296 ∧ n = m := ⟨n.toNat, by simp [Lit.wf, IntKind.min, IntKind.max, IntKind.bits, IntKind.signed] at wn; omega, by simp [Lit.wf, IntKind.min, IntKind.max, IntKind.bits, IntKind.signed] at wn; omega⟩
  obtain ⟨r, hr⟩ : ∃ r, r = x % 1000 := ⟨_, rfl⟩
  have hr1 : (x : Int) % 1000 = (r : Int) := by omega
  have hr2 : IntKind.u64.wrap (r : Int) = (r : Int) := IntWalk.u64_in _ (by omega)
  have hr3 : r ≤ 1048576 := by omega
  clear wa wn hr
  go_enter Try.func9, Try.ntmps9
  go_wp2_with fail
  refine (awake09 w).mono ?_
  rintro e W1 ⟨rfl, B1⟩
  go_wp2_with fail
  all_goals (try (go_ret; exact ⟨rfl, B1⟩))
  refine (readNil ad r hr3 W1).mono ?_
  rintro e w' ⟨rfl, rfl⟩
  clear hr1 hr2 hr3
  go_wp2_with fail
  refine (wordNil ad W1).mono ?_
  rintro e w' ⟨rfl, rfl⟩
  go_wp2_with fail
  refine (getNil x x W1).mono ?_
  rintro e w' ⟨rfl, rfl⟩
  obtain ⟨G, hG⟩ : ∃ G : Int, G = if x = 0 then 0 else 151 := ⟨_, rfl⟩
  rw [← hG]
  have hcmp : Hid ((G == 0) = ((x : Int) == 0)) := Lib.hid (by
    rw [hG]
    by_cases h0 : x = 0
    · rw [if_pos h0, h0]; rfl
    · rw [if_neg h0]; simp; omega)
  clear hG
  go_wp2_with fail
  refine (writeNil ad A k c (by omega) W1).mono ?_
  rintro e w' ⟨rfl, rfl⟩
  go_wp2_with ((with_reducible refine at_build 24 ?_); refine wpList_buildV _ rfl #[(0, .int .u64 (ad : Int)), (1, .int .u64 1)] rfl (by simp [Act.eval]) (run_sp _ _ _) ?_)
  refine (zeroNil _ W1).mono ?_
  rintro e W2 ⟨rfl, hB2⟩
  have B2 := B1.trans (hB2.mono B1.size)
  clear hB2
  go_wp2_with fail
  refine (touchedNil W2).mono ?_
  rintro e w' ⟨rfl, rfl⟩
  have hc2 := hcmp.out
  have hbb : (binOp .eql 4 (.bool (G == 0)) (.bool ((x : Int) == 0))).run Try.prog W2 = .ok (.bool true) W2 := by rw [hc2]; cases ((x : Int) == 0) <;> kernel_rfl
  clear hc2 hcmp
  go_wp2_with fail
  refine (lenNil W2).mono ?_
  rintro e w' ⟨rfl, rfl⟩
  go_wp2
  go_ret
  exact ⟨rfl, B2⟩
end Go.Proofs.Ytjfmgoickokbjaa
