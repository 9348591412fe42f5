/-
  Walk: chapter 9's example.
-/
import Derived.Test.YtjfmgoickokbjaaMaK
namespace Go.Proofs.Ytjfmgoickokbjaa
open Go.RowKit

def ramA : Sp := ⟨1073741824, 8192⟩
theorem ramA_ok : ramA.ok := ⟨by decide, by decide⟩
theorem ramA_good : ramOk ramA = true := by decide +kernel
theorem ptrNe (p : Nat) (w : World) : (binOp .eql 29 (.pointer (some ⟨p, 0, none⟩)) (.pointer none)).run Try.prog w = .ok (.bool false) w := by kernel_rfl
theorem ptrNil (w : World) : (binOp .eql 29 (.pointer none) (.pointer none)).run Try.prog w = .ok (.bool true) w := by kernel_rfl
def memA : Mm := writeM zeroM 1073741832 (putNum 1 8 true)

set_option maxRecDepth 100000 in
set_option maxHeartbeats 1000000 in
theorem awake09 (w : World) : Calls Try.prog 10 #[] w fun e w' => e = .returned (.bool true) ∧ Below w.heap.size w w' := by
  have hnew := mnew_any ramA ramA_ok none 0 0 [] (by intro k hk; cases hk) (by omega) w (Rd.nil _ _ _ _) (by intro k hk; cases hk)
  have he0 : newErr ramA [] = 0 := by rw [newErr, if_pos ramA_good]; rfl
  have hm0 : newM ramA [] = zeroM := rfl
  unfold NewRet at hnew
  rw [he0, hm0] at hnew
  go_enter Try.func10, Try.ntmps10
  go_wp2_with ((with_reducible refine at_build 24 ?_); refine wpList_buildV _ rfl #[(0, .int .u64 1073741824), (1, .int .u64 8192)] rfl (by simp [Act.eval]) (run_sp _ _ _) ?_)
  refine Calls.mono hnew ?_
  rintro e W1 ⟨B1, ⟨h, _⟩ | ⟨_, p, F, rfl, hM, hF⟩⟩
  · exact absurd rfl h
  have hpn := ptrNe p
  have hput := mput_any p ramA ramA_ok (by decide) zeroM F (0 * 5000) 1073741832 1 (by decide) (by simp only [maxLen]; omega) W1 hM
  have hpe : mputErr ramA 1073741832 = 0 := by decide +kernel
  have hpv : putV ramA zeroM 1073741832 1 = memA := by
    have h1 : 1073741832 % 8 = 0 := by decide
    have h2 : askErr ramA 1073741832 8 = 0 := by decide +kernel
    rw [putV, if_pos h1, writeV, putNum_length, if_pos h2]; rfl
  rw [hpe, hpv] at hput
  clear hnew he0 hm0 hpe hpv
  go_wp2_with fail
  refine Calls.mono hput ?_
  rintro e W2 ⟨rfl, F2, hM2, hC2, h21, h22⟩
  have B2 := B1.trans (hC2.below hF B1.size)
  have hF2 : ∀ b, F2 b → w.heap.size ≤ b := fun b hb => by
    rcases h22 b hb with h6 | h6
    · exact hF b h6
    · exact Nat.le_trans B1.size h6
  have hr1 := mread_any p ramA ramA_ok memA F2 _ 1073741832 2 (by decide) (by decide) W2 hM2
  have hre : askErr ramA 1073741832 2 = 0 := by decide +kernel
  have hrl : Hid (readV ramA memA 1073741832 2 = [1, 0]) := Lib.hid (by rw [readV, if_pos hre]; decide +kernel)
  rw [hre, hrl.out] at hr1
  clear hput hM hC2 h21 h22 B1 hre
  go_wp2_with fail
  refine Calls.mono hr1 ?_
  rintro e W3 ⟨A, c, rfl, _, hR, hB3, _⟩
  have B3 := B2.trans (hB3.mono B2.size)
  have hM3 := hM2.below hB3 (Nat.le_refl _)
  have hr2 := mread_any p ramA ramA_ok memA F2 _ 1073750015 2 (by decide) (by decide) W3 hM3
  have hre : askErr ramA 1073750015 2 = 90 := by decide +kernel
  have hrv : readV ramA memA 1073750015 2 = [] := by rw [readV, if_neg (by rw [hre]; decide)]
  rw [hre, hrv] at hr2
  clear hr1 hM2 hB3 B2 hre hrv
  go_wp2_with fail
  refine Calls.mono hr2 ?_
  rintro e W4 ⟨A4, c4, rfl, _, _, hB4, _⟩
  have B4 := B3.trans (hB4.mono B3.size)
  obtain ⟨b, off, rfl, _, hrng⟩ := ((hR.below hB4).more hB4.size).range (by decide)
  have x0 : W4.cell? ⟨b, off, none⟩ = some (.int .u8 1) := hrng 0 _ rfl
  clear hr2 hM3 hR hB4 B3 hrng hrl
  go_wp2
  go_ret
  exact ⟨rfl, B4⟩
end Go.Proofs.Ytjfmgoickokbjaa
