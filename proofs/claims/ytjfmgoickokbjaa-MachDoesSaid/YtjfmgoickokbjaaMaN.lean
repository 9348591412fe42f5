/-
  Walk: the law MachWords.
-/
import Derived.Test.YtjfmgoickokbjaaMaL
import Derived.Test.YtjfmgoickokbjaaNum2
namespace Go.Proofs.Ytjfmgoickokbjaa
open Go.RowKit

theorem readM_write (m : Mm) (a : Nat) (l : List UInt8) : readM (writeM m a l) a l.length = l := by
  apply List.ext_getElem?
  intro i
  by_cases h : i < l.length
  · rw [readM_get _ _ _ _ h, writeM_in _ _ _ _ h, List.getElem?_eq_getElem h]; rfl
  · rw [List.getElem?_eq_none (by rw [readM_length]; omega), List.getElem?_eq_none (by omega)]
theorem rd_putNum (x : Nat) (hx : x < 18446744073709551616) : rdNum (putNum x 8 true) 0 8 true = x ∧ rdOk (putNum x 8 true) 0 8 = true := by
  have h1 := read_put [] x 8 true (by omega)
  have h2 := rdOk_put [] x 8 true
  exact ⟨h1, h2⟩
theorem put_ok {ram : Sp} {a : Nat} (h : mputErr ram a = 0) : a % 8 = 0 ∧ askErr ram a 8 = 0 := by
  unfold mputErr at h
  split at h
  · rename_i h1; exact ⟨h1, h⟩
  · cases h

set_option maxRecDepth 100000 in
set_option maxHeartbeats 2000000 in
theorem machWords_walk (w : World) (ram : Sp) (okr : ram.ok) (a : Int) (wa : (Lit.int .u64 a).wf = true) (x : Int) (wx : (Lit.int .u64 x).wf = true) :
    Calls Try.prog 6 #[.agg ram.cells, .int .u64 a, .int .u64 x] w fun e w' => e = .returned (.bool true) ∧ Below w.heap.size w w' := by
  obtain ⟨ad, had, rfl⟩ : ∃ n : Nat, n < 18446744073709551616 ∧ a = n := ⟨a.toNat, by simp [Lit.wf, IntKind.min, IntKind.max, IntKind.bits, IntKind.signed] at wa; omega, by simp [Lit.wf, IntKind.min, IntKind.max, IntKind.bits, IntKind.signed] at wa; omega⟩
  obtain ⟨x, hx, rfl⟩ : ∃ n : Nat, n < 18446744073709551616 ∧ x = n := ⟨x.toNat, by simp [Lit.wf, IntKind.min, IntKind.max, IntKind.bits, IntKind.signed] at wx; omega, by simp [Lit.wf, IntKind.min, IntKind.max, IntKind.bits, IntKind.signed] at wx; omega⟩
  have hb := Blk.new w 24 ram.cells
  have B0 : Below w.heap.size w (w.alloc (.cells ram.cells 24)) := (Below.refl _ _).alloc (Nat.le_refl _) _
  clear wa wx
  go_enter Try.func6, Try.ntmps6
  go_wp2_with fail
  generalize w.alloc (.cells ram.cells 24) = W0 at *
  refine (awake09 W0).mono ?_
  rintro e W1 ⟨rfl, hB1⟩
  have hb1 := hb.below hB1 hb.lt
  have B1 := B0.trans (hB1.mono B0.size)
  clear hb B0 hB1
  go_wp2_with ((with_reducible refine at_load 24 ?_); refine wpList_loadAllW _ rfl 24 _ rfl w.heap.size 24 ram.cells hb1 _ rfl Try.underlying24 rfl infSpan ?_)
  have hnew := mnew_any ram okr none 0 0 [] (by intro k hk; cases hk) (by omega) W1 (Rd.nil _ _ _ _) (by intro k hk; cases hk)
  obtain ⟨E, hE⟩ : ∃ E, E = newErr ram [] := ⟨_, rfl⟩
  have hm0 : newM ram [] = zeroM := rfl
  unfold NewRet at hnew
  rw [← hE, hm0] at hnew
  refine Calls.mono hnew ?_
  rintro e W2 ⟨hB2, ⟨h0, rfl⟩ | ⟨h0, p, F, rfl, hM, hF⟩⟩
  · have B2 := B1.trans (hB2.mono B1.size)
    have hne : (E != 0) = true := by simpa using h0
    clear hE hnew h0 hm0
    go_wp2
    go_ret
    exact ⟨rfl, B2⟩
  · have hrk : ramOk ram = true := by
      rw [hE] at h0
      unfold newErr at h0
      split at h0
      · assumption
      · cases h0
    have hr40 := ramOk_40 hrk
    have B2 := B1.trans (hB2.mono B1.size)
    have hFw : ∀ b, F b → w.heap.size ≤ b := fun b hb => Nat.le_trans B1.size (hF b hb)
    have hput := mput_any p ram okr hr40 zeroM F (0 * 5000) ad x had (by simp only [maxLen]; omega) W2 hM
    obtain ⟨PE, hPE⟩ : ∃ E, E = mputErr ram ad := ⟨_, rfl⟩
    rw [← hPE] at hput
    clear hE hnew h0 hm0 hrk hb1 hB2 B1 hF
    go_wp2_with fail
    refine Calls.mono hput ?_
    rintro e W3 ⟨rfl, F3, hM3, hC3, h31, h32⟩
    have B3 := B2.trans (hC3.below hFw B2.size)
    clear hput hM hC3 h31 h32
    by_cases hp0 : PE = 0
    · obtain ⟨h8, hask⟩ := put_ok (by rw [← hPE]; exact hp0)
      have hv : putV ram zeroM ad x = writeM zeroM ad (putNum x 8 true) := by rw [putV, if_pos h8, writeV, putNum_length, if_pos hask]
      rw [hv] at hM3
      obtain ⟨hn1, hn2⟩ := rd_putNum x hx
      have hrr : readM (writeM zeroM ad (putNum x 8 true)) ad 8 = putNum x 8 true := by
        have := readM_write zeroM ad (putNum x 8 true)
        rwa [putNum_length] at this
      have hrd := mread_any p ram okr _ F3 _ ad 8 had (by omega) W3 hM3
      have hrv : readV ram (writeM zeroM ad (putNum x 8 true)) ad 8 = putNum x 8 true := by rw [readV, if_pos hask, hrr]
      rw [hrv, hask] at hrd
      have hwo := fun W h => mword_any p ram okr (writeM zeroM ad (putNum x 8 true)) F3 (0 * 5000 + 8) ad had W h
      have hwe : wordErr ram ad = 0 := by rw [wordErr, if_pos ⟨h8, hask⟩]
      have hwv : wordV ram (writeM zeroM ad (putNum x 8 true)) ad = x := by rw [wordV, if_pos ⟨h8, hask⟩, hrr, hn1]
      rw [hwe, hwv] at hwo
      have hlen := putNum_length x 8 true
      obtain ⟨L, hL⟩ : ∃ L, L = putNum x 8 true := ⟨_, rfl⟩
      rw [← hL] at hn1 hn2 hrd hlen
      have h8i : (ad : Int) % 8 = 0 := by omega
      obtain ⟨MM, hMM⟩ : ∃ MM, MM = writeM zeroM ad (putNum x 8 true) := ⟨_, rfl⟩
      rw [← hMM] at hM3 hwo
      have HN1 := Lib.hid hn1
      have HN2 := Lib.hid hn2
      have HLEN := Lib.hid hlen
      clear hPE h8 hask hv hrr hrv hwe hwv hL hMM hn1 hn2 hlen
      subst hp0
      go_wp2_with fail
      refine Calls.mono hrd ?_
      rintro e W4 ⟨A, c, rfl, hlc, hR, hB4, _⟩
      rw [HLEN.out] at hR hlc ⊢
      have hM4 := hM3.below hB4 (Nat.le_refl _)
      have B4 := B3.trans (hB4.mono B3.size)
      clear hrd hM3 B3 hB4
      go_wp2_with fail
      refine (number_any A 8 c 0 true L W4 8 hR (by omega) (by omega) (by omega)).mono ?_
      rintro e w' ⟨rfl, rfl⟩
      rw [HN1.out, HN2.out]
      have hwo4 := hwo W4 hM4
      clear hwo
      go_wp2_with fail
      refine Calls.mono hwo4 ?_
      rintro e W5 ⟨rfl, hB5⟩
      have B5 := B4.trans (hB5.mono B4.size)
      clear hwo4 hM4 hR
      go_wp2
      go_ret
      exact ⟨rfl, B5⟩
    · have hne : (PE != 0) = true := by simpa using hp0
      clear hPE hp0 hM3
      go_wp2
      go_ret
      exact ⟨rfl, B3⟩
end Go.Proofs.Ytjfmgoickokbjaa
