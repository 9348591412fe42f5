/-
  Plain numbers: what is put is read.
-/
import Derived.Test.YtjfmgoickokbjaaNum
namespace Go.Proofs.Ytjfmgoickokbjaa

theorem numOf_digits (x n : Nat) : ∀ j, j ≤ n → numOf (fun k => x / 256 ^ (n - 1 - k) % 256) j = x / 256 ^ (n - j) % 256 ^ j
  | 0, _ => by simp [numOf, Nat.mod_one]
  | j + 1, h => by
    have ih := numOf_digits x n j (by omega)
    simp only [numOf]
    rw [ih]
    have e1 : x / 256 ^ (n - j) = x / 256 ^ (n - (j + 1)) / 256 := by
      rw [Nat.div_div_eq_div_mul, ← Nat.pow_succ]
      congr 2; omega
    have e2 : n - 1 - j = n - (j + 1) := by omega
    rw [e1, e2, Nat.pow_succ, Nat.mul_comm (256 ^ j) 256, Nat.mod_mul]
    omega
/-- what is put is read -/
theorem read_put (l : List UInt8) (x n : Nat) (low : Bool) (hx : x < 256 ^ n) : rdNum (l ++ putNum x n low) l.length n low = x := by
  have hin : (0 : Int) ≤ (l.length : Int) ∧ (l.length : Int) + n ≤ (l ++ putNum x n low).length := by
    rw [List.length_append, putNum_length]; omega
  rw [rdNum, if_pos hin]
  have : readNum (l ++ putNum x n low) l.length n low = numOf (fun k => x / 256 ^ (n - 1 - k) % 256) n := by
    unfold readNum
    apply numOf_congr
    intro j hj
    have hput : ∀ i, i < n → (l ++ putNum x n low)[l.length + i]?.getD 0 = putByte x n low i := by
      intro i hi
      rw [List.getElem?_append_right (by omega), Nat.add_sub_cancel_left]
      simp [putNum, hi]
    unfold byteAt
    cases low
    · simp only [Bool.false_eq_true, if_false]
      rw [hput j hj]
      simp [putByte, UInt8.toNat_ofNat']
    · simp only [if_true]
      rw [show l.length + n - 1 - j = l.length + (n - 1 - j) by omega, hput _ (by omega)]
      simp [putByte, UInt8.toNat_ofNat']
  rw [Int.toNat_natCast, this, numOf_digits x n n (Nat.le_refl _)]
  simp [Nat.mod_eq_of_lt hx]
theorem rdOk_put (l : List UInt8) (x n : Nat) (low : Bool) : rdOk (l ++ putNum x n low) l.length n = true := by
  rw [rdOk, decide_eq_true]
  rw [List.length_append, putNum_length]; omega
end Go.Proofs.Ytjfmgoickokbjaa
