/-
  Plain numbers: read behind put in the middle; put behind read.
-/
import Derived.Test.YtebdehhamjlbpaaNum2
namespace Go.Proofs.Ytebdehhamjlbpaa

theorem readNum_append (l r : List UInt8) (p n : Nat) (low : Bool) (h : p + n ≤ l.length) : readNum (l ++ r) p n low = readNum l p n low := by
  unfold readNum
  apply numOf_congr
  intro j hj
  unfold byteAt
  cases low
  · simp only [Bool.false_eq_true, if_false]
    rw [List.getElem?_append_left (by omega)]
  · simp only [if_true]
    rw [List.getElem?_append_left (by omega)]
theorem rdNum_at (l : List UInt8) (p n : Nat) (low : Bool) (h : p + n ≤ l.length) : rdNum l p n low = readNum l p n low := by
  rw [rdNum, if_pos (by omega)]; rfl
theorem read_put_mid (pre post : List UInt8) (x n : Nat) (low : Bool) (p : Nat) (hp : pre.length = p) (hx : x < 256 ^ n) : rdNum (pre ++ putNum x n low ++ post) p n low = x := by
  subst hp
  rw [rdNum_at _ _ _ _ (by simp [putNum_length]), readNum_append _ _ _ _ _ (by simp [putNum_length]), ← rdNum_at _ _ _ _ (by simp [putNum_length]), read_put _ _ _ _ hx]

theorem numOf_div (f : Nat → Nat) (hf : ∀ k, f k < 256) (j : Nat) : ∀ d, numOf f (j + d) / 256 ^ d = numOf f j
  | 0 => by simp
  | d + 1 => by
    have ih := numOf_div f hf j d
    rw [show j + (d + 1) = (j + d) + 1 by omega, numOf, Nat.pow_succ, Nat.mul_comm (256 ^ d) 256, ← Nat.div_div_eq_div_mul]
    have := hf (j + d)
    rw [show (numOf f (j + d) * 256 + f (j + d)) / 256 = numOf f (j + d) by omega, ih]
theorem put_read (l : List UInt8) (p n : Nat) (h : p + n ≤ l.length) : putNum (readNum l p n false) n false = (l.drop p).take n := by
  apply List.ext_getElem?
  intro i
  by_cases hi : i < n
  · have hl : (putNum (readNum l p n false) n false)[i]? = some (putByte (readNum l p n false) n false i) := by simp [putNum, hi]
    rw [hl, List.getElem?_take, if_pos hi, List.getElem?_drop, List.getElem?_eq_getElem (by omega)]
    congr 1
    simp only [putByte, Bool.false_eq_true, if_false, readNum]
    have h1 := numOf_div (byteAt l p n false) (byteAt_lt l p n false) (i + 1) (n - 1 - i)
    rw [show i + 1 + (n - 1 - i) = n by omega] at h1
    rw [h1, numOf]
    have h2 : byteAt l p n false i = (l[p + i]'(by omega)).toNat := by rw [byteAt_high, List.getElem?_eq_getElem (by omega)]; rfl
    rw [h2]
    apply UInt8.toNat_inj.1
    rw [UInt8.toNat_ofNat']
    have := UInt8.toNat_lt (l[p + i]'(by omega))
    omega
  · rw [List.getElem?_eq_none (by rw [putNum_length]; omega), List.getElem?_eq_none (by simp; omega)]
theorem cut_cut {α : Type} (l : List α) (p n : Nat) : (l.drop p).take n ++ l.drop (p + n) = l.drop p := by
  have := List.take_append_drop n (l.drop p)
  rwa [List.drop_drop] at this
end Go.Proofs.Ytebdehhamjlbpaa
