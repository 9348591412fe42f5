/-
  Plain numbers and bytes: no program in sight.
-/
import Derived.Laws.BitsAllLaws
import Derived.IntWalk
namespace Go.Proofs.Ytjfmgoickokbjaa

/-- k digits to the base 256, the first ahead -/
def numOf (f : Nat → Nat) : Nat → Nat
  | 0 => 0
  | k + 1 => numOf f k * 256 + f k
theorem numOf_lt (f : Nat → Nat) (hf : ∀ k, f k < 256) : ∀ k, numOf f k < 256 ^ k
  | 0 => by simp [numOf]
  | k + 1 => by
    have := numOf_lt f hf k
    have h2 := hf k
    simp only [numOf, Nat.pow_succ]; omega
theorem numOf_congr {f g : Nat → Nat} : ∀ {k : Nat}, (∀ j, j < k → f j = g j) → numOf f k = numOf g k
  | 0, _ => rfl
  | k + 1, h => by simp only [numOf]; rw [numOf_congr (k := k) (fun j hj => h j (by omega)), h k (by omega)]
theorem numOf_le {f : Nat → Nat} (hf : ∀ k, f k < 256) {k m : Nat} (h : k ≤ m) : numOf f k < 256 ^ m :=
  Nat.lt_of_lt_of_le (numOf_lt f hf k) (Nat.pow_le_pow_right (by omega) h)

/-- which byte comes k-th where a number of n bytes is read at a place -/
def byteAt (l : List UInt8) (p n : Nat) (low : Bool) (k : Nat) : Nat := (l[if low then p + n - 1 - k else p + k]?.getD 0).toNat
theorem byteAt_lt (l : List UInt8) (p n : Nat) (low : Bool) (k : Nat) : byteAt l p n low k < 256 := UInt8.toNat_lt _
theorem byteAt_low (l : List UInt8) (p n k : Nat) : byteAt l p n true k = (l[p + n - 1 - k]?.getD 0).toNat := rfl
theorem byteAt_high (l : List UInt8) (p n k : Nat) : byteAt l p n false k = (l[p + k]?.getD 0).toNat := rfl
def readNum (l : List UInt8) (p n : Nat) (low : Bool) : Nat := numOf (byteAt l p n low) n

/-- the number of n bytes that stands at a place of any bytes, or 0 and false -/
def rdNum (l : List UInt8) (p : Int) (n : Nat) (low : Bool) : Nat := if 0 ≤ p ∧ p + n ≤ l.length then readNum l p.toNat n low else 0
def rdOk (l : List UInt8) (p : Int) (n : Nat) : Bool := decide (0 ≤ p ∧ p + n ≤ l.length)
theorem rdNum_lt (l : List UInt8) (p : Int) (n : Nat) (low : Bool) : rdNum l p n low < 256 ^ n := by
  unfold rdNum readNum; split
  · exact numOf_lt _ (byteAt_lt _ _ _ _) n
  · exact Nat.pow_pos (by omega)

theorem u64_shl_or (y c : Nat) (hy : y < 256 ^ 7) (hc : c < 256) : bits .or .u64 (IntKind.u64.wrap ((y : Int) * 256)) (IntKind.u64.wrap (c : Int)) = ((y * 256 + c : Nat) : Int) := by
  have h1 : IntKind.u64.wrap ((y : Int) * 256) = ((y * 256 : Nat) : Int) := by rw [IntWalk.u64_in _ (by omega)]; omega
  have h2 : IntKind.u64.wrap (c : Int) = (c : Int) := IntWalk.u64_in _ (by omega)
  rw [h1, h2, u64_or_nat _ _ (by omega) (by omega), nat_join 8 _ _ (by omega) (by omega)]
theorem u32_shl_or (y c : Nat) (hy : y < 256 ^ 3) (hc : c < 256) : bits .or .u32 (IntKind.u32.wrap ((y : Int) * 256)) (IntKind.u32.wrap (c : Int)) = ((y * 256 + c : Nat) : Int) := by
  have h1 : IntKind.u32.wrap ((y : Int) * 256) = ((y * 256 : Nat) : Int) := by rw [IntWalk.u32_in _ (by omega)]; omega
  have h2 : IntKind.u32.wrap (c : Int) = (c : Int) := IntWalk.u32_in _ (by omega)
  rw [h1, h2, u32_or_nat _ _ (by omega) (by omega), nat_join 8 _ _ (by omega) (by omega)]
theorem u64_round (l : List UInt8) (p n k : Nat) (low : Bool) (hk : k < 8) (hn : n = 8) :
    bits .or .u64 (IntKind.u64.wrap ((numOf (byteAt l p n low) k : Nat) * 256)) (IntKind.u64.wrap (byteAt l p n low k : Nat)) = ((numOf (byteAt l p n low) (k + 1) : Nat) : Int) := by
  subst hn
  exact u64_shl_or _ _ (numOf_le (byteAt_lt _ _ _ _) (by omega)) (byteAt_lt _ _ _ _ _)
theorem u32_round (l : List UInt8) (p n k : Nat) (low : Bool) (hk : k < 4) (hn : n = 4) :
    bits .or .u32 (IntKind.u32.wrap ((numOf (byteAt l p n low) k : Nat) * 256)) (IntKind.u32.wrap (byteAt l p n low k : Nat)) = ((numOf (byteAt l p n low) (k + 1) : Nat) : Int) := by
  subst hn
  exact u32_shl_or _ _ (numOf_le (byteAt_lt _ _ _ _) (by omega)) (byteAt_lt _ _ _ _ _)

/-- n bytes of a number -/
def putByte (x n : Nat) (low : Bool) (i : Nat) : UInt8 := UInt8.ofNat (x / 256 ^ (if low then i else n - 1 - i))
def putNum (x n : Nat) (low : Bool) : List UInt8 := (List.range n).map (putByte x n low)
theorem putNum_length (x n : Nat) (low : Bool) : (putNum x n low).length = n := by simp [putNum]
def putAll (l : List Nat) (n : Nat) (low : Bool) : List UInt8 := l.flatMap fun x => putNum x n low
theorem putAll_length (n : Nat) (low : Bool) : ∀ (l : List Nat), (putAll l n low).length = n * l.length
  | [] => by simp [putAll]
  | x :: l => by have := putAll_length n low l; simp only [putAll, List.flatMap_cons, List.length_append, putNum_length, List.length_cons] at *; rw [this, Nat.mul_add]; omega
theorem byteOf (x e : Nat) : ((x : Int) / 2 ^ (8 * e) % 256) = ((UInt8.ofNat (x / 256 ^ e)).toNat : Int) := by
  rw [UInt8.toNat_ofNat', show (256 : Nat) = 2 ^ 8 from rfl, ← Nat.pow_mul]
  rw [Int.natCast_emod, Int.natCast_ediv, Int.natCast_pow]
  rfl
theorem putNum_snoc (x n : Nat) (low : Bool) (j : Nat) (hj : j < n) : (putNum x n low).take (j + 1) = (putNum x n low).take j ++ [putByte x n low j] := by
  rw [List.take_succ_eq_append_getElem (by rw [putNum_length]; exact hj)]; simp [putNum]
theorem putNum_all (x n : Nat) (low : Bool) : (putNum x n low).take n = putNum x n low := List.take_of_length_le (by rw [putNum_length]; exact Nat.le_refl _)
theorem putAll_snoc (l : List Nat) (n : Nat) (low : Bool) (k : Nat) (hk : k < l.length) : putAll (l.take (k + 1)) n low = putAll (l.take k) n low ++ putNum (l[k]?.getD 0) n low := by
  rw [List.take_succ_eq_append_getElem hk, List.getElem?_eq_getElem hk]
  simp only [putAll, List.flatMap_append, List.flatMap_cons, List.flatMap_nil, List.append_nil, Option.getD_some]
end Go.Proofs.Ytjfmgoickokbjaa
