/-
  SHA-256 in plain Lean: words, the schedule, the rounds, the blocks, the padding; no program in sight.
-/
import Derived.Laws.BitsAllLaws
import Derived.IntWalk
namespace Go.Proofs.YtapkhafgfbhkkaaDoor

namespace Sha
abbrev W := BitVec 32
/-- a word's number -/
def u (x : W) : Int := (x.toNat : Int)
theorem u_nonneg (x : W) : 0 ≤ u x := by unfold u; omega
theorem u_lt (x : W) : u x < 4294967296 := by unfold u; have := x.isLt; omega
theorem u_xor (x y : W) : bits .xor .u32 (u x) (u y) = u (x ^^^ y) := by unfold u; rw [u32_xor_nat _ _ x.isLt y.isLt, BitVec.toNat_xor]
theorem u_and (x y : W) : bits .and .u32 (u x) (u y) = u (x &&& y) := by unfold u; rw [u32_and_nat _ _ x.isLt y.isLt, BitVec.toNat_and]
theorem u_or (x y : W) : bits .or .u32 (u x) (u y) = u (x ||| y) := by unfold u; rw [u32_or_nat _ _ x.isLt y.isLt, BitVec.toNat_or]
theorem u_not (x : W) : bits .xor .u32 4294967295 (u x) = u (~~~x) := by
  have h : (4294967295 : Int) = u (BitVec.allOnes 32) := by unfold u; rw [BitVec.toNat_allOnes]; simp
  rw [h, u_xor, BitVec.allOnes_xor]
theorem u_add (x y : W) : IntKind.u32.wrap (u x + u y) = u (x + y) := by
  unfold u; rw [IntKind.wrap_u32', BitVec.toNat_add]; omega
theorem u_shr (x : W) (n : Nat) : u x / 2 ^ n = u (x >>> n) := by
  unfold u; rw [BitVec.toNat_ushiftRight, Nat.shiftRight_eq_div_pow, Int.natCast_ediv, Int.natCast_pow]; simp
theorem u_shl (x : W) (n : Nat) : IntKind.u32.wrap (u x * 2 ^ n) = u (x <<< n) := by
  have h : ((2 ^ n : Nat) : Int) = (2 : Int) ^ n := by rw [Int.natCast_pow]; rfl
  unfold u
  rw [IntKind.wrap_u32', BitVec.toNat_shiftLeft, Nat.shiftLeft_eq, ← h, ← Int.natCast_mul]
  generalize x.toNat * 2 ^ n = y
  omega
theorem u_wrap (x : W) : IntKind.u32.wrap (u x) = u x := by
  have h1 := u_nonneg x
  have h2 := u_lt x
  exact IntWalk.u32_in _ (by omega)
theorem u_add' (x y : W) : (u x + u y) % 4294967296 = u (x + y) := by rw [← u_add, IntKind.wrap_u32']
theorem u_shl' (x : W) (n : Nat) : u x * 2 ^ n % 4294967296 = u (x <<< n) := by rw [← u_shl, IntKind.wrap_u32']
/-- a byte as a word -/
def uc (c : UInt8) : W := BitVec.ofNat 32 c.toNat
theorem u_uc (c : UInt8) : IntKind.u32.wrap (c.toNat : Int) = u (uc c) := by
  have : c.toNat < 256 := c.toNat_lt
  rw [IntWalk.u32_in _ (by omega)]; unfold u uc; rw [BitVec.toNat_ofNat, Nat.mod_eq_of_lt (by omega)]
/-- a word's byte -/
def ob (x : W) : UInt8 := UInt8.ofNat x.toNat
theorem u_ob (x : W) : IntKind.u8.wrap (u x) = ((ob x).toNat : Int) := by
  unfold u ob; rw [IntKind.wrap_u8', UInt8.toNat_ofNat']; omega

def rotr (x : W) (n : Nat) : W := x >>> n ||| x <<< (32 - n)
def lo0 (x : W) : W := rotr x 7 ^^^ rotr x 18 ^^^ x >>> 3
def lo1 (x : W) : W := rotr x 17 ^^^ rotr x 19 ^^^ x >>> 10
def up0 (x : W) : W := rotr x 2 ^^^ rotr x 13 ^^^ rotr x 22
def up1 (x : W) : W := rotr x 6 ^^^ rotr x 11 ^^^ rotr x 25
def ch (e f g : W) : W := (e &&& f) ^^^ (~~~e &&& g)
def maj (a b c : W) : W := (a &&& b) ^^^ (a &&& c) ^^^ (b &&& c)
theorem ch_alt (e f g : W) : g ^^^ (e &&& (f ^^^ g)) = ch e f g := by
  unfold ch
  apply BitVec.eq_of_getLsbD_eq
  intro i hi
  simp only [BitVec.getLsbD_xor, BitVec.getLsbD_and, BitVec.getLsbD_not, hi, decide_true, Bool.true_and]
  cases e.getLsbD i <;> cases f.getLsbD i <;> cases g.getLsbD i <;> rfl
theorem maj_alt (a b c : W) : (a &&& b) ||| (c &&& (a ||| b)) = maj a b c := by
  unfold maj
  apply BitVec.eq_of_getLsbD_eq
  intro i hi
  simp only [BitVec.getLsbD_xor, BitVec.getLsbD_and, BitVec.getLsbD_or]
  cases a.getLsbD i <;> cases b.getLsbD i <;> cases c.getLsbD i <;> rfl
theorem rotr_alt (x : W) (n : Nat) : x <<< (32 - n) ||| x >>> n = rotr x n := by unfold rotr; rw [BitVec.or_comm]

/-- eight words -/
structure V8 where
  a : W
  b : W
  c : W
  d : W
  e : W
  f : W
  g : W
  h : W
def V8.list (v : V8) : List W := [v.a, v.b, v.c, v.d, v.e, v.f, v.g, v.h]
def V8.add (v x : V8) : V8 := ⟨v.a + x.a, v.b + x.b, v.c + x.c, v.d + x.d, v.e + x.e, v.f + x.f, v.g + x.g, v.h + x.h⟩
def V8.rnd (v : V8) (k w : W) : V8 :=
  ⟨(v.h + up1 v.e + ch v.e v.f v.g + k + w) + (up0 v.a + maj v.a v.b v.c), v.a, v.b, v.c, v.d + (v.h + up1 v.e + ch v.e v.f v.g + k + w), v.e, v.f, v.g⟩
def V8.rnds (v : V8) (K L : List W) : Nat → V8
  | 0 => v
  | i + 1 => (v.rnds K L i).rnd (K[i]?.getD 0) (L[i]?.getD 0)
/-- the word that stands at a place of bytes -/
def word (p : List UInt8) (i : Nat) : W := uc (p[4 * i]?.getD 0) <<< 24 ||| uc (p[4 * i + 1]?.getD 0) <<< 16 ||| uc (p[4 * i + 2]?.getD 0) <<< 8 ||| uc (p[4 * i + 3]?.getD 0)
/-- the next word of a schedule -/
def nextW (l : List W) : W := l[l.length - 16]?.getD 0 + lo0 (l[l.length - 15]?.getD 0) + l[l.length - 7]?.getD 0 + lo1 (l[l.length - 2]?.getD 0)
/-- the first k words of a block's schedule -/
def sched (p : List UInt8) : Nat → List W
  | 0 => []
  | k + 1 => sched p k ++ [if k < 16 then word p k else nextW (sched p k)]
theorem sched_length (p : List UInt8) : ∀ k, (sched p k).length = k
  | 0 => rfl
  | k + 1 => by simp [sched, sched_length p k]
theorem sched_get (p : List UInt8) (k : Nat) : ∀ m, k < m → (sched p m)[k]? = (sched p (k + 1))[k]?
  | 0, h => by omega
  | m + 1, h => by
    by_cases e : k = m
    · rw [e]
    · have h1 : k < m := by omega
      rw [← sched_get p k m h1]
      simp only [sched]
      rw [List.getElem?_append_left (by rw [sched_length]; exact h1)]
def kTab : List W := [0x428a2f98, 0x71374491, 0xb5c0fbcf, 0xe9b5dba5, 0x3956c25b, 0x59f111f1, 0x923f82a4, 0xab1c5ed5,
  0xd807aa98, 0x12835b01, 0x243185be, 0x550c7dc3, 0x72be5d74, 0x80deb1fe, 0x9bdc06a7, 0xc19bf174,
  0xe49b69c1, 0xefbe4786, 0x0fc19dc6, 0x240ca1cc, 0x2de92c6f, 0x4a7484aa, 0x5cb0a9dc, 0x76f988da,
  0x983e5152, 0xa831c66d, 0xb00327c8, 0xbf597fc7, 0xc6e00bf3, 0xd5a79147, 0x06ca6351, 0x14292967,
  0x27b70a85, 0x2e1b2138, 0x4d2c6dfc, 0x53380d13, 0x650a7354, 0x766a0abb, 0x81c2c92e, 0x92722c85,
  0xa2bfe8a1, 0xa81a664b, 0xc24b8b70, 0xc76c51a3, 0xd192e819, 0xd6990624, 0xf40e3585, 0x106aa070,
  0x19a4c116, 0x1e376c08, 0x2748774c, 0x34b0bcb5, 0x391c0cb3, 0x4ed8aa4a, 0x5b9cca4f, 0x682e6ff3,
  0x748f82ee, 0x78a5636f, 0x84c87814, 0x8cc70208, 0x90befffa, 0xa4506ceb, 0xbef9a3f7, 0xc67178f2]
def h0 : V8 := ⟨0x6a09e667, 0xbb67ae85, 0x3c6ef372, 0xa54ff53a, 0x510e527f, 0x9b05688c, 0x1f83d9ab, 0x5be0cd19⟩
/-- a block taken in -/
def comp (v : V8) (p : List UInt8) : V8 := v.add (v.rnds kTab (sched p 64) 64)
/-- k blocks taken in -/
def eats (v : V8) (l : List UInt8) : Nat → V8
  | 0 => v
  | k + 1 => comp (eats v l k) ((l.drop (64 * k)).take 64)
theorem eats_more (v : V8) (l m : List UInt8) : ∀ k, 64 * k ≤ l.length → eats v (l ++ m) k = eats v l k
  | 0, _ => rfl
  | k + 1, h => by
    simp only [eats]
    rw [eats_more v l m k (by omega), List.drop_append_of_le_length (by omega), List.take_append_of_le_length (by rw [List.length_drop]; omega)]
def padZ (n : Nat) : Nat := (119 - n % 64) % 64
/-- what stands behind n bytes -/
def be64 (n : Nat) : List UInt8 := (List.range 8).map fun i => UInt8.ofNat (n / 256 ^ (7 - i))
def pad (n : Nat) : List UInt8 := 128 :: List.replicate (padZ n) 0 ++ be64 (8 * n % 18446744073709551616)
theorem pad_length (n : Nat) : (pad n).length = 1 + padZ n + 8 := by simp [pad, be64]; omega
theorem pad_whole (n : Nat) : 64 * ((n + (pad n).length) / 64) = n + (pad n).length := by rw [pad_length]; unfold padZ; omega
def outW (x : W) : List UInt8 := [ob (x >>> 24), ob (x >>> 16), ob (x >>> 8), ob x]
def out (v : V8) : List UInt8 := v.list.flatMap outW
theorem out_length (v : V8) : (out v).length = 32 := rfl
/-- the sum of bytes -/
def sum (l : List UInt8) : List UInt8 := out (eats h0 (l ++ pad l.length) ((l.length + (pad l.length).length) / 64))
theorem sum_length (l : List UInt8) : (sum l).length = 32 := out_length _
end Sha
end Go.Proofs.YtapkhafgfbhkkaaDoor
