/-
  Parts: PopA GcA WordE WordH.
-/
import Derived.Test.YtpellkblaeeopaaGreatDoorC13
import Derived.Test.YtpellkblaeeopaaGreatDoorC09
import Derived.Laws.Bits128
import Derived.Laws.BitsAllLaws
import Derived.Test.YtpellkblaeeopaaGreatDoorC16
import Derived.Laws.Externs
/-
  Plain: how many bits of a number are set, as bits.OnesCount64 reckons it.
-/
namespace Go.Proofs.YtpellkblaeeopaaGreatDoor
open Go.RowKit

def valB : List Nat → Nat
  | [] => 0
  | b :: l => b + 256 * valB l
def mskB (c : Nat) : Nat → Nat
  | 0 => 0
  | k + 1 => c + 256 * mskB c k
theorem and_byte (x c m : Nat) (hc : c < 256) : x &&& (c + 256 * m) = ((x % 256) &&& c) + 256 * ((x / 256) &&& m) := by
  have h1 : (x &&& (c + 256 * m)) % 256 = (x % 256) &&& c := by
    have := Nat.and_mod_two_pow (a := x) (b := c + 256 * m) (n := 8)
    rw [show (2 : Nat) ^ 8 = 256 from rfl] at this
    rw [this, show (c + 256 * m) % 256 = c by omega]
  have h2 : (x &&& (c + 256 * m)) / 256 = (x / 256) &&& m := by
    have := Nat.and_div_two_pow (a := x) (b := c + 256 * m) (n := 8)
    rw [show (2 : Nat) ^ 8 = 256 from rfl] at this
    rw [this, show (c + 256 * m) / 256 = m by omega]
  omega
theorem lowA : ∀ b, b < 256 → ∀ t, t < 2 → (b / 2 + 128 * t) &&& 85 = (b / 2) &&& 85 := by decide +kernel
theorem lowB : ∀ b, b < 256 → ∀ t, t < 4 → (b / 4 + 64 * t) &&& 51 = (b / 4) &&& 51 := by decide +kernel
def f1B (b : Nat) : Nat := ((b / 2) &&& 85) + (b &&& 85)
def f2B (b : Nat) : Nat := ((b / 4) &&& 51) + (b &&& 51)
def f3B (b : Nat) : Nat := b / 16 + b % 16
theorem stageA : ∀ l : List Nat, (∀ b ∈ l, b < 256) → ((valB l / 2) &&& mskB 85 l.length) + (valB l &&& mskB 85 l.length) = valB (l.map f1B)
  | [], _ => rfl
  | b :: l, h => by
    have hb : b < 256 := h b (by simp)
    have ih := stageA l (fun x hx => h x (by simp [hx]))
    obtain ⟨v, hv⟩ : ∃ v, v = valB l := ⟨_, rfl⟩
    obtain ⟨m, hm⟩ : ∃ m, m = mskB 85 l.length := ⟨_, rfl⟩
    simp only [List.map_cons, List.length_cons, valB, mskB, ← hm, ← hv] at ih ⊢
    rw [and_byte _ _ _ (by omega), and_byte _ _ _ (by omega), ← ih]
    have e1 : (b + 256 * v) / 2 % 256 = b / 2 + 128 * (v % 2) := by omega
    have e2 : (b + 256 * v) / 2 / 256 = v / 2 := by omega
    have e3 : (b + 256 * v) % 256 = b := by omega
    have e4 : (b + 256 * v) / 256 = v := by omega
    rw [e1, e2, e3, e4, lowA b hb _ (by omega), f1B]
    omega
theorem stageB : ∀ l : List Nat, (∀ b ∈ l, b < 256) → ((valB l / 4) &&& mskB 51 l.length) + (valB l &&& mskB 51 l.length) = valB (l.map f2B)
  | [], _ => rfl
  | b :: l, h => by
    have hb : b < 256 := h b (by simp)
    have ih := stageB l (fun x hx => h x (by simp [hx]))
    obtain ⟨v, hv⟩ : ∃ v, v = valB l := ⟨_, rfl⟩
    obtain ⟨m, hm⟩ : ∃ m, m = mskB 51 l.length := ⟨_, rfl⟩
    simp only [List.map_cons, List.length_cons, valB, mskB, ← hm, ← hv] at ih ⊢
    rw [and_byte _ _ _ (by omega), and_byte _ _ _ (by omega), ← ih]
    have e1 : (b + 256 * v) / 4 % 256 = b / 4 + 64 * (v % 4) := by omega
    have e2 : (b + 256 * v) / 4 / 256 = v / 4 := by omega
    have e3 : (b + 256 * v) % 256 = b := by omega
    have e4 : (b + 256 * v) / 256 = v := by omega
    rw [e1, e2, e3, e4, lowB b hb _ (by omega), f2B]
    omega
theorem and15 (x : Nat) : x &&& 15 = x % 16 := Nat.and_two_pow_sub_one_eq_mod x 4
theorem val_mod16 : ∀ l : List Nat, (∀ b ∈ l, b % 16 ≤ 4) → valB l % 16 ≤ 4
  | [], _ => by simp [valB]
  | b :: l, h => by
    have := h b (by simp)
    simp only [valB]; omega
theorem stageC : ∀ l : List Nat, (∀ b ∈ l, b % 16 ≤ 4 ∧ b / 16 ≤ 4) → (valB l / 16 + valB l) &&& mskB 15 l.length = valB (l.map f3B)
  | [], _ => rfl
  | b :: l, h => by
    have hb := h b (by simp)
    have ih := stageC l (fun x hx => h x (by simp [hx]))
    have hm16 := val_mod16 l (fun x hx => (h x (by simp [hx])).1)
    obtain ⟨v, hv⟩ : ∃ v, v = valB l := ⟨_, rfl⟩
    obtain ⟨m, hm⟩ : ∃ m, m = mskB 15 l.length := ⟨_, rfl⟩
    simp only [List.map_cons, List.length_cons, valB, mskB, ← hm, ← hv] at ih hm16 ⊢
    rw [and_byte _ _ _ (by omega), ← ih]
    have e1 : ((b + 256 * v) / 16 + (b + 256 * v)) / 256 = v / 16 + v := by omega
    rw [e1, and15, f3B]
    omega
/-- the bits of a byte -/
def bitsOf (k x : Nat) : Nat := ((List.range k).map fun i => x / 2 ^ i % 2).sum
theorem f1_lt : ∀ b, b < 256 → f1B b < 256 := by decide +kernel
theorem f21_ok : ∀ b, b < 256 → f2B (f1B b) % 16 ≤ 4 ∧ f2B (f1B b) / 16 ≤ 4 := by decide +kernel
theorem f321 : ∀ b, b < 256 → f3B (f2B (f1B b)) = bitsOf 8 b := by decide +kernel
theorem bits8_le : ∀ b, b < 256 → bitsOf 8 b ≤ 8 := by decide +kernel
theorem sum_range_add (f : Nat → Nat) (j k : Nat) : ((List.range (j + k)).map f).sum = ((List.range j).map f).sum + ((List.range k).map fun i => f (j + i)).sum := by
  induction k with
  | zero => simp
  | succ k ih => rw [← Nat.add_assoc, List.range_succ, List.map_append, List.sum_append, ih, List.range_succ, List.map_append, List.sum_append]; simp; omega
theorem bits_add (j k x : Nat) : bitsOf (j + k) x = bitsOf j x + bitsOf k (x / 2 ^ j) := by
  unfold bitsOf
  rw [sum_range_add]
  congr 2
  refine List.map_congr_left fun i _ => ?_
  rw [Nat.div_div_eq_div_mul, ← Nat.pow_add]
theorem bits8_mod (x : Nat) : bitsOf 8 x = bitsOf 8 (x % 256) := by
  simp only [bitsOf, List.range, List.range.loop, List.map_cons, List.map_nil, List.sum_cons, List.sum_nil]
  omega
theorem bits_val : ∀ l : List Nat, (∀ b ∈ l, b < 256) → bitsOf (8 * l.length) (valB l) = (l.map (bitsOf 8)).sum
  | [], _ => rfl
  | b :: l, h => by
    have hb : b < 256 := h b (by simp)
    rw [List.length_cons, show 8 * (l.length + 1) = 8 + 8 * l.length by omega, bits_add, bits8_mod, valB, show (2 : Nat) ^ 8 = 256 from rfl, show (b + 256 * valB l) % 256 = b by omega, show (b + 256 * valB l) / 256 = valB l by omega,
      bits_val l (fun x hx => h x (by simp [hx]))]
    rfl
def bytesN (n : Nat) : List Nat := [n % 256, n / 256 % 256, n / 65536 % 256, n / 16777216 % 256, n / 4294967296 % 256, n / 1099511627776 % 256, n / 281474976710656 % 256, n / 72057594037927936 % 256]
theorem bytesN_val (n : Nat) (hn : n < 18446744073709551616) : valB (bytesN n) = n := by simp only [bytesN, valB]; omega
theorem bytesN_lt (n : Nat) : ∀ b ∈ bytesN n, b < 256 := by
  intro b hb
  simp only [bytesN, List.mem_cons, List.not_mem_nil, or_false] at hb
  omega
theorem val_lt : ∀ l : List Nat, (∀ b ∈ l, b < 256) → valB l < 256 ^ l.length
  | [], _ => by simp [valB]
  | b :: l, h => by
    have hb : b < 256 := h b (by simp)
    have := val_lt l (fun x hx => h x (by simp [hx]))
    rw [List.length_cons, Nat.pow_succ, valB]; omega
theorem fold_a (p0 q0 q1 : Nat) (h0 : p0 ≤ 8) (e0 : q0 = p0 + 256 * q1) : q0 / 256 = q1 := by omega
theorem fold_b (p0 p1 p2 q0 q1 q2 q3 : Nat) (h0 : p0 ≤ 8) (h1 : p1 ≤ 8) (h2 : p2 ≤ 8) (e0 : q0 = p0 + 256 * q1) (e1 : q1 = p1 + 256 * q2) (e2 : q2 = p2 + 256 * q3) : (q0 + q1) / 65536 = q2 + q3 := by
  have : q0 + q1 = (p0 + p1 + 256 * (p1 + p2)) + 65536 * (q2 + q3) := by omega
  rw [this, Nat.add_mul_div_left _ _ (by omega), Nat.div_eq_of_lt (by omega), Nat.zero_add]
theorem fold_c (p0 p1 p2 p3 p4 p5 p6 q0 q1 q2 q3 q4 q5 q6 q7 : Nat) (h0 : p0 ≤ 8) (h1 : p1 ≤ 8) (h2 : p2 ≤ 8) (h3 : p3 ≤ 8) (h4 : p4 ≤ 8) (h5 : p5 ≤ 8) (h6 : p6 ≤ 8)
    (e0 : q0 = p0 + 256 * q1) (e1 : q1 = p1 + 256 * q2) (e2 : q2 = p2 + 256 * q3) (e3 : q3 = p3 + 256 * q4) (e4 : q4 = p4 + 256 * q5) (e5 : q5 = p5 + 256 * q6) (e6 : q6 = p6 + 256 * q7) : (q0 + q1 + (q2 + q3)) / 4294967296 = q4 + q5 + q6 + q7 := by
  have : q0 + q1 + (q2 + q3) = ((p0 + p1 + p2 + p3) + 256 * (p1 + p2 + p3 + p4) + 65536 * (p2 + p3 + p4 + p5) + 16777216 * (p3 + p4 + p5 + p6)) + 4294967296 * (q4 + q5 + q6 + q7) := by omega
  rw [this, Nat.add_mul_div_left _ _ (by omega), Nat.div_eq_of_lt (by omega), Nat.zero_add]
theorem fold_d (p0 p1 p2 p3 p4 p5 p6 p7 r : Nat) (h0 : p0 ≤ 8) (h1 : p1 ≤ 8) (h2 : p2 ≤ 8) (h3 : p3 ≤ 8) (h4 : p4 ≤ 8) (h5 : p5 ≤ 8) (h6 : p6 ≤ 8) (h7 : p7 ≤ 8) : (p0 + p1 + p2 + p3 + p4 + p5 + p6 + p7 + 256 * r) % 128 = p0 + p1 + p2 + p3 + p4 + p5 + p6 + p7 := by omega
def MA : Nat := 6148914691236517205
def MB : Nat := 3689348814741910323
def MC : Nat := 1085102592571150095
def sw1 (n : Nat) : Nat := ((n / 2) &&& MA) + (n &&& MA)
def sw2 (n : Nat) : Nat := ((n / 4) &&& MB) + (n &&& MB)
def sw3 (n : Nat) : Nat := (n / 16 + n) &&& MC
theorem sw_all (n : Nat) (hn : n < 18446744073709551616) : ∃ p0 p1 p2 p3 p4 p5 p6 p7, (p0 ≤ 8 ∧ p1 ≤ 8 ∧ p2 ≤ 8 ∧ p3 ≤ 8 ∧ p4 ≤ 8 ∧ p5 ≤ 8 ∧ p6 ≤ 8 ∧ p7 ≤ 8) ∧ sw1 n < 18446744073709551616 ∧ sw2 (sw1 n) < 18446744073709551616 ∧ sw2 (sw1 n) / 16 + sw2 (sw1 n) < 18446744073709551616 ∧
    sw3 (sw2 (sw1 n)) = valB [p0, p1, p2, p3, p4, p5, p6, p7] ∧ bitsOf 64 n = p0 + p1 + p2 + p3 + p4 + p5 + p6 + p7 := by
  obtain ⟨l, hl⟩ : ∃ l, l = bytesN n := ⟨_, rfl⟩
  have hlen : l.length = 8 := by rw [hl]; rfl
  have hlt : ∀ b ∈ l, b < 256 := by rw [hl]; exact bytesN_lt n
  have hval : valB l = n := by rw [hl]; exact bytesN_val n hn
  have h1 : sw1 n = valB (l.map f1B) := by rw [← stageA l hlt, hval, hlen]; rfl
  have hlt1 : ∀ b ∈ l.map f1B, b < 256 := by
    intro b hb; obtain ⟨x, hx, rfl⟩ := List.mem_map.1 hb; exact f1_lt x (hlt x hx)
  have h2 : sw2 (sw1 n) = valB ((l.map f1B).map f2B) := by rw [← stageB _ hlt1, ← h1, List.length_map, hlen]; rfl
  have hok2 : ∀ b ∈ (l.map f1B).map f2B, b % 16 ≤ 4 ∧ b / 16 ≤ 4 := by
    intro b hb
    obtain ⟨y, hy, rfl⟩ := List.mem_map.1 hb
    obtain ⟨x, hx, rfl⟩ := List.mem_map.1 hy
    exact f21_ok x (hlt x hx)
  have h3 : sw3 (sw2 (sw1 n)) = valB (((l.map f1B).map f2B).map f3B) := by rw [← stageC _ hok2, ← h2, List.length_map, List.length_map, hlen]; rfl
  have h4 : ((l.map f1B).map f2B).map f3B = l.map (bitsOf 8) := by
    rw [List.map_map, List.map_map]
    exact List.map_congr_left fun b hb => f321 b (hlt b hb)
  have h5 : bitsOf 64 n = (l.map (bitsOf 8)).sum := by rw [← bits_val l hlt, hlen, hval]
  have b1 : sw1 n < 18446744073709551616 := by
    have := val_lt _ hlt1
    rw [← h1, List.length_map, hlen] at this; exact this
  have b2 : sw2 (sw1 n) < 256 ^ 8 := by
    have := val_lt ((l.map f1B).map f2B) (fun b hb => by have := hok2 b hb; omega)
    rwa [← h2, List.length_map, List.length_map, hlen] at this
  have b3 : sw2 (sw1 n) ≤ 4919131752989213764 := by
    have hle : ∀ l : List Nat, (∀ b ∈ l, b % 16 ≤ 4 ∧ b / 16 ≤ 4) → valB l ≤ mskB 68 l.length := by
      intro l; induction l with
      | nil => intro _; simp [valB, mskB]
      | cons b l ih =>
        intro h
        have := ih (fun x hx => h x (by simp [hx]))
        have := h b (by simp)
        simp only [valB, List.length_cons, mskB]; omega
    have := hle _ hok2
    rw [← h2, List.length_map, List.length_map, hlen] at this
    exact this
  rw [h4, hl] at h3
  rw [hl] at h5
  refine ⟨_, _, _, _, _, _, _, _, ⟨?_, ?_, ?_, ?_, ?_, ?_, ?_, ?_⟩, b1, by omega, by omega, h3, ?_⟩
  · exact bits8_le _ (Nat.mod_lt _ (by omega))
  · exact bits8_le _ (Nat.mod_lt _ (by omega))
  · exact bits8_le _ (Nat.mod_lt _ (by omega))
  · exact bits8_le _ (Nat.mod_lt _ (by omega))
  · exact bits8_le _ (Nat.mod_lt _ (by omega))
  · exact bits8_le _ (Nat.mod_lt _ (by omega))
  · exact bits8_le _ (Nat.mod_lt _ (by omega))
  · exact bits8_le _ (Nat.mod_lt _ (by omega))
  · rw [h5]; simp only [bytesN, List.map_cons, List.map_nil, List.sum_cons, List.sum_nil]; omega
/-- the sums of the bytes -/
theorem sw_end (n : Nat) (hn : n < 18446744073709551616) : ∃ y y1 y2 y3, y = sw3 (sw2 (sw1 n)) ∧ y1 = y + y / 256 ∧ y2 = y1 + y1 / 65536 ∧ y3 = y2 + y2 / 4294967296 ∧ y3 % 128 = bitsOf 64 n ∧ y < 18446744073709551616 ∧ y1 < 18446744073709551616 ∧ y2 < 18446744073709551616 ∧ y3 < 9223372036854775808 := by
  obtain ⟨p0, p1, p2, p3, p4, p5, p6, p7, ⟨h0, h1, h2, h3, h4, h5, h6, h7⟩, _, _, _, hv, hb⟩ := sw_all n hn
  simp only [valB] at hv
  obtain ⟨q7, e7⟩ : ∃ q, q = p7 := ⟨_, rfl⟩
  obtain ⟨q6, e6⟩ : ∃ q, q = p6 + 256 * q7 := ⟨_, rfl⟩
  obtain ⟨q5, e5⟩ : ∃ q, q = p5 + 256 * q6 := ⟨_, rfl⟩
  obtain ⟨q4, e4⟩ : ∃ q, q = p4 + 256 * q5 := ⟨_, rfl⟩
  obtain ⟨q3, e3⟩ : ∃ q, q = p3 + 256 * q4 := ⟨_, rfl⟩
  obtain ⟨q2, e2⟩ : ∃ q, q = p2 + 256 * q3 := ⟨_, rfl⟩
  obtain ⟨q1, e1⟩ : ∃ q, q = p1 + 256 * q2 := ⟨_, rfl⟩
  obtain ⟨q0, e0⟩ : ∃ q, q = p0 + 256 * q1 := ⟨_, rfl⟩
  rw [Nat.mul_zero, Nat.add_zero, ← e7, ← e6, ← e5, ← e4, ← e3, ← e2, ← e1, ← e0] at hv
  have g1 := fold_a p0 q0 q1 h0 e0
  have g2 := fold_b p0 p1 p2 q0 q1 q2 q3 h0 h1 h2 e0 e1 e2
  have g3 := fold_c p0 p1 p2 p3 p4 p5 p6 q0 q1 q2 q3 q4 q5 q6 q7 h0 h1 h2 h3 h4 h5 h6 e0 e1 e2 e3 e4 e5 e6
  have g4 := fold_d p0 p1 p2 p3 p4 p5 p6 p7 (q1 + q2 + q3 + q4 + q5 + q6 + q7) h0 h1 h2 h3 h4 h5 h6 h7
  have k7 : q7 ≤ 8 := by omega
  have k6 : q6 ≤ 2056 := by clear g1 g2 g3 g4 hv hb; omega
  have k5 : q5 ≤ 526344 := by clear g1 g2 g3 g4 hv hb; omega
  have k4 : q4 ≤ 134744072 := by clear g1 g2 g3 g4 hv hb; omega
  have k3 : q3 ≤ 34494482440 := by clear g1 g2 g3 g4 hv hb; omega
  have k2 : q2 ≤ 8830587504648 := by clear g1 g2 g3 g4 hv hb; omega
  have k1 : q1 ≤ 2260630401189896 := by clear g1 g2 g3 g4 hv hb; omega
  have k0 : q0 ≤ 578721382704613384 := by clear g1 g2 g3 g4 hv hb; omega
  refine ⟨q0, q0 + q1, q0 + q1 + (q2 + q3), q0 + q1 + (q2 + q3) + (q4 + q5 + q6 + q7), hv.symm, by rw [g1], by rw [g2], by rw [g3], ?_, ?_, ?_, ?_, ?_⟩
  rotate_left
  · clear g1 g2 g3 g4 hv hb; omega
  · clear g1 g2 g3 g4 hv hb; omega
  · clear g1 g2 g3 g4 hv hb; omega
  · clear g1 g2 g3 g4 hv hb; omega
  have g5 : q0 + q1 + (q2 + q3) + (q4 + q5 + q6 + q7) = p0 + p1 + p2 + p3 + p4 + p5 + p6 + p7 + 256 * (q1 + q2 + q3 + q4 + q5 + q6 + q7) := by
    clear g1 g2 g3 g4 hv hb; omega
  rw [hb, ← g4, g5]
end Go.Proofs.YtpellkblaeeopaaGreatDoor
/-
  Walks: color.some, masked, Of; bits.OnesCount64; the reference's Color.
-/
namespace Go.Proofs.YtpellkblaeeopaaGreatDoor
open Go.RowKit

/-- how many colors there may be -/
def colN (n : Int) : Bool := decide (n = 1 ∨ n = 2 ∨ n = 4 ∨ n = 8 ∨ n = 16 ∨ n = 32 ∨ n = 64)

set_option maxRecDepth 100000 in
theorem colSome_any (n : Int) (w : World) : Calls Tryz.prog 33 #[.int .i64 n] w fun e w' => e = .returned (.bool (colN n)) ∧ w' = w := by
  by_cases h : 1 ≤ n ∧ n ≤ 64
  · obtain ⟨m, rfl⟩ : ∃ m : Nat, n = m := ⟨n.toNat, by omega⟩
    have h1 : (1 : Int) ≤ (m : Int) := h.1
    have h2 : (m : Int) ≤ 64 := h.2
    have hm : m < 65 := by omega
    clear h
    go_enter Tryz.func33, Tryz.ntmps33
    go_wp2_with fail
    go_ret
    refine ⟨congrArg (fun b => Ending.returned (.bool b)) ?_, rfl⟩
    have hm1 : 1 ≤ m := by omega
    clear h1 h2
    revert m
    decide +kernel
  · have hc : colN n = false := by simp only [colN, decide_eq_false_iff_not]; omega
    rw [hc]
    by_cases h1 : 1 ≤ n
    · have h2 : ¬ n ≤ 64 := by omega
      clear h hc
      go_enter Tryz.func33, Tryz.ntmps33
      go_wp2_with fail
      go_ret
      exact ⟨rfl, rfl⟩
    · clear h hc
      go_enter Tryz.func33, Tryz.ntmps33
      go_wp2_with fail
      go_ret
      exact ⟨rfl, rfl⟩
set_option maxRecDepth 100000 in
theorem onesC_any (n : Nat) (hn : n < 18446744073709551616) (w : World) :
    Calls Tryz.prog 53 #[.int .u64 (n : Int)] w fun e w' => e = .returned (.int .i64 (bitsOf 64 n : Nat)) ∧ w' = w := by
  obtain ⟨_, _, _, _, _, _, _, _, _, b1, b2, b3, _⟩ := sw_all n hn
  obtain ⟨y, y1, y2, y3, e0, e1, e2, e3, hb, c0, c1, c2, c3⟩ := sw_end n hn
  obtain ⟨x1, hx1⟩ : ∃ x, x = sw1 n := ⟨_, rfl⟩
  obtain ⟨x2, hx2⟩ : ∃ x, x = sw2 x1 := ⟨_, rfl⟩
  rw [← hx1] at b1 b2 b3 e0
  rw [← hx2] at b2 b3 e0
  have m0 : MA < 18446744073709551616 := by decide
  have m1 : MB < 18446744073709551616 := by decide
  have m2 : MC < 18446744073709551616 := by decide
  have a1 : bits BinOp.and IntKind.u64 ((n : Int) / 2) 6148914691236517205 = ((n / 2 &&& MA : Nat) : Int) := by
    rw [show (n : Int) / 2 = ((n / 2 : Nat) : Int) by omega]; exact u64_and_nat (n / 2) MA (by omega) m0
  have a2 : bits BinOp.and IntKind.u64 (n : Int) 6148914691236517205 = ((n &&& MA : Nat) : Int) := u64_and_nat n MA hn m0
  have a3 : IntKind.u64.wrap (((n / 2 &&& MA : Nat) : Int) + ((n &&& MA : Nat) : Int)) = (x1 : Int) := by
    have : sw1 n = (n / 2 &&& MA) + (n &&& MA) := rfl
    rw [IntWalk.u64_in _ (by omega)]; omega
  have a4 : bits BinOp.and IntKind.u64 ((x1 : Int) / 4) 3689348814741910323 = ((x1 / 4 &&& MB : Nat) : Int) := by
    rw [show (x1 : Int) / 4 = ((x1 / 4 : Nat) : Int) by omega]; exact u64_and_nat (x1 / 4) MB (by omega) m1
  have a5 : bits BinOp.and IntKind.u64 (x1 : Int) 3689348814741910323 = ((x1 &&& MB : Nat) : Int) := u64_and_nat x1 MB b1 m1
  have a6 : IntKind.u64.wrap (((x1 / 4 &&& MB : Nat) : Int) + ((x1 &&& MB : Nat) : Int)) = (x2 : Int) := by
    have : sw2 x1 = (x1 / 4 &&& MB) + (x1 &&& MB) := rfl
    rw [IntWalk.u64_in _ (by omega)]; omega
  obtain ⟨z, hz⟩ : ∃ z, z = x2 / 16 + x2 := ⟨_, rfl⟩
  have a7 : IntKind.u64.wrap ((x2 : Int) / 16 + (x2 : Int)) = (z : Int) := by rw [IntWalk.u64_in _ (by omega)]; omega
  have a8 : bits BinOp.and IntKind.u64 (z : Int) 1085102592571150095 = (y : Int) := by
    rw [e0, hz]; exact u64_and_nat (x2 / 16 + x2) MC b3 m2
  have a9 : IntKind.u64.wrap ((y : Int) + (y : Int) / 256) = (y1 : Int) := by rw [IntWalk.u64_in _ (by omega)]; omega
  have a10 : IntKind.u64.wrap ((y1 : Int) + (y1 : Int) / 65536) = (y2 : Int) := by rw [IntWalk.u64_in _ (by omega)]; omega
  have a11 : IntKind.u64.wrap ((y2 : Int) + (y2 : Int) / 4294967296) = (y3 : Int) := by rw [IntWalk.u64_in _ (by omega)]; omega
  have a12 : bits BinOp.and IntKind.i64 (y3 : Int) 127 = ((bitsOf 64 n : Nat) : Int) := by
    rw [i64_and127, ← hb]; omega
  obtain ⟨r, hr⟩ : ∃ r, r = bitsOf 64 n := ⟨_, rfl⟩
  rw [← hr] at a12 ⊢
  clear hb e0 e1 e2 e3 hx1 hx2 hz hr
  go_enter Tryz.func53, Tryz.ntmps53
  go_wp2_with fail
  go_ret
  exact ⟨rfl, rfl⟩
theorem colN_cases {n : Int} (h : colN n = true) : n = 1 ∨ n = 2 ∨ n = 4 ∨ n = 8 ∨ n = 16 ∨ n = 32 ∨ n = 64 := by simpa [colN] using h
/-- the color of an address -/
def colorV (pa : Nat) (n : Int) : Int := if colN n then ((pa / 4096 % n.toNat : Nat) : Int) else -1
set_option maxRecDepth 100000 in
theorem colOf_any (pa : Nat) (_hpa : pa < 18446744073709551616) (n : Int) (w : World) : Calls Tryz.prog 12 #[.int .u64 (pa : Int), .int .i64 n] w fun e w' => e = .returned (.int .i64 (colorV pa n)) ∧ w' = w := by
  have hs := colSome_any n w
  cases hc : colN n with
  | false =>
    have hv : Hid (colorV pa n = -1) := Lib.hid (by rw [colorV, hc]; rfl)
    rw [hc] at hs
    clear hc
    go_enter Tryz.func12, Tryz.ntmps12
    go_wp2_with fail
    refine hs.mono ?_
    rintro e w' ⟨rfl, rfl⟩
    clear hs
    go_wp2
    go_ret
    exact ⟨ret_int hv.out.symm, rfl⟩
  | true =>
    have h7 := colN_cases hc
    obtain ⟨m, rfl⟩ : ∃ m : Nat, n = m := ⟨n.toNat, by omega⟩
    have hv : Hid (colorV pa m = ((pa / 4096 % m : Nat) : Int)) := Lib.hid (by rw [colorV, hc]; simp)
    have hm : 1 ≤ m ∧ m ≤ 64 := by omega
    have hw : IntKind.u64.wrap (m : Int) = (m : Int) := IntWalk.u64_in _ (by omega)
    have h0 : ((m : Int) == 0) = false := by simp; omega
    obtain ⟨r, hr⟩ : ∃ r, r = pa / 4096 % m := ⟨_, rfl⟩
    have hr64 : r < 64 := by have := Nat.mod_lt (pa / 4096) (show m > 0 by omega); omega
    have hrr : (pa : Int) / 4096 % (m : Int) = (r : Int) := by rw [hr]; push_cast; rfl
    rw [hc] at hs
    rw [← hr] at hv
    clear hc h7 hr
    go_enter Tryz.func12, Tryz.ntmps12
    go_wp2_with fail
    refine hs.mono ?_
    rintro e w' ⟨rfl, rfl⟩
    clear hs
    go_wp2
    go_ret
    exact ⟨ret_int hv.out.symm, rfl⟩
def maskOk (n : Int) (mask : Nat) : Bool := colN n && decide (mask ≠ 0) && (decide (n = 64) || decide (mask < 2 ^ n.toNat))
set_option maxRecDepth 100000 in
theorem masked_any (n : Int) (mask : Nat) (hmk : mask < 18446744073709551616) (w : World) : Calls Tryz.prog 21 #[.int .i64 n, .int .u64 (mask : Int)] w fun e w' => e = .returned (.bool (maskOk n mask)) ∧ w' = w := by
  have hs := colSome_any n w
  cases hc : colN n with
  | false =>
    have hv : Hid (maskOk n mask = false) := Lib.hid (by rw [maskOk, hc]; rfl)
    rw [hc] at hs
    clear hc
    go_enter Tryz.func21, Tryz.ntmps21
    go_wp2_with fail
    refine hs.mono ?_
    rintro e w' ⟨rfl, rfl⟩
    clear hs
    go_wp2
    go_ret
    exact ⟨ret_bool hv.out.symm, rfl⟩
  | true =>
    have h7 := colN_cases hc
    rw [hc] at hs
    have hv : maskOk n mask = (decide (mask ≠ 0) && (decide (n = 64) || decide (mask < 2 ^ n.toNat))) := by rw [maskOk, hc]; rfl
    rw [hv]
    by_cases h0 : mask = 0
    · subst h0
      clear hc h7 hv
      go_enter Tryz.func21, Tryz.ntmps21
      go_wp2_with fail
      refine hs.mono ?_
      rintro e w' ⟨rfl, rfl⟩
      clear hs
      go_wp2
      go_ret
      exact ⟨rfl, rfl⟩
    · have hne : ((mask : Int) != 0) = true := by simpa using h0
      have hd : decide (mask ≠ 0) = true := by simpa using h0
      rw [hd, Bool.true_and]
      clear hc hv h0 hd
      rcases h7 with rfl | rfl | rfl | rfl | rfl | rfl | rfl
      all_goals
        go_enter Tryz.func21, Tryz.ntmps21
        go_wp2_with fail
        refine hs.mono ?_
        rintro e w' ⟨rfl, rfl⟩
        clear hs
        go_wp2
        go_ret
        exact ⟨ret_bool (by rw [Bool.eq_iff_iff]; simp; try omega), rfl⟩
set_option maxRecDepth 100000 in
theorem rColored_any (n : Int) (hn : colN n = true) (w : World) : Calls Tryz.prog 32 #[.int .i64 n, .int .u64 1] w fun e w' => e = .returned (.bool true) ∧ w' = w := by
  obtain ⟨j, hj, rfl⟩ : ∃ j : Nat, j ≤ 6 ∧ n = ((2 ^ j : Nat) : Int) := by
    rcases colN_cases hn with rfl | rfl | rfl | rfl | rfl | rfl | rfl
    · exact ⟨0, by omega, rfl⟩
    · exact ⟨1, by omega, rfl⟩
    · exact ⟨2, by omega, rfl⟩
    · exact ⟨3, by omega, rfl⟩
    · exact ⟨4, by omega, rfl⟩
    · exact ⟨5, by omega, rfl⟩
    · exact ⟨6, by omega, rfl⟩
  obtain ⟨m, hm⟩ : ∃ m, m = 2 ^ j := ⟨_, rfl⟩
  have HM := Lib.hid hm
  rw [← hm]
  clear hn hm
  go_enter Tryz.func32, Tryz.ntmps32
  go_wp2
  go_loopw [5] (fun v wr => ∃ k : Nat, k ≤ j ∧ v = .int .i64 (k : Int) ∧ wr = w) (fun v _ => 7 - (intOf v).toNat)
  case atStart => exact ⟨0, Nat.zero_le _, rfl, rfl⟩
  case round =>
    obtain ⟨k, hk, rfl, rfl⟩ := hrel
    have hk6 : (k : Int) ≤ 6 := by omega
    obtain ⟨p, hp⟩ : ∃ p, p = 2 ^ k := ⟨_, rfl⟩
    have hp64 : p ≤ 64 := by rw [hp]; exact Nat.le_trans (Nat.pow_le_pow_right (by omega) (show k ≤ 6 by omega)) (by decide)
    have hw : wrap64 (2 ^ k) = (p : Int) := by
      have : (2 : Int) ^ k = (p : Int) := by rw [hp]; push_cast; rfl
      rw [this]; unfold wrap64; omega
    by_cases e : k = j
    · have hmp : m = p := by rw [HM.out, hp, e]
      subst hmp
      have hfin : ((m : Int) == 64 || decide (1 < IntKind.u64.wrap (2 ^ m))) = true := by
        rw [hp]
        have : k < 7 := by omega
        clear hp hp64 hw hk6 e hk HM hj
        revert k
        decide +kernel
      clear hp e
      go_wp2_with fail
      all_goals (go_ret; exact ⟨ret_bool (by simp at hfin ⊢ <;> exact hfin), rfl⟩)
    · have hne : ((m : Int) == (p : Int)) = false := by
        have h1 : p < m := by
          rw [hp, HM.out]; exact Nat.pow_lt_pow_right (by omega) (by omega)
        simp; omega
      clear hp
      go_wp2
      go_roundw
      case rel => exact ⟨k + 1, by omega, by go_num, trivial⟩
      case measure => simp [intOf]; omega
set_option maxRecDepth 100000 in
theorem rColor_any (pa : Nat) (_hpa : pa < 18446744073709551616) (n : Int) (hn : colN n = true) (w : World) : Calls Tryz.prog 11 #[.int .u64 (pa : Int), .int .i64 n] w fun e w' => e = .returned (.int .i64 (colorV pa n)) ∧ w' = w := by
  have hs := rColored_any n hn w
  have h7 := colN_cases hn
  obtain ⟨m, rfl⟩ : ∃ m : Nat, n = m := ⟨n.toNat, by omega⟩
  have hv : Hid (colorV pa m = ((pa / 4096 % m : Nat) : Int)) := Lib.hid (by rw [colorV, hn]; simp)
  have hm : 1 ≤ m ∧ m ≤ 64 := by omega
  have hw : IntKind.u64.wrap (m : Int) = (m : Int) := IntWalk.u64_in _ (by omega)
  have h0 : ((m : Int) == 0) = false := by simp; omega
  obtain ⟨r, hr⟩ : ∃ r, r = pa / 4096 % m := ⟨_, rfl⟩
  have hr64 : r < 64 := by have := Nat.mod_lt (pa / 4096) (show m > 0 by omega); omega
  have hrr : (pa : Int) / 4096 % (m : Int) = (r : Int) := by rw [hr]; push_cast; rfl
  rw [← hr] at hv
  clear h7 hr hn
  go_enter Tryz.func11, Tryz.ntmps11
  go_wp2_with fail
  refine hs.mono ?_
  rintro e w' ⟨rfl, rfl⟩
  clear hs
  go_wp2
  go_ret
  exact ⟨ret_int hv.out.symm, rfl⟩
end Go.Proofs.YtpellkblaeeopaaGreatDoor
/-
  Walk: portreevelaw01.awake; the statement WordHexes' walk.
-/
namespace Go.Proofs.YtpellkblaeeopaaGreatDoor
open Go.RowKit

theorem HexLen.ff : HexLen 255 2 :=
  ⟨by omega, by decide, fun i h1 h2 => by
    obtain rfl : i = 1 := by omega
    decide⟩
end Go.Proofs.YtpellkblaeeopaaGreatDoor
/-
  Walks: word.Add, Down, Up, Aligned, portreeveref01.Down, Up; the statements WordAdds, WordAligns.
-/
namespace Go.Proofs.YtpellkblaeeopaaGreatDoor
open Go.RowKit

def P64 : Nat := 18446744073709551616
theorem add64_fits (x y : Nat) (h : x + y < P64) (w : World) :
    (callFunc 86 #[.int .u64 (x : Int), .int .u64 (y : Int), .int .u64 0]).run Tryz.prog w = .ok (.value (.tuple #[.int .u64 ((x : Int) + y), .int .u64 0])) w := by
  unfold P64 at h
  rw [run_callFunc_extern Tryz.func86 (by kernel_rfl) (by kernel_rfl) (by kernel_rfl) (e := add64Entry) (by kernel_rfl), run_add64 x y 0 (by omega) (by omega) (by omega) (by omega)]
  simp only [Result.andThen]
  rw [show ((x : Int) + y + 0) % 18446744073709551616 = x + y by omega, show ((x : Int) + y + 0) / 18446744073709551616 = 0 by omega]
theorem add64_over (x y : Nat) (h : P64 ≤ x + y) (hx : x < P64) (hy : y < P64) : ∃ z : Int, ∀ w,
    (callFunc 86 #[.int .u64 (x : Int), .int .u64 (y : Int), .int .u64 0]).run Tryz.prog w = .ok (.value (.tuple #[.int .u64 z, .int .u64 1])) w := by
  unfold P64 at h hx hy
  refine ⟨((x : Int) + y + 0) % 18446744073709551616, fun w => ?_⟩
  rw [run_callFunc_extern Tryz.func86 (by kernel_rfl) (by kernel_rfl) (by kernel_rfl) (e := add64Entry) (by kernel_rfl), run_add64 x y 0 (by omega) (by omega) (by omega) (by omega)]
  simp only [Result.andThen]
  rw [show ((x : Int) + y + 0) / 18446744073709551616 = 1 by omega]

theorem sum_take_succ (xs : List Nat) (k : Nat) (h : k < xs.length) : (xs.take (k + 1)).sum = (xs.take k).sum + xs[k]?.getD 0 := by
  rw [List.take_succ_eq_append_getElem h, List.getElem?_eq_getElem h]; simp only [List.sum_append, List.sum_cons, List.sum_nil, Nat.add_zero, Option.getD_some]
theorem sum_take_le (xs : List Nat) (k : Nat) : (xs.take k).sum ≤ xs.sum := by
  have e : (xs.take k ++ xs.drop k).sum = (xs.take k).sum + (xs.drop k).sum := List.sum_append
  rw [List.take_append_drop] at e
  omega

def addNum (xs : List Nat) : Nat := if xs.sum < P64 then xs.sum else 0
def addOk (xs : List Nat) : Bool := decide (xs.sum < P64)

set_option maxRecDepth 100000 in
set_option maxHeartbeats 400000 in
theorem add_any (A : Option Addr) (n c : Nat) (xs : List Nat) (w : World) (h : Rd w w.heap.size 1 A n (xs.map fun (x : Nat) => Value.int .u64 (x : Int))) (hm : n ≤ 1000) (hb : ∀ x ∈ xs, x < P64) :
    Calls Tryz.prog 52 #[.slice A n c] w fun e w' => e = .returned (.tuple #[.int .u64 (addNum xs : Nat), .bool (addOk xs)]) ∧ w = w' := by
  have hlen : xs.length = n := by have := h.len; simpa using this
  have HL := Lib.hid hlen; clear hlen
  go_enter Tryz.func52, Tryz.ntmps52
  go_wp2
  go_loop [4, 11] (fun t i => ∃ k : Nat, k ≤ n ∧ i = .int .i64 k ∧ t = .int .u64 ((xs.take k).sum : Nat) ∧ (xs.take k).sum < P64) (fun _ i => n - (intOf i).toNat)
  case atStart => exact ⟨0, Nat.zero_le _, rfl, rfl, by simp [P64]⟩
  case round =>
    obtain ⟨k, hk, rfl, rfl, hs⟩ := hrel
    by_cases hlt : k < n
    · obtain ⟨a, rfl, hab, hcs⟩ := h.cells (by omega)
      have hkl : k < xs.length := by rw [HL.out]; exact hlt
      have hx : xs[k]?.getD 0 < P64 := by rw [List.getElem?_eq_getElem hkl]; exact hb _ (List.getElem_mem hkl)
      have c1 : w.cell? (a.add k) = some (.int .u64 (xs[k]?.getD 0 : Nat)) := hcs k _ (by rw [List.getElem?_map, List.getElem?_eq_getElem hkl]; rfl)
      have HS := Lib.hid (sum_take_succ xs k hkl)
      clear hcs h
      generalize hy : xs[k]?.getD 0 = y at *
      generalize hz : (xs.take k).sum = z at *
      have HY := Lib.hid hy
      have HZ := Lib.hid hz
      clear hy hz
      by_cases hf : z + y < P64
      · have hrun := add64_fits z y hf
        clear hs hx
        have HF := Lib.hid hf
        clear hf
        go_wp2
        go_round
        case rel => exact ⟨k + 1, by omega, by go_num, by rw [HS.out]; go_num, by rw [HS.out]; exact HF.out⟩
        case measure => simp [intOf]; omega
      · obtain ⟨u, hrun⟩ := add64_over z y (by omega) hs hx
        have hno : ¬ xs.sum < P64 := by
          have := sum_take_le xs (k + 1)
          rw [HS.out] at this
          omega
        have H1 := Lib.hid hno
        clear hf hs hx hno hb
        go_wp2
        go_ret2
        exact ⟨by rw [addNum, addOk, if_neg H1.out, decide_eq_false H1.out]; rfl, rfl⟩
    · obtain rfl : k = n := by omega
      have hall : xs.take k = xs := List.take_of_length_le (by rw [HL.out]; exact Nat.le_refl _)
      rw [hall] at hs ⊢
      have H1 := Lib.hid hs
      clear hall hs hb
      go_wp2
      go_ret2
      exact ⟨by rw [addNum, addOk, if_pos H1.out, decide_eq_true H1.out]; rfl, rfl⟩

end Go.Proofs.YtpellkblaeeopaaGreatDoor
