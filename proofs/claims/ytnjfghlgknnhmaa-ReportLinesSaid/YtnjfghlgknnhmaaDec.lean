/-
  Walks: report.Digits, portreeveref29.Digits and decimal: both are the decimal digits.
-/
import Derived.Test.YtnjfghlgknnhmaaWordC
namespace Go.Proofs.Ytnjfghlgknnhmaa
open Go.RowKit

theorem addrD_lit (g o k : Nat) : (⟨g, o, none⟩ : Addr).add k = ⟨g, o + k, none⟩ := by unfold Addr.add; split <;> simp_all
theorem Blk.rdAtD {w : World} {g : Nat} {t : TypeId} {cs : Array Value} (h : Blk w g t cs) (size off n : Nat) (hn : off + n * size ≤ cs.size) :
    Rd w w.heap.size size (some ⟨g, off, none⟩) n ((cs.toList.drop off).take (n * size)) := by
  refine ⟨by rw [List.length_take, List.length_drop, Array.length_toList]; omega, fun k v hv => ⟨_, rfl, h.lt, ?_⟩⟩
  rw [addrD_lit, h.cell]
  rw [List.getElem?_take] at hv
  split at hv
  · rw [List.getElem?_drop] at hv; simpa using hv
  · cases hv

def decDig (d : Nat) : UInt8 := UInt8.ofNat (48 + d)
theorem decDig_nat (d : Nat) (h : d < 10) : (decDig d).toNat = 48 + d := by unfold decDig; rw [UInt8.toNat_ofNat']; omega
/-- the j lowest digits to the base 10 -/
def ddigs (x : Nat) : Nat → List UInt8
  | 0 => []
  | j + 1 => decDig (x / 10 ^ j % 10) :: ddigs x j
theorem ddigs_length (x : Nat) : ∀ j, (ddigs x j).length = j
  | 0 => rfl
  | j + 1 => by simp [ddigs, ddigs_length x j]
structure DecLen (x J : Nat) : Prop where
  one : 1 ≤ J
  done : x / 10 ^ J = 0
  more : ∀ i, 1 ≤ i → i < J → x / 10 ^ i ≠ 0
theorem DecLen.uniq {x J K : Nat} (h : DecLen x J) (k : DecLen x K) : J = K := by
  rcases Nat.lt_trichotomy J K with h1 | h1 | h1
  · exact absurd h.done (k.more J h.one h1)
  · exact h1
  · exact absurd k.done (h.more K k.one h1)
theorem div10_succ (x j : Nat) : x / 10 ^ (j + 1) = x / 10 ^ j / 10 := by rw [Nat.pow_succ, Nat.div_div_eq_div_mul]
def dlen (x : Nat) : Nat := if h : x < 10 then 1 else dlen (x / 10) + 1
termination_by x
decreasing_by omega
theorem dlen_is (x : Nat) : DecLen x (dlen x) := by
  induction x using Nat.strongRecOn with
  | _ x ih =>
    rw [dlen]
    split
    · exact ⟨Nat.le_refl _, by simp; omega, fun i h1 h2 => by omega⟩
    · rename_i hx
      obtain ⟨h1, h2, h3⟩ := ih (x / 10) (by omega)
      refine ⟨by omega, ?_, fun i g1 g2 => ?_⟩
      · rw [Nat.pow_succ, Nat.mul_comm, ← Nat.div_div_eq_div_mul]; exact h2
      · rcases Nat.lt_or_ge i 2 with g3 | g3
        · obtain rfl : i = 1 := by omega
          simp; omega
        · have := h3 (i - 1) (by omega) (by omega)
          rw [Nat.div_div_eq_div_mul, Nat.mul_comm, ← Nat.pow_succ, show (i - 1).succ = i by omega] at this
          exact this
def decStr (x : Nat) : List UInt8 := ddigs x (dlen x)
theorem decStr_of {x J : Nat} (h : DecLen x J) : ddigs x J = decStr x := by rw [decStr, h.uniq (dlen_is x)]
theorem decLen_le {x J : Nat} (hx : x < 18446744073709551616) (h : DecLen x J) : J ≤ 20 := by
  rcases Nat.lt_or_ge 20 J with h1 | h1
  · exact absurd (Nat.div_eq_of_lt (Nat.lt_of_lt_of_le hx (by decide))) (h.more 20 (by omega) h1)
  · exact h1
/-- a number in decimal -/
def digStr (n : Int) : List UInt8 := if n < 0 then 45 :: decStr (-n).toNat else decStr n.toNat

/-- the loop's law: a number's digits go into an array from its end -/
def DLoop (w : World) (x : Nat) (n i : Value) (wr : World) : Prop :=
  ∃ j q : Nat, j + q = 20 ∧ 1 ≤ q ∧ i = .int .i64 q ∧ (∀ i, 1 ≤ i → i < j + 1 → x / 10 ^ i ≠ 0) ∧ ∃ m : Nat, m = x / 10 ^ j ∧ m < 18446744073709551616 ∧ n = .int .u64 (m : Nat) ∧
    ∃ X : List Value, X.length = q ∧ Blk wr w.heap.size 134 (X ++ bcells (ddigs x j)).toArray ∧ Below w.heap.size w wr

set_option maxRecDepth 100000 in
set_option maxHeartbeats 2000000 in
theorem mDigits_pos (x : Nat) (S : List UInt8) (HS : Hid (S = decStr x)) (h1 : x < 9223372036854775808) (w : World) :
    Calls Try.prog 41 #[.int .i64 (x : Nat)] w fun e w' => e = .returned (.string ⟨S.toArray⟩) ∧ Below w.heap.size w w' := by
  have hx : x < 18446744073709551616 := by omega
  have hcv : IntKind.u64.wrap (x : Int) = (x : Int) := IntWalk.u64_in _ (by omega)
  go_enter Try.func41, Try.ntmps41
  go_wp2
  clear hcv
  go_loopw [5, 4] (fun n i wr => DLoop w x n i wr) (fun n _ _ => (intOf n).toNat)
  case atStart =>
    exact ⟨0, 20, rfl, by omega, rfl, fun i h1 h2 => by omega, x, by simp, hx, rfl, List.replicate 20 (.int .u8 0), rfl, Blk.new _ _ _, (Below.refl _ _).alloc (Nat.le_refl _) _⟩
  case round =>
    obtain ⟨j, q, hjq, hq1, rfl, hmore, m, hm', hm, rfl, X, hX, hb, hB⟩ := hrel
    have Hm := Lib.hid hm'
    have HX := Lib.hid hX
    clear hm' hX
    have hlt : m % 10 < 10 := by omega
    have hcu : IntKind.u8.wrap (48 + (m : Int) % 10) = ((decDig (m % 10)).toNat : Int) := by
      rw [decDig_nat _ hlt, IntWalk.u8_in _ (by omega)]; omega
    have hsz : (X ++ bcells (ddigs x j)).toArray.size = 20 := by simp [HX.out, bcells_length, ddigs_length]; omega
    obtain ⟨v0, hc⟩ : ∃ v0, wr.cell? ⟨w.heap.size, q - 1, none⟩ = some v0 := ⟨_, by rw [hb.cell]; exact Array.getElem?_eq_getElem (by omega)⟩
    have hf : wr.frozen? ⟨w.heap.size, q - 1, none⟩ = false := hb.frozen _
    have hset : ((X ++ bcells (ddigs x j)).toArray.setIfInBounds (q - 1) (.int .u8 (decDig (m % 10)).toNat)) = (X.take (q - 1) ++ bcells (ddigs x (j + 1))).toArray := by
      have e1 : X.length = q := HX.out
      have e2 : m = x / 10 ^ j := Hm.out
      have e3 : X = X.take (q - 1) ++ [X[q - 1]'(by omega)] := by
        have := List.take_succ_eq_append_getElem (l := X) (i := q - 1) (by omega)
        rw [← this]; exact (List.take_of_length_le (by omega)).symm
      have e4 : (X.take (q - 1)).length = q - 1 := by rw [List.length_take]; omega
      conv => lhs; rw [e3]
      apply Array.toList_inj.1
      simp only [List.setIfInBounds_toArray, List.append_assoc, List.set_append, e4]
      simp [bcells, ddigs, ← e2]
    have hb' := hb.set_ (q - 1) (.int .u8 (decDig (m % 10)).toNat)
    rw [hset] at hb'
    have HB' := Lib.hid hb'
    have HF := Lib.hid hjq
    have hq20 : q ≤ 20 := by omega
    clear hset hsz hb' hb hjq
    by_cases hz0 : m / 10 = 0
    · have hz : ((m : Int) / 10 == 0) = true := by simp; omega
      have hlen : DecLen x (j + 1) := ⟨by omega, by rw [div10_succ, ← Hm.out]; exact hz0, hmore⟩
      have hsl : ∀ W, (Instr.sliceAt 134 (.pointer (some ⟨w.heap.size, 0, none⟩)) (some (.int .i64 ((q : Int) - 1))) none none).run Try.prog W = .ok (.slice (some ⟨w.heap.size, q - 1, none⟩) (21 - q) (21 - q)) W := by
        intro W
        have := run_sliceAt_lo (P := Try.prog) W Try.underlying134 (show (Try.prog.info? 5).map (·.size) = some 1 by kernel_rfl) ⟨w.heap.size, 0, none⟩ .i64 (q - 1) (by omega)
        rw [if_neg (by omega), addrD_lit] at this
        have e : ((q - 1 : Nat) : Int) = (q : Int) - 1 := by omega
        rw [e] at this
        rw [this]
        congr 2 <;> first | omega | (congr 2; omega)
      have hrd : ∀ W, W = (wr.setCell ⟨w.heap.size, q - 1, none⟩ (.int .u8 (decDig (m % 10)).toNat)) → Rd W W.heap.size 1 (some ⟨w.heap.size, q - 1, none⟩) (21 - q) (bcells (ddigs x (j + 1))) := by
        rintro W rfl
        have e1 : X.length = q := HX.out
        have e4 : (X.take (q - 1)).length = q - 1 := by rw [List.length_take]; omega
        have e5 := HF.out
        have := HB'.out.rdAtD 1 (q - 1) (21 - q) (by simp [bcells_length, ddigs_length]; omega)
        have e6 : ((X.take (q - 1) ++ bcells (ddigs x (j + 1))).toArray.toList.drop (q - 1)).take ((21 - q) * 1) = bcells (ddigs x (j + 1)) := by
          rw [List.drop_left' e4, List.take_of_length_le (by simp [bcells_length, ddigs_length]; omega)]
        rw [e6] at this; exact this
      rw [decStr_of hlen, ← HS.out] at hrd
      have hll : Hid (S.length ≤ 20) := Lib.hid (by rw [HS.out, ← decStr_of hlen, ddigs_length]; exact decLen_le hx hlen)
      by_cases h16 : q = 1
      · subst h16
        have hsl' : ∀ W, (Instr.sliceAt 134 (.pointer (some ⟨w.heap.size, 0, none⟩)) (some (.int .i64 0)) none none).run Try.prog W = .ok (.slice (some ⟨w.heap.size, 0, none⟩) 20 20) W := hsl
        have hrd' : ∀ W, W = (wr.setCell ⟨w.heap.size, 0, none⟩ (.int .u8 (decDig (m % 10)).toNat)) → Rd W W.heap.size 1 (some ⟨w.heap.size, 0, none⟩) 20 (bcells S) := hrd
        have hc' : wr.cell? ⟨w.heap.size, 0, none⟩ = some v0 := hc
        have hf' : wr.frozen? ⟨w.heap.size, 0, none⟩ = false := hf
        clear hsl hrd hc hf
        go_wp2_with ((with_reducible refine at_conv ?_); refine wpList_str _ Try.underlying27 Try.underlying5 Try.underlying9 rfl _ rfl (some ⟨w.heap.size, 0, none⟩) 20 20 S rfl (hrd' _ rfl) ?_)
        go_ret
        exact ⟨rfl, hB.setCell (Nat.le_refl _) _⟩
      · go_wp2_with ((with_reducible refine at_conv ?_); refine wpList_str _ Try.underlying27 Try.underlying5 Try.underlying9 rfl _ rfl (some ⟨w.heap.size, q - 1, none⟩) (21 - q) (21 - q) S rfl (hrd _ rfl) ?_)
        go_ret
        exact ⟨rfl, hB.setCell (Nat.le_refl _) _⟩
    · have hz : ((m : Int) / 10 == 0) = false := by simp; omega
      have hq2 : 2 ≤ q := by
        rcases Nat.lt_or_ge q 2 with h | h
        · exfalso
          obtain rfl : j = 19 := by have := HF.out; omega
          have := Hm.out
          rw [this, ← div10_succ] at hz0
          exact hz0 (Nat.div_eq_of_lt (Nat.lt_of_lt_of_le hx (by decide)))
        · exact h
      go_wp2
      go_roundw
      case rel =>
        refine ⟨j + 1, q - 1, by have := HF.out; omega, by omega, by go_num, ?_, m / 10, by rw [div10_succ, ← Hm.out], by omega, by go_num, X.take (q - 1), by rw [List.length_take, HX.out]; omega, HB'.out, hB.setCell (Nat.le_refl _) _⟩
        intro i h1 h2
        rcases Nat.lt_or_ge i (j + 1) with h3 | h3
        · exact hmore i h1 h3
        · obtain rfl : i = j + 1 := by omega
          rw [div10_succ, ← Hm.out]; exact hz0
      case measure => simp [intOf]; omega

set_option maxRecDepth 100000 in
set_option maxHeartbeats 2000000 in
theorem mDigits_neg (x : Nat) (S : List UInt8) (HS : Hid (S = decStr x)) (h0 : 0 < x) (h1 : x ≤ 9223372036854775808) (w : World) :
    Calls Try.prog 41 #[.int .i64 (-(x : Nat) : Int)] w fun e w' => e = .returned (.string ⟨(45 :: S).toArray⟩) ∧ Below w.heap.size w w' := by
  have hx : x < 18446744073709551616 := by omega
  have hn : (-(x : Int)) < 0 := by omega
  have hcv : IntKind.u64.wrap (-IntKind.u64.wrap (-(x : Int))) = (x : Int) := by
    simp [IntKind.wrap, IntKind.bits, IntKind.signed]; omega
  obtain ⟨n, hN⟩ : ∃ n : Int, n = -(x : Int) := ⟨_, rfl⟩
  rw [← hN] at hn hcv ⊢
  have HN := Lib.hid hN
  clear hN
  go_enter Try.func41, Try.ntmps41
  go_wp2
  clear hcv
  go_loopw [5, 4] (fun n i wr => DLoop w x n i wr) (fun n _ _ => (intOf n).toNat)
  case atStart =>
    exact ⟨0, 20, rfl, by omega, rfl, fun i h1 h2 => by omega, x, by simp, hx, rfl, List.replicate 20 (.int .u8 0), rfl, Blk.new _ _ _, (Below.refl _ _).alloc (Nat.le_refl _) _⟩
  case round =>
    obtain ⟨j, q, hjq, hq1, rfl, hmore, m, hm', hm, rfl, X, hX, hb, hB⟩ := hrel
    have Hm := Lib.hid hm'
    have HX := Lib.hid hX
    clear hm' hX
    have hlt : m % 10 < 10 := by omega
    have hcu : IntKind.u8.wrap (48 + (m : Int) % 10) = ((decDig (m % 10)).toNat : Int) := by
      rw [decDig_nat _ hlt, IntWalk.u8_in _ (by omega)]; omega
    have hsz : (X ++ bcells (ddigs x j)).toArray.size = 20 := by simp [HX.out, bcells_length, ddigs_length]; omega
    obtain ⟨v0, hc⟩ : ∃ v0, wr.cell? ⟨w.heap.size, q - 1, none⟩ = some v0 := ⟨_, by rw [hb.cell]; exact Array.getElem?_eq_getElem (by omega)⟩
    have hf : wr.frozen? ⟨w.heap.size, q - 1, none⟩ = false := hb.frozen _
    have hset : ((X ++ bcells (ddigs x j)).toArray.setIfInBounds (q - 1) (.int .u8 (decDig (m % 10)).toNat)) = (X.take (q - 1) ++ bcells (ddigs x (j + 1))).toArray := by
      have e1 : X.length = q := HX.out
      have e2 : m = x / 10 ^ j := Hm.out
      have e3 : X = X.take (q - 1) ++ [X[q - 1]'(by omega)] := by
        have := List.take_succ_eq_append_getElem (l := X) (i := q - 1) (by omega)
        rw [← this]; exact (List.take_of_length_le (by omega)).symm
      have e4 : (X.take (q - 1)).length = q - 1 := by rw [List.length_take]; omega
      conv => lhs; rw [e3]
      apply Array.toList_inj.1
      simp only [List.setIfInBounds_toArray, List.append_assoc, List.set_append, e4]
      simp [bcells, ddigs, ← e2]
    have hb' := hb.set_ (q - 1) (.int .u8 (decDig (m % 10)).toNat)
    rw [hset] at hb'
    have HB' := Lib.hid hb'
    have HF := Lib.hid hjq
    have hq20 : q ≤ 20 := by omega
    clear hset hsz hb' hb hjq
    by_cases hz0 : m / 10 = 0
    · have hz : ((m : Int) / 10 == 0) = true := by simp; omega
      have hlen : DecLen x (j + 1) := ⟨by omega, by rw [div10_succ, ← Hm.out]; exact hz0, hmore⟩
      have hsl : ∀ W, (Instr.sliceAt 134 (.pointer (some ⟨w.heap.size, 0, none⟩)) (some (.int .i64 ((q : Int) - 1))) none none).run Try.prog W = .ok (.slice (some ⟨w.heap.size, q - 1, none⟩) (21 - q) (21 - q)) W := by
        intro W
        have := run_sliceAt_lo (P := Try.prog) W Try.underlying134 (show (Try.prog.info? 5).map (·.size) = some 1 by kernel_rfl) ⟨w.heap.size, 0, none⟩ .i64 (q - 1) (by omega)
        rw [if_neg (by omega), addrD_lit] at this
        have e : ((q - 1 : Nat) : Int) = (q : Int) - 1 := by omega
        rw [e] at this
        rw [this]
        congr 2 <;> first | omega | (congr 2; omega)
      have hrd : ∀ W, W = (wr.setCell ⟨w.heap.size, q - 1, none⟩ (.int .u8 (decDig (m % 10)).toNat)) → Rd W W.heap.size 1 (some ⟨w.heap.size, q - 1, none⟩) (21 - q) (bcells (ddigs x (j + 1))) := by
        rintro W rfl
        have e1 : X.length = q := HX.out
        have e4 : (X.take (q - 1)).length = q - 1 := by rw [List.length_take]; omega
        have e5 := HF.out
        have := HB'.out.rdAtD 1 (q - 1) (21 - q) (by simp [bcells_length, ddigs_length]; omega)
        have e6 : ((X.take (q - 1) ++ bcells (ddigs x (j + 1))).toArray.toList.drop (q - 1)).take ((21 - q) * 1) = bcells (ddigs x (j + 1)) := by
          rw [List.drop_left' e4, List.take_of_length_le (by simp [bcells_length, ddigs_length]; omega)]
        rw [e6] at this; exact this
      rw [decStr_of hlen, ← HS.out] at hrd
      have hll : Hid (S.length ≤ 20) := Lib.hid (by rw [HS.out, ← decStr_of hlen, ddigs_length]; exact decLen_le hx hlen)
      by_cases h16 : q = 1
      · subst h16
        have hsl' : ∀ W, (Instr.sliceAt 134 (.pointer (some ⟨w.heap.size, 0, none⟩)) (some (.int .i64 0)) none none).run Try.prog W = .ok (.slice (some ⟨w.heap.size, 0, none⟩) 20 20) W := hsl
        have hrd' : ∀ W, W = (wr.setCell ⟨w.heap.size, 0, none⟩ (.int .u8 (decDig (m % 10)).toNat)) → Rd W W.heap.size 1 (some ⟨w.heap.size, 0, none⟩) 20 (bcells S) := hrd
        have hc' : wr.cell? ⟨w.heap.size, 0, none⟩ = some v0 := hc
        have hf' : wr.frozen? ⟨w.heap.size, 0, none⟩ = false := hf
        clear hsl hrd hc hf
        go_wp2_with ((with_reducible refine at_conv ?_); refine wpList_str _ Try.underlying27 Try.underlying5 Try.underlying9 rfl _ rfl (some ⟨w.heap.size, 0, none⟩) 20 20 S rfl (hrd' _ rfl) ?_)
        · rename_i hh; exact absurd hh (by have := hll.out; omega)
        go_ret
        exact ⟨by rw [ByteArray.mk_append_mk]; rfl, hB.setCell (Nat.le_refl _) _⟩
      · go_wp2_with ((with_reducible refine at_conv ?_); refine wpList_str _ Try.underlying27 Try.underlying5 Try.underlying9 rfl _ rfl (some ⟨w.heap.size, q - 1, none⟩) (21 - q) (21 - q) S rfl (hrd _ rfl) ?_)
        · rename_i hh; exact absurd hh (by have := hll.out; omega)
        go_ret
        exact ⟨by rw [ByteArray.mk_append_mk]; rfl, hB.setCell (Nat.le_refl _) _⟩
    · have hz : ((m : Int) / 10 == 0) = false := by simp; omega
      have hq2 : 2 ≤ q := by
        rcases Nat.lt_or_ge q 2 with h | h
        · exfalso
          obtain rfl : j = 19 := by have := HF.out; omega
          have := Hm.out
          rw [this, ← div10_succ] at hz0
          exact hz0 (Nat.div_eq_of_lt (Nat.lt_of_lt_of_le hx (by decide)))
        · exact h
      go_wp2
      go_roundw
      case rel =>
        refine ⟨j + 1, q - 1, by have := HF.out; omega, by omega, by go_num, ?_, m / 10, by rw [div10_succ, ← Hm.out], by omega, by go_num, X.take (q - 1), by rw [List.length_take, HX.out]; omega, HB'.out, hB.setCell (Nat.le_refl _) _⟩
        intro i h1 h2
        rcases Nat.lt_or_ge i (j + 1) with h3 | h3
        · exact hmore i h1 h3
        · obtain rfl : i = j + 1 := by omega
          rw [div10_succ, ← Hm.out]; exact hz0
      case measure => simp [intOf]; omega

theorem mDigits_any (n : Int) (h0 : -9223372036854775808 ≤ n) (h1 : n < 9223372036854775808) (w : World) :
    Calls Try.prog 41 #[.int .i64 n] w fun e w' => e = .returned (.string ⟨(digStr n).toArray⟩) ∧ Below w.heap.size w w' := by
  unfold digStr
  by_cases hn : n < 0
  · rw [if_pos hn]
    have := mDigits_neg (-n).toNat _ (Lib.hid rfl) (by omega) (by omega) w
    rw [show (-((-n).toNat : Nat) : Int) = n by omega] at this
    exact this
  · rw [if_neg hn]
    have := mDigits_pos n.toNat _ (Lib.hid rfl) (by omega) w
    rw [show ((n.toNat : Nat) : Int) = n by omega] at this
    exact this

theorem decEnc (d : Nat) (h : d < 10) : Utf8.encode ((decDig d).toNat : Int) = ⟨#[decDig d]⟩ := by
  have : ∀ k : Fin 10, Utf8.encode ((decDig k.1).toNat : Int) = ⟨#[decDig k.1]⟩ := by decide +kernel
  exact this ⟨d, h⟩
theorem decD' (d : Nat) (h : d < 10) : (⟨#[48, 49, 50, 51, 52, 53, 54, 55, 56, 57]⟩ : ByteArray)[d]'h = decDig d := by
  have : ∀ k : Fin 10, (⟨#[48, 49, 50, 51, 52, 53, 54, 55, 56, 57]⟩ : ByteArray)[k.1]'k.2 = decDig k.1 := by decide +kernel
  exact this ⟨d, h⟩

attribute [local irreducible] Utf8.encode
set_option maxHeartbeats 400000 in
theorem rDecimal_any (x : Nat) (hx : x < 18446744073709551616) (w : World) :
    Calls Try.prog 68 #[.int .u64 (x : Nat)] w fun e w' => e = .returned (.string ⟨(decStr x).toArray⟩) ∧ w = w' := by
  go_enter Try.func68, Try.ntmps68
  have hlt : x % 10 < 10 := by omega
  have hD : (⟨#[48, 49, 50, 51, 52, 53, 54, 55, 56, 57]⟩ : ByteArray)[x % 10]'hlt = decDig (x % 10) := decD' _ _
  go_wp2
  clear hD
  go_loop [0, 3] (fun n s => ∃ j : Nat, (∀ i, 1 ≤ i → i < j + 1 → x / 10 ^ i ≠ 0) ∧ ∃ m : Nat, Hid (m = x / 10 ^ j) ∧ m < 18446744073709551616 ∧ n = .int .u64 (m : Nat) ∧ ∃ S : List UInt8, S.length ≤ 20 ∧ Hid (S = ddigs x (j + 1)) ∧ s = .string ⟨S.toArray⟩) (fun n _ => (intOf n).toNat)
  case atStart => exact ⟨0, fun i h1 h2 => by omega, x, Lib.hid (by simp), hx, rfl, ddigs x 1, by rw [ddigs_length]; omega, Lib.hid rfl, by rw [decEnc _ hlt]; simp [ddigs]⟩
  case round =>
    obtain ⟨j, hmore, m, Hm, hm, rfl, S, hS, HS, rfl⟩ := hrel
    by_cases h0 : 10 ≤ m
    · have hs1 : (Utf8.encode ((decDig (m / 10 % 10)).toNat : Int)).size ≤ 4 := by rw [decEnc _ (by omega)]; exact Nat.le_trans (Nat.le_refl 1) (by omega)
      have hj : S.length + 1 ≤ 20 := by
        rw [HS.out, ddigs_length]
        rcases Nat.lt_or_ge j 19 with h | h
        · omega
        · exfalso
          have h1 : x / 10 ^ j < 10 := Nat.div_lt_of_lt_mul (Nat.lt_of_lt_of_le hx (by
            have : 10 ^ 19 ≤ 10 ^ j := Nat.pow_le_pow_right (by omega) h
            omega))
          rw [← Hm.out] at h1
          omega
      have hlt' : m / 10 % 10 < 10 := by omega
      have hD : (⟨#[48, 49, 50, 51, 52, 53, 54, 55, 56, 57]⟩ : ByteArray)[m / 10 % 10]'hlt' = decDig (m / 10 % 10) := decD' _ _
      go_wp2
      go_round
      case rel =>
        refine ⟨j + 1, ?_, m / 10, Lib.hid (by rw [div10_succ, ← Hm.out]), by omega, by go_num, ddigs x (j + 2), by rw [ddigs_length]; rw [HS.out, ddigs_length] at hj; omega, Lib.hid rfl, ?_⟩
        · intro i h1 h2
          rcases Nat.lt_or_ge i (j + 1) with h3 | h3
          · exact hmore i h1 h3
          · obtain rfl : i = j + 1 := by omega
            rw [div10_succ, ← Hm.out]; omega
        · have e : ddigs x (j + 2) = decDig (m / 10 % 10) :: S := by
            rw [HS.out, Hm.out, ← div10_succ]; rfl
          rw [e, decEnc _ hlt']
          apply congrArg Value.string
          apply ByteArray.ext
          simp
      case measure => simp [intOf]; omega
    · go_wp2
      go_ret
      refine ⟨?_, rfl⟩
      rw [HS.out, decStr_of (J := j + 1) ⟨by omega, by rw [div10_succ, ← Hm.out]; omega, hmore⟩]
      rfl

set_option maxHeartbeats 400000 in
theorem rDigits_any (n : Int) (h0 : -9223372036854775808 ≤ n) (h1 : n < 9223372036854775808) (w : World) :
    Calls Try.prog 42 #[.int .i64 n] w fun e w' => e = .returned (.string ⟨(digStr n).toArray⟩) ∧ w = w' := by
  obtain ⟨D, hD⟩ : ∃ D, D = digStr n := ⟨_, rfl⟩
  rw [← hD]
  unfold digStr at hD
  by_cases hn : n < 0
  · rw [if_pos hn] at hD
    obtain ⟨x, hx⟩ : ∃ x : Nat, x = (-n).toNat := ⟨_, rfl⟩
    rw [← hx] at hD
    have hcv : IntKind.u64.wrap (-IntKind.u64.wrap n) = (x : Int) := by
      simp [IntKind.wrap, IntKind.bits, IntKind.signed]; omega
    have hxl : x < 18446744073709551616 := by omega
    obtain ⟨S, hS⟩ : ∃ S, S = decStr x := ⟨_, rfl⟩
    have hSl : S.length ≤ 20 := by rw [hS, decStr, ddigs_length]; exact decLen_le hxl (dlen_is x)
    have Hx := Lib.hid hx
    have HD := Lib.hid hD
    have HS := Lib.hid hS
    clear hx hD hS
    go_enter Try.func42, Try.ntmps42
    go_wp2_with fail
    refine (rDecimal_any x hxl _).mono ?_
    rintro e w' ⟨rfl, rfl⟩
    rw [← HS.out]
    go_wp2
    go_ret
    refine ⟨?_, rfl⟩
    rw [HD.out, HS.out]; rw [ByteArray.mk_append_mk]; rfl
  · rw [if_neg hn] at hD
    obtain ⟨x, rfl⟩ : ∃ x : Nat, n = (x : Int) := ⟨n.toNat, by omega⟩
    have hxl : x < 18446744073709551616 := by omega
    have hcv : IntKind.u64.wrap (x : Int) = (x : Int) := IntWalk.u64_in _ (by omega)
    have HD := Lib.hid hD
    clear hD
    go_enter Try.func42, Try.ntmps42
    go_wp2_with fail
    refine (rDecimal_any x hxl _).mono ?_
    rintro e w' ⟨rfl, rfl⟩
    go_wp2
    go_ret
    refine ⟨?_, rfl⟩
    rw [HD.out]; simp
end Go.Proofs.Ytnjfghlgknnhmaa
