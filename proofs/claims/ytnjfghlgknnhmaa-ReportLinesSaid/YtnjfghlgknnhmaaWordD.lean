/-
  Walks: word.Hex, portreeveref01.Hex: both are the digits `digs`.
-/
import Derived.Test.YtnjfghlgknnhmaaWordC
namespace Go.Proofs.Ytnjfghlgknnhmaa
open Go.RowKit

theorem addr_lit (g o k : Nat) : (⟨g, o, none⟩ : Addr).add k = ⟨g, o + k, none⟩ := by unfold Addr.add; split <;> simp_all
theorem Blk.rdAt {w : World} {g : Nat} {t : TypeId} {cs : Array Value} (h : Blk w g t cs) (size off n : Nat) (hn : off + n * size ≤ cs.size) :
    Rd w w.heap.size size (some ⟨g, off, none⟩) n ((cs.toList.drop off).take (n * size)) := by
  refine ⟨by rw [List.length_take, List.length_drop, Array.length_toList]; omega, fun k v hv => ⟨_, rfl, h.lt, ?_⟩⟩
  rw [addr_lit, h.cell]
  rw [List.getElem?_take] at hv
  split at hv
  · rw [List.getElem?_drop] at hv; simpa using hv
  · cases hv

def hexSigns : ByteArray := ⟨#[48, 49, 50, 51, 52, 53, 54, 55, 56, 57, 97, 98, 99, 100, 101, 102]⟩
def hexDig (d : Nat) : UInt8 := hexSigns.data[d]?.getD 0
theorem hexD (d : Nat) (h : d < hexSigns.size) : hexSigns[d]'h = hexDig d := by
  have h' : d < hexSigns.data.size := h
  unfold hexDig
  rw [Array.getElem?_eq_getElem h']; rfl
theorem hexD' (d : Nat) (h : d < 16) : (⟨#[48, 49, 50, 51, 52, 53, 54, 55, 56, 57, 97, 98, 99, 100, 101, 102]⟩ : ByteArray)[d]'h = hexDig d := hexD d h

/-- the j lowest digits to the base 16 -/
def digs (x : Nat) : Nat → List UInt8
  | 0 => []
  | j + 1 => hexDig (x / 16 ^ j % 16) :: digs x j
theorem digs_length (x : Nat) : ∀ j, (digs x j).length = j
  | 0 => rfl
  | j + 1 => by simp [digs, digs_length x j]
/-- so many digits has a number -/
structure HexLen (x J : Nat) : Prop where
  one : 1 ≤ J
  done : x / 16 ^ J = 0
  more : ∀ i, 1 ≤ i → i < J → x / 16 ^ i ≠ 0
theorem HexLen.uniq {x J K : Nat} (h : HexLen x J) (k : HexLen x K) : J = K := by
  rcases Nat.lt_trichotomy J K with h1 | h1 | h1
  · exact absurd h.done (k.more J h.one h1)
  · exact h1
  · exact absurd k.done (h.more K k.one h1)
theorem div_pow_succ (x j : Nat) : x / 16 ^ (j + 1) = x / 16 ^ j / 16 := by rw [Nat.pow_succ, Nat.div_div_eq_div_mul]

set_option maxRecDepth 100000 in
set_option maxHeartbeats 400000 in
theorem hex_any (x : Nat) (hx : x < 18446744073709551616) (w : World) :
    Calls Try.prog 82 #[.int .u64 (x : Nat)] w fun e w' => (∃ J, HexLen x J ∧ e = .returned (.string ⟨(digs x J).toArray⟩)) ∧ Below w.heap.size w w' := by
  go_enter Try.func82, Try.ntmps82
  go_wp2
  go_loopw [0, 4] (fun n i wr => ∃ j q : Nat, j + q = 16 ∧ 1 ≤ q ∧ i = .int .i64 q ∧ (∀ i, 1 ≤ i → i < j + 1 → x / 16 ^ i ≠ 0) ∧ ∃ m : Nat, Hid (m = x / 16 ^ j) ∧ m < 18446744073709551616 ∧ n = .int .u64 (m : Nat) ∧
    ∃ X : List Value, Hid (X.length = q) ∧ Blk wr w.heap.size 147 (X ++ bcells (digs x j)).toArray ∧ Below w.heap.size w wr) (fun n _ _ => (intOf n).toNat)
  case atStart =>
    exact ⟨0, 16, rfl, by omega, rfl, fun i h1 h2 => by omega, x, Lib.hid (by simp), hx, rfl, List.replicate 16 (.int .u8 0), Lib.hid rfl, Blk.new _ _ _, (Below.refl _ _).alloc (Nat.le_refl _) _⟩
  case round =>
    obtain ⟨j, q, hjq, hq1, rfl, hmore, m, Hm, hm, rfl, X, HX, hb, hB⟩ := hrel
    have hand : bits BinOp.and IntKind.u64 (m : Int) 15 = ((m % 16 : Nat) : Int) := by
      have := u64_and_nat m 15 (by omega) (by omega)
      rw [nat_mask4] at this; exact this
    have hlt : m % 16 < 16 := by omega
    have hD : (⟨#[48, 49, 50, 51, 52, 53, 54, 55, 56, 57, 97, 98, 99, 100, 101, 102]⟩ : ByteArray)[m % 16]'hlt = hexDig (m % 16) := hexD' _ _
    have hsz : (X ++ bcells (digs x j)).toArray.size = 16 := by simp [HX.out, bcells_length, digs_length]; omega
    obtain ⟨v0, hc⟩ : ∃ v0, wr.cell? ⟨w.heap.size, q - 1, none⟩ = some v0 := ⟨_, by rw [hb.cell]; exact Array.getElem?_eq_getElem (by omega)⟩
    have hf : wr.frozen? ⟨w.heap.size, q - 1, none⟩ = false := hb.frozen _
    have hset : ((X ++ bcells (digs x j)).toArray.setIfInBounds (q - 1) (.int .u8 (hexDig (m % 16)).toNat)) = (X.take (q - 1) ++ bcells (digs x (j + 1))).toArray := by
      have e1 : X.length = q := HX.out
      have e2 : m = x / 16 ^ j := Hm.out
      have e3 : X = X.take (q - 1) ++ [X[q - 1]'(by omega)] := by
        have := List.take_succ_eq_append_getElem (l := X) (i := q - 1) (by omega)
        rw [← this]; exact (List.take_of_length_le (by omega)).symm
      have e4 : (X.take (q - 1)).length = q - 1 := by rw [List.length_take]; omega
      conv => lhs; rw [e3]
      apply Array.toList_inj.1
      simp only [List.setIfInBounds_toArray, List.append_assoc, List.set_append, e4]
      simp [bcells, digs, ← e2]
    have hb' := hb.set_ (q - 1) (.int .u8 (hexDig (m % 16)).toNat)
    rw [hset] at hb'
    have HB' := Lib.hid hb'
    have HF := Lib.hid hjq
    have hq16 : q ≤ 16 := by omega
    clear hset hsz hb' hb hjq
    by_cases h0 : m / 16 = 0
    · have hz : ((m : Int) / 16 == 0) = true := by simp; omega
      have hlen : HexLen x (j + 1) := ⟨by omega, by rw [div_pow_succ, ← Hm.out]; exact h0, hmore⟩
      have hsl : ∀ W, (Instr.sliceAt 147 (.pointer (some ⟨w.heap.size, 0, none⟩)) (some (.int .i64 ((q : Int) - 1))) none none).run Try.prog W = .ok (.slice (some ⟨w.heap.size, q - 1, none⟩) (17 - q) (17 - q)) W := by
        intro W
        have := run_sliceAt_lo (P := Try.prog) W Try.underlying147 (show (Try.prog.info? 5).map (·.size) = some 1 by kernel_rfl) ⟨w.heap.size, 0, none⟩ .i64 (q - 1) (by omega)
        rw [if_neg (by omega), addr_lit] at this
        have e : ((q - 1 : Nat) : Int) = (q : Int) - 1 := by omega
        rw [e] at this
        rw [this]
        congr 2 <;> first | omega | (congr 2; omega)
      have hrd : ∀ W, W = (wr.setCell ⟨w.heap.size, q - 1, none⟩ (.int .u8 (hexDig (m % 16)).toNat)) → Rd W W.heap.size 1 (some ⟨w.heap.size, q - 1, none⟩) (17 - q) (bcells (digs x (j + 1))) := by
        rintro W rfl
        have e1 : X.length = q := HX.out
        have e4 : (X.take (q - 1)).length = q - 1 := by rw [List.length_take]; omega
        have e5 := HF.out
        have := HB'.out.rdAt 1 (q - 1) (17 - q) (by simp [bcells_length, digs_length]; omega)
        have e6 : ((X.take (q - 1) ++ bcells (digs x (j + 1))).toArray.toList.drop (q - 1)).take ((17 - q) * 1) = bcells (digs x (j + 1)) := by
          rw [List.drop_left' e4, List.take_of_length_le (by simp [bcells_length, digs_length]; omega)]
        rw [e6] at this; exact this
      by_cases h16 : q = 1
      · subst h16
        have hsl' : ∀ W, (Instr.sliceAt 147 (.pointer (some ⟨w.heap.size, 0, none⟩)) (some (.int .i64 0)) none none).run Try.prog W = .ok (.slice (some ⟨w.heap.size, 0, none⟩) 16 16) W := hsl
        have hrd' : ∀ W, W = (wr.setCell ⟨w.heap.size, 0, none⟩ (.int .u8 (hexDig (m % 16)).toNat)) → Rd W W.heap.size 1 (some ⟨w.heap.size, 0, none⟩) 16 (bcells (digs x (j + 1))) := hrd
        have hc' : wr.cell? ⟨w.heap.size, 0, none⟩ = some v0 := hc
        have hf' : wr.frozen? ⟨w.heap.size, 0, none⟩ = false := hf
        clear hsl hrd hc hf
        go_wp2_with ((with_reducible refine at_conv ?_); refine wpList_str _ Try.underlying27 Try.underlying5 Try.underlying9 rfl _ rfl (some ⟨w.heap.size, 0, none⟩) 16 16 (digs x (j + 1)) rfl (hrd' _ rfl) ?_)
        go_ret
        exact ⟨⟨j + 1, hlen, rfl⟩, hB.setCell (Nat.le_refl _) _⟩
      · go_wp2_with ((with_reducible refine at_conv ?_); refine wpList_str _ Try.underlying27 Try.underlying5 Try.underlying9 rfl _ rfl (some ⟨w.heap.size, q - 1, none⟩) (17 - q) (17 - q) (digs x (j + 1)) rfl (hrd _ rfl) ?_)
        go_ret
        exact ⟨⟨j + 1, hlen, rfl⟩, hB.setCell (Nat.le_refl _) _⟩
    · have hz : ((m : Int) / 16 == 0) = false := by simp; omega
      have hq2 : 2 ≤ q := by
        rcases Nat.lt_or_ge q 2 with h | h
        · exfalso
          obtain rfl : j = 15 := by have := HF.out; omega
          have := Hm.out
          rw [this, ← div_pow_succ] at h0
          exact h0 (Nat.div_eq_of_lt hx)
        · exact h
      go_wp2
      go_roundw
      case rel =>
        refine ⟨j + 1, q - 1, by have := HF.out; omega, by omega, by go_num, ?_, m / 16, Lib.hid (by rw [div_pow_succ, ← Hm.out]), by omega, by go_num, X.take (q - 1), Lib.hid (by rw [List.length_take, HX.out]; omega), HB'.out, hB.setCell (Nat.le_refl _) _⟩
        intro i h1 h2
        rcases Nat.lt_or_ge i (j + 1) with h3 | h3
        · exact hmore i h1 h3
        · obtain rfl : i = j + 1 := by omega
          rw [div_pow_succ, ← Hm.out]; exact h0
      case measure => simp [intOf]; omega

theorem hexEnc (d : Nat) (h : d < 16) : Utf8.encode ((hexDig d).toNat : Int) = ⟨#[hexDig d]⟩ := by
  have : ∀ k : Fin 16, Utf8.encode ((hexDig k.1).toNat : Int) = ⟨#[hexDig k.1]⟩ := by decide +kernel
  exact this ⟨d, h⟩

attribute [local irreducible] Utf8.encode
set_option maxRecDepth 100000 in
set_option maxHeartbeats 400000 in
theorem rhex_any (x : Nat) (hx : x < 18446744073709551616) (w : World) :
    Calls Try.prog 80 #[.int .u64 (x : Nat)] w fun e w' => (∃ J, HexLen x J ∧ e = .returned (.string ⟨(digs x J).toArray⟩)) ∧ w = w' := by
  go_enter Try.func80, Try.ntmps80
  have hlt : x % 16 < 16 := by omega
  have hD : (⟨#[48, 49, 50, 51, 52, 53, 54, 55, 56, 57, 97, 98, 99, 100, 101, 102]⟩ : ByteArray)[x % 16]'hlt = hexDig (x % 16) := hexD' _ _
  go_wp2
  clear hD
  go_loop [0, 3] (fun n s => ∃ j : Nat, (∀ i, 1 ≤ i → i < j + 1 → x / 16 ^ i ≠ 0) ∧ ∃ m : Nat, Hid (m = x / 16 ^ j) ∧ m < 18446744073709551616 ∧ n = .int .u64 (m : Nat) ∧ ∃ S : List UInt8, S.length ≤ 16 ∧ Hid (S = digs x (j + 1)) ∧ s = .string ⟨S.toArray⟩) (fun n _ => (intOf n).toNat)
  case atStart => exact ⟨0, fun i h1 h2 => by omega, x, Lib.hid (by simp), hx, rfl, digs x 1, by rw [digs_length]; omega, Lib.hid rfl, by rw [hexEnc _ hlt]; simp [digs]⟩
  case round =>
    obtain ⟨j, hmore, m, Hm, hm, rfl, S, hS, HS, rfl⟩ := hrel
    by_cases h0 : 16 ≤ m
    · have hs1 : (Utf8.encode ((hexDig (m / 16 % 16)).toNat : Int)).size ≤ 4 := by rw [hexEnc _ (by omega)]; exact Nat.le_trans (Nat.le_refl 1) (by omega)
      have hj : S.length + 1 ≤ 16 := by
        rw [HS.out, digs_length]
        rcases Nat.lt_or_ge j 15 with h | h
        · omega
        · exfalso
          have h1 : x / 16 ^ j < 16 := Nat.div_lt_of_lt_mul (Nat.lt_of_lt_of_le hx (by
            have : 16 ^ 15 ≤ 16 ^ j := Nat.pow_le_pow_right (by omega) h
            omega))
          rw [← Hm.out] at h1
          omega
      have hlt' : m / 16 % 16 < 16 := by omega
      have hD : (⟨#[48, 49, 50, 51, 52, 53, 54, 55, 56, 57, 97, 98, 99, 100, 101, 102]⟩ : ByteArray)[m / 16 % 16]'hlt' = hexDig (m / 16 % 16) := hexD' _ _
      go_wp2
      go_round
      case rel =>
        refine ⟨j + 1, ?_, m / 16, Lib.hid (by rw [div_pow_succ, ← Hm.out]), by omega, by go_num, digs x (j + 2), by rw [digs_length]; rw [HS.out, digs_length] at hj; omega, Lib.hid rfl, ?_⟩
        · intro i h1 h2
          rcases Nat.lt_or_ge i (j + 1) with h3 | h3
          · exact hmore i h1 h3
          · obtain rfl : i = j + 1 := by omega
            rw [div_pow_succ, ← Hm.out]; omega
        · have e : digs x (j + 2) = hexDig (m / 16 % 16) :: S := by
            rw [HS.out, Hm.out, ← div_pow_succ]; rfl
          rw [e, hexEnc _ hlt']
          apply congrArg Value.string
          apply ByteArray.ext
          simp
      case measure => simp [intOf]; omega
    · go_wp2
      go_ret
      exact ⟨⟨j + 1, ⟨by omega, by rw [div_pow_succ, ← Hm.out]; omega, hmore⟩, by rw [HS.out]; rfl⟩, rfl⟩
end Go.Proofs.Ytnjfghlgknnhmaa
