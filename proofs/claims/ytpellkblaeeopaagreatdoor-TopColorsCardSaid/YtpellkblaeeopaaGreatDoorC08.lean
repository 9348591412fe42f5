/-
  Parts: SrtK Num WordA WordB.
-/
import Derived.Test.YtpellkblaeeopaaGreatDoorC07
import Derived.Laws.BitsAllLaws
import Derived.IntWalk
import Derived.Test.YtpellkblaeeopaaGreatDoorC00
/-
  Walks: slices.Sort at uint64; slices.ContainsFunc at bytes that are not 0.
-/
namespace Go.Proofs.YtpellkblaeeopaaGreatDoor
open Go.RowKit

end Go.Proofs.YtpellkblaeeopaaGreatDoor
/-
  Plain numbers and bytes: no program in sight.
-/
namespace Go.Proofs.YtpellkblaeeopaaGreatDoor

/-- k digits to the base 256, the first ahead -/
def numOf (f : Nat → Nat) : Nat → Nat
  | 0 => 0
  | k + 1 => numOf f k * 256 + f k
theorem numOf_lt (f : Nat → Nat) (hf : ∀ k, f k < 256) : ∀ k, numOf f k < 256 ^ k
  | 0 => by simp [numOf]
  | k + 1 => by
    have := numOf_lt f hf k
    have h2 := hf k
    simp only [numOf, Nat.pow_succ]; omega
theorem numOf_congr {f g : Nat → Nat} : ∀ {k : Nat}, (∀ j, j < k → f j = g j) → numOf f k = numOf g k
  | 0, _ => rfl
  | k + 1, h => by simp only [numOf]; rw [numOf_congr (k := k) (fun j hj => h j (by omega)), h k (by omega)]
theorem numOf_le {f : Nat → Nat} (hf : ∀ k, f k < 256) {k m : Nat} (h : k ≤ m) : numOf f k < 256 ^ m :=
  Nat.lt_of_lt_of_le (numOf_lt f hf k) (Nat.pow_le_pow_right (by omega) h)

/-- which byte comes k-th where a number of n bytes is read at a place -/
def byteAt (l : List UInt8) (p n : Nat) (low : Bool) (k : Nat) : Nat := (l[if low then p + n - 1 - k else p + k]?.getD 0).toNat
theorem byteAt_lt (l : List UInt8) (p n : Nat) (low : Bool) (k : Nat) : byteAt l p n low k < 256 := UInt8.toNat_lt _
theorem byteAt_low (l : List UInt8) (p n k : Nat) : byteAt l p n true k = (l[p + n - 1 - k]?.getD 0).toNat := rfl
def readNum (l : List UInt8) (p n : Nat) (low : Bool) : Nat := numOf (byteAt l p n low) n

/-- the number of n bytes that stands at a place of any bytes, or 0 and false -/
def rdNum (l : List UInt8) (p : Int) (n : Nat) (low : Bool) : Nat := if 0 ≤ p ∧ p + n ≤ l.length then readNum l p.toNat n low else 0
def rdOk (l : List UInt8) (p : Int) (n : Nat) : Bool := decide (0 ≤ p ∧ p + n ≤ l.length)
theorem u64_shl_or (y c : Nat) (hy : y < 256 ^ 7) (hc : c < 256) : bits .or .u64 (IntKind.u64.wrap ((y : Int) * 256)) (IntKind.u64.wrap (c : Int)) = ((y * 256 + c : Nat) : Int) := by
  have h1 : IntKind.u64.wrap ((y : Int) * 256) = ((y * 256 : Nat) : Int) := by rw [IntWalk.u64_in _ (by omega)]; omega
  have h2 : IntKind.u64.wrap (c : Int) = (c : Int) := IntWalk.u64_in _ (by omega)
  rw [h1, h2, u64_or_nat _ _ (by omega) (by omega), nat_join 8 _ _ (by omega) (by omega)]
theorem u32_shl_or (y c : Nat) (hy : y < 256 ^ 3) (hc : c < 256) : bits .or .u32 (IntKind.u32.wrap ((y : Int) * 256)) (IntKind.u32.wrap (c : Int)) = ((y * 256 + c : Nat) : Int) := by
  have h1 : IntKind.u32.wrap ((y : Int) * 256) = ((y * 256 : Nat) : Int) := by rw [IntWalk.u32_in _ (by omega)]; omega
  have h2 : IntKind.u32.wrap (c : Int) = (c : Int) := IntWalk.u32_in _ (by omega)
  rw [h1, h2, u32_or_nat _ _ (by omega) (by omega), nat_join 8 _ _ (by omega) (by omega)]
theorem u64_round (l : List UInt8) (p n k : Nat) (low : Bool) (hk : k < 8) (hn : n = 8) :
    bits .or .u64 (IntKind.u64.wrap ((numOf (byteAt l p n low) k : Nat) * 256)) (IntKind.u64.wrap (byteAt l p n low k : Nat)) = ((numOf (byteAt l p n low) (k + 1) : Nat) : Int) := by
  subst hn
  exact u64_shl_or _ _ (numOf_le (byteAt_lt _ _ _ _) (by omega)) (byteAt_lt _ _ _ _ _)
theorem u32_round (l : List UInt8) (p n k : Nat) (low : Bool) (hk : k < 4) (hn : n = 4) :
    bits .or .u32 (IntKind.u32.wrap ((numOf (byteAt l p n low) k : Nat) * 256)) (IntKind.u32.wrap (byteAt l p n low k : Nat)) = ((numOf (byteAt l p n low) (k + 1) : Nat) : Int) := by
  subst hn
  exact u32_shl_or _ _ (numOf_le (byteAt_lt _ _ _ _) (by omega)) (byteAt_lt _ _ _ _ _)

/-- n bytes of a number -/
def putByte (x n : Nat) (low : Bool) (i : Nat) : UInt8 := UInt8.ofNat (x / 256 ^ (if low then i else n - 1 - i))
def putNum (x n : Nat) (low : Bool) : List UInt8 := (List.range n).map (putByte x n low)
theorem putNum_length (x n : Nat) (low : Bool) : (putNum x n low).length = n := by simp [putNum]
def putAll (l : List Nat) (n : Nat) (low : Bool) : List UInt8 := l.flatMap fun x => putNum x n low
theorem putAll_length (n : Nat) (low : Bool) : ∀ (l : List Nat), (putAll l n low).length = n * l.length
  | [] => by simp [putAll]
  | x :: l => by have := putAll_length n low l; simp only [putAll, List.flatMap_cons, List.length_append, putNum_length, List.length_cons] at *; rw [this, Nat.mul_add]; omega
theorem byteOf (x e : Nat) : ((x : Int) / 2 ^ (8 * e) % 256) = ((UInt8.ofNat (x / 256 ^ e)).toNat : Int) := by
  rw [UInt8.toNat_ofNat', show (256 : Nat) = 2 ^ 8 from rfl, ← Nat.pow_mul]
  rw [Int.natCast_emod, Int.natCast_ediv, Int.natCast_pow]
  rfl
theorem putNum_snoc (x n : Nat) (low : Bool) (j : Nat) (hj : j < n) : (putNum x n low).take (j + 1) = (putNum x n low).take j ++ [putByte x n low j] := by
  rw [List.take_succ_eq_append_getElem (by rw [putNum_length]; exact hj)]; simp [putNum]
theorem putNum_all (x n : Nat) (low : Bool) : (putNum x n low).take n = putNum x n low := List.take_of_length_le (by rw [putNum_length]; exact Nat.le_refl _)
theorem putAll_snoc (l : List Nat) (n : Nat) (low : Bool) (k : Nat) (hk : k < l.length) : putAll (l.take (k + 1)) n low = putAll (l.take k) n low ++ putNum (l[k]?.getD 0) n low := by
  rw [List.take_succ_eq_append_getElem hk, List.getElem?_eq_getElem hk]
  simp only [putAll, List.flatMap_append, List.flatMap_cons, List.flatMap_nil, List.append_nil, Option.getD_some]
end Go.Proofs.YtpellkblaeeopaaGreatDoor
/-
  Walks: the numbers that are read (word.size, read, Be32 .. Le64; portreeveref01.Number).
-/
namespace Go.Proofs.YtpellkblaeeopaaGreatDoor
open Go.RowKit

theorem size64_any (w : World) : Calls Tryz.prog 116 #[] w fun e w' => e = .returned (.int .i64 8) ∧ w = w' := by
  go_enter Tryz.func116, Tryz.ntmps116
  go_wp2
  go_ret
  exact ⟨rfl, rfl⟩
theorem size32_any (w : World) : Calls Tryz.prog 119 #[] w fun e w' => e = .returned (.int .i64 4) ∧ w = w' := by
  go_enter Tryz.func119, Tryz.ntmps119
  go_wp2
  go_ret
  exact ⟨rfl, rfl⟩

section
variable (A : Option Addr) (n c : Nat) (p : Int) (low : Bool) (l : List UInt8) (w : World)

set_option maxRecDepth 100000 in
set_option maxHeartbeats 400000 in
theorem read64_in (p : Nat) (h : Rd w w.heap.size 1 A n (bcells l)) (hn : n ≤ 1000000) (hat : p + 8 ≤ n) :
    Calls Tryz.prog 97 #[.slice A n c, .int .i64 p, .bool low] w fun e w' => e = .returned (.tuple #[.int .u64 (readNum l p 8 low : Nat), .bool true]) ∧ w = w' := by
  obtain ⟨LOW, hLOW⟩ : ∃ q : Bool, q = low := ⟨_, rfl⟩
  have HLOW := Lib.hid hLOW; clear hLOW
  cases low
  all_goals
    go_enter Tryz.func97, Tryz.ntmps97
    go_wp2_with (go_at_call 116; refine (size64_any _).mono ?_; rintro e w' ⟨rfl, rfl⟩)
    go_loop [9, 30] (fun x i => ∃ k : Nat, k ≤ 8 ∧ i = .int .i64 k ∧ x = .int .u64 (numOf (byteAt l p 8 LOW) k : Nat)) (fun _ i => 8 - (intOf i).toNat)
    case atStart => exact ⟨0, Nat.zero_le _, rfl, rfl⟩
    case round =>
      obtain ⟨k, hk, rfl, rfl⟩ := hrel
      by_cases hlt : k < 8
      · have hlen : n = l.length := by have := h.len; rw [bcells_length] at this; omega
        obtain ⟨a, rfl, hab, hcs⟩ := h.cells (by omega)
        have c1 := hcs (p + k) _ (bcells_get l _ (by omega))
        have c2 := hcs (p + 7 - k) _ (bcells_get l _ (by omega))
        have HL := Lib.hid hlen; clear hlen hcs h
        go_wp2
        go_round
        case rel => exact ⟨k + 1, by omega, by go_num, by rw [HLOW.out]; exact congrArg _ (u64_round l p 8 k _ hlt rfl)⟩
        case measure => simp [intOf]; omega
      · obtain rfl : k = 8 := by omega
        go_wp2
        go_ret2
        exact ⟨by rw [HLOW.out]; rfl, rfl⟩

set_option maxRecDepth 100000 in
set_option maxHeartbeats 400000 in
theorem read32_in (p : Nat) (h : Rd w w.heap.size 1 A n (bcells l)) (hn : n ≤ 1000000) (hat : p + 4 ≤ n) :
    Calls Tryz.prog 138 #[.slice A n c, .int .i64 p, .bool low] w fun e w' => e = .returned (.tuple #[.int .u32 (readNum l p 4 low : Nat), .bool true]) ∧ w = w' := by
  obtain ⟨LOW, hLOW⟩ : ∃ q : Bool, q = low := ⟨_, rfl⟩
  have HLOW := Lib.hid hLOW; clear hLOW
  cases low
  all_goals
    go_enter Tryz.func138, Tryz.ntmps138
    go_wp2_with (go_at_call 119; refine (size32_any _).mono ?_; rintro e w' ⟨rfl, rfl⟩)
    go_loop [9, 30] (fun x i => ∃ k : Nat, k ≤ 4 ∧ i = .int .i64 k ∧ x = .int .u32 (numOf (byteAt l p 4 LOW) k : Nat)) (fun _ i => 4 - (intOf i).toNat)
    case atStart => exact ⟨0, Nat.zero_le _, rfl, rfl⟩
    case round =>
      obtain ⟨k, hk, rfl, rfl⟩ := hrel
      by_cases hlt : k < 4
      · have hlen : n = l.length := by have := h.len; rw [bcells_length] at this; omega
        obtain ⟨a, rfl, hab, hcs⟩ := h.cells (by omega)
        have c1 := hcs (p + k) _ (bcells_get l _ (by omega))
        have c2 := hcs (p + 3 - k) _ (bcells_get l _ (by omega))
        have HL := Lib.hid hlen; clear hlen hcs h
        go_wp2
        go_round
        case rel => exact ⟨k + 1, by omega, by go_num, by rw [HLOW.out]; exact congrArg _ (u32_round l p 4 k _ hlt rfl)⟩
        case measure => simp [intOf]; omega
      · obtain rfl : k = 4 := by omega
        go_wp2
        go_ret2
        exact ⟨by rw [HLOW.out]; rfl, rfl⟩
set_option maxRecDepth 100000 in
set_option maxHeartbeats 400000 in
theorem read64_any (h : Rd w w.heap.size 1 A n (bcells l)) (hn : n ≤ 1000000) :
    Calls Tryz.prog 97 #[.slice A n c, .int .i64 p, .bool low] w fun e w' => e = .returned (.tuple #[.int .u64 (rdNum l p 8 low : Nat), .bool (rdOk l p 8)]) ∧ w = w' := by
  have hlen : n = l.length := by have := h.len; rw [bcells_length] at this; omega
  by_cases hin : 0 ≤ p ∧ p + 8 ≤ n
  · obtain ⟨q, rfl⟩ := Int.eq_ofNat_of_zero_le hin.1
    refine (read64_in A n c low l w q h hn (by omega)).mono fun e w' ⟨he, hw⟩ => ⟨?_, hw⟩
    rw [he, rdNum, rdOk, if_pos ⟨by omega, by omega⟩, decide_eq_true (by omega)]; rfl
  · have h1 : rdNum l p 8 low = 0 := by rw [rdNum, if_neg (by omega)]
    have h2 : rdOk l p 8 = false := by rw [rdOk, decide_eq_false (by omega)]
    rw [h1, h2]
    clear h1 h2 h
    have HL := Lib.hid hlen; clear hlen
    by_cases h0 : p < 0
    · have hd : decide (p < 0) = true := by simpa using h0
      go_enter Tryz.func97, Tryz.ntmps97
      go_wp2_with (go_at_call 116; refine (size64_any _).mono ?_; rintro e w' ⟨rfl, rfl⟩)
      go_ret2
      exact ⟨rfl, rfl⟩
    · have hd : decide (p < 0) = false := by simpa using h0
      by_cases h8 : n < 8
      · go_enter Tryz.func97, Tryz.ntmps97
        go_wp2_with (go_at_call 116; refine (size64_any _).mono ?_; rintro e w' ⟨rfl, rfl⟩)
        go_ret2
        exact ⟨rfl, rfl⟩
      · have h9 : (n : Int) - 8 < p := by omega
        go_enter Tryz.func97, Tryz.ntmps97
        go_wp2_with (go_at_call 116; refine (size64_any _).mono ?_; rintro e w' ⟨rfl, rfl⟩)
        go_ret2
        exact ⟨rfl, rfl⟩

set_option maxRecDepth 100000 in
set_option maxHeartbeats 400000 in
theorem read32_any (h : Rd w w.heap.size 1 A n (bcells l)) (hn : n ≤ 1000000) :
    Calls Tryz.prog 138 #[.slice A n c, .int .i64 p, .bool low] w fun e w' => e = .returned (.tuple #[.int .u32 (rdNum l p 4 low : Nat), .bool (rdOk l p 4)]) ∧ w = w' := by
  have hlen : n = l.length := by have := h.len; rw [bcells_length] at this; omega
  by_cases hin : 0 ≤ p ∧ p + 4 ≤ n
  · obtain ⟨q, rfl⟩ := Int.eq_ofNat_of_zero_le hin.1
    refine (read32_in A n c low l w q h hn (by omega)).mono fun e w' ⟨he, hw⟩ => ⟨?_, hw⟩
    rw [he, rdNum, rdOk, if_pos ⟨by omega, by omega⟩, decide_eq_true (by omega)]; rfl
  · have h1 : rdNum l p 4 low = 0 := by rw [rdNum, if_neg (by omega)]
    have h2 : rdOk l p 4 = false := by rw [rdOk, decide_eq_false (by omega)]
    rw [h1, h2]
    clear h1 h2 h
    have HL := Lib.hid hlen; clear hlen
    by_cases h0 : p < 0
    · have hd : decide (p < 0) = true := by simpa using h0
      go_enter Tryz.func138, Tryz.ntmps138
      go_wp2_with (go_at_call 119; refine (size32_any _).mono ?_; rintro e w' ⟨rfl, rfl⟩)
      go_ret2
      exact ⟨rfl, rfl⟩
    · have hd : decide (p < 0) = false := by simpa using h0
      by_cases h8 : n < 4
      · go_enter Tryz.func138, Tryz.ntmps138
        go_wp2_with (go_at_call 119; refine (size32_any _).mono ?_; rintro e w' ⟨rfl, rfl⟩)
        go_ret2
        exact ⟨rfl, rfl⟩
      · have h9 : (n : Int) - 4 < p := by omega
        go_enter Tryz.func138, Tryz.ntmps138
        go_wp2_with (go_at_call 119; refine (size32_any _).mono ?_; rintro e w' ⟨rfl, rfl⟩)
        go_ret2
        exact ⟨rfl, rfl⟩

theorem be32_any (h : Rd w w.heap.size 1 A n (bcells l)) (hn : n ≤ 1000000) :
    Calls Tryz.prog 130 #[.slice A n c, .int .i64 p] w fun e w' => e = .returned (.tuple #[.int .u32 (rdNum l p 4 false : Nat), .bool (rdOk l p 4)]) ∧ w = w' := by
  go_enter Tryz.func130, Tryz.ntmps130
  go_wp2_with (go_at_call 138; refine (read32_any A n c p false l w h hn).mono ?_; rintro e w' ⟨rfl, rfl⟩)
  go_ret2
  exact ⟨rfl, rfl⟩

theorem le64_any (h : Rd w w.heap.size 1 A n (bcells l)) (hn : n ≤ 1000000) :
    Calls Tryz.prog 66 #[.slice A n c, .int .i64 p] w fun e w' => e = .returned (.tuple #[.int .u64 (rdNum l p 8 true : Nat), .bool (rdOk l p 8)]) ∧ w = w' := by
  go_enter Tryz.func66, Tryz.ntmps66
  go_wp2_with (go_at_call 97; refine (read64_any A n c p true l w h hn).mono ?_; rintro e w' ⟨rfl, rfl⟩)
  go_ret2
  exact ⟨rfl, rfl⟩
end
end Go.Proofs.YtpellkblaeeopaaGreatDoor
/-
  Walks: the numbers that are put (word.put, PutBe32 .. PutLe64; portreeveref01.Put).
-/
namespace Go.Proofs.YtpellkblaeeopaaGreatDoor
open Go.RowKit

theorem el8 : Elem Tryz.prog 73 5 (.int .u8 0) 1 1 := Elem.of (by kernel_rfl) (by kernel_rfl) rfl (by omega)
section
variable (A : Option Addr) (n c : Nat) (l : List UInt8) (w : World)

set_option maxRecDepth 100000 in
set_option maxHeartbeats 1000000 in
theorem put64_any (A2 : Option Addr) (m c2 : Nat) (xs : List Nat) (low : Bool) (h : Rd w w.heap.size 1 A n (bcells l)) (hn : n ≤ 1000000)
    (h2 : Rd w w.heap.size 1 A2 m (xs.map fun (x : Nat) => Value.int .u64 (x : Int))) (hm : m ≤ 1000000) :
    Calls Tryz.prog 118 #[.slice A n c, .bool low, .slice A2 m c2] w fun e w' =>
      ∃ A' c', e = .returned (.slice A' (n + 8 * m) c') ∧ w'.ownsRow w.heap.size 5 1 (.slice A' (n + 8 * m) c') (n + 8 * m) (bcells (l ++ putAll xs 8 low)) ∧ Below w.heap.size w w' := by
  go_enter Tryz.func118, Tryz.ntmps118
  go_wp2_with (first
    | (go_at_call 116; refine (size64_any _).mono ?_; rintro e w' ⟨rfl, rfl⟩)
    | (at_make; refine wpList_makeN w el8 rfl _ _ rfl .i64 .i64 _ _ n (n + 8 * m) rfl rfl rfl (by omega) (by omega) (by omega) (by omega) ?_; intro w1 hb1 hs1 hB1)
    | ((with_reducible refine at_copy ?_); refine wpList_copyAt w1 el8.under (by kernel_rfl) rfl _ _ rfl w.heap.size 0 _ hb1 _ n (n + 8 * m) rfl _ _ n c _ rfl (h.belowm hB1 (Nat.le_refl _)) (bcells_one l) n (Nat.min_self n).symm (fun _ => rfl) (by simp [size_madeCells]) ?_; intro w2 hb2 hg2 hs2))
  have hzl : (madeCells (Value.int .u8 0).cells ((n + 8 * m) * 1)).size = n + 8 * m := by simp [size_madeCells]
  have hB2 : Below w.heap.size w w2 := hB1.grown hg2 (by omega) (fun k hk => by cases hk; exact Nat.le_refl _)
  have hO2 : w2.ownsRow w.heap.size 5 1 (.slice (some ⟨w.heap.size, 0, none⟩) n (n + 8 * m)) n (bcells l) := by
    have hlen := h.len
    have := hb2.own (base := w.heap.size) (size := 1) (n := n) (m := n + 8 * m) (Nat.le_refl _) (by simp [splice, hlen, size_madeCells]) (by omega) (by omega)
    have e : (splice (madeCells (Value.int .u8 0).cells ((n + 8 * m) * 1)).toList 0 ((bcells l).take n)).toArray.toList.take (n * 1) = bcells l := by
      simp only [Nat.mul_one] at hlen
      simp [splice, ← hlen]
    rw [e] at this; exact this
  have h2' := h2.below hB2
  clear hB1 hb1 hs1 hb2 hg2 hs2 hzl h
  go_loopw [8, 29] (fun o i wr => ∃ k : Nat, k ≤ m ∧ i = .int .i64 k ∧ ∃ A' c', o = .slice A' (n + 8 * k) c' ∧
      wr.ownsRow w.heap.size 5 1 (.slice A' (n + 8 * k) c') (n + 8 * k) (bcells (l ++ putAll (xs.take k) 8 low)) ∧ Below w.heap.size w wr) (fun _ i _ => m - (intOf i).toNat)
  case atStart => exact ⟨0, Nat.zero_le _, rfl, _, _, rfl, by simpa [putAll] using hO2, hB2⟩
  case round =>
    obtain ⟨k, hk, rfl, A', c', rfl, hO, hB⟩ := hrel
    by_cases hlt : k < m
    · have hxl := h2.len
      rw [List.length_map, Nat.mul_one] at hxl
      obtain ⟨a2, rfl, hab, hcs⟩ := (h2.below hB).cells (by omega)
      have c1 := hcs k (.int .u64 (xs[k]?.getD 0 : Nat)) (by simp [List.getElem?_eq_getElem (show k < xs.length by omega)])
      have HX := Lib.hid hxl; clear hxl hcs
      go_wp2
      go_loopw [8, 34] (fun o i wq => ∃ j : Nat, j ≤ 8 ∧ i = .int .i64 j ∧ ∃ A' c', o = .slice A' (n + 8 * k + j) c' ∧
          wq.ownsRow w.heap.size 5 1 (.slice A' (n + 8 * k + j) c') (n + 8 * k + j) (bcells (l ++ putAll (xs.take k) 8 low ++ (putNum (xs[k]?.getD 0) 8 low).take j)) ∧ Below w.heap.size w wq) (fun _ i _ => 8 - (intOf i).toNat)
      case atStart => exact ⟨0, Nat.zero_le _, rfl, _, _, rfl, by simpa using hO, hB⟩
      case round =>
        obtain ⟨j, hj, rfl, A1, c1', rfl, hO1, hB1⟩ := hrel
        by_cases hjt : j < 8
        · have hsn := putNum_snoc (xs[k]?.getD 0) 8 low j hjt
          have hby := byteOf (xs[k]?.getD 0) (if low then j else 7 - j)
          have HS := Lib.hid hsn
          have HB := Lib.hid hby
          clear hsn hby
          cases low
          all_goals
            go_wp2_with (at_builtin; refine wpList_app1 _ el8 rfl _ _ rfl w.heap.size A1 (n + 8 * k + j) c1' _ rfl hO1 _ rfl rfl (by omega) (by omega) (by have := hB1.size; omega) ?_; intro A3 c3 w3 hO3 hg3 hB3)
            go_roundw
            case rel =>
              refine ⟨j + 1, by omega, by go_num, A3, c3, rfl, ?_, hB1.trans hB3⟩
              rw [HS.out, ← List.append_assoc, bcells_append _ [_]]
              have e := HB.out
              simp only [if_true, if_false, Bool.false_eq_true] at e
              rw [e] at hO3
              exact hO3
            case measure => simp [intOf]; omega
        · obtain rfl : j = 8 := by omega
          go_wp2
          go_roundw
          case rel =>
            refine ⟨k + 1, by omega, by go_num, A1, c1', rfl, ?_, hB1⟩
            rw [putAll_snoc _ _ _ _ (by rw [HX.out]; exact hlt), ← List.append_assoc]
            rw [putNum_all] at hO1
            exact hO1
          case measure => simp [intOf]; omega
    · obtain rfl : k = m := by omega
      go_wp2
      go_ret
      refine ⟨A', c', rfl, ?_, hB⟩
      have hxl := h2.len
      rw [List.length_map, Nat.mul_one] at hxl
      rw [List.take_of_length_le (by omega)] at hO
      exact hO
set_option maxRecDepth 100000 in
set_option maxHeartbeats 1000000 in
theorem put32_any (A2 : Option Addr) (m c2 : Nat) (xs : List Nat) (low : Bool) (h : Rd w w.heap.size 1 A n (bcells l)) (hn : n ≤ 1000000)
    (h2 : Rd w w.heap.size 1 A2 m (xs.map fun (x : Nat) => Value.int .u32 (x : Int))) (hm : m ≤ 1000000) :
    Calls Tryz.prog 104 #[.slice A n c, .bool low, .slice A2 m c2] w fun e w' =>
      ∃ A' c', e = .returned (.slice A' (n + 4 * m) c') ∧ w'.ownsRow w.heap.size 5 1 (.slice A' (n + 4 * m) c') (n + 4 * m) (bcells (l ++ putAll xs 4 low)) ∧ Below w.heap.size w w' := by
  go_enter Tryz.func104, Tryz.ntmps104
  go_wp2_with (first
    | (go_at_call 119; refine (size32_any _).mono ?_; rintro e w' ⟨rfl, rfl⟩)
    | (at_make; refine wpList_makeN w el8 rfl _ _ rfl .i64 .i64 _ _ n (n + 4 * m) rfl rfl rfl (by omega) (by omega) (by omega) (by omega) ?_; intro w1 hb1 hs1 hB1)
    | ((with_reducible refine at_copy ?_); refine wpList_copyAt w1 el8.under (by kernel_rfl) rfl _ _ rfl w.heap.size 0 _ hb1 _ n (n + 4 * m) rfl _ _ n c _ rfl (h.belowm hB1 (Nat.le_refl _)) (bcells_one l) n (Nat.min_self n).symm (fun _ => rfl) (by simp [size_madeCells]) ?_; intro w2 hb2 hg2 hs2))
  have hzl : (madeCells (Value.int .u8 0).cells ((n + 4 * m) * 1)).size = n + 4 * m := by simp [size_madeCells]
  have hB2 : Below w.heap.size w w2 := hB1.grown hg2 (by omega) (fun k hk => by cases hk; exact Nat.le_refl _)
  have hO2 : w2.ownsRow w.heap.size 5 1 (.slice (some ⟨w.heap.size, 0, none⟩) n (n + 4 * m)) n (bcells l) := by
    have hlen := h.len
    have := hb2.own (base := w.heap.size) (size := 1) (n := n) (m := n + 4 * m) (Nat.le_refl _) (by simp [splice, hlen, size_madeCells]) (by omega) (by omega)
    have e : (splice (madeCells (Value.int .u8 0).cells ((n + 4 * m) * 1)).toList 0 ((bcells l).take n)).toArray.toList.take (n * 1) = bcells l := by
      simp only [Nat.mul_one] at hlen
      simp [splice, ← hlen]
    rw [e] at this; exact this
  have h2' := h2.below hB2
  clear hB1 hb1 hs1 hb2 hg2 hs2 hzl h
  go_loopw [8, 29] (fun o i wr => ∃ k : Nat, k ≤ m ∧ i = .int .i64 k ∧ ∃ A' c', o = .slice A' (n + 4 * k) c' ∧
      wr.ownsRow w.heap.size 5 1 (.slice A' (n + 4 * k) c') (n + 4 * k) (bcells (l ++ putAll (xs.take k) 4 low)) ∧ Below w.heap.size w wr) (fun _ i _ => m - (intOf i).toNat)
  case atStart => exact ⟨0, Nat.zero_le _, rfl, _, _, rfl, by simpa [putAll] using hO2, hB2⟩
  case round =>
    obtain ⟨k, hk, rfl, A', c', rfl, hO, hB⟩ := hrel
    by_cases hlt : k < m
    · have hxl := h2.len
      rw [List.length_map, Nat.mul_one] at hxl
      obtain ⟨a2, rfl, hab, hcs⟩ := (h2.below hB).cells (by omega)
      have c1 := hcs k (.int .u32 (xs[k]?.getD 0 : Nat)) (by simp [List.getElem?_eq_getElem (show k < xs.length by omega)])
      have HX := Lib.hid hxl; clear hxl hcs
      go_wp2
      go_loopw [8, 34] (fun o i wq => ∃ j : Nat, j ≤ 4 ∧ i = .int .i64 j ∧ ∃ A' c', o = .slice A' (n + 4 * k + j) c' ∧
          wq.ownsRow w.heap.size 5 1 (.slice A' (n + 4 * k + j) c') (n + 4 * k + j) (bcells (l ++ putAll (xs.take k) 4 low ++ (putNum (xs[k]?.getD 0) 4 low).take j)) ∧ Below w.heap.size w wq) (fun _ i _ => 4 - (intOf i).toNat)
      case atStart => exact ⟨0, Nat.zero_le _, rfl, _, _, rfl, by simpa using hO, hB⟩
      case round =>
        obtain ⟨j, hj, rfl, A1, c1', rfl, hO1, hB1⟩ := hrel
        by_cases hjt : j < 4
        · have hsn := putNum_snoc (xs[k]?.getD 0) 4 low j hjt
          have hby := byteOf (xs[k]?.getD 0) (if low then j else 3 - j)
          have HS := Lib.hid hsn
          have HB := Lib.hid hby
          clear hsn hby
          cases low
          all_goals
            go_wp2_with (at_builtin; refine wpList_app1 _ el8 rfl _ _ rfl w.heap.size A1 (n + 4 * k + j) c1' _ rfl hO1 _ rfl rfl (by omega) (by omega) (by have := hB1.size; omega) ?_; intro A3 c3 w3 hO3 hg3 hB3)
            go_roundw
            case rel =>
              refine ⟨j + 1, by omega, by go_num, A3, c3, rfl, ?_, hB1.trans hB3⟩
              rw [HS.out, ← List.append_assoc, bcells_append _ [_]]
              have e := HB.out
              simp only [if_true, if_false, Bool.false_eq_true] at e
              rw [e] at hO3
              exact hO3
            case measure => simp [intOf]; omega
        · obtain rfl : j = 4 := by omega
          go_wp2
          go_roundw
          case rel =>
            refine ⟨k + 1, by omega, by go_num, A1, c1', rfl, ?_, hB1⟩
            rw [putAll_snoc _ _ _ _ (by rw [HX.out]; exact hlt), ← List.append_assoc]
            rw [putNum_all] at hO1
            exact hO1
          case measure => simp [intOf]; omega
    · obtain rfl : k = m := by omega
      go_wp2
      go_ret
      refine ⟨A', c', rfl, ?_, hB⟩
      have hxl := h2.len
      rw [List.length_map, Nat.mul_one] at hxl
      rw [List.take_of_length_le (by omega)] at hO
      exact hO

theorem putBe32_any (A2 : Option Addr) (m c2 : Nat) (xs : List Nat) (h : Rd w w.heap.size 1 A n (bcells l)) (hn : n ≤ 1000000)
    (h2 : Rd w w.heap.size 1 A2 m (xs.map fun (x : Nat) => Value.int .u32 (x : Int))) (hm : m ≤ 1000000) :
    Calls Tryz.prog 83 #[.slice A n c, .slice A2 m c2] w fun e w' =>
      ∃ A' c', e = .returned (.slice A' (n + 4 * m) c') ∧ w'.ownsRow w.heap.size 5 1 (.slice A' (n + 4 * m) c') (n + 4 * m) (bcells (l ++ putAll xs 4 false)) ∧ Below w.heap.size w w' := by
  go_enter Tryz.func83, Tryz.ntmps83
  go_wp2_with (go_at_call 104; refine (put32_any A n c l w A2 m c2 xs false h hn h2 hm).mono ?_; rintro e w' ⟨A', c', rfl, hO, hB⟩)
  go_ret
  exact ⟨A', c', rfl, hO, hB⟩

theorem putBe64_any (A2 : Option Addr) (m c2 : Nat) (xs : List Nat) (h : Rd w w.heap.size 1 A n (bcells l)) (hn : n ≤ 1000000)
    (h2 : Rd w w.heap.size 1 A2 m (xs.map fun (x : Nat) => Value.int .u64 (x : Int))) (hm : m ≤ 1000000) :
    Calls Tryz.prog 102 #[.slice A n c, .slice A2 m c2] w fun e w' =>
      ∃ A' c', e = .returned (.slice A' (n + 8 * m) c') ∧ w'.ownsRow w.heap.size 5 1 (.slice A' (n + 8 * m) c') (n + 8 * m) (bcells (l ++ putAll xs 8 false)) ∧ Below w.heap.size w w' := by
  go_enter Tryz.func102, Tryz.ntmps102
  go_wp2_with (go_at_call 118; refine (put64_any A n c l w A2 m c2 xs false h hn h2 hm).mono ?_; rintro e w' ⟨A', c', rfl, hO, hB⟩)
  go_ret
  exact ⟨A', c', rfl, hO, hB⟩

theorem putLe64_any (A2 : Option Addr) (m c2 : Nat) (xs : List Nat) (h : Rd w w.heap.size 1 A n (bcells l)) (hn : n ≤ 1000000)
    (h2 : Rd w w.heap.size 1 A2 m (xs.map fun (x : Nat) => Value.int .u64 (x : Int))) (hm : m ≤ 1000000) :
    Calls Tryz.prog 115 #[.slice A n c, .slice A2 m c2] w fun e w' =>
      ∃ A' c', e = .returned (.slice A' (n + 8 * m) c') ∧ w'.ownsRow w.heap.size 5 1 (.slice A' (n + 8 * m) c') (n + 8 * m) (bcells (l ++ putAll xs 8 true)) ∧ Below w.heap.size w w' := by
  go_enter Tryz.func115, Tryz.ntmps115
  go_wp2_with (go_at_call 118; refine (put64_any A n c l w A2 m c2 xs true h hn h2 hm).mono ?_; rintro e w' ⟨A', c', rfl, hO, hB⟩)
  go_ret
  exact ⟨A', c', rfl, hO, hB⟩
end
end Go.Proofs.YtpellkblaeeopaaGreatDoor
