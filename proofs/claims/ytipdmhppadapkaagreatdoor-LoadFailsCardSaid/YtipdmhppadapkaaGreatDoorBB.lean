/-
  Parts: WordA WordB WordC ShaA ShaB ShaC ShaD ShaF ShaG ShaH ShaI.
-/
import Derived.Test.YtipdmhppadapkaaGreatDoorBA
import Derived.Laws.BitsAllLaws
import Derived.IntWalk
import Derived.Deep.QuietTactic
import Derived.BigQuiet
import Derived.StillTailTactics
import Derived.Deep.Cut
import Derived.Deep.DeepCutAuto
/-
  Walks: the numbers that are read (word.size, read, Be32 .. Le64; portreeveref01.Number).
-/
namespace Go.Proofs.YtipdmhppadapkaaGreatDoor
open Go.RowKit

theorem size64_any (w : World) : Calls Tryz.prog 182 #[] w fun e w' => e = .returned (.int .i64 8) ∧ w = w' := by
  go_enter Tryz.func182, Tryz.ntmps182
  go_wp2
  go_ret
  exact ⟨rfl, rfl⟩
theorem size32_any (w : World) : Calls Tryz.prog 138 #[] w fun e w' => e = .returned (.int .i64 4) ∧ w = w' := by
  go_enter Tryz.func138, Tryz.ntmps138
  go_wp2
  go_ret
  exact ⟨rfl, rfl⟩

section
variable (A : Option Addr) (n c : Nat) (p : Int) (low : Bool) (l : List UInt8) (w : World)

set_option maxRecDepth 100000 in
set_option maxHeartbeats 400000 in
theorem read32_in (p : Nat) (h : Rd w w.heap.size 1 A n (bcells l)) (hn : n ≤ 1000000) (hat : p + 4 ≤ n) :
    Calls Tryz.prog 107 #[.slice A n c, .int .i64 p, .bool low] w fun e w' => e = .returned (.tuple #[.int .u32 (readNum l p 4 low : Nat), .bool true]) ∧ w = w' := by
  obtain ⟨LOW, hLOW⟩ : ∃ q : Bool, q = low := ⟨_, rfl⟩
  have HLOW := Lib.hid hLOW; clear hLOW
  cases low
  all_goals
    go_enter Tryz.func107, Tryz.ntmps107
    go_wp2_with (go_at_call 138; refine (size32_any _).mono ?_; rintro e w' ⟨rfl, rfl⟩)
    go_loop [9, 30] (fun x i => ∃ k : Nat, k ≤ 4 ∧ i = .int .i64 k ∧ x = .int .u32 (numOf (byteAt l p 4 LOW) k : Nat)) (fun _ i => 4 - (intOf i).toNat)
    case atStart => exact ⟨0, Nat.zero_le _, rfl, rfl⟩
    case round =>
      obtain ⟨k, hk, rfl, rfl⟩ := hrel
      by_cases hlt : k < 4
      · have hlen : n = l.length := by have := h.len; rw [bcells_length] at this; omega
        obtain ⟨a, rfl, hab, hcs⟩ := h.cells (by omega)
        have c1 := hcs (p + k) _ (bcells_get l _ (by omega))
        have c2 := hcs (p + 3 - k) _ (bcells_get l _ (by omega))
        have HL := Lib.hid hlen; clear hlen hcs h
        go_wp2
        go_round
        case rel => exact ⟨k + 1, by omega, by go_num, by rw [HLOW.out]; exact congrArg _ (u32_round l p 4 k _ hlt rfl)⟩
        case measure => simp [intOf]; omega
      · obtain rfl : k = 4 := by omega
        go_wp2
        go_ret2
        exact ⟨by rw [HLOW.out]; rfl, rfl⟩
set_option maxRecDepth 100000 in
set_option maxHeartbeats 400000 in
theorem read32_any (h : Rd w w.heap.size 1 A n (bcells l)) (hn : n ≤ 1000000) :
    Calls Tryz.prog 107 #[.slice A n c, .int .i64 p, .bool low] w fun e w' => e = .returned (.tuple #[.int .u32 (rdNum l p 4 low : Nat), .bool (rdOk l p 4)]) ∧ w = w' := by
  have hlen : n = l.length := by have := h.len; rw [bcells_length] at this; omega
  by_cases hin : 0 ≤ p ∧ p + 4 ≤ n
  · obtain ⟨q, rfl⟩ := Int.eq_ofNat_of_zero_le hin.1
    refine (read32_in A n c low l w q h hn (by omega)).mono fun e w' ⟨he, hw⟩ => ⟨?_, hw⟩
    rw [he, rdNum, rdOk, if_pos ⟨by omega, by omega⟩, decide_eq_true (by omega)]; rfl
  · have h1 : rdNum l p 4 low = 0 := by rw [rdNum, if_neg (by omega)]
    have h2 : rdOk l p 4 = false := by rw [rdOk, decide_eq_false (by omega)]
    rw [h1, h2]
    clear h1 h2 h
    have HL := Lib.hid hlen; clear hlen
    by_cases h0 : p < 0
    · have hd : decide (p < 0) = true := by simpa using h0
      go_enter Tryz.func107, Tryz.ntmps107
      go_wp2_with (go_at_call 138; refine (size32_any _).mono ?_; rintro e w' ⟨rfl, rfl⟩)
      go_ret2
      exact ⟨rfl, rfl⟩
    · have hd : decide (p < 0) = false := by simpa using h0
      by_cases h8 : n < 4
      · go_enter Tryz.func107, Tryz.ntmps107
        go_wp2_with (go_at_call 138; refine (size32_any _).mono ?_; rintro e w' ⟨rfl, rfl⟩)
        go_ret2
        exact ⟨rfl, rfl⟩
      · have h9 : (n : Int) - 4 < p := by omega
        go_enter Tryz.func107, Tryz.ntmps107
        go_wp2_with (go_at_call 138; refine (size32_any _).mono ?_; rintro e w' ⟨rfl, rfl⟩)
        go_ret2
        exact ⟨rfl, rfl⟩

theorem be32_any (h : Rd w w.heap.size 1 A n (bcells l)) (hn : n ≤ 1000000) :
    Calls Tryz.prog 74 #[.slice A n c, .int .i64 p] w fun e w' => e = .returned (.tuple #[.int .u32 (rdNum l p 4 false : Nat), .bool (rdOk l p 4)]) ∧ w = w' := by
  go_enter Tryz.func74, Tryz.ntmps74
  go_wp2_with (go_at_call 107; refine (read32_any A n c p false l w h hn).mono ?_; rintro e w' ⟨rfl, rfl⟩)
  go_ret2
  exact ⟨rfl, rfl⟩

end
end Go.Proofs.YtipdmhppadapkaaGreatDoor
/-
  Walks: the numbers that are put (word.put, PutBe32 .. PutLe64; portreeveref01.Put).
-/
namespace Go.Proofs.YtipdmhppadapkaaGreatDoor
open Go.RowKit

theorem el8 : Elem Tryz.prog 22 5 (.int .u8 0) 1 1 := Elem.of (by kernel_rfl) (by kernel_rfl) rfl (by omega)
theorem el32 : Elem Tryz.prog 29 23 (.int .u32 0) 1 4 := Elem.of (by kernel_rfl) (by kernel_rfl) rfl (by omega)
section
variable (A : Option Addr) (n c : Nat) (l : List UInt8) (w : World)

set_option maxRecDepth 100000 in
set_option maxHeartbeats 1000000 in
theorem put64_any (A2 : Option Addr) (m c2 : Nat) (xs : List Nat) (low : Bool) (h : Rd w w.heap.size 1 A n (bcells l)) (hn : n ≤ 1000000)
    (h2 : Rd w w.heap.size 1 A2 m (xs.map fun (x : Nat) => Value.int .u64 (x : Int))) (hm : m ≤ 1000000) :
    Calls Tryz.prog 174 #[.slice A n c, .bool low, .slice A2 m c2] w fun e w' =>
      ∃ A' c', e = .returned (.slice A' (n + 8 * m) c') ∧ w'.ownsRow w.heap.size 5 1 (.slice A' (n + 8 * m) c') (n + 8 * m) (bcells (l ++ putAll xs 8 low)) ∧ Below w.heap.size w w' := by
  go_enter Tryz.func174, Tryz.ntmps174
  go_wp2_with (first
    | (go_at_call 182; refine (size64_any _).mono ?_; rintro e w' ⟨rfl, rfl⟩)
    | (at_make; refine wpList_makeN w el8 rfl _ _ rfl .i64 .i64 _ _ n (n + 8 * m) rfl rfl rfl (by omega) (by omega) (by omega) (by omega) ?_; intro w1 hb1 hs1 hB1)
    | ((with_reducible refine at_copy ?_); refine wpList_copyAt w1 el8.under (by kernel_rfl) rfl _ _ rfl w.heap.size 0 _ hb1 _ n (n + 8 * m) rfl _ _ n c _ rfl (h.belowm hB1 (Nat.le_refl _)) (bcells_one l) n (Nat.min_self n).symm (fun _ => rfl) (by simp [size_madeCells]) ?_; intro w2 hb2 hg2 hs2))
  have hzl : (madeCells (Value.int .u8 0).cells ((n + 8 * m) * 1)).size = n + 8 * m := by simp [size_madeCells]
  have hB2 : Below w.heap.size w w2 := hB1.grown hg2 (by omega) (fun k hk => by cases hk; exact Nat.le_refl _)
  have hO2 : w2.ownsRow w.heap.size 5 1 (.slice (some ⟨w.heap.size, 0, none⟩) n (n + 8 * m)) n (bcells l) := by
    have hlen := h.len
    have := hb2.own (base := w.heap.size) (size := 1) (n := n) (m := n + 8 * m) (Nat.le_refl _) (by simp [splice, hlen, size_madeCells]) (by omega) (by omega)
    have e : (splice (madeCells (Value.int .u8 0).cells ((n + 8 * m) * 1)).toList 0 ((bcells l).take n)).toArray.toList.take (n * 1) = bcells l := by
      simp only [Nat.mul_one] at hlen
      simp [splice, ← hlen]
    rw [e] at this; exact this
  have h2' := h2.below hB2
  clear hB1 hb1 hs1 hb2 hg2 hs2 hzl h
  go_loopw [8, 29] (fun o i wr => ∃ k : Nat, k ≤ m ∧ i = .int .i64 k ∧ ∃ A' c', o = .slice A' (n + 8 * k) c' ∧
      wr.ownsRow w.heap.size 5 1 (.slice A' (n + 8 * k) c') (n + 8 * k) (bcells (l ++ putAll (xs.take k) 8 low)) ∧ Below w.heap.size w wr) (fun _ i _ => m - (intOf i).toNat)
  case atStart => exact ⟨0, Nat.zero_le _, rfl, _, _, rfl, by simpa [putAll] using hO2, hB2⟩
  case round =>
    obtain ⟨k, hk, rfl, A', c', rfl, hO, hB⟩ := hrel
    by_cases hlt : k < m
    · have hxl := h2.len
      rw [List.length_map, Nat.mul_one] at hxl
      obtain ⟨a2, rfl, hab, hcs⟩ := (h2.below hB).cells (by omega)
      have c1 := hcs k (.int .u64 (xs[k]?.getD 0 : Nat)) (by simp [List.getElem?_eq_getElem (show k < xs.length by omega)])
      have HX := Lib.hid hxl; clear hxl hcs
      go_wp2
      go_loopw [8, 34] (fun o i wq => ∃ j : Nat, j ≤ 8 ∧ i = .int .i64 j ∧ ∃ A' c', o = .slice A' (n + 8 * k + j) c' ∧
          wq.ownsRow w.heap.size 5 1 (.slice A' (n + 8 * k + j) c') (n + 8 * k + j) (bcells (l ++ putAll (xs.take k) 8 low ++ (putNum (xs[k]?.getD 0) 8 low).take j)) ∧ Below w.heap.size w wq) (fun _ i _ => 8 - (intOf i).toNat)
      case atStart => exact ⟨0, Nat.zero_le _, rfl, _, _, rfl, by simpa using hO, hB⟩
      case round =>
        obtain ⟨j, hj, rfl, A1, c1', rfl, hO1, hB1⟩ := hrel
        by_cases hjt : j < 8
        · have hsn := putNum_snoc (xs[k]?.getD 0) 8 low j hjt
          have hby := byteOf (xs[k]?.getD 0) (if low then j else 7 - j)
          have HS := Lib.hid hsn
          have HB := Lib.hid hby
          clear hsn hby
          cases low
          all_goals
            go_wp2_with (at_builtin; refine wpList_app1 _ el8 rfl _ _ rfl w.heap.size A1 (n + 8 * k + j) c1' _ rfl hO1 _ rfl rfl (by omega) (by omega) (by have := hB1.size; omega) ?_; intro A3 c3 w3 hO3 hg3 hB3)
            go_roundw
            case rel =>
              refine ⟨j + 1, by omega, by go_num, A3, c3, rfl, ?_, hB1.trans hB3⟩
              rw [HS.out, ← List.append_assoc, bcells_append _ [_]]
              have e := HB.out
              simp only [if_true, if_false, Bool.false_eq_true] at e
              rw [e] at hO3
              exact hO3
            case measure => simp [intOf]; omega
        · obtain rfl : j = 8 := by omega
          go_wp2
          go_roundw
          case rel =>
            refine ⟨k + 1, by omega, by go_num, A1, c1', rfl, ?_, hB1⟩
            rw [putAll_snoc _ _ _ _ (by rw [HX.out]; exact hlt), ← List.append_assoc]
            rw [putNum_all] at hO1
            exact hO1
          case measure => simp [intOf]; omega
    · obtain rfl : k = m := by omega
      go_wp2
      go_ret
      refine ⟨A', c', rfl, ?_, hB⟩
      have hxl := h2.len
      rw [List.length_map, Nat.mul_one] at hxl
      rw [List.take_of_length_le (by omega)] at hO
      exact hO
set_option maxRecDepth 100000 in
set_option maxHeartbeats 1000000 in
theorem put32_any (A2 : Option Addr) (m c2 : Nat) (xs : List Nat) (low : Bool) (h : Rd w w.heap.size 1 A n (bcells l)) (hn : n ≤ 1000000)
    (h2 : Rd w w.heap.size 1 A2 m (xs.map fun (x : Nat) => Value.int .u32 (x : Int))) (hm : m ≤ 1000000) :
    Calls Tryz.prog 144 #[.slice A n c, .bool low, .slice A2 m c2] w fun e w' =>
      ∃ A' c', e = .returned (.slice A' (n + 4 * m) c') ∧ w'.ownsRow w.heap.size 5 1 (.slice A' (n + 4 * m) c') (n + 4 * m) (bcells (l ++ putAll xs 4 low)) ∧ Below w.heap.size w w' := by
  go_enter Tryz.func144, Tryz.ntmps144
  go_wp2_with (first
    | (go_at_call 138; refine (size32_any _).mono ?_; rintro e w' ⟨rfl, rfl⟩)
    | (at_make; refine wpList_makeN w el8 rfl _ _ rfl .i64 .i64 _ _ n (n + 4 * m) rfl rfl rfl (by omega) (by omega) (by omega) (by omega) ?_; intro w1 hb1 hs1 hB1)
    | ((with_reducible refine at_copy ?_); refine wpList_copyAt w1 el8.under (by kernel_rfl) rfl _ _ rfl w.heap.size 0 _ hb1 _ n (n + 4 * m) rfl _ _ n c _ rfl (h.belowm hB1 (Nat.le_refl _)) (bcells_one l) n (Nat.min_self n).symm (fun _ => rfl) (by simp [size_madeCells]) ?_; intro w2 hb2 hg2 hs2))
  have hzl : (madeCells (Value.int .u8 0).cells ((n + 4 * m) * 1)).size = n + 4 * m := by simp [size_madeCells]
  have hB2 : Below w.heap.size w w2 := hB1.grown hg2 (by omega) (fun k hk => by cases hk; exact Nat.le_refl _)
  have hO2 : w2.ownsRow w.heap.size 5 1 (.slice (some ⟨w.heap.size, 0, none⟩) n (n + 4 * m)) n (bcells l) := by
    have hlen := h.len
    have := hb2.own (base := w.heap.size) (size := 1) (n := n) (m := n + 4 * m) (Nat.le_refl _) (by simp [splice, hlen, size_madeCells]) (by omega) (by omega)
    have e : (splice (madeCells (Value.int .u8 0).cells ((n + 4 * m) * 1)).toList 0 ((bcells l).take n)).toArray.toList.take (n * 1) = bcells l := by
      simp only [Nat.mul_one] at hlen
      simp [splice, ← hlen]
    rw [e] at this; exact this
  have h2' := h2.below hB2
  clear hB1 hb1 hs1 hb2 hg2 hs2 hzl h
  go_loopw [8, 29] (fun o i wr => ∃ k : Nat, k ≤ m ∧ i = .int .i64 k ∧ ∃ A' c', o = .slice A' (n + 4 * k) c' ∧
      wr.ownsRow w.heap.size 5 1 (.slice A' (n + 4 * k) c') (n + 4 * k) (bcells (l ++ putAll (xs.take k) 4 low)) ∧ Below w.heap.size w wr) (fun _ i _ => m - (intOf i).toNat)
  case atStart => exact ⟨0, Nat.zero_le _, rfl, _, _, rfl, by simpa [putAll] using hO2, hB2⟩
  case round =>
    obtain ⟨k, hk, rfl, A', c', rfl, hO, hB⟩ := hrel
    by_cases hlt : k < m
    · have hxl := h2.len
      rw [List.length_map, Nat.mul_one] at hxl
      obtain ⟨a2, rfl, hab, hcs⟩ := (h2.below hB).cells (by omega)
      have c1 := hcs k (.int .u32 (xs[k]?.getD 0 : Nat)) (by simp [List.getElem?_eq_getElem (show k < xs.length by omega)])
      have HX := Lib.hid hxl; clear hxl hcs
      go_wp2
      go_loopw [8, 34] (fun o i wq => ∃ j : Nat, j ≤ 4 ∧ i = .int .i64 j ∧ ∃ A' c', o = .slice A' (n + 4 * k + j) c' ∧
          wq.ownsRow w.heap.size 5 1 (.slice A' (n + 4 * k + j) c') (n + 4 * k + j) (bcells (l ++ putAll (xs.take k) 4 low ++ (putNum (xs[k]?.getD 0) 4 low).take j)) ∧ Below w.heap.size w wq) (fun _ i _ => 4 - (intOf i).toNat)
      case atStart => exact ⟨0, Nat.zero_le _, rfl, _, _, rfl, by simpa using hO, hB⟩
      case round =>
        obtain ⟨j, hj, rfl, A1, c1', rfl, hO1, hB1⟩ := hrel
        by_cases hjt : j < 4
        · have hsn := putNum_snoc (xs[k]?.getD 0) 4 low j hjt
          have hby := byteOf (xs[k]?.getD 0) (if low then j else 3 - j)
          have HS := Lib.hid hsn
          have HB := Lib.hid hby
          clear hsn hby
          cases low
          all_goals
            go_wp2_with (at_builtin; refine wpList_app1 _ el8 rfl _ _ rfl w.heap.size A1 (n + 4 * k + j) c1' _ rfl hO1 _ rfl rfl (by omega) (by omega) (by have := hB1.size; omega) ?_; intro A3 c3 w3 hO3 hg3 hB3)
            go_roundw
            case rel =>
              refine ⟨j + 1, by omega, by go_num, A3, c3, rfl, ?_, hB1.trans hB3⟩
              rw [HS.out, ← List.append_assoc, bcells_append _ [_]]
              have e := HB.out
              simp only [if_true, if_false, Bool.false_eq_true] at e
              rw [e] at hO3
              exact hO3
            case measure => simp [intOf]; omega
        · obtain rfl : j = 4 := by omega
          go_wp2
          go_roundw
          case rel =>
            refine ⟨k + 1, by omega, by go_num, A1, c1', rfl, ?_, hB1⟩
            rw [putAll_snoc _ _ _ _ (by rw [HX.out]; exact hlt), ← List.append_assoc]
            rw [putNum_all] at hO1
            exact hO1
          case measure => simp [intOf]; omega
    · obtain rfl : k = m := by omega
      go_wp2
      go_ret
      refine ⟨A', c', rfl, ?_, hB⟩
      have hxl := h2.len
      rw [List.length_map, Nat.mul_one] at hxl
      rw [List.take_of_length_le (by omega)] at hO
      exact hO

theorem putBe32_any (A2 : Option Addr) (m c2 : Nat) (xs : List Nat) (h : Rd w w.heap.size 1 A n (bcells l)) (hn : n ≤ 1000000)
    (h2 : Rd w w.heap.size 1 A2 m (xs.map fun (x : Nat) => Value.int .u32 (x : Int))) (hm : m ≤ 1000000) :
    Calls Tryz.prog 120 #[.slice A n c, .slice A2 m c2] w fun e w' =>
      ∃ A' c', e = .returned (.slice A' (n + 4 * m) c') ∧ w'.ownsRow w.heap.size 5 1 (.slice A' (n + 4 * m) c') (n + 4 * m) (bcells (l ++ putAll xs 4 false)) ∧ Below w.heap.size w w' := by
  go_enter Tryz.func120, Tryz.ntmps120
  go_wp2_with (go_at_call 144; refine (put32_any A n c l w A2 m c2 xs false h hn h2 hm).mono ?_; rintro e w' ⟨A', c', rfl, hO, hB⟩)
  go_ret
  exact ⟨A', c', rfl, hO, hB⟩

theorem putBe64_any (A2 : Option Addr) (m c2 : Nat) (xs : List Nat) (h : Rd w w.heap.size 1 A n (bcells l)) (hn : n ≤ 1000000)
    (h2 : Rd w w.heap.size 1 A2 m (xs.map fun (x : Nat) => Value.int .u64 (x : Int))) (hm : m ≤ 1000000) :
    Calls Tryz.prog 154 #[.slice A n c, .slice A2 m c2] w fun e w' =>
      ∃ A' c', e = .returned (.slice A' (n + 8 * m) c') ∧ w'.ownsRow w.heap.size 5 1 (.slice A' (n + 8 * m) c') (n + 8 * m) (bcells (l ++ putAll xs 8 false)) ∧ Below w.heap.size w w' := by
  go_enter Tryz.func154, Tryz.ntmps154
  go_wp2_with (go_at_call 174; refine (put64_any A n c l w A2 m c2 xs false h hn h2 hm).mono ?_; rintro e w' ⟨A', c', rfl, hO, hB⟩)
  go_ret
  exact ⟨A', c', rfl, hO, hB⟩

end
end Go.Proofs.YtipdmhppadapkaaGreatDoor
/-
  Walks: portreeveref01.Number, portreeveref01.Put, word.Cat.
-/
namespace Go.Proofs.YtipdmhppadapkaaGreatDoor
open Go.RowKit

section
variable (A : Option Addr) (n c : Nat) (p : Int) (low : Bool) (l : List UInt8) (w : World)

theorem u64_round' (l : List UInt8) (p n k : Nat) (low : Bool) (hk : k < 8) :
    bits .or .u64 (IntKind.u64.wrap ((numOf (byteAt l p n low) k : Nat) * 256)) (IntKind.u64.wrap (byteAt l p n low k : Nat)) = ((numOf (byteAt l p n low) (k + 1) : Nat) : Int) :=
  u64_shl_or _ _ (numOf_le (byteAt_lt _ _ _ _) (by omega)) (byteAt_lt _ _ _ _ _)

set_option maxRecDepth 100000 in
set_option maxHeartbeats 400000 in
theorem number_in (p s : Nat) (h : Rd w w.heap.size 1 A n (bcells l)) (hn : n ≤ 1000000) (hs1 : 1 ≤ s) (hs : s ≤ 8) (hat : p + s ≤ n) :
    Calls Tryz.prog 41 #[.slice A n c, .int .i64 p, .int .i64 s, .bool low] w fun e w' => e = .returned (.tuple #[.int .u64 (readNum l p s low : Nat), .bool true]) ∧ w = w' := by
  obtain ⟨LOW, hLOW⟩ : ∃ q : Bool, q = low := ⟨_, rfl⟩
  have HLOW := Lib.hid hLOW; clear hLOW
  cases low
  all_goals
    go_enter Tryz.func41, Tryz.ntmps41
    go_wp2
    go_loop [10, 11] (fun x i => ∃ k : Nat, k ≤ s ∧ i = .int .i64 k ∧ x = .int .u64 (numOf (byteAt l p s LOW) k : Nat)) (fun _ i => s - (intOf i).toNat)
    case atStart => exact ⟨0, Nat.zero_le _, rfl, rfl⟩
    case round =>
      obtain ⟨k, hk, rfl, rfl⟩ := hrel
      by_cases hlt : k < s
      · have hlen : n = l.length := by have := h.len; rw [bcells_length] at this; omega
        obtain ⟨a, rfl, hab, hcs⟩ := h.cells (by omega)
        have c1 := hcs (p + k) _ (bcells_get l _ (by omega))
        have c2 := hcs (p + s - 1 - k) _ (bcells_get l _ (by omega))
        have HL := Lib.hid hlen; clear hlen hcs h
        go_wp2
        go_round
        case rel => exact ⟨k + 1, by omega, by go_num, by rw [HLOW.out]; exact congrArg _ (u64_round' l p s k _ (by omega))⟩
        case measure => simp [intOf]; omega
      · obtain rfl : k = s := by omega
        go_wp2
        go_ret2
        exact ⟨by rw [HLOW.out]; rfl, rfl⟩

set_option maxRecDepth 100000 in
set_option maxHeartbeats 400000 in
theorem number_any (s : Nat) (h : Rd w w.heap.size 1 A n (bcells l)) (hn : n ≤ 1000000) (hs1 : 1 ≤ s) (hs : s ≤ 8) :
    Calls Tryz.prog 41 #[.slice A n c, .int .i64 p, .int .i64 s, .bool low] w fun e w' => e = .returned (.tuple #[.int .u64 (rdNum l p s low : Nat), .bool (rdOk l p s)]) ∧ w = w' := by
  have hlen : n = l.length := by have := h.len; rw [bcells_length] at this; omega
  by_cases hin : 0 ≤ p ∧ p + s ≤ n
  · obtain ⟨q, rfl⟩ := Int.eq_ofNat_of_zero_le hin.1
    refine (number_in A n c low l w q s h hn hs1 hs (by omega)).mono fun e w' ⟨he, hw⟩ => ⟨?_, hw⟩
    rw [he, rdNum, rdOk, if_pos ⟨by omega, by omega⟩, decide_eq_true (by omega)]; rfl
  · have h1 : rdNum l p s low = 0 := by rw [rdNum, if_neg (by omega)]
    have h2 : rdOk l p s = false := by rw [rdOk, decide_eq_false (by omega)]
    rw [h1, h2]
    clear h1 h2 h
    have HL := Lib.hid hlen; clear hlen
    by_cases h0 : p < 0
    · have hd : decide (p < 0) = true := by simpa using h0
      go_enter Tryz.func41, Tryz.ntmps41
      go_wp2
      go_ret2
      exact ⟨rfl, rfl⟩
    · have hd : decide (p < 0) = false := by simpa using h0
      by_cases h8 : n < s
      · go_enter Tryz.func41, Tryz.ntmps41
        go_wp2
        go_ret2
        exact ⟨rfl, rfl⟩
      · have h9 : (n : Int) - s < p := by omega
        go_enter Tryz.func41, Tryz.ntmps41
        go_wp2
        go_ret2
        exact ⟨rfl, rfl⟩

set_option maxRecDepth 100000 in
set_option maxHeartbeats 400000 in
theorem rput_any (x s : Nat) (h : Rd w w.heap.size 1 A n (bcells l)) (hn : n ≤ 1000000) (hs : s ≤ 8) :
    Calls Tryz.prog 84 #[.slice A n c, .int .u64 x, .int .i64 s, .bool low] w fun e w' =>
      ∃ A' c', e = .returned (.slice A' (n + s) c') ∧ w'.ownsRow w.heap.size 5 1 (.slice A' (n + s) c') (n + s) (bcells (l ++ putNum x s low)) ∧ Below w.heap.size w w' := by
  go_enter Tryz.func84, Tryz.ntmps84
  go_wp2_with (at_builtin; refine wpList_app w el8 rfl _ _ rfl w.heap.size none 0 0 [] rfl (World.ownsRow_nil _ _ _ _) _ A n c _ rfl h (bcells_one l) (by omega) (by omega) (Nat.le_refl _) ?_; intro A1 c1 w1 hO hg hB _)
  rw [List.nil_append] at hO
  simp only [Nat.zero_add] at hO ⊢
  clear hg h
  go_loopw [9, 10] (fun o i wr => ∃ k : Nat, k ≤ s ∧ i = .int .i64 k ∧ ∃ A' c', o = .slice A' (n + k) c' ∧
      wr.ownsRow w.heap.size 5 1 (.slice A' (n + k) c') (n + k) (bcells (l ++ (putNum x s low).take k)) ∧ Below w.heap.size w wr) (fun _ i _ => s - (intOf i).toNat)
  case atStart => exact ⟨0, Nat.zero_le _, rfl, _, _, rfl, by simpa using hO, hB⟩
  case round =>
    obtain ⟨j, hj, rfl, A1, c1', rfl, hO1, hB1⟩ := hrel
    by_cases hjt : j < s
    · have hsn := putNum_snoc x s low j hjt
      have hby := byteOf x (if low then j else s - 1 - j)
      have HS := Lib.hid hsn
      have HB := Lib.hid hby
      clear hsn hby
      cases low
      all_goals
        go_wp2_with (at_builtin; refine wpList_app1 _ el8 rfl _ _ rfl w.heap.size A1 (n + j) c1' _ rfl hO1 _ rfl rfl (by omega) (by omega) (by have := hB1.size; omega) ?_; intro A3 c3 w3 hO3 hg3 hB3)
        go_roundw
        case rel =>
          refine ⟨j + 1, by omega, by go_num, A3, c3, rfl, ?_, hB1.trans hB3⟩
          rw [HS.out, ← List.append_assoc, bcells_append _ [_]]
          have e := HB.out
          simp only [if_true, if_false, Bool.false_eq_true] at e
          rw [e] at hO3
          exact hO3
        case measure => simp [intOf]; omega
    · obtain rfl : j = s := by omega
      go_wp2
      go_ret
      refine ⟨A1, c1', rfl, ?_, hB1⟩
      rw [putNum_all] at hO1
      exact hO1
end

/-- a []byte value with what it reads as -/
structure Bs where
  A : Option Addr
  n : Nat
  c : Nat
  l : List UInt8
def Bs.val (b : Bs) : Value := .slice b.A b.n b.c
def Bs.ok (w : World) (B : Nat) (b : Bs) : Prop := Rd w B 1 b.A b.n (bcells b.l)
def Bs.all (ps : List Bs) : List UInt8 := ps.flatMap (·.l)
def Bs.tot (ps : List Bs) : Nat := (ps.map (·.n)).sum
theorem Bs.tot_take (ps : List Bs) (k : Nat) (b : Bs) (h : ps[k]? = some b) : Bs.tot (ps.take (k + 1)) = Bs.tot (ps.take k) + b.n := by
  obtain ⟨hlt, rfl⟩ := List.getElem?_eq_some_iff.1 h
  rw [List.take_succ_eq_append_getElem hlt]; simp only [Bs.tot, List.map_append, List.sum_append, List.map_cons, List.map_nil, List.sum_cons, List.sum_nil, Nat.add_zero]
theorem Bs.all_take (ps : List Bs) (k : Nat) (b : Bs) (h : ps[k]? = some b) : Bs.all (ps.take (k + 1)) = Bs.all (ps.take k) ++ b.l := by
  obtain ⟨hlt, rfl⟩ := List.getElem?_eq_some_iff.1 h
  rw [List.take_succ_eq_append_getElem hlt]; simp only [Bs.all, List.flatMap_append, List.flatMap_cons, List.flatMap_nil, List.append_nil]
theorem Bs.tot_le (ps : List Bs) (k : Nat) : Bs.tot (ps.take k) ≤ Bs.tot ps := by
  have e : Bs.tot (ps.take k ++ ps.drop k) = Bs.tot (ps.take k) + Bs.tot (ps.drop k) := by simp only [Bs.tot, List.map_append, List.sum_append]
  rw [List.take_append_drop] at e
  omega

theorem elBB : Elem Tryz.prog 153 22 (.slice none 0 0) 1 24 := Elem.of (by kernel_rfl) (by kernel_rfl) rfl (by omega)

set_option maxRecDepth 100000 in
set_option maxHeartbeats 400000 in
theorem cat_any (A : Option Addr) (m c : Nat) (ps : List Bs) (w : World) (h : Rd w w.heap.size 1 A m (ps.map Bs.val)) (hp : ∀ b ∈ ps, b.ok w w.heap.size) (ht : Bs.tot ps ≤ 1000000000) (hm : m ≤ 1000000) :
    Calls Tryz.prog 111 #[.slice A m c] w fun e w' =>
      ∃ A' c', e = .returned (.slice A' (Bs.tot ps) c') ∧ w'.ownsRow w.heap.size 5 1 (.slice A' (Bs.tot ps) c') (Bs.tot ps) (bcells (Bs.all ps)) ∧ Below w.heap.size w w' := by
  have hlen : ps.length = m := by have := h.len; simpa using this
  have HL := Lib.hid hlen; clear hlen
  go_enter Tryz.func111, Tryz.ntmps111
  go_wp2
  go_loop [3, 11] (fun o i => ∃ k : Nat, k ≤ m ∧ i = .int .i64 k ∧ o = .int .i64 (Bs.tot (ps.take k) : Nat)) (fun _ i => m - (intOf i).toNat)
  case atStart => exact ⟨0, Nat.zero_le _, rfl, rfl⟩
  case round =>
    obtain ⟨k, hk, rfl, rfl⟩ := hrel
    by_cases hlt : k < m
    · obtain ⟨a, rfl, hab, hcs⟩ := h.cells (by omega)
      have hkl : k < ps.length := by rw [HL.out]; exact hlt
      obtain ⟨b, hb⟩ : ∃ b, ps[k]? = some b := ⟨_, List.getElem?_eq_getElem hkl⟩
      have c1 : w.cell? (a.add k) = some (.slice b.A b.n b.c) := hcs k _ (by rw [List.getElem?_map, hb]; rfl)
      have ht1 := Bs.tot_take ps k b hb
      have ht2 := Bs.tot_le ps (k + 1)
      have ht3 : Bs.tot (ps.take k) + b.n ≤ Bs.tot ps := by omega
      have H1 := Lib.hid ht1
      have H2 := Lib.hid hb
      clear ht1 hb hcs h ht2
      go_wp2
      go_round
      case rel => exact ⟨k + 1, by omega, by go_num, by rw [H1.out]; go_num⟩
      case measure => simp [intOf]; omega
    · obtain rfl : k = m := by omega
      have hall : ps.take k = ps := List.take_of_length_le (by rw [HL.out]; omega)
      have HA := Lib.hid hall
      rw [hall]
      clear hall
      go_wp2_with (at_make; refine wpList_makeN w el8 rfl _ _ rfl .i64 .i64 _ _ 0 (Bs.tot ps) rfl rfl rfl rfl (by omega) (by omega) (by omega) ?_; intro w1 hb1 hs1 hB1)
      have hO1 := hb1.own (base := w.heap.size) (size := 1) (n := 0) (m := Bs.tot ps) (Nat.le_refl _) (by simp [size_madeCells]) (by omega) (by omega)
      simp only [Nat.zero_mul, List.take_zero] at hO1
      clear hb1 hs1
      go_loopw [6, 24] (fun o i wr => ∃ j : Nat, j ≤ k ∧ i = .int .i64 j ∧ ∃ A' c', o = .slice A' (Bs.tot (ps.take j)) c' ∧
        wr.ownsRow w.heap.size 5 1 (.slice A' (Bs.tot (ps.take j)) c') (Bs.tot (ps.take j)) (bcells (Bs.all (ps.take j))) ∧ Below w.heap.size w wr) (fun _ i _ => k - (intOf i).toNat)
      case atStart => exact ⟨0, Nat.zero_le _, rfl, _, _, rfl, by simpa [Bs.tot, Bs.all, bcells] using hO1, hB1⟩
      case round =>
        obtain ⟨j, hj, rfl, A1, c1', rfl, hO2, hB2⟩ := hrel
        by_cases hjt : j < k
        · obtain ⟨a, rfl, hab, hcs⟩ := (h.below hB2).cells (by omega)
          have hkl : j < ps.length := by rw [HL.out]; exact hjt
          obtain ⟨b, hb⟩ : ∃ b, ps[j]? = some b := ⟨_, List.getElem?_eq_getElem hkl⟩
          have c1 : wr.cell? (a.add j) = some (.slice b.A b.n b.c) := hcs j _ (by rw [List.getElem?_map, hb]; rfl)
          have hbok : b.ok wr w.heap.size := (hp b (List.mem_of_getElem? hb)).below hB2
          have ht1 := Bs.tot_take ps j b hb
          have ha1 := Bs.all_take ps j b hb
          have ht2 := Bs.tot_le ps (j + 1)
          have ht3 : Bs.tot (ps.take j) + b.n ≤ Bs.tot ps := by omega
          have H1 := Lib.hid ht1
          have H2 := Lib.hid ha1
          clear ht1 ha1 hb hcs h ht2
          go_wp2_with (at_builtin; refine wpList_app wr el8 rfl _ _ rfl w.heap.size A1 _ c1' _ rfl hO2 _ b.A b.n b.c _ rfl hbok (bcells_one b.l) (by omega) (by omega) (by have := hB2.size; omega) ?_; intro A3 c3 w3 hO3 hg3 hB3 _)
          go_roundw
          case rel => exact ⟨j + 1, by omega, by go_num, A3, c3, by rw [H1.out], by rw [H1.out, H2.out, bcells_append]; exact hO3, hB2.trans hB3⟩
          case measure => simp [intOf]; omega
        · obtain rfl : j = k := by omega
          rw [HA.out] at hO2
          rw [HA.out]
          go_wp2
          go_ret
          exact ⟨A1, c1', rfl, hO2, hB2⟩
end Go.Proofs.YtipdmhppadapkaaGreatDoor
/-
  SHA-256 in plain Lean: words, the schedule, the rounds, the blocks, the padding; no program in sight.
-/
namespace Go.Proofs.YtipdmhppadapkaaGreatDoor

namespace Sha
abbrev W := BitVec 32
/-- a word's number -/
def u (x : W) : Int := (x.toNat : Int)
theorem u_nonneg (x : W) : 0 ≤ u x := by unfold u; omega
theorem u_lt (x : W) : u x < 4294967296 := by unfold u; have := x.isLt; omega
theorem u_xor (x y : W) : bits .xor .u32 (u x) (u y) = u (x ^^^ y) := by unfold u; rw [u32_xor_nat _ _ x.isLt y.isLt, BitVec.toNat_xor]
theorem u_and (x y : W) : bits .and .u32 (u x) (u y) = u (x &&& y) := by unfold u; rw [u32_and_nat _ _ x.isLt y.isLt, BitVec.toNat_and]
theorem u_or (x y : W) : bits .or .u32 (u x) (u y) = u (x ||| y) := by unfold u; rw [u32_or_nat _ _ x.isLt y.isLt, BitVec.toNat_or]
theorem u_not (x : W) : bits .xor .u32 4294967295 (u x) = u (~~~x) := by
  have h : (4294967295 : Int) = u (BitVec.allOnes 32) := by unfold u; rw [BitVec.toNat_allOnes]; simp
  rw [h, u_xor, BitVec.allOnes_xor]
theorem u_add (x y : W) : IntKind.u32.wrap (u x + u y) = u (x + y) := by
  unfold u; rw [IntKind.wrap_u32', BitVec.toNat_add]; omega
theorem u_shr (x : W) (n : Nat) : u x / 2 ^ n = u (x >>> n) := by
  unfold u; rw [BitVec.toNat_ushiftRight, Nat.shiftRight_eq_div_pow, Int.natCast_ediv, Int.natCast_pow]; simp
theorem u_shl (x : W) (n : Nat) : IntKind.u32.wrap (u x * 2 ^ n) = u (x <<< n) := by
  have h : ((2 ^ n : Nat) : Int) = (2 : Int) ^ n := by rw [Int.natCast_pow]; rfl
  unfold u
  rw [IntKind.wrap_u32', BitVec.toNat_shiftLeft, Nat.shiftLeft_eq, ← h, ← Int.natCast_mul]
  generalize x.toNat * 2 ^ n = y
  omega
theorem u_add' (x y : W) : (u x + u y) % 4294967296 = u (x + y) := by rw [← u_add, IntKind.wrap_u32']
theorem u_shl' (x : W) (n : Nat) : u x * 2 ^ n % 4294967296 = u (x <<< n) := by rw [← u_shl, IntKind.wrap_u32']
/-- a byte as a word -/
def uc (c : UInt8) : W := BitVec.ofNat 32 c.toNat
theorem u_uc (c : UInt8) : IntKind.u32.wrap (c.toNat : Int) = u (uc c) := by
  have : c.toNat < 256 := c.toNat_lt
  rw [IntWalk.u32_in _ (by omega)]; unfold u uc; rw [BitVec.toNat_ofNat, Nat.mod_eq_of_lt (by omega)]
/-- a word's byte -/
def ob (x : W) : UInt8 := UInt8.ofNat x.toNat
theorem u_ob (x : W) : IntKind.u8.wrap (u x) = ((ob x).toNat : Int) := by
  unfold u ob; rw [IntKind.wrap_u8', UInt8.toNat_ofNat']; omega

def rotr (x : W) (n : Nat) : W := x >>> n ||| x <<< (32 - n)
def lo0 (x : W) : W := rotr x 7 ^^^ rotr x 18 ^^^ x >>> 3
def lo1 (x : W) : W := rotr x 17 ^^^ rotr x 19 ^^^ x >>> 10
def up0 (x : W) : W := rotr x 2 ^^^ rotr x 13 ^^^ rotr x 22
def up1 (x : W) : W := rotr x 6 ^^^ rotr x 11 ^^^ rotr x 25
def ch (e f g : W) : W := (e &&& f) ^^^ (~~~e &&& g)
def maj (a b c : W) : W := (a &&& b) ^^^ (a &&& c) ^^^ (b &&& c)
theorem ch_alt (e f g : W) : g ^^^ (e &&& (f ^^^ g)) = ch e f g := by
  unfold ch
  apply BitVec.eq_of_getLsbD_eq
  intro i hi
  simp only [BitVec.getLsbD_xor, BitVec.getLsbD_and, BitVec.getLsbD_not, hi, decide_true, Bool.true_and]
  cases e.getLsbD i <;> cases f.getLsbD i <;> cases g.getLsbD i <;> rfl
theorem maj_alt (a b c : W) : (a &&& b) ||| (c &&& (a ||| b)) = maj a b c := by
  unfold maj
  apply BitVec.eq_of_getLsbD_eq
  intro i hi
  simp only [BitVec.getLsbD_xor, BitVec.getLsbD_and, BitVec.getLsbD_or]
  cases a.getLsbD i <;> cases b.getLsbD i <;> cases c.getLsbD i <;> rfl
theorem rotr_alt (x : W) (n : Nat) : x <<< (32 - n) ||| x >>> n = rotr x n := by unfold rotr; rw [BitVec.or_comm]

/-- eight words -/
structure V8 where
  a : W
  b : W
  c : W
  d : W
  e : W
  f : W
  g : W
  h : W
def V8.list (v : V8) : List W := [v.a, v.b, v.c, v.d, v.e, v.f, v.g, v.h]
def V8.add (v x : V8) : V8 := ⟨v.a + x.a, v.b + x.b, v.c + x.c, v.d + x.d, v.e + x.e, v.f + x.f, v.g + x.g, v.h + x.h⟩
def V8.rnd (v : V8) (k w : W) : V8 :=
  ⟨(v.h + up1 v.e + ch v.e v.f v.g + k + w) + (up0 v.a + maj v.a v.b v.c), v.a, v.b, v.c, v.d + (v.h + up1 v.e + ch v.e v.f v.g + k + w), v.e, v.f, v.g⟩
def V8.rnds (v : V8) (K L : List W) : Nat → V8
  | 0 => v
  | i + 1 => (v.rnds K L i).rnd (K[i]?.getD 0) (L[i]?.getD 0)
/-- the word that stands at a place of bytes -/
def word (p : List UInt8) (i : Nat) : W := uc (p[4 * i]?.getD 0) <<< 24 ||| uc (p[4 * i + 1]?.getD 0) <<< 16 ||| uc (p[4 * i + 2]?.getD 0) <<< 8 ||| uc (p[4 * i + 3]?.getD 0)
/-- the next word of a schedule -/
def nextW (l : List W) : W := l[l.length - 16]?.getD 0 + lo0 (l[l.length - 15]?.getD 0) + l[l.length - 7]?.getD 0 + lo1 (l[l.length - 2]?.getD 0)
/-- the first k words of a block's schedule -/
def sched (p : List UInt8) : Nat → List W
  | 0 => []
  | k + 1 => sched p k ++ [if k < 16 then word p k else nextW (sched p k)]
theorem sched_length (p : List UInt8) : ∀ k, (sched p k).length = k
  | 0 => rfl
  | k + 1 => by simp [sched, sched_length p k]
def kTab : List W := [0x428a2f98, 0x71374491, 0xb5c0fbcf, 0xe9b5dba5, 0x3956c25b, 0x59f111f1, 0x923f82a4, 0xab1c5ed5,
  0xd807aa98, 0x12835b01, 0x243185be, 0x550c7dc3, 0x72be5d74, 0x80deb1fe, 0x9bdc06a7, 0xc19bf174,
  0xe49b69c1, 0xefbe4786, 0x0fc19dc6, 0x240ca1cc, 0x2de92c6f, 0x4a7484aa, 0x5cb0a9dc, 0x76f988da,
  0x983e5152, 0xa831c66d, 0xb00327c8, 0xbf597fc7, 0xc6e00bf3, 0xd5a79147, 0x06ca6351, 0x14292967,
  0x27b70a85, 0x2e1b2138, 0x4d2c6dfc, 0x53380d13, 0x650a7354, 0x766a0abb, 0x81c2c92e, 0x92722c85,
  0xa2bfe8a1, 0xa81a664b, 0xc24b8b70, 0xc76c51a3, 0xd192e819, 0xd6990624, 0xf40e3585, 0x106aa070,
  0x19a4c116, 0x1e376c08, 0x2748774c, 0x34b0bcb5, 0x391c0cb3, 0x4ed8aa4a, 0x5b9cca4f, 0x682e6ff3,
  0x748f82ee, 0x78a5636f, 0x84c87814, 0x8cc70208, 0x90befffa, 0xa4506ceb, 0xbef9a3f7, 0xc67178f2]
def h0 : V8 := ⟨0x6a09e667, 0xbb67ae85, 0x3c6ef372, 0xa54ff53a, 0x510e527f, 0x9b05688c, 0x1f83d9ab, 0x5be0cd19⟩
/-- a block taken in -/
def comp (v : V8) (p : List UInt8) : V8 := v.add (v.rnds kTab (sched p 64) 64)
/-- k blocks taken in -/
def eats (v : V8) (l : List UInt8) : Nat → V8
  | 0 => v
  | k + 1 => comp (eats v l k) ((l.drop (64 * k)).take 64)
theorem eats_more (v : V8) (l m : List UInt8) : ∀ k, 64 * k ≤ l.length → eats v (l ++ m) k = eats v l k
  | 0, _ => rfl
  | k + 1, h => by
    simp only [eats]
    rw [eats_more v l m k (by omega), List.drop_append_of_le_length (by omega), List.take_append_of_le_length (by rw [List.length_drop]; omega)]
def padZ (n : Nat) : Nat := (119 - n % 64) % 64
/-- what stands behind n bytes -/
def be64 (n : Nat) : List UInt8 := (List.range 8).map fun i => UInt8.ofNat (n / 256 ^ (7 - i))
def pad (n : Nat) : List UInt8 := 128 :: List.replicate (padZ n) 0 ++ be64 (8 * n % 18446744073709551616)
theorem pad_length (n : Nat) : (pad n).length = 1 + padZ n + 8 := by simp [pad, be64]; omega
theorem pad_whole (n : Nat) : 64 * ((n + (pad n).length) / 64) = n + (pad n).length := by rw [pad_length]; unfold padZ; omega
def outW (x : W) : List UInt8 := [ob (x >>> 24), ob (x >>> 16), ob (x >>> 8), ob x]
def out (v : V8) : List UInt8 := v.list.flatMap outW
theorem out_length (v : V8) : (out v).length = 32 := rfl
/-- the sum of bytes -/
def sum (l : List UInt8) : List UInt8 := out (eats h0 (l ++ pad l.length) ((l.length + (pad l.length).length) / 64))
theorem sum_length (l : List UInt8) : (sum l).length = 32 := out_length _
end Sha
end Go.Proofs.YtipdmhppadapkaaGreatDoor
/-
  Words and bytes as cells; what the walks of SHA-256 ask of them.
-/
namespace Go.Proofs.YtipdmhppadapkaaGreatDoor
open Go.RowKit

namespace Sha
def wcells (l : List W) : List Value := l.map fun x => .int .u32 (u x)
theorem wcells_length (l : List W) : (wcells l).length = l.length := by simp [wcells]
theorem wcells_one (l : List W) : ∀ v ∈ wcells l, v.oneCell' = true := by
  intro v hv; simp only [wcells, List.mem_map] at hv; obtain ⟨x, _, rfl⟩ := hv; rfl
theorem wcells_get (l : List W) (k : Nat) (h : k < l.length) : (wcells l)[k]? = some (.int .u32 (u (l[k]?.getD 0))) := by
  simp [wcells, h]
theorem wcells_set (l : List W) (k : Nat) (x : W) : (wcells l).toArray.setIfInBounds k (.int .u32 (u x)) = (wcells (l.set k x)).toArray := by
  simp [wcells, List.map_set]
/-- a row of n words of which the first are known -/
def row (n : Nat) (l : List W) : List W := l ++ List.replicate (n - l.length) 0
theorem row_length (n : Nat) (l : List W) (h : l.length ≤ n) : (row n l).length = n := by simp [row]; omega
theorem row_set (n : Nat) (l : List W) (x : W) (h : l.length < n) : (row n l).set l.length x = row n (l ++ [x]) := by
  unfold row
  rw [List.set_append_right _ _ (Nat.le_refl _), Nat.sub_self, show n - l.length = (n - (l ++ [x]).length) + 1 by simp; omega, List.replicate_succ]
  simp
theorem row_get (n : Nat) (l : List W) (k : Nat) (h : k < l.length) : (row n l)[k]? = l[k]? := by
  unfold row; rw [List.getElem?_append_left h]
/-- the cells of a row of words that is being filled -/
def rcells (n : Nat) (l : List W) : Array Value := (wcells (row n l)).toArray
theorem rcells_size (n : Nat) (l : List W) (h : l.length ≤ n) : (rcells n l).size = n := by simp [rcells, wcells_length, row_length n l h]
theorem rcells_set (n : Nat) (l : List W) (x : W) (h : l.length < n) : (rcells n l).setIfInBounds l.length (.int .u32 (u x)) = rcells n (l ++ [x]) := by
  unfold rcells; rw [wcells_set, row_set n l x h]
theorem rcells_get (n : Nat) (l : List W) (k : Nat) (h : k < l.length) : (rcells n l)[k]? = some (.int .u32 (u (l[k]?.getD 0))) := by
  unfold rcells
  rw [List.getElem?_toArray, wcells_get _ _ (by simp [row]; omega), row_get n l k h]
theorem rcells_any (n : Nat) (l : List W) (k : Nat) (hl : l.length ≤ n) (h : k < n) : ∃ v, (rcells n l)[k]? = some v := ⟨_, Array.getElem?_eq_getElem (by rw [rcells_size n l hl]; exact h)⟩
end Sha

theorem reg_storeInt {P : Program} {o : Oper} {a : Act} {w : World} {ty : TypeId} {x y : Tmp} (ho : o.op = .store ty (.tmp x) (.tmp y)) (hi : (P.info? ty).map (·.size) = some 1) {g off : Nat} {t : TypeId} {cs : Array Value} {k : IntKind} {z : Int} (hb : Blk w g t cs)
    (hx : a.tmps[x]?.getD undef = .pointer (some ⟨g, off, none⟩)) (hy : a.tmps[y]?.getD undef = .int k z) (hoff : off < cs.size) : (execOp a.eval o).run P w = .ok .skip (w.setCell ⟨g, off, none⟩ (.int k z)) := by
  have hc := hb.cell off
  rw [Array.getElem?_eq_getElem hoff] at hc
  have hf := hb.frozen off
  obtain ⟨i, hinf, hsz⟩ := Option.map_eq_some_iff.1 hi
  have hs : (sizeOf ty).run P w = .ok 1 w := by simp [sizeOf, typeInfo, hinf, hsz]
  simp [execOp, ho, Act.eval, hx, hy, Instr.storeAt, storeCells, Value.cells, hs, go_sem, hc, hf]
theorem wp_skip0 {P : Program} {o : Oper} {a : Act} {w w' : World} {K : Act → World → Prop} {Q : Exit → Act → World → Prop} (h : (execOp a.eval o).run P w = .ok .skip w') (hK : K (a.put o.dst undef) w') : Flow.OpWp P o a w K Q := by
  refine .inl ?_
  unfold Oper.wp
  rw [h]
  exact hK
theorem grown_setL (w : World) (g k' : Nat) (v : Value) : w.grownBy (w.setCell ⟨g, k', none⟩ v) (some g) := ⟨rfl, rfl, rfl, by simp, fun k _ hk => heap_setCell_other w ⟨g, k', none⟩ k v (fun e => hk (by simp [e]))⟩

section
variable {P : Program} {o : Oper} {a : Act} {w : World}
/-- the address of an element, at an index that is known -/
theorem reg_ixA {t e : TypeId} {x ix : Operand} {g off n s : Nat} {k : IntKind} {z : Int} (i q : Nat) (ho : o.op = .indexAddr t x ix) (hu : P.underlying t = some (.array n e)) (hs : (P.info? e).map (·.size) = some s)
    (hx : a.eval x = .pointer (some ⟨g, off, none⟩)) (hix : a.eval ix = .int k z) (hz : z = (i : Int)) (hi : i < n) (hq : q = off + i * s) : (execOp a.eval o).run P w = .ok (.value (.pointer (some ⟨g, q, none⟩))) w := by
  have hu' : P.underlying t = some (.array (P.arrayLen t) (P.elem t)) := by simp [Program.arrayLen, Program.elem, hu]
  obtain ⟨inf, hinf, hsz⟩ := Option.map_eq_some_iff.1 hs
  have he : P.elem t = e := by simp [Program.elem, hu]
  have hn : P.arrayLen t = n := by simp [Program.arrayLen, hu]
  have hr := run_indexAt_array (P := P) w t ⟨g, off, none⟩ k z hu'
  have hS : (sizeOf e).run P w = .ok s w := by simp [sizeOf, typeInfo, hinf, hsz]
  rw [he, hn, if_pos (by omega), hS] at hr
  simp only [Result.andThen_ok, hz, Int.toNat_natCast, Addr.add_mid] at hr
  subst hq
  simp [execOp, ho, hx, hix, hz, hr]
theorem reg_ixS {t e : TypeId} {x ix : Operand} {g off n c s : Nat} {k : IntKind} {z : Int} (i q : Nat) (ho : o.op = .indexAddr t x ix) (hu : P.underlying t = some (.slice e)) (hs : (P.info? e).map (·.size) = some s)
    (hx : a.eval x = .slice (some ⟨g, off, none⟩) n c) (hix : a.eval ix = .int k z) (hz : z = (i : Int)) (hi : i < n) (hq : q = off + i * s) : (execOp a.eval o).run P w = .ok (.value (.pointer (some ⟨g, q, none⟩))) w := by
  have hu' : P.underlying t = some (.slice (P.elem t)) := by simp [Program.elem, hu]
  obtain ⟨inf, hinf, hsz⟩ := Option.map_eq_some_iff.1 hs
  have he : P.elem t = e := by simp [Program.elem, hu]
  have hr := run_indexAt_slice (P := P) w t ⟨g, off, none⟩ n c k z hu'
  have hS : (sizeOf e).run P w = .ok s w := by simp [sizeOf, typeInfo, hinf, hsz]
  rw [he, if_pos (by omega), hS] at hr
  simp only [Result.andThen_ok, hz, Int.toNat_natCast, Addr.add_mid] at hr
  subst hq
  simp [execOp, ho, hx, hix, hz, hr]
end

namespace Sha
section
variable {P : Program}
theorem run_part_word (w : World) {e : TypeId} (he : P.underlying e = some (.int .u32)) (l : List W) (i : Nat) (h : i < l.length) :
    (part e (wcells l).toArray i).run P w = .ok (.int .u32 (u (l[i]?.getD 0))) w := by
  have hc : (wcells l).toArray[i]? = some (.int .u32 (u (l[i]?.getD 0))) := by
    rw [List.getElem?_toArray]; exact wcells_get l i h
  simp [part, isAgg, run_underlying he, hc]
theorem wordIndex {t e : TypeId} {n : Nat} (hu : P.underlying t = some (.array n e)) (he : P.underlying e = some (.int .u32)) (hs : (P.info? e).map (·.size) = some 1) (l : List W) (h : l.length = n) (k : Nat) (hk : k < n) (w : World) :
    (Instr.index t (.agg (wcells l).toArray) (.int .i64 (k : Int))).run P w = .ok (.int .u32 (u (l[k]?.getD 0))) w := by
  have h1 : (0 : Int) ≤ k ∧ (k : Int) < (n : Int) := by omega
  obtain ⟨inf, hinf, hsz⟩ := Option.map_eq_some_iff.1 hs
  have hS : (sizeOf e).run P w = .ok 1 w := by simp [sizeOf, typeInfo, hinf, hsz]
  have h2 := run_part_word w he l k (by omega)
  simp only [Instr.index, asIntOf, Sem.run_bind, Sem.run_pure, Result.andThen_ok, run_underlying hu, if_pos h1, hS, Int.toNat_natCast, Nat.mul_one, h2]
end
/-- the first k words added -/
def mixW (v x : V8) (k : Nat) : List W := (List.range 8).map fun i => if i < k then v.list[i]?.getD 0 + x.list[i]?.getD 0 else v.list[i]?.getD 0
theorem mixW_length (v x : V8) (k : Nat) : (mixW v x k).length = 8 := by simp [mixW]
theorem mixW_all (v x : V8) : mixW v x 8 = (v.add x).list := by rfl
theorem mixW_get (v x : V8) (k : Nat) (h : k < 8) : (mixW v x k)[k]?.getD 0 = v.list[k]?.getD 0 := by
  simp [mixW, h]
theorem mixW_succ (v x : V8) (k : Nat) (h : k < 8) : (mixW v x k).set k (v.list[k]?.getD 0 + x.list[k]?.getD 0) = mixW v x (k + 1) := by
  apply List.ext_getElem?
  intro i
  rw [List.getElem?_set]
  by_cases e : k = i
  · subst e
    simp [mixW, h]
  · rw [if_neg e]
    simp only [mixW, List.getElem?_map]
    cases hr : (List.range 8)[i]? with
    | none => rfl
    | some j =>
      have hj : j = i := by
        rw [List.getElem?_range] at hr
        · simp at hr; exact hr.symm
        · have := (List.getElem?_eq_some_iff.1 hr).1; simpa using this
      subst hj
      simp only [Option.map_some]
      have : (j < k) = (j < k + 1) := by apply propext; constructor <;> intro h <;> omega
      simp only [this]
theorem wtail_set (l : List W) (tail : List Value) (k : Nat) (x : W) (h : k < l.length) : (wcells l ++ tail).toArray.setIfInBounds k (.int .u32 (u x)) = (wcells (l.set k x) ++ tail).toArray := by
  simp only [List.setIfInBounds_toArray]
  rw [List.set_append_left _ _ (by rw [wcells_length]; exact h)]
  simp [wcells, List.map_set]
theorem wtail_get (l : List W) (tail : List Value) (k : Nat) (h : k < l.length) : (wcells l ++ tail)[k]? = some (.int .u32 (u (l[k]?.getD 0))) := by
  rw [List.getElem?_append_left (by rw [wcells_length]; exact h), wcells_get l k h]
theorem V8.list_length (v : V8) : v.list.length = 8 := rfl
end Sha
theorem blk_new1 (w : World) (o : Obj) (t : TypeId) (cs : Array Value) : Blk ((w.alloc o).alloc (.cells cs t)) (w.heap.size + 1) t cs := by
  have := Blk.new (w.alloc o) t cs
  rw [World.size_alloc] at this; exact this
end Go.Proofs.YtipdmhppadapkaaGreatDoor
/-
  Walks: turns of words (bits.RotateLeft32, sha.mixed, sha.turned; portreeveref03.turn).
-/
namespace Go.Proofs.YtipdmhppadapkaaGreatDoor
open Go.RowKit Sha

theorem rot_and (k : Int) (m : Nat) (hk : k = (m : Int) - 32) (h1 : 1 ≤ m) (h2 : m ≤ 31) : bits .and .u64 (IntKind.u64.wrap k) 31 = (m : Int) := by
  have e : IntKind.u64.wrap k = ((18446744073709551584 + m : Nat) : Int) := by
    subst hk
    simp only [IntKind.wrap, IntKind.bits, IntKind.signed]; simp; omega
  have h : (31 : Int) = ((31 : Nat) : Int) := rfl
  rw [e, h, u64_and_nat _ 31 (by omega) (by decide)]
  congr 1
  rw [show (31 : Nat) = 2 ^ 5 - 1 from rfl, Nat.and_two_pow_sub_one_eq_mod]
  omega

theorem wrap_neg (a : Nat) (h : a ≤ 100) : IntKind.i64.wrap (-(a : Int)) = -(a : Int) := IntWalk.i64_in _ (by omega)
theorem u_shr3 (x : W) : u x / (8 : Int) = u (x >>> 3) := u_shr x 3
theorem u_shr10 (x : W) : u x / (1024 : Int) = u (x >>> 10) := u_shr x 10
theorem u_shl24 (x : W) : IntKind.u32.wrap (u x * (16777216 : Int)) = u (x <<< 24) := u_shl x 24
theorem u_shl16 (x : W) : IntKind.u32.wrap (u x * (65536 : Int)) = u (x <<< 16) := u_shl x 16
theorem u_shl8 (x : W) : IntKind.u32.wrap (u x * (256 : Int)) = u (x <<< 8) := u_shl x 8
attribute [local go_sem] u_shr3 u_shr10 u_xor u_and u_or u_not u_add u_add' u_shr u_shl u_shl' rotr_alt
set_option maxRecDepth 100000 in
set_option maxHeartbeats 400000 in
theorem rotl_any (x : W) (k : Int) (m : Nat) (hk : k = (m : Int) - 32) (h1 : 1 ≤ m) (h2 : m ≤ 31) (w : World) :
    Calls Tryz.prog 173 #[.int .u32 (u x), .int .i64 k] w fun e w' => e = .returned (.int .u32 (u (rotr x (32 - m)))) ∧ w = w' := by
  have hb := rot_and k m hk h1 h2
  have hx := u_nonneg x
  have hx2 := u_lt x
  clear hk
  go_enter Tryz.func173, Tryz.ntmps173
  go_wp2
  go_ret
  exact ⟨by rw [← rotr_alt, show 32 - (32 - m) = m by omega]; rfl, rfl⟩
theorem rotl_k (x : W) (k : Int) (h1 : -31 ≤ k) (h2 : k ≤ -1) (w : World) :
    Calls Tryz.prog 173 #[.int .u32 (u x), .int .i64 k] w fun e w' => e = .returned (.int .u32 (u (rotr x (-k).toNat))) ∧ w = w' := by
  have := rotl_any x k (k + 32).toNat (by omega) (by omega) (by omega) w
  rwa [show 32 - (k + 32).toNat = (-k).toNat by omega] at this

theorem rotl_same (x : W) (k : Int) (h1 : -31 ≤ k) (h2 : k ≤ -1) (w : World) :
    Calls Tryz.prog 173 #[.int .u32 (u x), .int .i64 k] w fun e w' => e = .returned (.int .u32 (u (rotr x (-k).toNat))) ∧ w' = w :=
  (rotl_k x k h1 h2 w).mono fun _ _ ⟨h, k⟩ => ⟨h, k.symm⟩

set_option maxRecDepth 100000 in
set_option maxHeartbeats 400000 in
theorem mixed_lo0 (x : W) (w : World) :
    Calls Tryz.prog 152 #[.int .u32 (u x), .int .i64 7, .int .i64 18, .int .i64 3] w fun e w' => e = .returned (.int .u32 (u (lo0 x))) ∧ ∃ q, w' = w.drewN q := by
  have n1 : IntKind.i64.wrap (-7) = -7 := wrap_neg 7 (by omega)
  have n2 : IntKind.i64.wrap (-18) = -18 := wrap_neg 18 (by omega)
  go_enter Tryz.func152, Tryz.ntmps152
  go_wp2_with fail
  go_quiet ((go_at_call 173; refine Calls.quiet_of_same (rotl_same _ _ (by omega) (by omega) _)))
  go_wp2
  go_ret
  exact ⟨rfl, nq, rfl⟩
set_option maxRecDepth 100000 in
set_option maxHeartbeats 400000 in
theorem mixed_lo1 (x : W) (w : World) :
    Calls Tryz.prog 152 #[.int .u32 (u x), .int .i64 17, .int .i64 19, .int .i64 10] w fun e w' => e = .returned (.int .u32 (u (lo1 x))) ∧ ∃ q, w' = w.drewN q := by
  have n1 : IntKind.i64.wrap (-17) = -17 := wrap_neg 17 (by omega)
  have n2 : IntKind.i64.wrap (-19) = -19 := wrap_neg 19 (by omega)
  go_enter Tryz.func152, Tryz.ntmps152
  go_wp2_with fail
  go_quiet ((go_at_call 173; refine Calls.quiet_of_same (rotl_same _ _ (by omega) (by omega) _)))
  go_wp2
  go_ret
  exact ⟨rfl, nq, rfl⟩
set_option maxRecDepth 100000 in
set_option maxHeartbeats 400000 in
theorem turned_any (x : W) (a b c : Int) (a1 : 1 ≤ a) (a2 : a ≤ 31) (b1 : 1 ≤ b) (b2 : b ≤ 31) (c1 : 1 ≤ c) (c2 : c ≤ 31) (w : World) :
    Calls Tryz.prog 153 #[.int .u32 (u x), .int .i64 a, .int .i64 b, .int .i64 c] w fun e w' => e = .returned (.int .u32 (u (rotr x a.toNat ^^^ rotr x b.toNat ^^^ rotr x c.toNat))) ∧ w' = w := by
  go_enter Tryz.func153, Tryz.ntmps153
  go_wp2_with fail
  refine (rotl_k x (-a) (by omega) (by omega) w).mono ?_
  rintro e w' ⟨rfl, rfl⟩
  go_wp2_with fail
  refine (rotl_k x (-b) (by omega) (by omega) w).mono ?_
  rintro e w' ⟨rfl, rfl⟩
  go_wp2_with fail
  refine (rotl_k x (-c) (by omega) (by omega) w).mono ?_
  rintro e w' ⟨rfl, rfl⟩
  go_wp2
  go_ret
  exact ⟨rfl, rfl⟩
set_option maxRecDepth 100000 in
set_option maxHeartbeats 400000 in
theorem rturn_any (x : W) (n : Int) (h1 : 1 ≤ n) (h2 : n ≤ 31) (w : World) :
    Calls Tryz.prog 90 #[.int .u32 (u x), .int .i64 n] w fun e w' => e = .returned (.int .u32 (u (rotr x n.toNat))) ∧ ∃ q, w' = w.drewN q := by
  obtain ⟨m, rfl⟩ := Int.eq_ofNat_of_zero_le (a := n) (by omega)
  go_enter Tryz.func90, Tryz.ntmps90
  have n1 : IntKind.i64.wrap (32 - (m : Int)) = 32 - (m : Int) := IntWalk.i64_in _ (by omega)
  go_wp2_with fail
  go_quiet (fail)
  go_wp2
  go_ret
  exact ⟨rfl, nq, rfl⟩
def zw (n : Nat) : Array Value := rcells n []
theorem zero64w (w : World) : (zeroValue 167).run Tryz.prog w = .ok (.agg (zw 64)) w := by kernel_rfl
theorem u_notm (x : W) : bits .xor .u32 IntKind.u32.max (u x) = u (~~~x) := u_not x
theorem u_add3' (a b c : W) : (u a + u b + u c) % (4294967296 : Int) = u (a + b + c) := by rw [← u_add', ← u_add', Int.emod_add_emod]
theorem u_add4' (a b c d : W) : (u a + u b + u c + u d) % (4294967296 : Int) = u (a + b + c + d) := by rw [← u_add', ← u_add3', Int.emod_add_emod]
end Go.Proofs.YtipdmhppadapkaaGreatDoor
/-
  Walk: sha's state.block: a block taken in.
-/
namespace Go.Proofs.YtipdmhppadapkaaGreatDoor
open Go.RowKit Sha

attribute [local go_sem] u_uc u_shl24 u_shl16 u_shl8 u_shr3 u_shr10 u_xor u_and u_or u_not u_add u_add' u_shr u_shl u_shl' rotr_alt
set_option maxRecDepth 100000 in
set_option maxHeartbeats 4000000 in
theorem block_any (G : Nat) (tS : TypeId) (A : Option Addr) (c : Nat) (p : List UInt8) (hp' : p.length = 64) (v : V8) (tail : List Value) (w : World)
    (hG : Blk w G tS (wcells v.list ++ tail).toArray) (hR : Rd w w.heap.size 1 A 64 (bcells p)) {tK : TypeId} (hk : Blk w 1 tK (wcells kTab).toArray) (hG1 : G ≠ 1) :
    Calls Tryz.prog 126 #[.pointer (some ⟨G, 0, none⟩), .slice A 64 c] w fun e w' =>
      e = .returned (.tuple #[]) ∧ Blk w' G tS (wcells (comp v p).list ++ tail).toArray ∧ Chg (fun k => k = G) w w' := by
  have hp := Lib.hid hp'
  have HG := Lib.hid hG
  have HK := Lib.hid hk
  have HG1 := Lib.hid hG1
  clear hp' hG hk hG1
  have hz := zero64w
  go_enter Tryz.func126, Tryz.ntmps126
  go_wp2_with fail
  have hw0 := Blk.new w 167 (zw 64)
  have hB0 : Below w.heap.size w (w.alloc (.cells (zw 64) 167)) := (Below.refl _ _).alloc (Nat.le_refl _) _
  clear hz
  generalize w.alloc (.cells (zw 64) 167) = W0 at *
  go_loopw [20] (fun i wr => ∃ k : Nat, k ≤ 16 ∧ i = .int .i64 k ∧ Blk wr w.heap.size 167 (rcells 64 (sched p k)) ∧ Below w.heap.size w wr) (fun i _ => 16 - (intOf i).toNat)
  case atStart => exact ⟨0, by omega, rfl, hw0, hB0⟩
  case round =>
    obtain ⟨k, hk16, rfl, hw, hB⟩ := hrel
    by_cases hlt : k < 16
    · --<1
      obtain ⟨b, off, rfl, hab, hcs⟩ := (hR.below hB).range (by omega)
      have q0 := hcs (4 * k) _ (bcells_get p _ (by rw [hp.out]; omega))
      have q1 := hcs (4 * k + 1) _ (bcells_get p _ (by rw [hp.out]; omega))
      have q2 := hcs (4 * k + 2) _ (bcells_get p _ (by rw [hp.out]; omega))
      have q3 := hcs (4 * k + 3) _ (bcells_get p _ (by rw [hp.out]; omega))
      clear hcs
      have l0 : 4 * (k : Int) < (64 : Int) := by omega
      have g0 : 0 ≤ 4 * (k : Int) := by omega
      have t0 : (4 * (k : Int)).toNat = 4 * k := by omega
      have l1 : 4 * (k : Int) + 1 < (64 : Int) := by omega
      have g1 : 0 ≤ 4 * (k : Int) + 1 := by omega
      have t1 : (4 * (k : Int) + 1).toNat = 4 * k + 1 := by omega
      have l2 : 4 * (k : Int) + 2 < (64 : Int) := by omega
      have g2 : 0 ≤ 4 * (k : Int) + 2 := by omega
      have t2 : (4 * (k : Int) + 2).toNat = 4 * k + 2 := by omega
      have l3 : 4 * (k : Int) + 3 < (64 : Int) := by omega
      have g3 : 0 ≤ 4 * (k : Int) + 3 := by omega
      have t3 : (4 * (k : Int) + 3).toNat = 4 * k + 3 := by omega
      have e0 : IntKind.i64.wrap (4 * (k : Int)) = 4 * (k : Int) := IntWalk.i64_in _ (by omega)
      have e1 : IntKind.i64.wrap (4 * (k : Int) + 1) = 4 * (k : Int) + 1 := IntWalk.i64_in _ (by omega)
      have e2 : IntKind.i64.wrap (4 * (k : Int) + 2) = 4 * (k : Int) + 2 := IntWalk.i64_in _ (by omega)
      have e3 : IntKind.i64.wrap (4 * (k : Int) + 3) = 4 * (k : Int) + 3 := IntWalk.i64_in _ (by omega)
      go_wp2_with fail
      go_still_tail 34, (by kernel_rfl)
      change wpList _ _ _ _ _ wr.drew
      clear e0 e1 e2 e3 l0 l1 l2 l3 g0 g1 g2 g3 t0 t1 t2 t3 q0 q1 q2 q3
      have hw2 := hw.drew
      have hB2 := hB.drew
      generalize wr.drew = W2 at *
      clear hw hB
      have hl := sched_length p k
      obtain ⟨v1, hc1⟩ : ∃ v, W2.cell? ⟨w.heap.size, k, none⟩ = some v := by rw [hw2.cell]; exact rcells_any 64 _ k (by rw [hl]; omega) (by omega)
      have hf1 := hw2.frozen k
      go_wp2_with fail
      have hb2 := hw2.set_ k (.int .u32 (u (word p k)))
      have hBB := hB2.setCell (p := ⟨w.heap.size, k, none⟩) (by simp) (.int .u32 (u (word p k)))
      have e5 : sched p (k + 1) = sched p k ++ [word p k] := by simp [sched, hlt]
      have e6 := rcells_set 64 (sched p k) (word p k) (by rw [hl]; omega)
      rw [hl] at e6
      rw [e6, ← e5] at hb2
      go_roundw
      case rel => exact ⟨k + 1, by omega, by go_num, hb2, hBB⟩
      case measure => simp [intOf]; omega
      --1>
    · obtain rfl : k = 16 := by omega
      go_wp2_with fail
      go_loopw [6] (fun i wr => ∃ k : Nat, 16 ≤ k ∧ k ≤ 64 ∧ i = .int .i64 k ∧ Blk wr w.heap.size 167 (rcells 64 (sched p k)) ∧ Below w.heap.size w wr) (fun i _ => 64 - (intOf i).toNat)
      case atStart => exact ⟨16, by omega, by omega, rfl, hw, hB⟩
      case round =>
        clear hw hB hw0 hB0
        obtain ⟨k, hk16, hk64, rfl, hw, hB⟩ := hrel
        by_cases hlt : k < 64
        · --<2
          obtain ⟨m, hm⟩ : ∃ m, k = m + 16 := ⟨k - 16, by omega⟩
          obtain ⟨L, hL⟩ : ∃ L, L = sched p k := ⟨_, rfl⟩
          have hLl : L.length = k := by rw [hL, sched_length]
          obtain ⟨x16, h16⟩ : ∃ x, x = L[m]?.getD 0 := ⟨_, rfl⟩
          obtain ⟨x15, h15⟩ : ∃ x, x = L[m + 1]?.getD 0 := ⟨_, rfl⟩
          obtain ⟨x7, h7⟩ : ∃ x, x = L[m + 9]?.getD 0 := ⟨_, rfl⟩
          obtain ⟨x2, h2⟩ : ∃ x, x = L[m + 14]?.getD 0 := ⟨_, rfl⟩
          have R16 := Lib.hid (rcells_get 64 L m (by omega))
          have R15 := Lib.hid (rcells_get 64 L (m + 1) (by omega))
          have R7 := Lib.hid (rcells_get 64 L (m + 9) (by omega))
          have R2 := Lib.hid (rcells_get 64 L (m + 14) (by omega))
          rw [← h16] at R16
          rw [← h15] at R15
          rw [← h7] at R7
          rw [← h2] at R2
          have hnx : sched p (k + 1) = L ++ [x16 + lo0 x15 + x7 + lo1 x2] := by
            show sched p k ++ _ = _
            rw [← hL, if_neg (by omega), nextW, hLl, h16, h15, h7, h2, hm]
            simp
          rw [← hL] at hw
          have Hnx := Lib.hid hnx
          have HLl := Lib.hid hLl
          have Hm := Lib.hid hm
          clear h16 h15 h7 h2 hnx hL hLl hm
          go_wp2_with fail
          have hLl := HLl.out
          have hm := Hm.out
          refine Flow.wp_region_flow (w.heap.size) [(23, fun b => b = w.heap.size)] [(4, fun W => Blk W w.heap.size 167 (rcells 64 L)), (8, fun W => Blk W w.heap.size 167 (rcells 64 L)), (14, fun W => Blk W w.heap.size 167 (rcells 64 L)), (19, fun W => Blk W w.heap.size 167 (rcells 64 L)), (23, fun W => Blk W w.heap.size 167 (rcells 64 L))] (by kernel_rfl) (by kernel_rfl) hB.drew.size (Flow.nz_cons (by rintro b rfl; exact Nat.le_refl _) Flow.nz_nil) (Flow.facts_cons (hw.drew) (Flow.kept_blk id) (Flow.fz_cons (Flow.no_follow (by kernel_rfl)) Flow.fz_nil) (Flow.facts_cons (hw.drew) (Flow.kept_blk id) (Flow.fz_cons (Flow.no_follow (by kernel_rfl)) Flow.fz_nil) (Flow.facts_cons (hw.drew) (Flow.kept_blk id) (Flow.fz_cons (Flow.no_follow (by kernel_rfl)) Flow.fz_nil) (Flow.facts_cons (hw.drew) (Flow.kept_blk id) (Flow.fz_cons (Flow.no_follow (by kernel_rfl)) Flow.fz_nil) (Flow.facts_cons (hw.drew) (Flow.kept_blk id) (Flow.fz_cons (Flow.no_follow (by kernel_rfl)) Flow.fz_nil) Flow.facts_nil))))) ?_
          refine Flow.pass_old 6 (Flow.met_none rfl) (.inl rfl) (by kernel_rfl) (by kernel_rfl) rfl ?_
          refine Flow.pass_old 6 (Flow.met_none rfl) (.inl rfl) (by kernel_rfl) (by kernel_rfl) rfl ?_
          refine Flow.pass_val (.int .i64 ((m : Int))) (Flow.met_none rfl) (fun a W hH => ?_) ?_
          · have e0 := Flow.see_new 64 1 hH.sees (by kernel_rfl) (by kernel_rfl) rfl rfl
            go_simp; first | done | rfl | (rw [IntWalk.i64_in _ (by omega)]; first | done | rfl | omega | (simp; done))
          refine Flow.pass_val (.pointer (some ⟨w.heap.size, m, none⟩)) (Flow.met_none rfl) (fun a W hH => ?_) ?_
          · have e0 := Flow.see_old 4 hH.sees (by kernel_rfl) (by kernel_rfl) rfl
            have e1 := Flow.see_new 65 2 hH.sees (by kernel_rfl) (by kernel_rfl) rfl rfl
            exact reg_ixA (s := 1) (m) _ rfl Tryz.underlying167 (by kernel_rfl) (by first | exact e0 | simpa [Act.eval] using e0 | (simp [Act.eval])) (by first | exact e1 | simpa [Act.eval] using e1 | (simp [Act.eval])) (by first | rfl | (simp; done) | omega) (by omega) (by first | rfl | omega)
          refine Flow.pass_val (.int .u32 (u (x16))) (Flow.met_none rfl) (fun a W hH => ?_) ?_
          · have e0 := Flow.see_new 66 3 hH.sees (by kernel_rfl) (by kernel_rfl) rfl rfl
            have fa0 : (fun W => Blk W w.heap.size 167 (rcells 64 L)) W := hH.fact _ (List.mem_of_getElem? (i := 0) rfl) rfl
            have cc := (fa0.cell _).trans R16.out; go_simp
          refine Flow.pass_old 6 (Flow.met_none rfl) (.inl rfl) (by kernel_rfl) (by kernel_rfl) rfl ?_
          refine Flow.pass_val (.int .i64 (((m + 1 : Nat) : Int))) (Flow.met_none rfl) (fun a W hH => ?_) ?_
          · have e0 := Flow.see_new 68 5 hH.sees (by kernel_rfl) (by kernel_rfl) rfl rfl
            go_simp; first | done | rfl | (rw [IntWalk.i64_in _ (by omega)]; first | done | rfl | omega | (simp; done))
          refine Flow.pass_val (.pointer (some ⟨w.heap.size, m + 1, none⟩)) (Flow.met_none rfl) (fun a W hH => ?_) ?_
          · have e0 := Flow.see_old 4 hH.sees (by kernel_rfl) (by kernel_rfl) rfl
            have e1 := Flow.see_new 69 6 hH.sees (by kernel_rfl) (by kernel_rfl) rfl rfl
            exact reg_ixA (s := 1) (m + 1) _ rfl Tryz.underlying167 (by kernel_rfl) (by first | exact e0 | simpa [Act.eval] using e0 | (simp [Act.eval])) (by first | exact e1 | simpa [Act.eval] using e1 | (simp [Act.eval])) (by first | rfl | (simp; done) | omega) (by omega) (by first | rfl | omega)
          refine Flow.pass_val (.int .u32 (u (x15))) (Flow.met_none rfl) (fun a W hH => ?_) ?_
          · have e0 := Flow.see_new 70 7 hH.sees (by kernel_rfl) (by kernel_rfl) rfl rfl
            have fa1 : (fun W => Blk W w.heap.size 167 (rcells 64 L)) W := hH.fact _ (List.mem_of_getElem? (i := 1) rfl) rfl
            have cc := (fa1.cell _).trans R15.out; go_simp
          refine Flow.pass_step (Reg.eqs (.int .u32 (u (lo0 x15)))) (fun _ _ => Flow.kept_eqs _ _) (Flow.met_none rfl) (fun a W hH => ?_) ?_
          · have e0 := Flow.see_new 71 8 hH.sees (by kernel_rfl) (by kernel_rfl) rfl rfl
            refine Reg.wp_call rfl Tryz.func152 rfl (by kernel_rfl) (by simp [Act.eval, e0]) (mixed_lo0 x15 W) ?_
            rintro e w' ⟨rfl, nq, rfl⟩
            exact ⟨_, rfl, _, rfl, below_drewN (Below.refl _ _) nq, rfl⟩
          refine Flow.pass_val (.int .u32 (u (x16 + lo0 x15))) (Flow.met_none rfl) (fun a W hH => ?_) ?_
          · have e0 := Flow.see_new 67 4 hH.sees (by kernel_rfl) (by kernel_rfl) rfl rfl
            have e1 := Flow.see_new 72 9 hH.sees (by kernel_rfl) (by kernel_rfl) rfl rfl
            go_simp; first | done | rfl
          refine Flow.pass_old 6 (Flow.met_none rfl) (.inl rfl) (by kernel_rfl) (by kernel_rfl) rfl ?_
          refine Flow.pass_val (.int .i64 (((m + 9 : Nat) : Int))) (Flow.met_none rfl) (fun a W hH => ?_) ?_
          · have e0 := Flow.see_new 74 11 hH.sees (by kernel_rfl) (by kernel_rfl) rfl rfl
            go_simp; first | done | rfl | (rw [IntWalk.i64_in _ (by omega)]; first | done | rfl | omega | (simp; done))
          refine Flow.pass_val (.pointer (some ⟨w.heap.size, m + 9, none⟩)) (Flow.met_none rfl) (fun a W hH => ?_) ?_
          · have e0 := Flow.see_old 4 hH.sees (by kernel_rfl) (by kernel_rfl) rfl
            have e1 := Flow.see_new 75 12 hH.sees (by kernel_rfl) (by kernel_rfl) rfl rfl
            exact reg_ixA (s := 1) (m + 9) _ rfl Tryz.underlying167 (by kernel_rfl) (by first | exact e0 | simpa [Act.eval] using e0 | (simp [Act.eval])) (by first | exact e1 | simpa [Act.eval] using e1 | (simp [Act.eval])) (by first | rfl | (simp; done) | omega) (by omega) (by first | rfl | omega)
          refine Flow.pass_val (.int .u32 (u (x7))) (Flow.met_none rfl) (fun a W hH => ?_) ?_
          · have e0 := Flow.see_new 76 13 hH.sees (by kernel_rfl) (by kernel_rfl) rfl rfl
            have fa2 : (fun W => Blk W w.heap.size 167 (rcells 64 L)) W := hH.fact _ (List.mem_of_getElem? (i := 2) rfl) rfl
            have cc := (fa2.cell _).trans R7.out; go_simp
          refine Flow.pass_val (.int .u32 (u (x16 + lo0 x15 + x7))) (Flow.met_none rfl) (fun a W hH => ?_) ?_
          · have e0 := Flow.see_new 73 10 hH.sees (by kernel_rfl) (by kernel_rfl) rfl rfl
            have e1 := Flow.see_new 77 14 hH.sees (by kernel_rfl) (by kernel_rfl) rfl rfl
            go_simp; first | done | rfl
          refine Flow.pass_old 6 (Flow.met_none rfl) (.inl rfl) (by kernel_rfl) (by kernel_rfl) rfl ?_
          refine Flow.pass_val (.int .i64 (((m + 14 : Nat) : Int))) (Flow.met_none rfl) (fun a W hH => ?_) ?_
          · have e0 := Flow.see_new 79 16 hH.sees (by kernel_rfl) (by kernel_rfl) rfl rfl
            go_simp; first | done | rfl | (rw [IntWalk.i64_in _ (by omega)]; first | done | rfl | omega | (simp; done))
          refine Flow.pass_val (.pointer (some ⟨w.heap.size, m + 14, none⟩)) (Flow.met_none rfl) (fun a W hH => ?_) ?_
          · have e0 := Flow.see_old 4 hH.sees (by kernel_rfl) (by kernel_rfl) rfl
            have e1 := Flow.see_new 80 17 hH.sees (by kernel_rfl) (by kernel_rfl) rfl rfl
            exact reg_ixA (s := 1) (m + 14) _ rfl Tryz.underlying167 (by kernel_rfl) (by first | exact e0 | simpa [Act.eval] using e0 | (simp [Act.eval])) (by first | exact e1 | simpa [Act.eval] using e1 | (simp [Act.eval])) (by first | rfl | (simp; done) | omega) (by omega) (by first | rfl | omega)
          refine Flow.pass_val (.int .u32 (u (x2))) (Flow.met_none rfl) (fun a W hH => ?_) ?_
          · have e0 := Flow.see_new 81 18 hH.sees (by kernel_rfl) (by kernel_rfl) rfl rfl
            have fa3 : (fun W => Blk W w.heap.size 167 (rcells 64 L)) W := hH.fact _ (List.mem_of_getElem? (i := 3) rfl) rfl
            have cc := (fa3.cell _).trans R2.out; go_simp
          refine Flow.pass_step (Reg.eqs (.int .u32 (u (lo1 x2)))) (fun _ _ => Flow.kept_eqs _ _) (Flow.met_none rfl) (fun a W hH => ?_) ?_
          · have e0 := Flow.see_new 82 19 hH.sees (by kernel_rfl) (by kernel_rfl) rfl rfl
            refine Reg.wp_call rfl Tryz.func152 rfl (by kernel_rfl) (by simp [Act.eval, e0]) (mixed_lo1 x2 W) ?_
            rintro e w' ⟨rfl, nq, rfl⟩
            exact ⟨_, rfl, _, rfl, below_drewN (Below.refl _ _) nq, rfl⟩
          refine Flow.pass_val (.int .u32 (u (x16 + lo0 x15 + x7 + lo1 x2))) (Flow.met_none rfl) (fun a W hH => ?_) ?_
          · have e0 := Flow.see_new 78 15 hH.sees (by kernel_rfl) (by kernel_rfl) rfl rfl
            have e1 := Flow.see_new 83 20 hH.sees (by kernel_rfl) (by kernel_rfl) rfl rfl
            go_simp; first | done | rfl
          refine Flow.pass_val (.pointer (some ⟨w.heap.size, k, none⟩)) (Flow.met_none rfl) (fun a W hH => ?_) ?_
          · have e0 := Flow.see_old 4 hH.sees (by kernel_rfl) (by kernel_rfl) rfl
            have e1 := Flow.see_new 63 0 hH.sees (by kernel_rfl) (by kernel_rfl) rfl rfl
            exact reg_ixA (s := 1) (k) _ rfl Tryz.underlying167 (by kernel_rfl) (by first | exact e0 | simpa [Act.eval] using e0 | (simp [Act.eval])) (by first | exact e1 | simpa [Act.eval] using e1 | (simp [Act.eval])) (by first | rfl | (simp; done) | omega) (by omega) (by first | rfl | omega)
          refine Flow.pass_gen (fun _ W => Blk W w.heap.size 167 ((rcells 64 L).setIfInBounds k (.int .u32 (u (x16 + lo0 x15 + x7 + lo1 x2))))) (Flow.kept_of (fun _ _ _ c h => h.chg c id) (Flow.kz_cons (Flow.no_follow (by kernel_rfl)) Flow.kz_nil)) (Flow.met_none rfl) (fun a W hH => ?_) ?_
          · have e0 := Flow.see_new 85 22 hH.sees (by kernel_rfl) (by kernel_rfl) rfl rfl
            have e1 := Flow.see_new 84 21 hH.sees (by kernel_rfl) (by kernel_rfl) rfl rfl
            have fa4 : (fun W => Blk W w.heap.size 167 (rcells 64 L)) W := hH.fact _ (List.mem_of_getElem? (i := 4) rfl) rfl
            refine wp_skip0 (reg_storeInt rfl (by kernel_rfl) fa4 e0 e1 (by rw [rcells_size 64 L (by omega)]; omega)) ?_
            exact ⟨_, rfl, Chg.grown (grown_setL _ _ _ _) (by rintro j h; cases h; rfl), fa4.set_ _ _⟩
          refine Flow.pass_end [none, none, none, none, none, none, none, none, none, none, none, none, none, none, none, none, none, none, none, none, none, none, none, none, none, none, none, none, none, none, none, none, none, none, none, none, none, none, none, none, none, none, none, none, none, none, none, none, none, none, none, none, none, none, none, none, none, none, none, none, none, none, none, some 63, some 64, some 65, some 66, some 67, some 68, some 69, some 70, some 71, some 72, some 73, some 74, some 75, some 76, some 77, some 78, some 79, some 80, some 81, some 82, some 83, some 84, some 85, none, none, none, none, none, none, none, none, none, none, none, none, none, none, none, none, none, none, none, none, none, none, none, none, none, none, none, none, none, none, none, none, none, none, none, none, none, none, none, none, none, none, none, none, none, none, none, none, none, none, none, none, none, none, none, none, none, none, none, none, none, none, none, none, none, none, none, none, none, none, none, none, none, none, none, none, none, none, none, none, none, none, none, none, none, none, none, none, none, none, none, none, none, none, none, none, none, none, none, none, none, none, none, none, none, none, none, none, none, none, none, none, none] (by kernel_rfl) ?_
          intro f gg w9 hB9 hfa hT hfg
          have h23 := hT 23 _ (by kernel_rfl) rfl
          have B9 := hB.drew.trans hB9
          clear hfa hT hfg hB9
          have e6 := rcells_set 64 L (x16 + lo0 x15 + x7 + lo1 x2) (by rw [hLl]; exact hlt)
          rw [hLl] at e6
          rw [e6, ← Hnx.out] at h23
          clear e6 hLl hm
          simp only [Reg.sel]
          go_wp2
          go_roundw
          case rel => exact ⟨k + 1, by omega, by omega, by go_num, h23, B9⟩
          case measure => simp [intOf]; omega
          --2>
        · obtain rfl : k = 64 := by omega
          obtain ⟨SP, hSP⟩ : ∃ SP, SP = sched p 64 := ⟨_, rfl⟩
          have hl : SP.length = 64 := by rw [hSP, sched_length]
          rw [← hSP] at hw
          have HSP := Lib.hid hSP
          have HL := Lib.hid hl
          have hG1 := (HG.out).below hB (HG.out).lt
          have hK1 := (HK.out).below hB (HK.out).lt
          clear hSP hl hlt hk16 hk64
          go_wp2_with fail
          have HG1 := Lib.hid hG1
          have c0 : wr.cell? ⟨G, 0, none⟩ = some (.int .u32 (u v.a)) := by rw [hG1.cell]; rfl
          have c1 : wr.cell? ⟨G, 1, none⟩ = some (.int .u32 (u v.b)) := by rw [hG1.cell]; rfl
          have c2 : wr.cell? ⟨G, 2, none⟩ = some (.int .u32 (u v.c)) := by rw [hG1.cell]; rfl
          have c3 : wr.cell? ⟨G, 3, none⟩ = some (.int .u32 (u v.d)) := by rw [hG1.cell]; rfl
          have c4 : wr.cell? ⟨G, 4, none⟩ = some (.int .u32 (u v.e)) := by rw [hG1.cell]; rfl
          have c5 : wr.cell? ⟨G, 5, none⟩ = some (.int .u32 (u v.f)) := by rw [hG1.cell]; rfl
          have c6 : wr.cell? ⟨G, 6, none⟩ = some (.int .u32 (u v.g)) := by rw [hG1.cell]; rfl
          have c7 : wr.cell? ⟨G, 7, none⟩ = some (.int .u32 (u v.h)) := by rw [hG1.cell]; rfl
          clear hG1
          go_quiet (fail)
          clear c0 c1 c2 c3 c4 c5 c6 c7
          have hw2 := hw.drewN nq
          have hG2 := (HG1.out).drewN nq
          have hK2 := hK1.drewN nq
          have hB2 := below_drewN hB nq
          generalize wr.drewN nq = W1 at *
          clear hw HG1 hK1 hB
          go_wp2_with fail
          go_loopw [7, 8, 9, 10, 11, 12, 13, 14, 126] (fun sa sb sc sd se sf sg sh i wr => ∃ k : Nat, k ≤ 64 ∧ i = .int .i64 k ∧ sa = .int .u32 (u (v.rnds kTab SP k).a) ∧ sb = .int .u32 (u (v.rnds kTab SP k).b) ∧ sc = .int .u32 (u (v.rnds kTab SP k).c) ∧ sd = .int .u32 (u (v.rnds kTab SP k).d) ∧
            se = .int .u32 (u (v.rnds kTab SP k).e) ∧ sf = .int .u32 (u (v.rnds kTab SP k).f) ∧ sg = .int .u32 (u (v.rnds kTab SP k).g) ∧ sh = .int .u32 (u (v.rnds kTab SP k).h) ∧ ∃ q, wr = W1.drewN q) (fun _ _ _ _ _ _ _ _ i _ => 64 - (intOf i).toNat)
          case atStart => exact ⟨0, by omega, rfl, rfl, rfl, rfl, rfl, rfl, rfl, rfl, rfl, 0, rfl⟩
          case round =>
            obtain ⟨k, hk64, rfl, rfl, rfl, rfl, rfl, rfl, rfl, rfl, rfl, q, rfl⟩ := hrel
            by_cases hlt : k < 64
            · --<3
              have hw3 := hw2.drewN q
              have hK3 := hK2.drewN q
              have cw : (W1.drewN q).cell? ⟨w.heap.size, k, none⟩ = some (.int .u32 (u (SP[k]?.getD 0))) := (hw3.cell k).trans (rcells_get 64 SP k (by rw [HL.out]; exact hlt))
              have ck : (W1.drewN q).cell? ⟨1, k, none⟩ = some (.int .u32 (u (kTab[k]?.getD 0))) := (hK3.cell k).trans (by rw [List.getElem?_toArray]; exact wcells_get kTab k hlt)
              obtain ⟨V, hV⟩ : ∃ V, V = v.rnds kTab SP k := ⟨_, rfl⟩
              obtain ⟨xk, hxk⟩ : ∃ x, x = kTab[k]?.getD 0 := ⟨_, rfl⟩
              have hnx : v.rnds kTab SP (k + 1) = V.rnd xk (SP[k]?.getD 0) := by show (v.rnds kTab SP k).rnd _ _ = _; rw [← hV, ← hxk]
              rw [← hV] at *
              rw [← hxk] at ck
              have Hnx := Lib.hid hnx
              clear hnx hV hxk hw3 hK3
              obtain ⟨va, vb, vc, vd, ve, vf, vg, vh⟩ := V
              obtain ⟨W2, hW2⟩ : ∃ W2, W2 = W1.drewN q := ⟨_, rfl⟩
              rw [← hW2] at cw ck ⊢
              have HW2 := Lib.hid hW2
              clear hW2
              go_wp2_with fail
              go_quiet ((go_at_call 153; refine Calls.quiet_of_same (turned_any _ _ _ _ (by omega) (by omega) (by omega) (by omega) (by omega) (by omega) _)))
              clear cw ck
              go_wp2_with fail
              refine (turned_any _ _ _ _ (by omega) (by omega) (by omega) (by omega) (by omega) (by omega) _).mono ?_
              rintro e w' ⟨rfl, rfl⟩
              go_wp2
              go_roundw
              case rel =>
                (repeat apply Exists.intro)
                refine ⟨?_, rfl⟩
                refine ⟨k + 1, by omega, by go_num, ?_, ?_, ?_, ?_, ?_, ?_, ?_, ?_, q + nq, by rw [HW2.out, World.drewN_drewN]⟩
                all_goals rw [Hnx.out]
                all_goals first
                  | rfl
                  | (simp only [V8.rnd, up0, up1, ← ch_alt, ← maj_alt]; rfl)
              case measure => simp [intOf]; omega
              --3>
            · obtain rfl : k = 64 := by omega
              obtain ⟨V, hV⟩ : ∃ V, V = v.rnds kTab SP 64 := ⟨_, rfl⟩
              have hcomp : comp v p = v.add V := by unfold comp; rw [← HSP.out, hV]
              rw [← hV] at *
              have hG3 := hG2.drewN q
              have hB3 := below_drewN hB2 q
              have HC := Lib.hid hcomp
              generalize W1.drewN q = W2 at *
              clear hV hcomp hG2 hK2 hw2 hB2 hlt hk64
              obtain ⟨va, vb, vc, vd, ve, vf, vg, vh⟩ := V
              go_wp2_with fail
              have hCh : Chg (fun b => b = G) w W2 := Chg.of_below hB3 (fun b h1 h2 => by omega)
              go_loopw [183] (fun i wr => ∃ k : Nat, k ≤ 8 ∧ i = .int .i64 k ∧ Blk wr G tS (wcells (mixW v ⟨va, vb, vc, vd, ve, vf, vg, vh⟩ k) ++ tail).toArray ∧ Chg (fun b => b = G) w wr) (fun i _ => 8 - (intOf i).toNat)
              case atStart => exact ⟨0, by omega, rfl, hG3, hCh⟩
              case round =>
                clear hG3 hB3 hCh
                obtain ⟨k, hk8, rfl, hG4, hCh⟩ := hrel
                by_cases hlt : k < 8
                · have hix : ∀ W, (Instr.index 110 (.agg #[.int .u32 (u va), .int .u32 (u vb), .int .u32 (u vc), .int .u32 (u vd), .int .u32 (u ve), .int .u32 (u vf), .int .u32 (u vg), .int .u32 (u vh)]) (.int .i64 (k : Int))).run Tryz.prog W = .ok (.int .u32 (u ((V8.list ⟨va, vb, vc, vd, ve, vf, vg, vh⟩)[k]?.getD 0))) W := fun W => wordIndex Tryz.underlying110 Tryz.underlying23 (by kernel_rfl) (V8.list ⟨va, vb, vc, vd, ve, vf, vg, vh⟩) rfl k hlt W
                  obtain ⟨x, hx⟩ : ∃ x, x = (V8.list ⟨va, vb, vc, vd, ve, vf, vg, vh⟩)[k]?.getD 0 := ⟨_, rfl⟩
                  obtain ⟨y, hy⟩ : ∃ y, y = v.list[k]?.getD 0 := ⟨_, rfl⟩
                  have hml : k < (mixW v ⟨va, vb, vc, vd, ve, vf, vg, vh⟩ k).length := by rw [mixW_length]; exact hlt
                  have cg : wr.cell? ⟨G, k, none⟩ = some (.int .u32 (u y)) := (hG4.cell k).trans (by rw [List.getElem?_toArray, wtail_get _ _ _ hml, mixW_get _ _ _ hlt, hy])
                  have hf := hG4.frozen k
                  have hs2 := wtail_set (mixW v ⟨va, vb, vc, vd, ve, vf, vg, vh⟩ k) tail k (y + x) hml
                  rw [hx, hy, mixW_succ _ _ _ hlt, ← hx, ← hy] at hs2
                  have HS2 := Lib.hid hs2
                  rw [← hx] at hix
                  clear hs2 hx hy hml
                  go_wp2_with fail
                  have g0 : (0 : Int) ≤ (k : Int) := by omega
                  have l0 : (k : Int) < (8 : Int) := by omega
                  go_still_tail 10, (by kernel_rfl)
                  change wpList _ _ _ _ _ wr.drew
                  have hG5 := hG4.drew
                  have hC5 := hCh.drew
                  have hf5 := hG5.frozen k
                  have cg5 : wr.drew.cell? ⟨G, k, none⟩ = some (.int .u32 (u y)) := cg
                  generalize wr.drew = W5 at *
                  clear cg hf hix hG4 hCh
                  go_wp2_with fail
                  have hG6 := hG5.set_ k (.int .u32 (u (y + x)))
                  rw [HS2.out] at hG6
                  have hC6 : Chg (fun b => b = G) w (W5.setCell ⟨G, k, none⟩ (.int .u32 (u (y + x)))) := hC5.trans (Chg.grown (grown_setL _ _ _ _) (by rintro j h; cases h; rfl))
                  go_roundw
                  case rel =>
                    (repeat apply Exists.intro)
                    refine ⟨?_, rfl⟩
                    exact ⟨k + 1, by omega, by go_num, hG6, hC6⟩
                  case measure => simp [intOf]; omega
                · obtain rfl : k = 8 := by omega
                  rw [mixW_all, ← HC.out] at hG4
                  go_wp2
                  go_end0
                  exact ⟨rfl, hG4, hCh⟩
end Go.Proofs.YtipdmhppadapkaaGreatDoor
/-
  SHA's state in memory; slices cut ahead; the state's parts.
-/
namespace Go.Proofs.YtipdmhppadapkaaGreatDoor
open Go.RowKit Sha

namespace Sha
/-- what a slice is cut to: k elements less ahead -/
def CutB (A A' : Option Addr) (n k : Nat) : Prop := ∀ W B xs, Rd W B 1 A n xs → Rd W B 1 A' (n - k) (xs.drop k)
section
variable {P : Program} {ops : Array Oper} {rest : List Oper} {o : Oper} {a : Act} {Q : Exit → Act → World → Prop}
/-- b[k:] of bytes -/
theorem wpList_from (w : World) {t e : TypeId} (hgd : o.guard = none) (hu : P.underlying t = some (.slice e)) (hs : (P.info? e).map (·.size) = some 1) (x lo : Operand) (ho : o.op = .slice t x (some lo) none none)
    (A : Option Addr) (n c : Nat) (hx : a.eval x = .slice A n c) (kk : IntKind) (z : Int) (hlo : a.eval lo = .int kk z) (k : Nat) (hz : z = (k : Int)) (hk : k ≤ n) (hnc : n ≤ c)
    (h : ∀ A', CutB A A' n k → wpList P ops Q rest (a.put o.dst (.slice A' (n - k) (c - k))) w) : wpList P ops Q (o :: rest) a w := by
  have hu' : P.underlying t = some (.slice (P.elem t)) := by simp [Program.elem, hu]
  have he : P.elem t = e := by simp [Program.elem, hu]
  obtain ⟨inf, hinf, hsz⟩ := Option.map_eq_some_iff.1 hs
  have hS : (sizeOf e).run P w = .ok 1 w := by simp [sizeOf, typeInfo, hinf, hsz]
  have hr := run_slice_l (P := P) (w := w) t A n c hu' kk z (by omega) (by omega)
  rw [he, hS] at hr
  simp only [Result.andThen_ok, sliced, hz, Int.toNat_natCast] at hr
  refine wpList_plain hgd fun K hK => ?_
  unfold Oper.wp
  have hrun : (execOp a.eval o).run P w = .ok (.value (.slice (if c = k then A else A.map (·.add (k * 1))) (n - k) (c - k))) w := by
    simp [execOp, ho, hx, hlo, hz, run_sliceAt_slice (P := P) w t _ _ _ _ hu', hr]
  rw [hrun]
  refine hK _ _ (h _ fun W B xs hR => ?_)
  have := hR.cut (k := k) (cap := c) hnc
  rw [Nat.mul_one] at this
  simpa using this
end
def sliceLen : Value → Nat
  | .slice _ n _ => n
  | _ => 0
/-- a state's cells -/
def stCells (v : V8) (sm : List UInt8) (n : Nat) : List Value := wcells v.list ++ (bcells sm ++ [.int .u64 (n : Int)])
theorem stCells_length (v : V8) (sm : List UInt8) (n : Nat) (h : sm.length = 64) : (stCells v sm n).length = 73 := by simp [stCells, wcells_length, bcells_length, h, V8.list_length]
theorem stCells_n (v : V8) (sm : List UInt8) (n : Nat) (h : sm.length = 64) : (stCells v sm n)[72]? = some (.int .u64 (n : Int)) := by
  unfold stCells
  rw [List.getElem?_append_right (by simp [wcells_length, V8.list_length]), List.getElem?_append_right (by simp [wcells_length, bcells_length, V8.list_length, h])]
  simp [wcells_length, bcells_length, V8.list_length, h]
theorem stCells_setn (v : V8) (sm : List UInt8) (n m : Nat) (h : sm.length = 64) : (stCells v sm n).toArray.setIfInBounds 72 (.int .u64 (m : Int)) = (stCells v sm m).toArray := by
  simp only [List.setIfInBounds_toArray]
  congr 1
  unfold stCells
  rw [List.set_append_right _ _ (by simp [wcells_length, V8.list_length]), List.set_append_right _ _ (by simp [wcells_length, bcells_length, V8.list_length, h])]
  simp [wcells_length, bcells_length, V8.list_length, h]
theorem splice_mid {α : Type} (x y z n : List α) (o : Nat) (ho : o ≤ y.length) (hn : o + n.length ≤ y.length) (k : Nat) (hk : k = x.length + o) : splice (x ++ (y ++ z)) k n = x ++ ((y.take o ++ (n ++ y.drop (o + n.length))) ++ z) := by
  subst hk
  unfold splice
  have e1 : (x ++ (y ++ z)).take (x.length + o) = x ++ y.take o := by
    rw [List.take_append, List.take_of_length_le (by omega), Nat.add_sub_cancel_left, List.take_append_of_le_length ho]
  have e2 : (x ++ (y ++ z)).drop (x.length + o + n.length) = y.drop (o + n.length) ++ z := by
    rw [Nat.add_assoc, List.drop_append, List.drop_of_length_le (by omega), Nat.add_sub_cancel_left, List.nil_append, List.drop_append_of_le_length hn]
  rw [e1, e2]
  simp only [List.append_assoc]
theorem stCells_splice (v : V8) (sm : List UInt8) (n o : Nat) (b : List UInt8) (h : sm.length = 64) (hb : o + b.length ≤ 64) :
    (splice (stCells v sm n).toArray.toList (8 + o) (bcells b)).toArray = (stCells v (sm.take o ++ (b ++ sm.drop (o + b.length))) n).toArray := by
  congr 1
  unfold stCells
  have := splice_mid (wcells v.list) (bcells sm) [Value.int .u64 (n : Int)] (bcells b) o (by rw [bcells_length]; omega) (by rw [bcells_length, bcells_length]; omega) (8 + o) (by rw [wcells_length, V8.list_length])
  rw [show (wcells v.list ++ (bcells sm ++ [Value.int .u64 (n : Int)])).toArray.toList = wcells v.list ++ (bcells sm ++ [Value.int .u64 (n : Int)]) from rfl, this]
  simp [bcells, List.map_take, List.map_drop]
theorem fill_length (sm b : List UInt8) (o : Nat) (h : sm.length = 64) (hb : o + b.length ≤ 64) : (sm.take o ++ (b ++ sm.drop (o + b.length))).length = 64 := by simp; omega
end Sha
theorem Blk.rdAtB {w : World} {g : Nat} {t : TypeId} {cs : Array Value} (h : Blk w g t cs) (off n : Nat) (hn : off + n ≤ cs.size) : Rd w w.heap.size 1 (some ⟨g, off, none⟩) n ((cs.toList.drop off).take n) := by
  refine ⟨by rw [List.length_take, List.length_drop, Array.length_toList]; omega, fun k v hv => ⟨_, rfl, h.lt, ?_⟩⟩
  rw [Addr.add_mid, h.cell]
  rw [List.getElem?_take] at hv
  split at hv
  · rw [List.getElem?_drop] at hv; simpa using hv
  · cases hv
/-- the state of SHA at a block: the bytes L were taken in -/
def ShaSt (G : Nat) (L : List UInt8) (w : World) : Prop :=
  ∃ sm : List UInt8, sm.length = 64 ∧ sm.take (L.length % 64) = L.drop (64 * (L.length / 64)) ∧ Blk w G 156 (stCells (eats h0 L (L.length / 64)) sm L.length).toArray
/-- bytes that stay what they are while the block G is written -/
def FarB (G : Nat) (w : World) (A : Option Addr) (n : Nat) (b : List UInt8) : Prop := ∀ w', Chg (fun k => k = G) w w' → Rd w' w'.heap.size 1 A n (bcells b)
theorem FarB.chg {G : Nat} {w w1 : World} {A : Option Addr} {n : Nat} {b : List UInt8} (h : FarB G w A n b) (c : Chg (fun k => k = G) w w1) : FarB G w1 A n b := fun w' c' => h w' (c.trans c')
theorem FarB.cut {G : Nat} {w : World} {A A' : Option Addr} {n k : Nat} {b : List UInt8} (h : FarB G w A n b) (c : CutB A A' n k) : FarB G w A' (n - k) (b.drop k) := fun w' c' => by
  have := c _ _ _ (h w' c')
  rwa [show (bcells b).drop k = bcells (b.drop k) by simp [bcells, List.map_drop]] at this
theorem FarB.of_below {G : Nat} {w : World} {A : Option Addr} {n : Nat} {b : List UInt8} (h : Rd w G 1 A n (bcells b)) (hG : G ≤ w.heap.size) : FarB G w A n b := fun w' c => by
  have := h.chg c hG (fun k hk => by rw [hk]; exact Nat.le_refl _)
  exact this.more (by have := c.size; omega)
theorem FarB.rd {G : Nat} {w : World} {A : Option Addr} {n : Nat} {b : List UInt8} (h : FarB G w A n b) : Rd w w.heap.size 1 A n (bcells b) := h w (Chg.refl _ _)
theorem FarB.front {G : Nat} {w : World} {A : Option Addr} {n : Nat} {b : List UInt8} (h : FarB G w A n b) (k : Nat) (hk : k ≤ n) : FarB G w A k (b.take k) := fun w' c => by
  have := (h w' c).front (k := k) hk
  rwa [Nat.mul_one, show (bcells b).take k = bcells (b.take k) by simp [bcells, List.map_take]] at this
theorem own_baseS {w : World} {base base' : Nat} {e : TypeId} {size : Nat} {v : Value} {n : Nat} {xs : List Value} (h : w.ownsRow base e size v n xs) (hb : base' ≤ base) : w.ownsRow base' e size v n xs := by
  refine ⟨h.1, ?_⟩
  rcases h.2 with h2 | ⟨g, cap, cur, h1, h2, h3⟩
  · exact .inl h2
  · exact .inr ⟨g, cap, cur, h1, Nat.le_trans hb h2, h3⟩
/-- a row of the call's own behind G stays while G is written -/
theorem FarB.of_own {G base : Nat} {w : World} {e : TypeId} {A : Option Addr} {n c : Nat} {b : List UInt8} (h : w.ownsRow base e 1 (.slice A n c) n (bcells b)) (hG : G < base) : FarB G w A n b := fun w' ch =>
  Rd.of_own (own_chg h ch (fun k hk e => by have := (own_some h hk).1; have e : k = G := e; omega))
theorem ShaSt.below {G B : Nat} {L : List UInt8} {w w' : World} (h : ShaSt G L w) (hb : Below B w w') (hG : G < B) : ShaSt G L w' := by
  obtain ⟨sm, h1, h2, h3⟩ := h
  exact ⟨sm, h1, h2, h3.below hb hG⟩
theorem ShaSt.lt {G : Nat} {L : List UInt8} {w : World} (h : ShaSt G L w) : G < w.heap.size := by
  obtain ⟨sm, _, _, h3⟩ := h
  exact h3.lt
theorem own_cap {w : World} {base : Nat} {e : TypeId} {size : Nat} {A : Option Addr} {n c : Nat} {xs : List Value} (h : w.ownsRow base e size (.slice A n c) n xs) : n ≤ c ∧ c ≤ 9223372036854775807 := by
  rcases h.2 with ⟨e1, _⟩ | ⟨g, cap, cur, e1, _, _, h4, h5, _⟩
  · injection e1 with _ e1 e2; omega
  · injection e1 with _ _ e2; simp only [maxLen] at h5; omega
end Go.Proofs.YtipdmhppadapkaaGreatDoor
/-
  Walk: sha's state.write: bytes taken in.
-/
namespace Go.Proofs.YtipdmhppadapkaaGreatDoor
open Go.RowKit Sha

section
variable {P : Program} {ops : Array Oper} {rest : List Oper} {a : Act} {w : World} {Q : Exit → Act → World → Prop} {dst : Option Tmp} {ty : TypeId} {pos : String} {aft : Array Edge} {gd : Option (Nat × Bool)}
theorem at_slice (t : TypeId) {x : Operand} {lo hi mx : Option Operand} (h : wpList P ops Q (⟨dst, .slice t x lo hi mx, ty, pos, aft, gd⟩ :: rest) a w) : wpList P ops Q (⟨dst, .slice t x lo hi mx, ty, pos, aft, gd⟩ :: rest) a w := h
end

set_option maxRecDepth 100000 in
set_option maxHeartbeats 4000000 in
theorem write_any (G : Nat) (A : Option Addr) (n c : Nat) (b L : List UInt8) (w : World) (hS : ShaSt G L w) (hF : FarB G w A n b) (hnc : n ≤ c) (hc : c ≤ 9223372036854775807) (hLn : L.length + n ≤ 1000000000)
    {tK : TypeId} (hK : Blk w 1 tK (wcells kTab).toArray) (hG1 : G ≠ 1) :
    Calls Tryz.prog 82 #[.pointer (some ⟨G, 0, none⟩), .slice A n c] w fun e w' => e = .returned (.tuple #[]) ∧ ShaSt G (L ++ b) w' ∧ Chg (fun k => k = G) w w' := by
  obtain ⟨sm, hsm', hrest, hb⟩ := hS
  have hbl : b.length = n := by have := hF.rd.len; rw [bcells_length] at this; omega
  obtain ⟨N, hN⟩ : ∃ N, N = L.length := ⟨_, rfl⟩
  obtain ⟨T, hT⟩ : ∃ T, T = N + n := ⟨_, rfl⟩
  obtain ⟨LL, hLL⟩ : ∃ LL, LL = L ++ b := ⟨_, rfl⟩
  have HLL := Lib.hid hLL.symm
  have HT : Hid (LL.length = T) := Lib.hid (by rw [hLL, List.length_append, hbl, hT, hN])
  have HGK : Hid (¬ (1 = G)) := Lib.hid (fun e => hG1 e.symm)
  have HGK' := Lib.hid hG1
  have HK := Lib.hid hK
  rw [← hN] at hb hrest hLn
  have hr64 : N % 64 < 64 := Nat.mod_lt _ (by omega)
  have hTb : T ≤ 1000000000 := by omega
  have hsm := Lib.hid hsm'
  have hcn : w.cell? ⟨G, 72, none⟩ = some (.int .u64 (N : Int)) := (hb.cell 72).trans (by rw [List.getElem?_toArray]; exact stCells_n _ sm N hsm')
  have hfn := hb.frozen 72
  have hW1 := hb.set_ 72 (.int .u64 (T : Int))
  rw [stCells_setn _ _ _ _ hsm'] at hW1
  have hC1 : Chg (fun k => k = G) w (w.setCell ⟨G, 72, none⟩ (.int .u64 (T : Int))) := Chg.grown (grown_setL _ _ _ _) (by rintro j h; cases h; rfl)
  have hTe : (N : Int) + (n : Int) = (T : Int) := by omega
  have HTn := Lib.hid hT
  have HNL := Lib.hid hN
  have hrest' := hrest
  have Hbl := Lib.hid hbl
  have HLn := Lib.hid hLL
  clear hT hN hrest hbl hLL hG1 hK hsm'
  obtain ⟨v0, hv0⟩ : ∃ v0, v0 = eats h0 L (N / 64) := ⟨_, rfl⟩
  rw [← hv0] at hb hW1
  have Hv0 := Lib.hid hv0
  clear hv0
  by_cases hat : N % 64 = 0
  · clear hrest'
    have hat' : (N : Int) % 64 = 0 := by omega
    have Hat := Lib.hid hat
    clear hat hr64
    go_enter Tryz.func82, Tryz.ntmps82
    go_wp2_with fail
    generalize w.setCell ⟨G, 72, none⟩ (.int .u64 (T : Int)) = W1 at *
    have hF1 := hF.chg hC1
    clear hTe hat' hcn hfn hF
    obtain ⟨m0, hm0'⟩ : ∃ m0, m0 = N / 64 := ⟨_, rfl⟩
    have e0 : T - 64 * m0 = n := by have := HTn.out; have := Hat.out; omega
    have hm0 : 64 * m0 ≤ T := by have := HTn.out; have := Hat.out; omega
    have hc0 : T - 64 * m0 ≤ c := by omega
    have hdr : LL.drop (64 * m0) = b := by
      rw [HLn.out, List.drop_append, List.drop_of_length_le (by have := HNL.out; have := Hat.out; omega), List.nil_append]
      have := HNL.out
      have := Hat.out
      rw [show 64 * m0 - L.length = 0 by omega, List.drop_zero]
    have hF0 : FarB G W1 A (T - 64 * m0) (LL.drop (64 * m0)) := by rw [e0, hdr]; exact hF1
    have hb0 : Blk W1 G 156 (stCells (eats h0 LL m0) sm T).toArray := by
      rw [HLn.out, eats_more h0 L b m0 (by have := HNL.out; have := Hat.out; omega), hm0', ← Hv0.out]; exact hW1
    have hsm0 := hsm
    have hE : (Value.slice A n c) = .slice A (T - 64 * m0) c := by rw [e0]
    rw [hE]
    clear hF1 hW1 hdr e0 hE hm0' hsm
    have hc0' := hc
    have hC0 := hC1
    clear hc hC1 hnc
    go_wp2_with fail
    go_loopw [1] (fun bs wr => ∃ m A1 c1, bs = .slice A1 (T - 64 * m) c1 ∧ 64 * m ≤ T ∧ T - 64 * m ≤ c1 ∧ c1 ≤ 9223372036854775807 ∧ FarB G wr A1 (T - 64 * m) (LL.drop (64 * m)) ∧ Chg (fun k => k = G) w wr ∧
      ∃ sm : List UInt8, Hid (sm.length = 64) ∧ Blk wr G 156 (stCells (eats h0 LL m) sm T).toArray) (fun bs _ => sliceLen bs)
    case atStart => exact ⟨m0, _, _, rfl, hm0, hc0, hc0', hF0, hC0, _, hsm0, hb0⟩
    case round =>
      clear hF0 hC0 hb0 hm0 hc0 hc0'
      obtain ⟨m, A1, c1, rfl, hm, hc1, hc1', hF, hC, sm, hsm, hb⟩ := hrel
      by_cases hlt : 64 ≤ T - 64 * m
      · have h64 : (64 : Int) ≤ ((T - 64 * m : Nat) : Int) := by omega
        have c64 : (64 : Int) ≤ (c1 : Int) := by omega
        generalize hN1 : T - 64 * m = N1 at *
        have HN1 := Lib.hid hN1.symm
        clear hN1
        have hp : ((LL.drop (64 * m)).take 64).length = 64 := by have := HT.out; have := HN1.out; simp; omega
        have hR := (hF.front 64 hlt).rd
        have hK := HK.out.chg hC HGK.out
        obtain ⟨p, hp2⟩ : ∃ p, p = (LL.drop (64 * m)).take 64 := ⟨_, rfl⟩
        rw [← hp2] at hp hR
        have HP := Lib.hid hp
        have HP2 := Lib.hid hp2
        clear hp hp2
        go_wp2_with fail
        refine (block_any G 156 A1 c1 p HP.out (eats h0 LL m) (bcells sm ++ [.int .u64 (T : Int)]) wr hb hR hK HGK'.out).mono ?_
        rintro e w3 ⟨rfl, hb3, hC3⟩
        have hF3 := hF.chg hC3
        have hC4 := hC.trans hC3
        clear hF hC hb hR hK hC3
        go_wp2_with ((with_reducible refine at_slice 22 ?_); refine wpList_from w3 rfl Tryz.underlying22 (by kernel_rfl) _ _ rfl A1 N1 c1 rfl .i64 64 rfl 64 rfl hlt hc1 ?_; intro A2 hcut)
        have hF5 := hF3.cut hcut
        have e1 : N1 - 64 = T - 64 * (m + 1) := by have := HN1.out; omega
        rw [e1, List.drop_drop, show 64 * m + 64 = 64 * (m + 1) by omega] at hF5
        have hb5 : Blk w3 G 156 (stCells (eats h0 LL (m + 1)) sm T).toArray := by
          show Blk w3 G 156 (stCells (comp (eats h0 LL m) ((LL.drop (64 * m)).take 64)) sm T).toArray
          rw [← HP2.out]; exact hb3
        clear hF3 hb3 hcut
        go_roundw
        case rel => exact ⟨m + 1, A2, c1 - 64, by rw [e1], by have := HN1.out; omega, by omega, by omega, hF5, hC4, sm, hsm, hb5⟩
        case measure => simp [sliceLen]; omega
      · have h64 : ((T - 64 * m : Nat) : Int) < (64 : Int) := by omega
        have hmT : m = T / 64 := by omega
        have hmr : T - 64 * m = T % 64 := by omega
        have hlen : (LL.drop (64 * m)).length = T - 64 * m := by rw [List.length_drop, HT.out]
        have HL := Lib.hid hlen
        have hsz : (stCells (eats h0 LL m) sm T).toArray.size = 73 := by rw [List.size_toArray]; exact stCells_length _ _ _ hsm.out
        have HZ := Lib.hid hsz
        have HmT := Lib.hid hmT
        have Hmr := Lib.hid hmr
        generalize hN1 : T - 64 * m = N1 at *
        have hN64 : N1 ≤ 64 := by omega
        have HN1 := Lib.hid hN1.symm
        clear hlen hsz hmT hmr hN1
        go_wp2_with ((with_reducible refine at_copy ?_); refine wpList_copyAt wr Tryz.underlying22 (by kernel_rfl) rfl _ _ rfl G 8 _ hb (some ⟨G, 8, none⟩) 64 64 rfl _ A1 N1 c1 _ rfl hF.rd (bcells_one _) N1 (Nat.min_eq_left hN64).symm (fun _ => rfl) (by rw [HZ.out]; omega) ?_; intro w4 hb4 hg4 hs4)
        go_end0
        have hC4 := hC.trans (Chg.grown (Z := fun k => k = G) hg4 (by rintro j h; cases h; rfl))
        refine ⟨rfl, ⟨(LL.drop (64 * m)) ++ sm.drop N1, ?_, ?_, ?_⟩, hC4⟩
        · rw [List.length_append, HL.out, List.length_drop, hsm.out]; omega
        · rw [HLL.out, HT.out, ← Hmr.out, ← HmT.out, List.take_left' HL.out]
        · rw [HLL.out, HT.out, ← HmT.out]
          have := stCells_splice (eats h0 LL m) sm T 0 (LL.drop (64 * m)) hsm.out (by rw [HL.out]; omega)
          rw [List.take_zero, List.nil_append, HL.out, Nat.zero_add, Nat.add_zero] at this
          rw [← this]
          have e8 : (bcells (LL.drop (64 * m))).take N1 = bcells (LL.drop (64 * m)) := List.take_of_length_le (by rw [bcells_length, HL.out]; exact Nat.le_refl _)
          rw [e8] at hb4
          exact hb4
  · obtain ⟨r, hr⟩ : ∃ r, r = N % 64 := ⟨_, rfl⟩
    have hat' : (N : Int) % 64 = (r : Int) := by omega
    have hr0 : (0 : Int) < (r : Int) := by omega
    have hr1 : r < 64 := by omega
    have hr2 : (r : Int) ≤ (64 : Int) := by omega
    have hr3 : (0 : Int) ≤ (r : Int) := by omega
    have h64r : ¬ (64 = r) := by omega
    have HR := Lib.hid hr
    have hd1 : Hid (64 * (N / 64) + r = N) := Lib.hid (by omega)
    rw [← hr] at hrest'
    have Hrest2 := Lib.hid hrest'
    clear hat hr hr64 hrest'
    have hF1 := hF.chg hC1
    have hrd := hF1.rd
    have hbc : (bcells b).length = n := by rw [bcells_length]; exact Hbl.out
    have HBC := Lib.hid hbc
    clear hbc
    by_cases hfit : r + n < 64
    · have hfi : (r : Int) + (n : Int) < 64 := by omega
      have hmn : n = Nat.min n (64 - r) := (Nat.min_eq_left (by omega)).symm
      have Hmn := Lib.hid hmn
      have hsz : (stCells v0 sm T).toArray.size = 73 := by rw [List.size_toArray]; exact stCells_length _ _ _ hsm.out
      have HZ := Lib.hid hsz
      clear hmn hsz
      go_enter Tryz.func82, Tryz.ntmps82
      go_wp2_with (first
        | ((with_reducible refine at_copy ?_); refine wpList_copyAt (w.setCell ⟨G, 72, none⟩ (.int .u64 (T : Int))) Tryz.underlying22 (by kernel_rfl) rfl _ _ rfl G (8 + r) _ hW1 (some ⟨G, 8 + r, none⟩) (64 - r) (64 - r) rfl _ A n c _ rfl hrd (bcells_one _) n Hmn.out (fun _ => rfl) (by rw [HZ.out]; omega) ?_; intro w4 hb4 hg4 hs4)
        | ((with_reducible refine at_slice 22 ?_); refine wpList_from _ rfl Tryz.underlying22 (by kernel_rfl) _ _ rfl A n c rfl .i64 (n : Int) rfl n rfl (Nat.le_refl _) hnc ?_; intro A2 hcut))
      have hC4 := hC1.trans (Chg.grown (Z := fun k => k = G) hg4 (by rintro j h; cases h; rfl))
      refine bodyPost_ret (results_none rfl _ _ _) rfl ⟨rfl, ⟨sm.take r ++ (b ++ sm.drop (r + n)), ?_, ?_, ?_⟩, hC4⟩
      · have := fill_length sm b r hsm.out (by rw [Hbl.out]; omega)
        rw [Hbl.out] at this; exact this
      · have e1 : (L ++ b).length % 64 = r + n := by rw [List.length_append, ← HNL.out, Hbl.out]; have := hd1.out; omega
        have e2 : 64 * ((L ++ b).length / 64) = 64 * (N / 64) := by rw [List.length_append, ← HNL.out, Hbl.out]; have := hd1.out; omega
        rw [e1, e2, List.drop_append_of_le_length (by rw [← HNL.out]; have := hd1.out; omega), ← Hrest2.out, ← List.append_assoc, List.take_left' (by simp [hsm.out, Hbl.out]; omega)]
      · have e2 : (L ++ b).length / 64 = N / 64 := by rw [List.length_append, ← HNL.out, Hbl.out]; have := hd1.out; omega
        have e3 : (L ++ b).length = T := by rw [List.length_append, ← HNL.out, Hbl.out]; exact HTn.out.symm
        rw [e2, e3, eats_more h0 L b _ (by rw [← HNL.out]; have := hd1.out; omega), ← Hv0.out]
        have := stCells_splice v0 sm T r b hsm.out (by rw [Hbl.out]; omega)
        rw [Hbl.out] at this
        rw [← this]
        rw [List.take_of_length_le (by rw [HBC.out]; exact Nat.le_refl _)] at hb4
        exact hb4
    · have hfi : (64 : Int) ≤ (r : Int) + (n : Int) := by omega
      have hmn : 64 - r = Nat.min n (64 - r) := (Nat.min_eq_right (by omega)).symm
      have Hmn := Lib.hid hmn
      have hsz : (stCells v0 sm T).toArray.size = 73 := by rw [List.size_toArray]; exact stCells_length _ _ _ hsm.out
      have HZ := Lib.hid hsz
      obtain ⟨q, hq⟩ : ∃ q, q = 64 - r := ⟨_, rfl⟩
      have hqi : (r : Int) + (q : Int) = (64 : Int) := by omega
      have hqn : q ≤ n := by omega
      rw [← hq] at Hmn
      have Hq := Lib.hid hq
      clear hmn hsz hfi hfit
      have hqr : Hid (64 - r = q) := Lib.hid hq.symm
      have hq8 : 8 + r + q ≤ 73 := by omega
      clear hq
      go_enter Tryz.func82, Tryz.ntmps82
      go_wp2_with (first
        | ((with_reducible refine at_copy ?_); refine wpList_copyAt (w.setCell ⟨G, 72, none⟩ (.int .u64 (T : Int))) Tryz.underlying22 (by kernel_rfl) rfl _ _ rfl G (8 + r) _ hW1 (some ⟨G, 8 + r, none⟩) (64 - r) (64 - r) rfl _ A n c _ rfl hrd (bcells_one _) q (by rw [hqr.out]; exact Hmn.out) (fun _ => rfl) (by rw [HZ.out]; omega) ?_; intro w4 hb4 hg4 hs4)
        | ((with_reducible refine at_slice 22 ?_); refine wpList_from _ rfl Tryz.underlying22 (by kernel_rfl) _ _ rfl A n c rfl .i64 (q : Int) rfl q rfl hqn hnc ?_; intro A2 hcut))
      have hC4 := hC1.trans (Chg.grown (Z := fun k => k = G) hg4 (by rintro j h; cases h; rfl))
      have hF4 := (hF.chg hC4).cut hcut
      obtain ⟨pb, hpb⟩ : ∃ pb, pb = sm.take r ++ b.take q := ⟨_, rfl⟩
      have hbq : (b.take q).length = q := by rw [List.length_take, Hbl.out]; omega
      have hpl : pb.length = 64 := by rw [hpb, List.length_append, hbq, List.length_take, hsm.out]; have := Hq.out; omega
      have hb5 : Blk w4 G 156 (stCells v0 pb T).toArray := by
        have := stCells_splice v0 sm T r (b.take q) hsm.out (by rw [hbq]; have := Hq.out; omega)
        rw [hbq, List.drop_of_length_le (by rw [hsm.out]; have := Hq.out; omega), List.append_nil, ← hpb] at this
        rw [← this]
        simp only [bcells, List.map_take] at hb4 ⊢
        exact hb4
      have hpR : Rd w4 w4.heap.size 1 (some ⟨G, 8, none⟩) 64 (bcells pb) := by
        have := hb5.rdAtB 8 64 (by rw [List.size_toArray, stCells_length _ _ _ hpl]; omega)
        have e : (((stCells v0 pb T).toArray.toList.drop 8).take 64) = bcells pb := by
          show ((wcells v0.list ++ (bcells pb ++ [Value.int .u64 (T : Int)])).drop 8).take 64 = _
          rw [List.drop_left' (by rw [wcells_length, V8.list_length]), List.take_left' (by rw [bcells_length, hpl])]
        rw [e] at this
        exact this
      have hK4 := HK.out.chg hC4 HGK.out
      have Hpl := Lib.hid hpl
      have Hpb := Lib.hid hpb
      clear hb4 hg4 hs4 hpl hpb hbq hW1 hC1 hF hF1 hrd
      go_wp2_with fail
      refine (block_any G 156 (some ⟨G, 8, none⟩) 64 pb Hpl.out v0 (bcells pb ++ [.int .u64 (T : Int)]) w4 hb5 hpR hK4 HGK'.out).mono ?_
      rintro e w6 ⟨rfl, hb6, hC6⟩
      have hC0 := hC4.trans hC6
      have hF6 := hF4.chg hC6
      clear hb5 hpR hK4 hC4 hC6 hF4 hcut
      obtain ⟨m0, hm0'⟩ : ∃ m0, m0 = N / 64 + 1 := ⟨_, rfl⟩
      have e0 : T - 64 * m0 = n - q := by have := HTn.out; have := hd1.out; have := Hq.out; omega
      have hm0 : 64 * m0 ≤ T := by have := HTn.out; have := hd1.out; have := Hq.out; omega
      have hc0 : T - 64 * m0 ≤ c - q := by omega
      have hN64 : 64 * (N / 64) = L.length - r := by have := HNL.out; have := hd1.out; omega
      have hNle : 64 * (N / 64) ≤ L.length := by have := HNL.out; have := hd1.out; omega
      have hdr : LL.drop (64 * m0) = b.drop q := by
        rw [HLn.out, List.drop_append, List.drop_of_length_le (by have := HNL.out; have := hd1.out; omega), List.nil_append]
        have := HNL.out
        have := hd1.out
        have := Hq.out
        rw [show 64 * m0 - L.length = q by omega]
      have hblk : (LL.drop (64 * (N / 64))).take 64 = pb := by
        rw [HLn.out, List.drop_append_of_le_length hNle, ← Hrest2.out, Hpb.out, List.take_append, List.take_of_length_le (by simp; omega)]
        have e9 : (sm.take r).length = r := by rw [List.length_take, hsm.out]; omega
        rw [e9, ← Hq.out]
      have hF0 : FarB G w6 A2 (T - 64 * m0) (LL.drop (64 * m0)) := by rw [e0, hdr]; exact hF6
      have hb0 : Blk w6 G 156 (stCells (eats h0 LL m0) pb T).toArray := by
        rw [hm0']
        show Blk w6 G 156 (stCells (comp (eats h0 LL (N / 64)) ((LL.drop (64 * (N / 64))).take 64)) pb T).toArray
        rw [hblk]
        have e7 : eats h0 LL (N / 64) = v0 := by rw [HLn.out, eats_more h0 L b _ hNle, Hv0.out]
        rw [e7]; exact hb6
      have hsm0 := Hpl
      have hE : (Value.slice A2 (n - q) (c - q)) = .slice A2 (T - 64 * m0) (c - q) := by rw [e0]
      rw [hE]
      have hc0' : c - q ≤ 9223372036854775807 := by omega
      clear hF6 hb6 hdr e0 hE hm0' hsm hblk hN64 hNle hc hnc hr0 hr1 hr2 hr3 h64r hqi hqn hq8 hat' hcn hfn hTe
      go_wp2_with fail
      go_loopw [1] (fun bs wr => ∃ m A1 c1, bs = .slice A1 (T - 64 * m) c1 ∧ 64 * m ≤ T ∧ T - 64 * m ≤ c1 ∧ c1 ≤ 9223372036854775807 ∧ FarB G wr A1 (T - 64 * m) (LL.drop (64 * m)) ∧ Chg (fun k => k = G) w wr ∧
        ∃ sm : List UInt8, Hid (sm.length = 64) ∧ Blk wr G 156 (stCells (eats h0 LL m) sm T).toArray) (fun bs _ => sliceLen bs)
      case atStart => exact ⟨m0, _, _, rfl, hm0, hc0, hc0', hF0, hC0, _, hsm0, hb0⟩
      case round =>
        clear hF0 hC0 hb0 hm0 hc0 hc0'
        obtain ⟨m, A1, c1, rfl, hm, hc1, hc1', hF, hC, sm, hsm, hb⟩ := hrel
        by_cases hlt : 64 ≤ T - 64 * m
        · have h64 : (64 : Int) ≤ ((T - 64 * m : Nat) : Int) := by omega
          have c64 : (64 : Int) ≤ (c1 : Int) := by omega
          generalize hN1 : T - 64 * m = N1 at *
          have HN1 := Lib.hid hN1.symm
          clear hN1
          have hp : ((LL.drop (64 * m)).take 64).length = 64 := by have := HT.out; have := HN1.out; simp; omega
          have hR := (hF.front 64 hlt).rd
          have hK := HK.out.chg hC HGK.out
          obtain ⟨p, hp2⟩ : ∃ p, p = (LL.drop (64 * m)).take 64 := ⟨_, rfl⟩
          rw [← hp2] at hp hR
          have HP := Lib.hid hp
          have HP2 := Lib.hid hp2
          clear hp hp2
          go_wp2_with fail
          refine (block_any G 156 A1 c1 p HP.out (eats h0 LL m) (bcells sm ++ [.int .u64 (T : Int)]) wr hb hR hK HGK'.out).mono ?_
          rintro e w3 ⟨rfl, hb3, hC3⟩
          have hF3 := hF.chg hC3
          have hC4 := hC.trans hC3
          clear hF hC hb hR hK hC3
          go_wp2_with ((with_reducible refine at_slice 22 ?_); refine wpList_from w3 rfl Tryz.underlying22 (by kernel_rfl) _ _ rfl A1 N1 c1 rfl .i64 64 rfl 64 rfl hlt hc1 ?_; intro A2 hcut)
          have hF5 := hF3.cut hcut
          have e1 : N1 - 64 = T - 64 * (m + 1) := by have := HN1.out; omega
          rw [e1, List.drop_drop, show 64 * m + 64 = 64 * (m + 1) by omega] at hF5
          have hb5 : Blk w3 G 156 (stCells (eats h0 LL (m + 1)) sm T).toArray := by
            show Blk w3 G 156 (stCells (comp (eats h0 LL m) ((LL.drop (64 * m)).take 64)) sm T).toArray
            rw [← HP2.out]; exact hb3
          clear hF3 hb3 hcut
          go_roundw
          case rel => exact ⟨m + 1, A2, c1 - 64, by rw [e1], by have := HN1.out; omega, by omega, by omega, hF5, hC4, sm, hsm, hb5⟩
          case measure => simp [sliceLen]; omega
        · have h64 : ((T - 64 * m : Nat) : Int) < (64 : Int) := by omega
          have hmT : m = T / 64 := by omega
          have hmr : T - 64 * m = T % 64 := by omega
          have hlen : (LL.drop (64 * m)).length = T - 64 * m := by rw [List.length_drop, HT.out]
          have HL := Lib.hid hlen
          have hsz : (stCells (eats h0 LL m) sm T).toArray.size = 73 := by rw [List.size_toArray]; exact stCells_length _ _ _ hsm.out
          have HZ := Lib.hid hsz
          have HmT := Lib.hid hmT
          have Hmr := Lib.hid hmr
          generalize hN1 : T - 64 * m = N1 at *
          have hN64 : N1 ≤ 64 := by omega
          have HN1 := Lib.hid hN1.symm
          clear hlen hsz hmT hmr hN1
          go_wp2_with ((with_reducible refine at_copy ?_); refine wpList_copyAt wr Tryz.underlying22 (by kernel_rfl) rfl _ _ rfl G 8 _ hb (some ⟨G, 8, none⟩) 64 64 rfl _ A1 N1 c1 _ rfl hF.rd (bcells_one _) N1 (Nat.min_eq_left hN64).symm (fun _ => rfl) (by rw [HZ.out]; omega) ?_; intro w4 hb4 hg4 hs4)
          go_end0
          have hC4 := hC.trans (Chg.grown (Z := fun k => k = G) hg4 (by rintro j h; cases h; rfl))
          refine ⟨rfl, ⟨(LL.drop (64 * m)) ++ sm.drop N1, ?_, ?_, ?_⟩, hC4⟩
          · rw [List.length_append, HL.out, List.length_drop, hsm.out]; omega
          · rw [HLL.out, HT.out, ← Hmr.out, ← HmT.out, List.take_left' HL.out]
          · rw [HLL.out, HT.out, ← HmT.out]
            have := stCells_splice (eats h0 LL m) sm T 0 (LL.drop (64 * m)) hsm.out (by rw [HL.out]; omega)
            rw [List.take_zero, List.nil_append, HL.out, Nat.zero_add, Nat.add_zero] at this
            rw [← this]
            have e8 : (bcells (LL.drop (64 * m))).take N1 = bcells (LL.drop (64 * m)) := List.take_of_length_le (by rw [bcells_length, HL.out]; exact Nat.le_refl _)
            rw [e8] at hb4
            exact hb4
end Go.Proofs.YtipdmhppadapkaaGreatDoor
/-
  Walks: sha.Pad, sha's state.end.
-/
namespace Go.Proofs.YtipdmhppadapkaaGreatDoor
open Go.RowKit Sha

theorem putAll_be64 (n : Nat) : putAll [n] 8 false = be64 n := by
  simp only [putAll, List.flatMap_cons, List.flatMap_nil, List.append_nil]
  rfl
theorem pad_eq (n : Nat) (h : n ≤ 1000000000) : 128 :: List.replicate (padZ n) 0 ++ putAll [8 * n] 8 false = pad n := by
  rw [putAll_be64]; unfold pad; rw [Nat.mod_eq_of_lt (by omega)]
theorem pad_cells (z : Nat) : (madeCells (Value.int .u8 0).cells (1 + z)).setIfInBounds 0 (.int .u8 128) = (bcells (128 :: List.replicate z 0)).toArray := by
  have e : madeCells (Value.int .u8 0).cells (1 + z) = (Value.int .u8 0 :: List.replicate z (Value.int .u8 0)).toArray := by
    apply Array.ext
    · simp [size_madeCells]; omega
    · intro i h1 h2
      have := List.replicate_succ (n := z) (a := Value.int .u8 0)
      simp only [← this] at h2 ⊢
      simp [madeCells, Value.cells, Nat.mod_one] at h1 ⊢
  rw [e]
  simp [bcells]
theorem padI (n : Nat) : ∃ r : Nat, (n : Int) % 64 = r ∧ r < 64 ∧ ((119 : Int) - r) % 64 = (padZ n : Nat) := by
  refine ⟨n % 64, by omega, Nat.mod_lt _ (by omega), ?_⟩
  unfold padZ
  omega

set_option maxRecDepth 100000 in
set_option maxHeartbeats 1000000 in
theorem pad_any (n : Nat) (hn : n ≤ 1000000000) (w : World) :
    Calls Tryz.prog 127 #[.int .u64 (n : Int)] w fun e w' => ∃ A c, e = .returned (.slice A (pad n).length c) ∧ w'.ownsRow w.heap.size 5 1 (.slice A (pad n).length c) (pad n).length (bcells (pad n)) ∧ Below w.heap.size w w' := by
  obtain ⟨r, h1, h2, h3⟩ := padI n
  have hpl := pad_length n
  have hpe := pad_eq n hn
  obtain ⟨z, hz⟩ : ∃ z, z = padZ n := ⟨_, rfl⟩
  rw [← hz] at h3 hpl hpe
  have hz64 : z < 64 := by rw [hz]; unfold padZ; omega
  have Hpl := Lib.hid hpl
  have Hpe := Lib.hid hpe
  clear hz hpl hpe
  have hr2 : (r : Int) ≤ 63 := by omega
  go_enter Tryz.func127, Tryz.ntmps127
  go_wp2_with (at_make; refine wpList_makeN w el8 rfl _ _ rfl .u64 .u64 _ _ (1 + z) (1 + z) rfl rfl (by omega) (by omega) (by omega) (by omega) (by omega) ?_; intro w1 hb1 hs1 hB1; (have hsz := size_madeCells (Value.int .u8 0).cells ((1 + z) * 1)); (obtain ⟨vc, hvc⟩ : ∃ v, w1.cell? ⟨w.heap.size, 0, none⟩ = some v := by rw [hb1.cell]; exact ⟨_, Array.getElem?_eq_getElem (by rw [hsz]; omega)⟩); (have hfc := hb1.frozen 0))
  have hb2 := hb1.set_ 0 (.int .u8 128)
  rw [Nat.mul_one, pad_cells] at hb2
  have hB2 := hB1.setCell (p := ⟨w.heap.size, 0, none⟩) (by simp) (.int .u8 128)
  have hs2 : (w1.setCell ⟨w.heap.size, 0, none⟩ (.int .u8 128)).heap.size = w.heap.size + 1 := by simp [hs1]
  generalize w1.setCell ⟨w.heap.size, 0, none⟩ (.int .u8 128) = w2 at *
  have hb3 := Blk.new w2 24 #[.int .u64 (8 * (n : Int))]
  have hb2' := hb2.alloc (.cells #[.int .u64 (8 * (n : Int))] 24)
  have hB3 : Below w.heap.size w (w2.alloc (.cells #[.int .u64 (8 * (n : Int))] 24)) := hB2.alloc (by omega) _
  have hr1 := hb2'.rd (size := 1) (n := 1 + z) (by simp [bcells_length]; omega)
  have hr2' := hb3.rd (size := 1) (n := 1) rfl
  rw [hs2] at hr2'
  have HS2 := Lib.hid hs2
  generalize w2.alloc (.cells #[.int .u64 (8 * (n : Int))] 24) = w3 at *
  refine (putBe64_any (some ⟨w.heap.size, 0, none⟩) (1 + z) (1 + z) (128 :: List.replicate z 0) w3 (some ⟨w.heap.size + 1, 0, none⟩) 1 1 [8 * n] hr1 (by omega) hr2' (by omega)).mono ?_
  rintro e w4 ⟨A4, c4, rfl, hO4, hB4⟩
  rw [Hpe.out] at hO4
  have hB5 := hB3.trans (hB4.mono hB3.size)
  have e9 : 1 + z + 8 * 1 = (pad n).length := by rw [Hpl.out]
  rw [e9] at hO4 ⊢
  have hO5 := own_baseS hO4 hB3.size
  clear e9 hsz hvc hfc hb1 hs1 hs2 hB1 hb2 hB2 hb3 hb2' hr1 hr2' hO4
  go_wp2
  go_ret
  exact ⟨A4, c4, rfl, hO5, hB5⟩

/-- the first k words' bytes, and 0 behind them -/
def outs (v : V8) (k : Nat) : List UInt8 := (v.list.take k).flatMap outW ++ List.replicate (32 - 4 * k) 0
theorem flat4 (l : List W) : (l.flatMap outW).length = 4 * l.length := by
  induction l with
  | nil => rfl
  | cons x l ih => simp only [List.flatMap_cons, List.length_append, ih, List.length_cons]; simp [outW]; omega
theorem outs_length (v : V8) (k : Nat) (h : k ≤ 8) : (outs v k).length = 32 := by
  unfold outs; rw [List.length_append, flat4, List.length_take, List.length_replicate, V8.list_length]; omega
theorem outs_all (v : V8) : outs v 8 = out v := by
  unfold outs out; rw [List.take_of_length_le (by rw [V8.list_length]; exact Nat.le_refl _)]; simp
theorem set4 {α : Type} (x r : List α) (z0 z1 z2 z3 a b c d : α) (k : Nat) (h : x.length = k) : ((((x ++ z0 :: z1 :: z2 :: z3 :: r).set k a).set (k + 1) b).set (k + 2) c).set (k + 3) d = x ++ [a, b, c, d] ++ r := by
  subst h
  rw [List.set_append_right _ _ (Nat.le_refl _), List.set_append_right _ _ (by omega), List.set_append_right _ _ (by omega), List.set_append_right _ _ (by omega)]
  simp
theorem outs_set (v : V8) (k : Nat) (h : k < 8) (x : W) (hx : x = v.list[k]?.getD 0) :
    ((((outs v k).set (4 * k) (ob (x >>> 24))).set (4 * k + 1) (ob (x >>> 16))).set (4 * k + 2) (ob (x >>> 8))).set (4 * k + 3) (ob x) = outs v (k + 1) := by
  unfold outs
  rw [show 32 - 4 * k = (32 - 4 * (k + 1)) + 1 + 1 + 1 + 1 by omega, List.replicate_succ, List.replicate_succ, List.replicate_succ, List.replicate_succ]
  rw [set4 _ _ _ _ _ _ _ _ _ _ _ (by rw [flat4, List.length_take, V8.list_length]; omega)]
  have hk : k < v.list.length := by rw [V8.list_length]; exact h
  rw [List.take_succ_eq_append_getElem hk, List.flatMap_append]
  have : x = v.list[k] := by rw [hx, List.getElem?_eq_getElem hk]; rfl
  simp only [List.flatMap_cons, List.flatMap_nil, List.append_nil, ← this]
  rfl
theorem bset (l : List UInt8) (k : Nat) (c : UInt8) : (bcells l).toArray.setIfInBounds k (.int .u8 (c.toNat : Int)) = (bcells (l.set k c)).toArray := by
  simp [bcells, List.map_set]
theorem u_shr24 (x : W) : u x / (16777216 : Int) = u (x >>> 24) := u_shr x 24
theorem u_shr16 (x : W) : u x / (65536 : Int) = u (x >>> 16) := u_shr x 16
theorem u_shr8 (x : W) : u x / (256 : Int) = u (x >>> 8) := u_shr x 8
theorem u_ob' (x : W) : u x % (256 : Int) = ((ob x).toNat : Int) := by rw [← u_ob, IntKind.wrap_u8']
attribute [local go_sem] u_shr24 u_shr16 u_shr8 u_ob u_ob'
def znode : List UInt8 := List.replicate 32 0
def zn : Array Value := (bcells znode).toArray
theorem zeroNode (w : World) : (zeroValue 39).run Tryz.prog w = .ok (.agg zn) w := by kernel_rfl

set_option maxRecDepth 100000 in
set_option maxHeartbeats 4000000 in
theorem end_any (G : Nat) (L : List UInt8) (w : World) (hS : ShaSt G L w) (hLn : L.length ≤ 100000000) {tK : TypeId} (hK : Blk w 1 tK (wcells kTab).toArray) (hG1 : G ≠ 1) :
    Calls Tryz.prog 83 #[.pointer (some ⟨G, 0, none⟩)] w fun e w' => e = .returned (.agg (bcells (Sha.sum L)).toArray) ∧ Below G w w' := by
  have hz := zeroNode
  obtain ⟨sm, hsm', hrest, hb⟩ := hS
  have hcn : w.cell? ⟨G, 72, none⟩ = some (.int .u64 (L.length : Int)) := (hb.cell 72).trans (by rw [List.getElem?_toArray]; exact stCells_n _ sm _ hsm')
  have hGlt : G < w.heap.size := hb.lt
  have HS : ShaSt G L w := ⟨sm, hsm', hrest, hb⟩
  have hcn2 : (w.alloc (.cells zn 39)).cell? ⟨G, 72, none⟩ = some (.int .u64 (L.length : Int)) := (World.cell?_alloc_lt w _ ⟨G, 72, none⟩ hGlt).trans hcn
  clear hb hrest hsm' hcn
  go_enter Tryz.func83, Tryz.ntmps83
  go_wp2_with fail
  have hN := Blk.new w 39 zn
  have hE0 : Below w.heap.size w (w.alloc (.cells zn 39)) := (Below.refl _ _).alloc (Nat.le_refl _) _
  have hs0 : (w.alloc (.cells zn 39)).heap.size = w.heap.size + 1 := by simp
  generalize w.alloc (.cells zn 39) = W0 at *
  refine (pad_any L.length (by omega) W0).mono ?_
  rintro e W1 ⟨A, c, rfl, hO, hB1⟩
  have hNlt := hN.lt
  have hN1 := hN.below hB1 hNlt
  have hE1 := hE0.trans (hB1.mono hE0.size)
  have hS1 := HS.below hE1 hGlt
  have hK1 := hK.below hE1 hK.lt
  obtain ⟨hc1, hc2⟩ := own_cap hO
  have hpl := pad_length L.length
  have hpz : padZ L.length < 64 := by unfold padZ; omega
  have Hs0 := Lib.hid hs0
  clear hcn2 hN hs0
  have HO := Lib.hid hO
  clear hO
  have Hpl := Lib.hid hpl
  clear hpl
  go_wp2_with fail
  refine (write_any G A (pad L.length).length c (pad L.length) L W1 hS1 (FarB.of_own HO.out (by have := Hs0.out; omega)) hc1 hc2 (by have := Hpl.out; omega) hK1 hG1).mono ?_
  rintro e W2 ⟨rfl, hS2, hC2⟩
  have hN2 := hN1.chg hC2 (show ¬ w.heap.size = G by omega)
  have hsz2 := hC2.size
  have hBG : Below G w W2 := (hE1.mono (Nat.le_of_lt hGlt)).trans (hC2.below (fun k hk => by have hk : k = G := hk; omega) (by have := hE1.size; omega))
  have hGn : w.heap.size < W2.heap.size := hN2.lt
  obtain ⟨sm2, hsm2, _, hb2⟩ := hS2
  obtain ⟨v, hv⟩ : ∃ v, v = eats h0 (L ++ pad L.length) ((L ++ pad L.length).length / 64) := ⟨_, rfl⟩
  rw [← hv] at hb2
  have hout : Sha.sum L = out v := by
    unfold Sha.sum
    rw [hv, List.length_append]
  have Hout := Lib.hid hout
  clear hv hout hS1 hK1 hN1 hE1 hC2 hK HS hE0 hB1
  have hrg : W2.rangeAt G 0 (wcells v.list) := by
    intro j x hx
    rw [Nat.zero_add, hb2.cell, List.getElem?_toArray]
    unfold stCells
    rw [List.getElem?_append_left (List.getElem?_eq_some_iff.1 hx).1]
    exact hx
  have hrg2 : (W2.alloc (.cells zn 39)).rangeAt G 0 (wcells v.list) := by
    intro j x hx
    exact (World.cell?_alloc_lt W2 _ ⟨G, 0 + j, none⟩ (by show G < W2.heap.size; omega)).trans (hrg j x hx)
  clear hb2 hsm2 hrg
  have hN3 := hN2.alloc (.cells zn 39)
  have hM3 := Blk.new W2 39 zn
  have hB3 := hBG.alloc (by omega) (.cells zn 39)
  go_wp2_with ((with_reducible refine at_load 110 ?_); refine wpList_load_mid rfl _ _ rfl G 0 rfl (wcells v.list) _ hrg2 Tryz.underlying110 rfl (by kernel_rfl) ?_)
  generalize W2.alloc (.cells zn 39) = W3 at *
  obtain ⟨g2, hg2⟩ : ∃ g, g = W2.heap.size := ⟨_, rfl⟩
  rw [← hg2] at hM3 hGn ⊢
  clear hrg2 hN2 hBG hg2 hz hsz2
  go_wp2_with fail
  go_loopw [17] (fun i wr => ∃ k : Nat, k ≤ 8 ∧ i = .int .i64 k ∧ Blk wr g2 39 (bcells (outs v k)).toArray ∧ Blk wr w.heap.size 39 zn ∧ Below G w wr) (fun i _ => 8 - (intOf i).toNat)
  case atStart => exact ⟨0, by omega, rfl, hM3, hN3, hB3⟩
  case round =>
    clear hM3 hN3 hB3
    obtain ⟨k, hk8, rfl, hM, hN, hB⟩ := hrel
    by_cases hlt : k < 8
    · have hix : ∀ W, (Instr.index 110 (.agg (wcells v.list).toArray) (.int .i64 (k : Int))).run Tryz.prog W = .ok (.int .u32 (u (v.list[k]?.getD 0))) W := fun W => wordIndex Tryz.underlying110 Tryz.underlying23 (by kernel_rfl) v.list rfl k hlt W
      obtain ⟨x, hx⟩ : ∃ x, x = v.list[k]?.getD 0 := ⟨_, rfl⟩
      rw [← hx] at hix
      have hos := outs_set v k hlt x hx
      have Hos := Lib.hid hos
      have hol : (bcells (outs v k)).toArray.size = 32 := by simp [bcells_length, outs_length v k hk8]
      have hcc : ∀ j, j < 32 → ∃ y, wr.cell? ⟨g2, j, none⟩ = some y := fun j hj => by rw [hM.cell]; exact ⟨_, Array.getElem?_eq_getElem (by rw [hol]; exact hj)⟩
      obtain ⟨y0, hy0⟩ := hcc (4 * k) (by omega)
      obtain ⟨y1, hy1⟩ := hcc (4 * k + 1) (by omega)
      obtain ⟨y2, hy2⟩ := hcc (4 * k + 2) (by omega)
      obtain ⟨y3, hy3⟩ := hcc (4 * k + 3) (by omega)
      have f0 := hM.frozen (4 * k)
      have f1 := hM.frozen (4 * k + 1)
      have f2 := hM.frozen (4 * k + 2)
      have f3 := hM.frozen (4 * k + 3)
      have hM4 := (((hM.set_ (4 * k) (.int .u8 ((ob (x >>> 24)).toNat : Int))).set_ (4 * k + 1) (.int .u8 ((ob (x >>> 16)).toNat : Int))).set_ (4 * k + 2) (.int .u8 ((ob (x >>> 8)).toNat : Int))).set_ (4 * k + 3) (.int .u8 ((ob x).toNat : Int))
      rw [bset, bset, bset, bset, Hos.out] at hM4
      have hne : ∀ j, w.heap.size ≠ (⟨g2, j, none⟩ : Addr).block := fun j => by show w.heap.size ≠ g2; omega
      have hN4 := (((hN.far (hne (4 * k)) (.int .u8 ((ob (x >>> 24)).toNat : Int))).far (hne (4 * k + 1)) (.int .u8 ((ob (x >>> 16)).toNat : Int))).far (hne (4 * k + 2)) (.int .u8 ((ob (x >>> 8)).toNat : Int))).far (hne (4 * k + 3)) (.int .u8 ((ob x).toNat : Int))
      have hge : ∀ j, G ≤ (⟨g2, j, none⟩ : Addr).block := fun j => by show G ≤ g2; omega
      have hB4 := (((hB.setCell (hge (4 * k)) (.int .u8 ((ob (x >>> 24)).toNat : Int))).setCell (hge (4 * k + 1)) (.int .u8 ((ob (x >>> 16)).toNat : Int))).setCell (hge (4 * k + 2)) (.int .u8 ((ob (x >>> 8)).toNat : Int))).setCell (hge (4 * k + 3)) (.int .u8 ((ob x).toNat : Int))
      clear hx hos hol hcc hne hge hM hN hB
      go_wp2_with fail
      go_roundw
      case rel =>
        exact ⟨k + 1, by omega, by go_num, hM4, hN4, hB4⟩
      case measure => simp [intOf]; omega
    · obtain rfl : k = 8 := by omega
      rw [outs_all, ← Hout.out] at hM
      obtain ⟨S, hS⟩ : ∃ S, S = Sha.sum L := ⟨_, rfl⟩
      have hSl : S.length = 32 := by rw [hS, sum_length]
      rw [← hS] at hM
      have HSl := Lib.hid hSl
      have HSS := Lib.hid hS
      clear hS hSl Hout
      go_wp2_with (first
        | ((with_reducible refine at_load 39 ?_); refine wpList_loadAll _ rfl 39 _ rfl g2 39 (bcells S).toArray hM _ rfl Tryz.underlying39 rfl (by rw [List.size_toArray, bcells_length, HSl.out]; kernel_rfl) ?_)
        | ((with_reducible refine at_store 39 ?_); refine wpList_storeAll _ rfl 39 _ _ rfl w.heap.size 39 _ (bcells S).toArray hN rfl rfl (by rw [List.size_toArray, bcells_length, HSl.out]; kernel_rfl) (by rw [List.size_toArray, bcells_length, HSl.out]; kernel_rfl) (fun v hv => bcells_one _ v (by simpa using hv)) ?_; intro w5 h14 hg5 hs5))
      refine bodyPost_ret (results_cell_row rfl _ _ w.heap.size _ _ _ _ rfl h14 Tryz.underlying39 rfl (by rw [List.size_toArray, bcells_length, HSl.out]; kernel_rfl)) rfl ⟨by rw [HSS.out], ?_⟩
      exact grown_below hB hg5 (by have := hB.size; omega) (by omega)
end Go.Proofs.YtipdmhppadapkaaGreatDoor
/-
  Walk: sha.Sum of any parts.
-/
namespace Go.Proofs.YtipdmhppadapkaaGreatDoor
open Go.RowKit Sha

/-- a block with these cells, of whatever type -/
def BlkT (w : World) (g : Nat) (cs : Array Value) : Prop := ∃ t, Blk w g t cs
/-- SHA's tables lie as they were laid -/
structure Tabs (w : World) : Prop where
  first : BlkT w 0 (wcells h0.list).toArray
  rounds : BlkT w 1 (wcells kTab).toArray
theorem BlkT.lt {w : World} {g : Nat} {cs : Array Value} (h : BlkT w g cs) : g < w.heap.size := by obtain ⟨t, h⟩ := h; exact h.lt
theorem BlkT.chg {Z : Nat → Prop} {w w' : World} {g : Nat} {cs : Array Value} (h : BlkT w g cs) (c : Chg Z w w') (hg : ¬ Z g) : BlkT w' g cs := by obtain ⟨t, h⟩ := h; exact ⟨t, h.chg c hg⟩
theorem BlkT.below {B : Nat} {w w' : World} {g : Nat} {cs : Array Value} (h : BlkT w g cs) (c : Below B w w') (hg : g < B) : BlkT w' g cs := by obtain ⟨t, h⟩ := h; exact ⟨t, h.below c hg⟩
theorem Tabs.below {w w' : World} (h : Tabs w) (hb : Below w.heap.size w w') : Tabs w' := ⟨h.first.below hb h.first.lt, h.rounds.below hb h.rounds.lt⟩
theorem Tabs.ext {w w' : World} (h : Tabs w) (hb : Ext w w') : Tabs w' := h.below hb
theorem Tabs.drew {w : World} (h : Tabs w) : Tabs w.drew := ⟨h.first, h.rounds⟩
theorem Tabs.alloc {w : World} (h : Tabs w) (o : Obj) : Tabs (w.alloc o) := by
  obtain ⟨⟨t1, h1⟩, ⟨t2, h2⟩⟩ := h
  exact ⟨⟨t1, h1.alloc o⟩, ⟨t2, h2.alloc o⟩⟩
theorem Tabs.lt {w : World} (h : Tabs w) : 1 < w.heap.size := h.rounds.lt
theorem Tabs.under {B : Nat} {w w' : World} (h : Tabs w) (hb : Below B w w') (hB : 1 < B) (hB1 : 0 < B) : Tabs w' := ⟨h.first.below hb hB1, h.rounds.below hb hB⟩
theorem run_st0 (w : World) : (Instr.build 156 #[(0, .agg (wcells h0.list).toArray)]).run Tryz.prog w = .ok (.agg (stCells h0 (List.replicate 64 0) 0).toArray) w := by kernel_rfl
theorem st0 {w : World} {G : Nat} (h : Blk w G 156 (stCells h0 (List.replicate 64 0) 0).toArray) : ShaSt G [] w :=
  ⟨List.replicate 64 0, by simp, rfl, h⟩
theorem stCells_one (v : V8) (sm : List UInt8) (n : Nat) : ∀ x ∈ (stCells v sm n).toArray.toList, x.oneCell' = true := by
  intro x hx
  simp only [stCells, List.mem_append, List.mem_singleton] at hx
  rcases hx with hx | hx | rfl
  · exact wcells_one _ x hx
  · exact bcells_one _ x hx
  · rfl

theorem Bs.all_len (ps : List Bs) (w : World) (B : Nat) (hp : ∀ b ∈ ps, b.ok w B) (k : Nat) : (Bs.all (ps.take k)).length = Bs.tot (ps.take k) := by
  have : ∀ l : List Bs, (∀ b ∈ l, b.ok w B) → (Bs.all l).length = Bs.tot l := by
    intro l
    induction l with
    | nil => intro _; rfl
    | cons b l ih =>
      intro hl
      have h1 : b.l.length = b.n := by have := (hl b (by simp)).len; rw [bcells_length] at this; omega
      have h2 := ih fun x hx => hl x (by simp [hx])
      simp only [Bs.all, Bs.tot, List.flatMap_cons, List.length_append, List.map_cons, List.sum_cons] at *
      rw [h1, h2]
  exact this _ fun b hb => hp b (List.mem_of_mem_take hb)
set_option maxRecDepth 100000 in
set_option maxHeartbeats 2000000 in
theorem sum_any (A : Option Addr) (m c : Nat) (ps : List Bs) (w : World) (hRd : Rd w w.heap.size 1 A m (ps.map Bs.val)) (hp : ∀ b ∈ ps, b.ok w w.heap.size) (hcc : ∀ b ∈ ps, b.n ≤ b.c ∧ b.c ≤ 9223372036854775807)
    (ht : Bs.tot ps ≤ 1000000) (hm : m ≤ 1000000) (hT : Tabs w) :
    Calls Tryz.prog 34 #[.slice A m c] w fun e w' => e = .returned (.agg (bcells (Sha.sum (Bs.all ps))).toArray) ∧ Below w.heap.size w w' := by
  have hlen : ps.length = m := by have := hRd.len; simpa using this
  have HL := Lib.hid hlen; clear hlen
  have hz := zeroNode
  have hTl := hT.lt
  have hT0 := hT.alloc (.cells zn 39)
  obtain ⟨tf, hfst⟩ := hT0.first
  have hz73 : Tryz.zeroCells156.size = 73 := by kernel_rfl
  go_enter Tryz.func34, Tryz.ntmps34
  have hN := Blk.new w 39 zn
  have hb0 := blk_new1 w (.cells zn 39) 156 Tryz.zeroCells156
  have hs0 : (w.alloc (.cells zn 39)).heap.size = w.heap.size + 1 := by simp
  go_wp2_with (first
    | ((with_reducible refine at_load 110 ?_); refine wpList_loadAll _ rfl 110 _ rfl 0 tf (wcells h0.list).toArray hfst _ rfl Tryz.underlying110 rfl (by kernel_rfl) ?_)
    | ((with_reducible refine at_build 156 ?_); refine wpList_buildV _ rfl _ rfl rfl (run_st0 _) ?_)
    | ((with_reducible refine at_store 156 ?_); refine wpList_storeAll _ rfl 156 _ _ rfl (w.heap.size + 1) 156 _ (stCells h0 (List.replicate 64 0) 0).toArray hb0 rfl rfl (by kernel_rfl) (by kernel_rfl) (stCells_one _ _ _) ?_; intro w3 hb3 hg3 hs3))
  have hC3 : Chg (fun k => k = w.heap.size + 1) w w3 := (((Chg.refl _ w).alloc _).alloc _).trans (Chg.grown hg3 (by rintro j h; cases h; rfl))
  have hN3 : Blk w3 w.heap.size 39 zn := (hN.alloc (.cells Tryz.zeroCells156 156)).chg (Chg.grown (Z := fun k => k = w.heap.size + 1) hg3 (by rintro j h; cases h; rfl)) (show ¬ w.heap.size = w.heap.size + 1 by omega)
  have hT3 : Tabs w3 := ⟨hT.first.chg hC3 (show ¬ 0 = w.heap.size + 1 by have := hT.first.lt; omega), hT.rounds.chg hC3 (show ¬ 1 = w.heap.size + 1 by omega)⟩
  have hB3 : Below w.heap.size w w3 := hC3.below (fun k hk => by have hk : k = w.heap.size + 1 := hk; omega) (Nat.le_refl _)
  have hS3 := st0 hb3
  have hG1 : w.heap.size + 1 ≠ 1 := by omega
  have hG3 : w.heap.size + 1 < w3.heap.size := hb3.lt
  clear hb3 hg3 hs3 hC3 hb0 hs0 hN hT0 hfst hz hz73
  obtain ⟨G, hG⟩ : ∃ G, G = w.heap.size + 1 := ⟨_, rfl⟩
  rw [← hG] at hS3 hG1 hG3 ⊢
  have hGw0 : w.heap.size < G := by omega
  clear hG h
  go_loopw [10] (fun i wr => ∃ k : Nat, k ≤ m ∧ i = .int .i64 k ∧ ShaSt G (Bs.all (ps.take k)) wr ∧ Blk wr w.heap.size 39 zn ∧ Tabs wr ∧ Below w.heap.size w wr) (fun i _ => m - (intOf i).toNat)
  case atStart => exact ⟨0, Nat.zero_le _, rfl, hS3, hN3, hT3, hB3⟩
  case round =>
    clear hS3 hN3 hT3 hB3
    obtain ⟨k, hk, rfl, hS, hN, hTw, hB⟩ := hrel
    by_cases hlt : k < m
    · obtain ⟨a, rfl, hab, hcs⟩ := (hRd.below hB).cells (by omega)
      have hkl : k < ps.length := by rw [HL.out]; exact hlt
      obtain ⟨b, hb⟩ : ∃ b, ps[k]? = some b := ⟨_, List.getElem?_eq_getElem hkl⟩
      have c1 : wr.cell? (a.add k) = some (.slice b.A b.n b.c) := hcs k _ (by rw [List.getElem?_map, hb]; rfl)
      have hbm := List.mem_of_getElem? hb
      have hbok : Rd wr w.heap.size 1 b.A b.n (bcells b.l) := (hp b hbm).below hB
      obtain ⟨hbc1, hbc2⟩ := hcc b hbm
      have ht1 := Bs.tot_take ps k b hb
      have ha1 := Bs.all_take ps k b hb
      have ht2 := Bs.tot_le ps (k + 1)
      have hal := Bs.all_len ps w w.heap.size hp k
      have H1 := Lib.hid ha1
      have hbl : (Bs.all (ps.take k)).length + b.n ≤ 1000000000 := by rw [hal]; omega
      have HBL := Lib.hid hbl
      have hGw : G < wr.heap.size := hS.lt
      have hF : FarB G wr b.A b.n b.l := FarB.of_below (hbok.more (by omega)) (by omega)
      clear ht1 ha1 hb hcs ht2 hal hbm hbl hbok
      obtain ⟨tk, hrk⟩ := hTw.rounds
      go_wp2_with fail
      refine (write_any G b.A b.n b.c b.l (Bs.all (ps.take k)) wr hS hF hbc1 hbc2 HBL.out hrk hG1).mono ?_
      rintro e w5 ⟨rfl, hS5, hC5⟩
      rw [← H1.out] at hS5
      have hN5 := hN.chg hC5 (show ¬ w.heap.size = G by omega)
      have hT5 : Tabs w5 := ⟨hTw.first.chg hC5 (show ¬ 0 = G by have := hT.first.lt; omega), hTw.rounds.chg hC5 (show ¬ 1 = G by omega)⟩
      have hB5 : Below w.heap.size w w5 := hB.trans (hC5.below (fun k hk => by have hk : k = G := hk; omega) (by have := hB.size; omega))
      clear hS hN hTw hB hF hC5
      go_wp2_with fail
      go_roundw
      case rel => exact ⟨k + 1, by omega, by go_num, hS5, hN5, hT5, hB5⟩
      case measure => simp [intOf]; omega
    · obtain rfl : k = m := by omega
      have hall : ps.take k = ps := List.take_of_length_le (by rw [HL.out]; omega)
      have hal := Bs.all_len ps w w.heap.size hp k
      rw [hall] at hS hal
      have HA := Lib.hid hal
      clear hall hal
      have hGw : G < wr.heap.size := hS.lt
      obtain ⟨S, hSS⟩ : ∃ S, S = Sha.sum (Bs.all ps) := ⟨_, rfl⟩
      have hSl : S.length = 32 := by rw [hSS, sum_length]
      have HSl := Lib.hid hSl
      have HSS := Lib.hid hSS
      obtain ⟨tk, hrk⟩ := hTw.rounds
      go_wp2_with fail
      refine (end_any G (Bs.all ps) wr hS (by rw [HA.out]; omega) hrk hG1).mono ?_
      rintro e w5 ⟨rfl, hB5⟩
      rw [← hSS]
      have hN5 := hN.below hB5 (by omega)
      have hB6 := hB.trans (hB5.mono (by omega))
      clear hSS hSl hS hN hTw hB hB5
      go_wp2_with ((with_reducible refine at_store 39 ?_); refine wpList_storeAll _ rfl 39 _ _ rfl w.heap.size 39 _ (bcells S).toArray hN5 rfl rfl (by rw [List.size_toArray, bcells_length, HSl.out]; kernel_rfl) (by rw [List.size_toArray, bcells_length, HSl.out]; kernel_rfl) (fun v hv => bcells_one _ v (by simpa using hv)) ?_; intro w6 h14 hg6 hs6)
      refine bodyPost_ret (results_cell_row rfl _ _ w.heap.size _ _ _ _ rfl h14 Tryz.underlying39 rfl (by rw [List.size_toArray, bcells_length, HSl.out]; kernel_rfl)) rfl ⟨by rw [HSS.out], ?_⟩
      exact grown_below hB6 hg6 hB6.size (Nat.le_refl _)
end Go.Proofs.YtipdmhppadapkaaGreatDoor
