/-
  Walks: the numbers that are put (word.put, PutBe32 .. PutLe64; portreeveref01.Put).
-/
import Derived.Test.YtjfmgoickokbjaaWordA
namespace Go.Proofs.Ytjfmgoickokbjaa
open Go.RowKit

theorem el8 : Elem Try.prog 26 5 (.int .u8 0) 1 1 := Elem.of (by kernel_rfl) (by kernel_rfl) rfl (by omega)
theorem el64 : Elem Try.prog 72 22 (.int .u64 0) 1 8 := Elem.of (by kernel_rfl) (by kernel_rfl) rfl (by omega)

section
variable (A : Option Addr) (n c : Nat) (l : List UInt8) (w : World)

set_option maxRecDepth 100000 in
set_option maxHeartbeats 1000000 in
theorem put64_any (A2 : Option Addr) (m c2 : Nat) (xs : List Nat) (low : Bool) (h : Rd w w.heap.size 1 A n (bcells l)) (hn : n ≤ 1000000)
    (h2 : Rd w w.heap.size 1 A2 m (xs.map fun (x : Nat) => Value.int .u64 (x : Int))) (hm : m ≤ 1000000) :
    Calls Try.prog 59 #[.slice A n c, .bool low, .slice A2 m c2] w fun e w' =>
      ∃ A' c', e = .returned (.slice A' (n + 8 * m) c') ∧ w'.ownsRow w.heap.size 5 1 (.slice A' (n + 8 * m) c') (n + 8 * m) (bcells (l ++ putAll xs 8 low)) ∧ Below w.heap.size w w' := by
  go_enter Try.func59, Try.ntmps59
  go_wp2_with (first
    | (go_at_call 67; refine (size64_any _).mono ?_; rintro e w' ⟨rfl, rfl⟩)
    | (at_make; refine wpList_makeN w el8 rfl _ _ rfl .i64 .i64 _ _ n (n + 8 * m) rfl rfl rfl (by omega) (by omega) (by omega) (by omega) ?_; intro w1 hb1 hs1 hB1)
    | ((with_reducible refine at_copy ?_); refine wpList_copyAt w1 el8.under (by kernel_rfl) rfl _ _ rfl w.heap.size 0 _ hb1 _ n (n + 8 * m) rfl _ _ n c _ rfl (h.belowm hB1 (Nat.le_refl _)) (bcells_one l) n (Nat.min_self n).symm (fun _ => rfl) (by simp [size_madeCells]) ?_; intro w2 hb2 hg2 hs2))
  have hzl : (madeCells (Value.int .u8 0).cells ((n + 8 * m) * 1)).size = n + 8 * m := by simp [size_madeCells]
  have hB2 : Below w.heap.size w w2 := hB1.grown hg2 (by omega) (fun k hk => by cases hk; exact Nat.le_refl _)
  have hO2 : w2.ownsRow w.heap.size 5 1 (.slice (some ⟨w.heap.size, 0, none⟩) n (n + 8 * m)) n (bcells l) := by
    have hlen := h.len
    have := hb2.own (base := w.heap.size) (size := 1) (n := n) (m := n + 8 * m) (Nat.le_refl _) (by simp [splice, hlen, size_madeCells]) (by omega) (by omega)
    have e : (splice (madeCells (Value.int .u8 0).cells ((n + 8 * m) * 1)).toList 0 ((bcells l).take n)).toArray.toList.take (n * 1) = bcells l := by
      simp only [Nat.mul_one] at hlen
      simp [splice, ← hlen]
    rw [e] at this; exact this
  have h2' := h2.below hB2
  clear hB1 hb1 hs1 hb2 hg2 hs2 hzl h
  go_loopw [8, 29] (fun o i wr => ∃ k : Nat, k ≤ m ∧ i = .int .i64 k ∧ ∃ A' c', o = .slice A' (n + 8 * k) c' ∧
      wr.ownsRow w.heap.size 5 1 (.slice A' (n + 8 * k) c') (n + 8 * k) (bcells (l ++ putAll (xs.take k) 8 low)) ∧ Below w.heap.size w wr) (fun _ i _ => m - (intOf i).toNat)
  case atStart => exact ⟨0, Nat.zero_le _, rfl, _, _, rfl, by simpa [putAll] using hO2, hB2⟩
  case round =>
    obtain ⟨k, hk, rfl, A', c', rfl, hO, hB⟩ := hrel
    by_cases hlt : k < m
    · have hxl := h2.len
      rw [List.length_map, Nat.mul_one] at hxl
      obtain ⟨a2, rfl, hab, hcs⟩ := (h2.below hB).cells (by omega)
      have c1 := hcs k (.int .u64 (xs[k]?.getD 0 : Nat)) (by simp [List.getElem?_eq_getElem (show k < xs.length by omega)])
      have HX := Lib.hid hxl; clear hxl hcs
      go_wp2
      go_loopw [8, 34] (fun o i wq => ∃ j : Nat, j ≤ 8 ∧ i = .int .i64 j ∧ ∃ A' c', o = .slice A' (n + 8 * k + j) c' ∧
          wq.ownsRow w.heap.size 5 1 (.slice A' (n + 8 * k + j) c') (n + 8 * k + j) (bcells (l ++ putAll (xs.take k) 8 low ++ (putNum (xs[k]?.getD 0) 8 low).take j)) ∧ Below w.heap.size w wq) (fun _ i _ => 8 - (intOf i).toNat)
      case atStart => exact ⟨0, Nat.zero_le _, rfl, _, _, rfl, by simpa using hO, hB⟩
      case round =>
        obtain ⟨j, hj, rfl, A1, c1', rfl, hO1, hB1⟩ := hrel
        by_cases hjt : j < 8
        · have hsn := putNum_snoc (xs[k]?.getD 0) 8 low j hjt
          have hby := byteOf (xs[k]?.getD 0) (if low then j else 7 - j)
          have HS := Lib.hid hsn
          have HB := Lib.hid hby
          clear hsn hby
          cases low
          all_goals
            go_wp2_with (at_builtin; refine wpList_app1 _ el8 rfl _ _ rfl w.heap.size A1 (n + 8 * k + j) c1' _ rfl hO1 _ rfl rfl (by omega) (by omega) (by have := hB1.size; omega) ?_; intro A3 c3 w3 hO3 hg3 hB3)
            go_roundw
            case rel =>
              refine ⟨j + 1, by omega, by go_num, A3, c3, rfl, ?_, hB1.trans hB3⟩
              rw [HS.out, ← List.append_assoc, bcells_append _ [_]]
              have e := HB.out
              simp only [if_true, if_false, Bool.false_eq_true] at e
              rw [e] at hO3
              exact hO3
            case measure => simp [intOf]; omega
        · obtain rfl : j = 8 := by omega
          go_wp2
          go_roundw
          case rel =>
            refine ⟨k + 1, by omega, by go_num, A1, c1', rfl, ?_, hB1⟩
            rw [putAll_snoc _ _ _ _ (by rw [HX.out]; exact hlt), ← List.append_assoc]
            rw [putNum_all] at hO1
            exact hO1
          case measure => simp [intOf]; omega
    · obtain rfl : k = m := by omega
      go_wp2
      go_ret
      refine ⟨A', c', rfl, ?_, hB⟩
      have hxl := h2.len
      rw [List.length_map, Nat.mul_one] at hxl
      rw [List.take_of_length_le (by omega)] at hO
      exact hO
theorem putLe64_any (A2 : Option Addr) (m c2 : Nat) (xs : List Nat) (h : Rd w w.heap.size 1 A n (bcells l)) (hn : n ≤ 1000000)
    (h2 : Rd w w.heap.size 1 A2 m (xs.map fun (x : Nat) => Value.int .u64 (x : Int))) (hm : m ≤ 1000000) :
    Calls Try.prog 43 #[.slice A n c, .slice A2 m c2] w fun e w' =>
      ∃ A' c', e = .returned (.slice A' (n + 8 * m) c') ∧ w'.ownsRow w.heap.size 5 1 (.slice A' (n + 8 * m) c') (n + 8 * m) (bcells (l ++ putAll xs 8 true)) ∧ Below w.heap.size w w' := by
  go_enter Try.func43, Try.ntmps43
  go_wp2_with (go_at_call 59; refine (put64_any A n c l w A2 m c2 xs true h hn h2 hm).mono ?_; rintro e w' ⟨A', c', rfl, hO, hB⟩)
  go_ret
  exact ⟨A', c', rfl, hO, hB⟩
end
end Go.Proofs.Ytjfmgoickokbjaa
