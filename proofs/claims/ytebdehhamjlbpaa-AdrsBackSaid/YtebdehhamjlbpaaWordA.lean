/-
  Walks: the numbers that are read (word.size, read, Be32 .. Le64; portreeveref01.Number).
-/
import Derived.Test.YtebdehhamjlbpaaKit
import Derived.Test.YtebdehhamjlbpaaNum
namespace Go.Proofs.Ytebdehhamjlbpaa
open Go.RowKit

theorem size64_any (w : World) : Calls Try.prog 51 #[] w fun e w' => e = .returned (.int .i64 8) ∧ w = w' := by
  go_enter Try.func51, Try.ntmps51
  go_wp2
  go_ret
  exact ⟨rfl, rfl⟩
theorem size32_any (w : World) : Calls Try.prog 50 #[] w fun e w' => e = .returned (.int .i64 4) ∧ w = w' := by
  go_enter Try.func50, Try.ntmps50
  go_wp2
  go_ret
  exact ⟨rfl, rfl⟩

section
variable (A : Option Addr) (n c : Nat) (p : Int) (low : Bool) (l : List UInt8) (w : World)

set_option maxHeartbeats 400000 in
theorem read64_in (p : Nat) (h : Rd w w.heap.size 1 A n (bcells l)) (hn : n ≤ 1000000) (hat : p + 8 ≤ n) :
    Calls Try.prog 45 #[.slice A n c, .int .i64 p, .bool low] w fun e w' => e = .returned (.tuple #[.int .u64 (readNum l p 8 low : Nat), .bool true]) ∧ w = w' := by
  obtain ⟨LOW, hLOW⟩ : ∃ q : Bool, q = low := ⟨_, rfl⟩
  have HLOW := Lib.hid hLOW; clear hLOW
  cases low
  all_goals
    go_enter Try.func45, Try.ntmps45
    go_wp2_with (go_at_call 51; refine (size64_any _).mono ?_; rintro e w' ⟨rfl, rfl⟩)
    go_loop [9, 30] (fun x i => ∃ k : Nat, k ≤ 8 ∧ i = .int .i64 k ∧ x = .int .u64 (numOf (byteAt l p 8 LOW) k : Nat)) (fun _ i => 8 - (intOf i).toNat)
    case atStart => exact ⟨0, Nat.zero_le _, rfl, rfl⟩
    case round =>
      obtain ⟨k, hk, rfl, rfl⟩ := hrel
      by_cases hlt : k < 8
      · have hlen : n = l.length := by have := h.len; rw [bcells_length] at this; omega
        obtain ⟨a, rfl, hab, hcs⟩ := h.cells (by omega)
        have c1 := hcs (p + k) _ (bcells_get l _ (by omega))
        have c2 := hcs (p + 7 - k) _ (bcells_get l _ (by omega))
        have HL := Lib.hid hlen; clear hlen hcs h
        go_wp2
        go_round
        case rel => exact ⟨k + 1, by omega, by go_num, by rw [HLOW.out]; exact congrArg _ (u64_round l p 8 k _ hlt rfl)⟩
        case measure => simp [intOf]; omega
      · obtain rfl : k = 8 := by omega
        go_wp2
        go_ret2
        exact ⟨by rw [HLOW.out]; rfl, rfl⟩

set_option maxHeartbeats 400000 in
theorem read32_in (p : Nat) (h : Rd w w.heap.size 1 A n (bcells l)) (hn : n ≤ 1000000) (hat : p + 4 ≤ n) :
    Calls Try.prog 44 #[.slice A n c, .int .i64 p, .bool low] w fun e w' => e = .returned (.tuple #[.int .u32 (readNum l p 4 low : Nat), .bool true]) ∧ w = w' := by
  obtain ⟨LOW, hLOW⟩ : ∃ q : Bool, q = low := ⟨_, rfl⟩
  have HLOW := Lib.hid hLOW; clear hLOW
  cases low
  all_goals
    go_enter Try.func44, Try.ntmps44
    go_wp2_with (go_at_call 50; refine (size32_any _).mono ?_; rintro e w' ⟨rfl, rfl⟩)
    go_loop [9, 30] (fun x i => ∃ k : Nat, k ≤ 4 ∧ i = .int .i64 k ∧ x = .int .u32 (numOf (byteAt l p 4 LOW) k : Nat)) (fun _ i => 4 - (intOf i).toNat)
    case atStart => exact ⟨0, Nat.zero_le _, rfl, rfl⟩
    case round =>
      obtain ⟨k, hk, rfl, rfl⟩ := hrel
      by_cases hlt : k < 4
      · have hlen : n = l.length := by have := h.len; rw [bcells_length] at this; omega
        obtain ⟨a, rfl, hab, hcs⟩ := h.cells (by omega)
        have c1 := hcs (p + k) _ (bcells_get l _ (by omega))
        have c2 := hcs (p + 3 - k) _ (bcells_get l _ (by omega))
        have HL := Lib.hid hlen; clear hlen hcs h
        go_wp2
        go_round
        case rel => exact ⟨k + 1, by omega, by go_num, by rw [HLOW.out]; exact congrArg _ (u32_round l p 4 k _ hlt rfl)⟩
        case measure => simp [intOf]; omega
      · obtain rfl : k = 4 := by omega
        go_wp2
        go_ret2
        exact ⟨by rw [HLOW.out]; rfl, rfl⟩
set_option maxHeartbeats 400000 in
theorem read64_any (h : Rd w w.heap.size 1 A n (bcells l)) (hn : n ≤ 1000000) :
    Calls Try.prog 45 #[.slice A n c, .int .i64 p, .bool low] w fun e w' => e = .returned (.tuple #[.int .u64 (rdNum l p 8 low : Nat), .bool (rdOk l p 8)]) ∧ w = w' := by
  have hlen : n = l.length := by have := h.len; rw [bcells_length] at this; omega
  by_cases hin : 0 ≤ p ∧ p + 8 ≤ n
  · obtain ⟨q, rfl⟩ := Int.eq_ofNat_of_zero_le hin.1
    refine (read64_in A n c low l w q h hn (by omega)).mono fun e w' ⟨he, hw⟩ => ⟨?_, hw⟩
    rw [he, rdNum, rdOk, if_pos ⟨by omega, by omega⟩, decide_eq_true (by omega)]; rfl
  · have h1 : rdNum l p 8 low = 0 := by rw [rdNum, if_neg (by omega)]
    have h2 : rdOk l p 8 = false := by rw [rdOk, decide_eq_false (by omega)]
    rw [h1, h2]
    clear h1 h2 h
    have HL := Lib.hid hlen; clear hlen
    by_cases h0 : p < 0
    · have hd : decide (p < 0) = true := by simpa using h0
      go_enter Try.func45, Try.ntmps45
      go_wp2_with (go_at_call 51; refine (size64_any _).mono ?_; rintro e w' ⟨rfl, rfl⟩)
      go_ret2
      exact ⟨rfl, rfl⟩
    · have hd : decide (p < 0) = false := by simpa using h0
      by_cases h8 : n < 8
      · go_enter Try.func45, Try.ntmps45
        go_wp2_with (go_at_call 51; refine (size64_any _).mono ?_; rintro e w' ⟨rfl, rfl⟩)
        go_ret2
        exact ⟨rfl, rfl⟩
      · have h9 : (n : Int) - 8 < p := by omega
        go_enter Try.func45, Try.ntmps45
        go_wp2_with (go_at_call 51; refine (size64_any _).mono ?_; rintro e w' ⟨rfl, rfl⟩)
        go_ret2
        exact ⟨rfl, rfl⟩

set_option maxHeartbeats 400000 in
theorem read32_any (h : Rd w w.heap.size 1 A n (bcells l)) (hn : n ≤ 1000000) :
    Calls Try.prog 44 #[.slice A n c, .int .i64 p, .bool low] w fun e w' => e = .returned (.tuple #[.int .u32 (rdNum l p 4 low : Nat), .bool (rdOk l p 4)]) ∧ w = w' := by
  have hlen : n = l.length := by have := h.len; rw [bcells_length] at this; omega
  by_cases hin : 0 ≤ p ∧ p + 4 ≤ n
  · obtain ⟨q, rfl⟩ := Int.eq_ofNat_of_zero_le hin.1
    refine (read32_in A n c low l w q h hn (by omega)).mono fun e w' ⟨he, hw⟩ => ⟨?_, hw⟩
    rw [he, rdNum, rdOk, if_pos ⟨by omega, by omega⟩, decide_eq_true (by omega)]; rfl
  · have h1 : rdNum l p 4 low = 0 := by rw [rdNum, if_neg (by omega)]
    have h2 : rdOk l p 4 = false := by rw [rdOk, decide_eq_false (by omega)]
    rw [h1, h2]
    clear h1 h2 h
    have HL := Lib.hid hlen; clear hlen
    by_cases h0 : p < 0
    · have hd : decide (p < 0) = true := by simpa using h0
      go_enter Try.func44, Try.ntmps44
      go_wp2_with (go_at_call 50; refine (size32_any _).mono ?_; rintro e w' ⟨rfl, rfl⟩)
      go_ret2
      exact ⟨rfl, rfl⟩
    · have hd : decide (p < 0) = false := by simpa using h0
      by_cases h8 : n < 4
      · go_enter Try.func44, Try.ntmps44
        go_wp2_with (go_at_call 50; refine (size32_any _).mono ?_; rintro e w' ⟨rfl, rfl⟩)
        go_ret2
        exact ⟨rfl, rfl⟩
      · have h9 : (n : Int) - 4 < p := by omega
        go_enter Try.func44, Try.ntmps44
        go_wp2_with (go_at_call 50; refine (size32_any _).mono ?_; rintro e w' ⟨rfl, rfl⟩)
        go_ret2
        exact ⟨rfl, rfl⟩

theorem be32_any (h : Rd w w.heap.size 1 A n (bcells l)) (hn : n ≤ 1000000) :
    Calls Try.prog 24 #[.slice A n c, .int .i64 p] w fun e w' => e = .returned (.tuple #[.int .u32 (rdNum l p 4 false : Nat), .bool (rdOk l p 4)]) ∧ w = w' := by
  go_enter Try.func24, Try.ntmps24
  go_wp2_with (go_at_call 44; refine (read32_any A n c p false l w h hn).mono ?_; rintro e w' ⟨rfl, rfl⟩)
  go_ret2
  exact ⟨rfl, rfl⟩

theorem be64_any (h : Rd w w.heap.size 1 A n (bcells l)) (hn : n ≤ 1000000) :
    Calls Try.prog 25 #[.slice A n c, .int .i64 p] w fun e w' => e = .returned (.tuple #[.int .u64 (rdNum l p 8 false : Nat), .bool (rdOk l p 8)]) ∧ w = w' := by
  go_enter Try.func25, Try.ntmps25
  go_wp2_with (go_at_call 45; refine (read64_any A n c p false l w h hn).mono ?_; rintro e w' ⟨rfl, rfl⟩)
  go_ret2
  exact ⟨rfl, rfl⟩

theorem le32_any (h : Rd w w.heap.size 1 A n (bcells l)) (hn : n ≤ 1000000) :
    Calls Try.prog 26 #[.slice A n c, .int .i64 p] w fun e w' => e = .returned (.tuple #[.int .u32 (rdNum l p 4 true : Nat), .bool (rdOk l p 4)]) ∧ w = w' := by
  go_enter Try.func26, Try.ntmps26
  go_wp2_with (go_at_call 44; refine (read32_any A n c p true l w h hn).mono ?_; rintro e w' ⟨rfl, rfl⟩)
  go_ret2
  exact ⟨rfl, rfl⟩

theorem le64_any (h : Rd w w.heap.size 1 A n (bcells l)) (hn : n ≤ 1000000) :
    Calls Try.prog 27 #[.slice A n c, .int .i64 p] w fun e w' => e = .returned (.tuple #[.int .u64 (rdNum l p 8 true : Nat), .bool (rdOk l p 8)]) ∧ w = w' := by
  go_enter Try.func27, Try.ntmps27
  go_wp2_with (go_at_call 45; refine (read64_any A n c p true l w h hn).mono ?_; rintro e w' ⟨rfl, rfl⟩)
  go_ret2
  exact ⟨rfl, rfl⟩
end
end Go.Proofs.Ytebdehhamjlbpaa
