/-
  Walks: the numbers that are read (word.size, read, Be32 .. Le64; portreeveref01.Number).
-/
import Derived.Test.YtnjfghlgknnhmaaKit
import Derived.Test.YtnjfghlgknnhmaaNum
namespace Go.Proofs.Ytnjfghlgknnhmaa
open Go.RowKit

theorem size32_any (w : World) : Calls Try.prog 81 #[] w fun e w' => e = .returned (.int .i64 4) ∧ w = w' := by
  go_enter Try.func81, Try.ntmps81
  go_wp2
  go_ret
  exact ⟨rfl, rfl⟩

section
variable (A : Option Addr) (n c : Nat) (p : Int) (low : Bool) (l : List UInt8) (w : World)

set_option maxRecDepth 100000 in
set_option maxHeartbeats 400000 in
theorem read32_in (p : Nat) (h : Rd w w.heap.size 1 A n (bcells l)) (hn : n ≤ 1000000) (hat : p + 4 ≤ n) :
    Calls Try.prog 71 #[.slice A n c, .int .i64 p, .bool low] w fun e w' => e = .returned (.tuple #[.int .u32 (readNum l p 4 low : Nat), .bool true]) ∧ w = w' := by
  obtain ⟨LOW, hLOW⟩ : ∃ q : Bool, q = low := ⟨_, rfl⟩
  have HLOW := Lib.hid hLOW; clear hLOW
  cases low
  all_goals
    go_enter Try.func71, Try.ntmps71
    go_wp2_with (go_at_call 81; refine (size32_any _).mono ?_; rintro e w' ⟨rfl, rfl⟩)
    go_loop [9, 30] (fun x i => ∃ k : Nat, k ≤ 4 ∧ i = .int .i64 k ∧ x = .int .u32 (numOf (byteAt l p 4 LOW) k : Nat)) (fun _ i => 4 - (intOf i).toNat)
    case atStart => exact ⟨0, Nat.zero_le _, rfl, rfl⟩
    case round =>
      obtain ⟨k, hk, rfl, rfl⟩ := hrel
      by_cases hlt : k < 4
      · have hlen : n = l.length := by have := h.len; rw [bcells_length] at this; omega
        obtain ⟨a, rfl, hab, hcs⟩ := h.cells (by omega)
        have c1 := hcs (p + k) _ (bcells_get l _ (by omega))
        have c2 := hcs (p + 3 - k) _ (bcells_get l _ (by omega))
        have HL := Lib.hid hlen; clear hlen hcs h
        go_wp2
        go_round
        case rel => exact ⟨k + 1, by omega, by go_num, by rw [HLOW.out]; exact congrArg _ (u32_round l p 4 k _ hlt rfl)⟩
        case measure => simp [intOf]; omega
      · obtain rfl : k = 4 := by omega
        go_wp2
        go_ret2
        exact ⟨by rw [HLOW.out]; rfl, rfl⟩
set_option maxRecDepth 100000 in
set_option maxHeartbeats 400000 in
theorem read32_any (h : Rd w w.heap.size 1 A n (bcells l)) (hn : n ≤ 1000000) :
    Calls Try.prog 71 #[.slice A n c, .int .i64 p, .bool low] w fun e w' => e = .returned (.tuple #[.int .u32 (rdNum l p 4 low : Nat), .bool (rdOk l p 4)]) ∧ w = w' := by
  have hlen : n = l.length := by have := h.len; rw [bcells_length] at this; omega
  by_cases hin : 0 ≤ p ∧ p + 4 ≤ n
  · obtain ⟨q, rfl⟩ := Int.eq_ofNat_of_zero_le hin.1
    refine (read32_in A n c low l w q h hn (by omega)).mono fun e w' ⟨he, hw⟩ => ⟨?_, hw⟩
    rw [he, rdNum, rdOk, if_pos ⟨by omega, by omega⟩, decide_eq_true (by omega)]; rfl
  · have h1 : rdNum l p 4 low = 0 := by rw [rdNum, if_neg (by omega)]
    have h2 : rdOk l p 4 = false := by rw [rdOk, decide_eq_false (by omega)]
    rw [h1, h2]
    clear h1 h2 h
    have HL := Lib.hid hlen; clear hlen
    by_cases h0 : p < 0
    · have hd : decide (p < 0) = true := by simpa using h0
      go_enter Try.func71, Try.ntmps71
      go_wp2_with (go_at_call 81; refine (size32_any _).mono ?_; rintro e w' ⟨rfl, rfl⟩)
      go_ret2
      exact ⟨rfl, rfl⟩
    · have hd : decide (p < 0) = false := by simpa using h0
      by_cases h8 : n < 4
      · go_enter Try.func71, Try.ntmps71
        go_wp2_with (go_at_call 81; refine (size32_any _).mono ?_; rintro e w' ⟨rfl, rfl⟩)
        go_ret2
        exact ⟨rfl, rfl⟩
      · have h9 : (n : Int) - 4 < p := by omega
        go_enter Try.func71, Try.ntmps71
        go_wp2_with (go_at_call 81; refine (size32_any _).mono ?_; rintro e w' ⟨rfl, rfl⟩)
        go_ret2
        exact ⟨rfl, rfl⟩

theorem be32_any (h : Rd w w.heap.size 1 A n (bcells l)) (hn : n ≤ 1000000) :
    Calls Try.prog 49 #[.slice A n c, .int .i64 p] w fun e w' => e = .returned (.tuple #[.int .u32 (rdNum l p 4 false : Nat), .bool (rdOk l p 4)]) ∧ w = w' := by
  go_enter Try.func49, Try.ntmps49
  go_wp2_with (go_at_call 71; refine (read32_any A n c p false l w h hn).mono ?_; rintro e w' ⟨rfl, rfl⟩)
  go_ret2
  exact ⟨rfl, rfl⟩

end
end Go.Proofs.Ytnjfghlgknnhmaa
