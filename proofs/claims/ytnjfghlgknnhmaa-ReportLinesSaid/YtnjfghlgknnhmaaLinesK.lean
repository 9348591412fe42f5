/-
  Walks: SameTexts of equal rows, few.
-/
import Derived.Test.YtnjfghlgknnhmaaLinesJ
import Derived.Deep.QuietTactic
namespace Go.Proofs.Ytnjfghlgknnhmaa
open Go.RowKit

set_option maxRecDepth 100000 in
set_option maxHeartbeats 2000000 in
theorem sameTexts_eq (A1 A2 : Option Addr) (n c1 c2 : Nat) (ls : List (List UInt8)) (w : World) (h1 : Rd w w.heap.size 1 A1 n (ls.map strV)) (h2 : Rd w w.heap.size 1 A2 n (ls.map strV)) (hn : n ≤ 1000) :
    Calls Try.prog 38 #[.slice A1 n c1, .slice A2 n c2] w fun e w' => e = .returned (.bool true) ∧ Below w.heap.size w w' := by
  have hl : Hid (ls.length = n) := Lib.hid (by have := h1.len; rw [List.length_map] at this; omega)
  go_enter Try.func38, Try.ntmps38
  go_wp2_with fail
  go_loopw [13] (fun i wr => ∃ k : Nat, k ≤ n ∧ i = .int .i64 k ∧ Below w.heap.size w wr) (fun i _ => n - (intOf i).toNat)
  case atStart => exact ⟨0, Nat.zero_le _, rfl, Below.refl _ _⟩
  case round =>
    obtain ⟨k, hk, rfl, hB⟩ := hrel
    by_cases hkn : k < n
    · have hkl : k < ls.length := by rw [hl.out]; exact hkn
      obtain ⟨s, hs⟩ : ∃ s, s = ls[k] := ⟨_, rfl⟩
      have hg : (ls.map strV)[k]? = some (.string ⟨s.toArray⟩) := by rw [List.getElem?_map, List.getElem?_eq_getElem hkl, hs]; rfl
      obtain ⟨a1, rfl, _, q1⟩ := (h1.below hB).cell k _ hg
      obtain ⟨a2, rfl, _, q2⟩ := (h2.below hB).cell k _ hg
      clear hg hs
      go_upto_region 6 with (fail)
      go_quiet (fail)
      go_wp2
      go_roundw
      case rel => exact ⟨k + 1, by omega, by go_num, below_drewN hB _⟩
      case measure => simp [intOf]; omega
    · have hke : k = n := by omega
      subst hke
      go_wp2
      go_ret
      exact ⟨rfl, hB⟩

set_option maxRecDepth 100000 in
set_option maxHeartbeats 2000000 in
theorem few_any (C : Array Value) (A3 A6 A7 : Option Addr) (n3 c3 n6 c6 n7 c7 : Nat) (g3 : C[3]? = some (.slice A3 n3 c3)) (g6 : C[73]? = some (.slice A6 n6 c6)) (g7 : C[74]? = some (.slice A7 n7 c7)) (w : World) :
    Calls Try.prog 37 #[.agg C] w fun e w' => e = .returned (.bool (decide (n3 ≤ 40) && decide (n6 ≤ 40) && decide (n7 ≤ 40))) ∧ Below w.heap.size w w' := by
  have hbx := (Blk.new w 77 C)
  have q3 := (hbx.cell 3).trans g3
  have q6 := (hbx.cell 73).trans g6
  have q7 := (hbx.cell 74).trans g7
  have hB1 : Below w.heap.size w (w.alloc (.cells C 77)) := (Below.refl _ _).alloc (Nat.le_refl _) _
  obtain ⟨b, hb⟩ : ∃ b, b = (decide (n3 ≤ 40) && decide (n6 ≤ 40) && decide (n7 ≤ 40)) := ⟨_, rfl⟩
  rw [← hb]
  have Hb := Lib.hid hb
  clear hb
  go_enter Try.func37, Try.ntmps37
  by_cases e3 : n3 ≤ 40 <;> by_cases e6 : n6 ≤ 40 <;> by_cases e7 : n7 ≤ 40
  all_goals
    go_wp2
    go_ret
    exact ⟨by rw [Hb.out]; simp [*] <;> omega, hB1⟩
end Go.Proofs.Ytnjfghlgknnhmaa
