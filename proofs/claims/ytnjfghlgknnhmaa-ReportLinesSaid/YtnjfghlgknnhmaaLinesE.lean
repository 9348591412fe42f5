/-
  report.Lines of any result: its data, the lines by definition; walks: join, wide (both), kind.
-/
import Derived.Test.YtnjfghlgknnhmaaLinesB
import Derived.Test.YtnjfghlgknnhmaaNodeB
namespace Go.Proofs.Ytnjfghlgknnhmaa
open Go.RowKit

def hlen (x : Nat) : Nat := if h : x < 16 then 1 else hlen (x / 16) + 1
termination_by x
decreasing_by omega
theorem hlen_is (x : Nat) : HexLen x (hlen x) := by
  induction x using Nat.strongRecOn with
  | _ x ih =>
    rw [hlen]
    split
    · exact ⟨Nat.le_refl _, by simp; omega, fun i h1 h2 => by omega⟩
    · rename_i hx
      obtain ⟨h1, h2, h3⟩ := ih (x / 16) (by omega)
      refine ⟨by omega, ?_, fun i g1 g2 => ?_⟩
      · rw [Nat.pow_succ, Nat.mul_comm, ← Nat.div_div_eq_div_mul]; exact h2
      · rcases Nat.lt_or_ge i 2 with g3 | g3
        · obtain rfl : i = 1 := by omega
          simp; omega
        · have := h3 (i - 1) (by omega) (by omega)
          rw [Nat.div_div_eq_div_mul, Nat.mul_comm, ← Nat.pow_succ, show (i - 1).succ = i by omega] at this
          exact this
def hexStr (x : Nat) : List UInt8 := digs x (hlen x)
theorem hexStr_of {x J : Nat} (h : HexLen x J) : digs x J = hexStr x := by rw [hexStr, h.uniq (hlen_is x)]
theorem hexStr_len {x : Nat} (hx : x < 18446744073709551616) : (hexStr x).length ≤ 16 := by
  rw [hexStr, digs_length]
  rcases Nat.lt_or_ge 16 (hlen x) with h1 | h1
  · exact absurd (Nat.div_eq_of_lt hx) ((hlen_is x).more 16 (by omega) h1)
  · exact h1
def wideStr (x : Nat) : List UInt8 := [48, 120] ++ hexStr x

set_option maxRecDepth 100000 in
set_option maxHeartbeats 400000 in
theorem mWide_any (x : Nat) (hx : x < 18446744073709551616) (w : World) :
    Calls Try.prog 79 #[.int .u64 (x : Nat)] w fun e w' => e = .returned (.string ⟨(wideStr x).toArray⟩) ∧ Below w.heap.size w w' := by
  obtain ⟨S, hS⟩ : ∃ S, S = hexStr x := ⟨_, rfl⟩
  obtain ⟨T, hT⟩ : ∃ T, T = wideStr x := ⟨_, rfl⟩
  have hl : S.length ≤ 16 := by rw [hS]; exact hexStr_len hx
  have HS := Lib.hid hS
  have HT := Lib.hid hT
  rw [← hT]
  clear hS hT
  go_enter Try.func79, Try.ntmps79
  go_wp2_with fail
  refine (hex_any x hx _).mono ?_
  rintro e w' ⟨⟨J, hJ, rfl⟩, hB⟩
  rw [hexStr_of hJ, ← HS.out]
  go_wp2
  go_ret
  exact ⟨by rw [ByteArray.mk_append_mk, HT.out, HS.out]; rfl, hB⟩
set_option maxRecDepth 100000 in
set_option maxHeartbeats 400000 in
theorem rWide_any (x : Nat) (hx : x < 18446744073709551616) (w : World) :
    Calls Try.prog 67 #[.int .u64 (x : Nat)] w fun e w' => e = .returned (.string ⟨(wideStr x).toArray⟩) ∧ w = w' := by
  obtain ⟨S, hS⟩ : ∃ S, S = hexStr x := ⟨_, rfl⟩
  obtain ⟨T, hT⟩ : ∃ T, T = wideStr x := ⟨_, rfl⟩
  have hl : S.length ≤ 16 := by rw [hS]; exact hexStr_len hx
  have HS := Lib.hid hS
  have HT := Lib.hid hT
  rw [← hT]
  clear hS hT
  go_enter Try.func67, Try.ntmps67
  go_wp2_with fail
  refine (rhex_any x hx _).mono ?_
  rintro e w' ⟨⟨J, hJ, rfl⟩, rfl⟩
  rw [hexStr_of hJ, ← HS.out]
  go_wp2
  go_ret
  exact ⟨by rw [ByteArray.mk_append_mk, HT.out, HS.out]; rfl, rfl⟩

/-- a record's kind -/
def kindStr (k : Int) : List UInt8 := if k = 1 then [99, 111, 110, 102, 105, 103] else if k = 2 then [103, 117, 101, 115, 116] else if k = 3 then [115, 107, 105, 112, 112, 101, 100] else [117, 110, 107, 110, 111, 119, 110]
theorem kindStr_len (k : Int) : (kindStr k).length ≤ 100 := by unfold kindStr; split <;> (try split) <;> (try split) <;> simp
set_option maxRecDepth 100000 in
set_option maxHeartbeats 400000 in
theorem kind_any (k : Int) (w : World) : Calls Try.prog 78 #[.int .i64 k] w fun e w' => e = .returned (.string ⟨(kindStr k).toArray⟩) ∧ w = w' := by
  obtain ⟨T, hT⟩ : ∃ T, T = kindStr k := ⟨_, rfl⟩
  rw [← hT]
  unfold kindStr at hT
  by_cases h1 : k = 1
  · subst h1
    have HT := Lib.hid hT
    clear hT
    go_enter Try.func78, Try.ntmps78
    go_wp2
    go_ret
    exact ⟨by rw [HT.out]; rfl, rfl⟩
  · by_cases h2 : k = 2
    · subst h2
      have HT := Lib.hid hT
      clear hT h1
      go_enter Try.func78, Try.ntmps78
      go_wp2
      go_ret
      exact ⟨by rw [HT.out]; rfl, rfl⟩
    · by_cases h3 : k = 3
      · subst h3
        have HT := Lib.hid hT
        clear hT h1 h2
        go_enter Try.func78, Try.ntmps78
        go_wp2
        go_ret
        exact ⟨by rw [HT.out]; rfl, rfl⟩
      · rw [if_neg h1, if_neg h2, if_neg h3] at hT
        have e1 : (k == 1) = false := by simpa using h1
        have e2 : (k == 2) = false := by simpa using h2
        have e3 : (k == 3) = false := by simpa using h3
        have HT := Lib.hid hT
        clear hT h1 h2 h3
        go_enter Try.func78, Try.ntmps78
        go_wp2
        go_ret
        exact ⟨by rw [HT.out]; rfl, rfl⟩

set_option maxRecDepth 100000 in
set_option maxHeartbeats 2000000 in
theorem join_any (x : Nat) (ws : List (List UInt8)) (w : World) (hx : Blk w x 9 (ws.map strV).toArray) (m : Nat) (hm : Hid (ws.length = m)) (hm1 : m ≤ 100) (hwl : ∀ s ∈ ws, s.length ≤ 1000) :
    Calls Try.prog 66 #[.slice (some ⟨x, 0, none⟩) m m] w fun e w' => e = .returned (.string ⟨(joinWs ws).toArray⟩) ∧ w = w' := by
  obtain ⟨T, hT⟩ : ∃ T, T = joinWs ws := ⟨_, rfl⟩
  have HT := Lib.hid hT
  rw [← hT]
  clear hT
  go_enter Try.func66, Try.ntmps66
  go_wp2_with fail
  go_loop [3, 8] (fun s i => ∃ k : Nat, k ≤ m ∧ i = .int .i64 k ∧ ∃ S : List UInt8, Hid (S = jnP ws k) ∧ s = .string ⟨S.toArray⟩) (fun _ i => m - (intOf i).toNat)
  case atStart => exact ⟨0, Nat.zero_le _, rfl, [], Lib.hid rfl, rfl⟩
  case round =>
    obtain ⟨k, hk, rfl, S, HS, rfl⟩ := hrel
    have hSl : S.length ≤ 100100 := by have := jnP_len ws hwl k; rw [← HS.out] at this; omega
    by_cases hkm : k < m
    · have hkt : k < ws.length := by rw [hm.out]; exact hkm
      have hc := hx.cell k
      rw [List.getElem?_toArray, List.getElem?_map, List.getElem?_eq_getElem hkt, Option.map_some] at hc
      obtain ⟨s, hs⟩ : ∃ s, s = ws[k] := ⟨_, rfl⟩
      rw [← hs] at hc
      simp only [strV] at hc
      have hsl : s.length ≤ 1000 := by rw [hs]; exact hwl _ (List.getElem_mem hkt)
      have Hs := Lib.hid hs
      clear hs
      by_cases hk0 : k = 0
      · subst hk0
        obtain rfl : S = [] := HS.out
        go_wp2
        go_round
        case rel => exact ⟨1, by omega, by go_num, jnP ws 1, Lib.hid rfl, by rw [ByteArray.mk_append_mk]; simp [jnP, List.getElem?_eq_getElem hkt, Hs.out]⟩
        case measure => simp [intOf]; omega
      · have hkp : 0 < k := by omega
        go_wp2
        go_round
        case rel => exact ⟨k + 1, by omega, by go_num, jnP ws (k + 1), Lib.hid rfl, by rw [ByteArray.mk_append_mk, ByteArray.mk_append_mk]; simp [jnP, List.getElem?_eq_getElem hkt, Hs.out, ← HS.out, hk0]⟩
        case measure => simp [intOf]; omega
    · have hke : k = m := by omega
      subst hke
      go_wp2
      go_ret
      exact ⟨by rw [HT.out, joinWs, hm.out, HS.out]; rfl, rfl⟩
end Go.Proofs.Ytnjfghlgknnhmaa
