/-
  Walks: word.Add, Down, Up, Aligned, portreeveref01.Down, Up; the statements WordAdds, WordAligns.
-/
import Derived.Test.YtebdehhamjlbpaaWordE
import Derived.Laws.Externs
namespace Go.Proofs.Ytebdehhamjlbpaa
open Go.RowKit

def P64 : Nat := 18446744073709551616
theorem add64_fits (x y : Nat) (h : x + y < P64) (w : World) :
    (callFunc 49 #[.int .u64 (x : Int), .int .u64 (y : Int), .int .u64 0]).run Try.prog w = .ok (.value (.tuple #[.int .u64 ((x : Int) + y), .int .u64 0])) w := by
  unfold P64 at h
  rw [run_callFunc_extern Try.func49 (by kernel_rfl) (by kernel_rfl) (by kernel_rfl) (e := add64Entry) (by kernel_rfl), run_add64 x y 0 (by omega) (by omega) (by omega) (by omega)]
  simp only [Result.andThen]
  rw [show ((x : Int) + y + 0) % 18446744073709551616 = x + y by omega, show ((x : Int) + y + 0) / 18446744073709551616 = 0 by omega]
theorem add64_over (x y : Nat) (h : P64 ≤ x + y) (hx : x < P64) (hy : y < P64) : ∃ z : Int, ∀ w,
    (callFunc 49 #[.int .u64 (x : Int), .int .u64 (y : Int), .int .u64 0]).run Try.prog w = .ok (.value (.tuple #[.int .u64 z, .int .u64 1])) w := by
  unfold P64 at h hx hy
  refine ⟨((x : Int) + y + 0) % 18446744073709551616, fun w => ?_⟩
  rw [run_callFunc_extern Try.func49 (by kernel_rfl) (by kernel_rfl) (by kernel_rfl) (e := add64Entry) (by kernel_rfl), run_add64 x y 0 (by omega) (by omega) (by omega) (by omega)]
  simp only [Result.andThen]
  rw [show ((x : Int) + y + 0) / 18446744073709551616 = 1 by omega]

theorem sum_take_succ (xs : List Nat) (k : Nat) (h : k < xs.length) : (xs.take (k + 1)).sum = (xs.take k).sum + xs[k]?.getD 0 := by
  rw [List.take_succ_eq_append_getElem h, List.getElem?_eq_getElem h]; simp only [List.sum_append, List.sum_cons, List.sum_nil, Nat.add_zero, Option.getD_some]
theorem sum_take_le (xs : List Nat) (k : Nat) : (xs.take k).sum ≤ xs.sum := by
  have e : (xs.take k ++ xs.drop k).sum = (xs.take k).sum + (xs.drop k).sum := List.sum_append
  rw [List.take_append_drop] at e
  omega

def addNum (xs : List Nat) : Nat := if xs.sum < P64 then xs.sum else 0
def addOk (xs : List Nat) : Bool := decide (xs.sum < P64)

set_option maxHeartbeats 400000 in
theorem add_any (A : Option Addr) (n c : Nat) (xs : List Nat) (w : World) (h : Rd w w.heap.size 1 A n (xs.map fun (x : Nat) => Value.int .u64 (x : Int))) (hm : n ≤ 1000) (hb : ∀ x ∈ xs, x < P64) :
    Calls Try.prog 36 #[.slice A n c] w fun e w' => e = .returned (.tuple #[.int .u64 (addNum xs : Nat), .bool (addOk xs)]) ∧ w = w' := by
  have hlen : xs.length = n := by have := h.len; simpa using this
  have HL := Lib.hid hlen; clear hlen
  go_enter Try.func36, Try.ntmps36
  go_wp2
  go_loop [4, 11] (fun t i => ∃ k : Nat, k ≤ n ∧ i = .int .i64 k ∧ t = .int .u64 ((xs.take k).sum : Nat) ∧ (xs.take k).sum < P64) (fun _ i => n - (intOf i).toNat)
  case atStart => exact ⟨0, Nat.zero_le _, rfl, rfl, by simp [P64]⟩
  case round =>
    obtain ⟨k, hk, rfl, rfl, hs⟩ := hrel
    by_cases hlt : k < n
    · obtain ⟨a, rfl, hab, hcs⟩ := h.cells (by omega)
      have hkl : k < xs.length := by rw [HL.out]; exact hlt
      have hx : xs[k]?.getD 0 < P64 := by rw [List.getElem?_eq_getElem hkl]; exact hb _ (List.getElem_mem hkl)
      have c1 : w.cell? (a.add k) = some (.int .u64 (xs[k]?.getD 0 : Nat)) := hcs k _ (by rw [List.getElem?_map, List.getElem?_eq_getElem hkl]; rfl)
      have HS := Lib.hid (sum_take_succ xs k hkl)
      clear hcs h
      generalize hy : xs[k]?.getD 0 = y at *
      generalize hz : (xs.take k).sum = z at *
      have HY := Lib.hid hy
      have HZ := Lib.hid hz
      clear hy hz
      by_cases hf : z + y < P64
      · have hrun := add64_fits z y hf
        clear hs hx
        have HF := Lib.hid hf
        clear hf
        go_wp2
        go_round
        case rel => exact ⟨k + 1, by omega, by go_num, by rw [HS.out]; go_num, by rw [HS.out]; exact HF.out⟩
        case measure => simp [intOf]; omega
      · obtain ⟨u, hrun⟩ := add64_over z y (by omega) hs hx
        have hno : ¬ xs.sum < P64 := by
          have := sum_take_le xs (k + 1)
          rw [HS.out] at this
          omega
        have H1 := Lib.hid hno
        clear hf hs hx hno hb
        go_wp2
        go_ret2
        exact ⟨by rw [addNum, addOk, if_neg H1.out, decide_eq_false H1.out]; rfl, rfl⟩
    · obtain rfl : k = n := by omega
      have hall : xs.take k = xs := List.take_of_length_le (by rw [HL.out]; exact Nat.le_refl _)
      rw [hall] at hs ⊢
      have H1 := Lib.hid hs
      clear hall hs hb
      go_wp2
      go_ret2
      exact ⟨by rw [addNum, addOk, if_pos H1.out, decide_eq_true H1.out]; rfl, rfl⟩

set_option maxHeartbeats 1000000 in
theorem wordAdds_walk (w : World) (a0 : Int) (w0 : (Lit.int .u64 a0).wf = true) (a1 : Int) (w1 : (Lit.int .u64 a1).wf = true) (a2 : Int) (w2 : (Lit.int .u64 a2).wf = true) :
    Calls Try.prog 12 #[.int .u64 a0, .int .u64 a1, .int .u64 a2] w fun e w' => e = .returned (.bool true) ∧ Below w.heap.size w w' := by
  obtain ⟨a, ha, rfl⟩ := wf_u64 w0
  obtain ⟨b, hb, rfl⟩ := wf_u64 w1
  obtain ⟨c, hc, rfl⟩ := wf_u64 w2
  clear w0 w1 w2
  have hall : ∀ x ∈ [a, b, c], x < P64 := by
    intro x hx
    simp only [List.mem_cons, List.not_mem_nil, or_false] at hx
    unfold P64
    rcases hx with rfl | rfl | rfl <;> assumption
  have hsum : [a, b, c].sum = a + b + c := by simp only [List.sum_cons, List.sum_nil]; omega
  have hn : addNum [] = 0 ∧ addOk [] = true := by constructor <;> decide
  by_cases h1 : a + b + c < P64
  · have e1 : addNum [a, b, c] = a + b + c := by rw [addNum, hsum, if_pos h1]
    have e2 : addOk [a, b, c] = true := by rw [addOk, hsum, decide_eq_true h1]
    unfold P64 at h1
    have E1 := Lib.hid e1; have E2 := Lib.hid e2; have HA := Lib.hid hall; have HN := Lib.hid hn
    clear e1 e2 hall hsum hn
    have d1 : decide ((a : Int) ≤ 18446744073709551615 - (b : Int)) = true := by simp; omega
    have d2 : decide ((a : Int) + (b : Int) ≤ 18446744073709551615 - (c : Int)) = true := by simp; omega
    go_enter Try.func12, Try.ntmps12
    go_wp2_with (go_at_call 21; refine (awake01 _).mono ?_; rintro e w1 ⟨rfl, B1⟩)
    refine (add_any (some ⟨w1.heap.size, 0, none⟩) 3 3 [a, b, c] _ ((Blk.new w1 23 #[.int .u64 a, .int .u64 b, .int .u64 c]).rd rfl) (by omega) HA.out).mono ?_
    rintro e w2 ⟨rfl, rfl⟩
    rw [E1.out, E2.out]
    go_wp2_with fail
    refine (add_any none 0 0 [] _ (Rd.nil _ _ _ _) (by omega) (by simp)).mono ?_
    rintro e w2 ⟨rfl, rfl⟩
    rw [HN.out.1, HN.out.2]
    go_wp2
    go_ret
    exact ⟨by simp, B1.alloc B1.size _⟩
  by_cases h2 : a + b < P64
  · have e1 : addNum [a, b, c] = 0 := by rw [addNum, hsum, if_neg h1]
    have e2 : addOk [a, b, c] = false := by rw [addOk, hsum, decide_eq_false h1]
    unfold P64 at h1 h2
    have E1 := Lib.hid e1; have E2 := Lib.hid e2; have HA := Lib.hid hall; have HN := Lib.hid hn
    clear e1 e2 hall hsum hn
    have d1 : decide ((a : Int) ≤ 18446744073709551615 - (b : Int)) = true := by simp; omega
    have d2 : decide ((a : Int) + (b : Int) ≤ 18446744073709551615 - (c : Int)) = false := by simp; omega
    go_enter Try.func12, Try.ntmps12
    go_wp2_with (go_at_call 21; refine (awake01 _).mono ?_; rintro e w1 ⟨rfl, B1⟩)
    refine (add_any (some ⟨w1.heap.size, 0, none⟩) 3 3 [a, b, c] _ ((Blk.new w1 23 #[.int .u64 a, .int .u64 b, .int .u64 c]).rd rfl) (by omega) HA.out).mono ?_
    rintro e w2 ⟨rfl, rfl⟩
    rw [E1.out, E2.out]
    go_wp2_with fail
    refine (add_any none 0 0 [] _ (Rd.nil _ _ _ _) (by omega) (by simp)).mono ?_
    rintro e w2 ⟨rfl, rfl⟩
    rw [HN.out.1, HN.out.2]
    go_wp2
    go_ret
    exact ⟨by simp, B1.alloc B1.size _⟩
  · have e1 : addNum [a, b, c] = 0 := by rw [addNum, hsum, if_neg h1]
    have e2 : addOk [a, b, c] = false := by rw [addOk, hsum, decide_eq_false h1]
    unfold P64 at h1 h2
    have E1 := Lib.hid e1; have E2 := Lib.hid e2; have HA := Lib.hid hall; have HN := Lib.hid hn
    clear e1 e2 hall hsum hn
    have d1 : decide ((a : Int) ≤ 18446744073709551615 - (b : Int)) = false := by simp; omega
    go_enter Try.func12, Try.ntmps12
    go_wp2_with (go_at_call 21; refine (awake01 _).mono ?_; rintro e w1 ⟨rfl, B1⟩)
    refine (add_any (some ⟨w1.heap.size, 0, none⟩) 3 3 [a, b, c] _ ((Blk.new w1 23 #[.int .u64 a, .int .u64 b, .int .u64 c]).rd rfl) (by omega) HA.out).mono ?_
    rintro e w2 ⟨rfl, rfl⟩
    rw [E1.out, E2.out]
    go_wp2_with fail
    refine (add_any none 0 0 [] _ (Rd.nil _ _ _ _) (by omega) (by simp)).mono ?_
    rintro e w2 ⟨rfl, rfl⟩
    rw [HN.out.1, HN.out.2]
    go_wp2
    go_ret
    exact ⟨by simp, B1.alloc B1.size _⟩
end Go.Proofs.Ytebdehhamjlbpaa
