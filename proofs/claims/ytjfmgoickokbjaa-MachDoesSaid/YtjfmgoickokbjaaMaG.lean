/-
  Walks: (*Mem).ask of both.
-/
import Derived.Test.YtjfmgoickokbjaaBQ
namespace Go.Proofs.Ytjfmgoickokbjaa
open Go.RowKit

def askErr (ram : Sp) (a n : Nat) : Int := if 1048576 < n then 2 else if 0 < n ∧ (Sp.mk a n).within ram = false then 90 else 0
theorem ask_ok {ram : Sp} {a n : Nat} (h : askErr ram a n = 0) : n ≤ 1048576 ∧ (n = 0 ∨ (ram.base ≤ a ∧ a + n ≤ ram.base + ram.size ∧ a + n ≤ 18446744073709551616)) := by
  unfold askErr at h
  split at h
  · cases h
  · rename_i h1
    refine ⟨by omega, ?_⟩
    split at h
    · cases h
    · rename_i h2
      by_cases h0 : n = 0
      · exact .inl h0
      · right
        have hw : (Sp.mk a n).within ram = true := by
          cases hc : (Sp.mk a n).within ram with
          | true => rfl
          | false => exact absurd ⟨by omega, hc⟩ h2
        simp only [Sp.within, decide_eq_true_eq, Sp.good_iff] at hw
        omega
theorem run_sp (a n : Int) (w : World) : (Instr.build 24 #[(0, .int .u64 a), (1, .int .u64 n)]).run Try.prog w = .ok (.agg #[.int .u64 a, .int .u64 n]) w := by
  have := run_build_rows (P := Try.prog) w (t := 24) (z := #[.int .u64 0, .int .u64 0]) #[(0, .int .u64 a), (1, .int .u64 n)] [.int .u64 a, .int .u64 n] [(0, 1), (1, 1)]
    Try.underlying24 (by kernel_rfl) (by kernel_rfl) rfl (by simp [Rows1, Value.cells]) (by simp [flat, Value.cells])
  simpa [flat, Value.cells] using this
theorem pm_ram {w : World} {p : Nat} {ram : Sp} {v : Value} {t : TypeId} (h : Blk w p t #[.int .u64 (ram.base : Int), .int .u64 (ram.size : Int), v]) : w.rangeAt p 0 ram.cells.toList := by
  intro j v hv
  rw [Nat.zero_add, h.cell]
  match j, hv with
  | 0, hv => exact hv
  | 1, hv => exact hv

theorem mapNil (bm : Nat) (w : World) : (binOp .eql 81 (.map (some bm)) (.map none)).run Try.prog w = .ok (.bool false) w := by kernel_rfl
theorem pgNe (g : Nat) (w : World) : (binOp .neq 26 (pgV g) (.slice none 0 0)).run Try.prog w = .ok (.bool true) w := by kernel_rfl
theorem pgEq (g : Nat) (w : World) : (binOp .eql 26 (pgV g) (.slice none 0 0)).run Try.prog w = .ok (.bool false) w := by kernel_rfl

set_option maxRecDepth 100000 in
set_option maxHeartbeats 1000000 in
theorem mask_any (p : Nat) (ram : Sp) (okr : ram.ok) (bm : Nat) (a n : Nat) (ha : a < 18446744073709551616) (hn : n < 18446744073709551616) (w : World) (hb : Blk w p 83 #[.int .u64 (ram.base : Int), .int .u64 (ram.size : Int), .map (some bm)]) :
    Calls Try.prog 35 #[.pointer (some ⟨p, 0, none⟩), .int .u64 (a : Int), .int .u64 (n : Int)] w fun e w' => e = .returned (.int .i64 (askErr ram a n)) ∧ Below w.heap.size w w' := by
  have c2 : w.cell? ⟨p, 2, none⟩ = some (.map (some bm)) := (hb.cell 2).trans rfl
  have hr := pm_ram hb
  have hmn := mapNil bm
  by_cases h1 : 1048576 < n
  · have he : Hid (askErr ram a n = 2) := Lib.hid (by rw [askErr, if_pos h1])
    have hd : decide ((1048576 : Int) < (n : Int)) = true := decide_eq_true (by omega)
    clear h1 hb
    go_enter Try.func35, Try.ntmps35
    go_wp2
    go_ret
    exact ⟨ret_int he.out.symm, Below.refl _ _⟩
  · have hd : decide ((1048576 : Int) < (n : Int)) = false := decide_eq_false (by omega)
    by_cases h0 : n = 0
    · subst h0
      have he : Hid (askErr ram a 0 = 0) := Lib.hid (by rw [askErr, if_neg h1, if_neg (by omega)])
      clear h1 hb hd
      go_enter Try.func35, Try.ntmps35
      go_wp2
      go_ret
      exact ⟨ret_int he.out.symm, Below.refl _ _⟩
    · have hpos : 0 < n := by omega
      have he : Hid (askErr ram a n = if (Sp.mk a n).within ram then 0 else 90) := Lib.hid (by
        rw [askErr, if_neg h1]
        cases (Sp.mk a n).within ram
        · rw [if_pos ⟨by omega, rfl⟩]; rfl
        · rw [if_neg (by simp)]; rfl)
      have hw := within_any ⟨a, n⟩ ram ⟨ha, hn⟩ okr w
      obtain ⟨q, hq⟩ : ∃ q, q = (Sp.mk a n).within ram := ⟨_, rfl⟩
      rw [← hq] at hw he
      clear h1 hb h0 hq
      have hd0 : decide ((0 : Int) < (n : Int)) = true := decide_eq_true (by omega)
      go_enter Try.func35, Try.ntmps35
      go_wp2_with (first
        | ((with_reducible refine at_load 24 ?_); refine wpList_load_midW rfl 24 _ rfl p 0 rfl ram.cells.toList _ hr Try.underlying24 rfl infSpan ?_)
        | ((with_reducible refine at_build 24 ?_); refine wpList_buildV _ rfl #[(0, .int .u64 (a : Int)), (1, .int .u64 (n : Int))] rfl (by simp [Act.eval]) (run_sp _ _ _) ?_))
      refine Calls.mono hw ?_
      rintro e w2 ⟨rfl, hB⟩
      clear hw hr c2
      cases q
      all_goals
        go_wp2
        go_ret
        exact ⟨ret_int he.out.symm, hB⟩
end Go.Proofs.Ytjfmgoickokbjaa
