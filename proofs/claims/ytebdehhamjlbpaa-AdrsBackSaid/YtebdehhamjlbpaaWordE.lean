/-
  Walk: portreevelaw01.awake; the statement WordHexes' walk.
-/
import Derived.Test.YtebdehhamjlbpaaWordD
namespace Go.Proofs.Ytebdehhamjlbpaa
open Go.RowKit

theorem wf_u64 {a : Int} (h : (Lit.int .u64 a).wf = true) : ∃ x : Nat, x < 18446744073709551616 ∧ a = (x : Int) := by
  simp [Lit.wf, IntKind.min, IntKind.max, IntKind.bits, IntKind.signed] at h
  exact ⟨a.toNat, by omega, by omega⟩
theorem wf_u32 {a : Int} (h : (Lit.int .u32 a).wf = true) : ∃ x : Nat, x < 4294967296 ∧ a = (x : Int) := by
  simp [Lit.wf, IntKind.min, IntKind.max, IntKind.bits, IntKind.signed] at h
  exact ⟨a.toNat, by omega, by omega⟩
theorem wf_u8 {a : Int} (h : (Lit.int .u8 a).wf = true) : ∃ x : Nat, x < 256 ∧ a = (x : Int) := by
  simp [Lit.wf, IntKind.min, IntKind.max, IntKind.bits, IntKind.signed] at h
  exact ⟨a.toNat, by omega, by omega⟩
theorem wf_i64 {a : Int} (h : (Lit.int .i64 a).wf = true) : -9223372036854775808 ≤ a ∧ a ≤ 9223372036854775807 := by
  simp [Lit.wf, IntKind.min, IntKind.max, IntKind.bits, IntKind.signed] at h
  omega

theorem own_form {w : World} {base : Nat} {e : TypeId} {A : Option Addr} {n c : Nat} {xs : List Value} (h : w.ownsRow base e 1 (.slice A n c) n xs) (hn : 0 < n) :
    ∃ g, A = some ⟨g, 0, none⟩ ∧ base ≤ g ∧ g < w.heap.size ∧ (∀ j v, xs[j]? = some v → w.cell? ⟨g, j, none⟩ = some v) ∧ (∀ j, w.frozen? ⟨g, j, none⟩ = false) := by
  rcases h.2 with ⟨e1, h0⟩ | ⟨g, cap, cur, e1, hb, hh, _⟩
  · omega
  · injection e1 with e1 _ _
    subst e1
    refine ⟨g, rfl, hb, (Array.getElem?_eq_some_iff.1 hh).1, fun j v hv => ?_, fun j => frozen_of_row w g j cur e hh⟩
    have := h.cells (g := g) rfl j v hv
    rw [addr_lit] at this; simpa using this

theorem HexLen.ff : HexLen 255 2 :=
  ⟨by omega, by decide, fun i h1 h2 => by
    obtain rfl : i = 1 := by omega
    decide⟩
theorem put_some : putAll [1, 258] 4 false = [0, 0, 0, 1, 0, 0, 1, 2] := by decide
theorem read_some : rdNum [0, 0, 0, 1, 0, 0, 1, 2] 4 4 true = 33619968 ∧ rdOk [0, 0, 0, 1, 0, 0, 1, 2] 4 4 = true := by decide

set_option maxHeartbeats 400000 in
theorem awake01 (w : World) : Calls Try.prog 21 #[] w fun e w' => e = .returned (.bool true) ∧ Below w.heap.size w w' := by
  go_enter Try.func21, Try.ntmps21
  go_wp2_with (go_at_call 30; refine (putBe32_any none 0 0 [] _ (some ⟨w.heap.size, 0, none⟩) 2 2 [1, 258] (Rd.nil _ _ _ _) (by omega) ((Blk.new w 22 #[.int .u32 1, .int .u32 258]).rd rfl) (by omega)).mono ?_; rintro e w' ⟨A', c', rfl, hO, hB⟩)
  rw [List.nil_append, put_some] at hO
  have hB0 : Below w.heap.size w w' := ((Below.refl _ _).alloc (Nat.le_refl _) _).trans (hB.mono (by simp))
  obtain ⟨g, rfl, hg, hg2, hcell, _⟩ := own_form hO (by omega)
  have c3 := hcell 3 (.int .u8 1) rfl
  have c6 := hcell 6 (.int .u8 1) rfl
  have hR := Rd.of_own hO
  have hgs : w.heap.size ≤ g := by simp at hg; omega
  clear hcell hO hB
  refine (le32_any (some ⟨g, 0, none⟩) 8 c' 4 [0, 0, 0, 1, 0, 0, 1, 2] w' hR (by omega)).mono ?_
  rintro e w1 ⟨rfl, rfl⟩
  rw [read_some.1, read_some.2]
  go_wp2_with (go_at_call 22; refine (hex_any 255 (by omega) _).mono ?_; rintro e w2 ⟨⟨J, hJ, rfl⟩, hB2⟩; obtain rfl := hJ.uniq HexLen.ff)
  go_ret
  exact ⟨rfl, hB0.trans (hB2.mono (by omega))⟩

set_option maxHeartbeats 400000 in
theorem wordHexes_walk (w : World) (a0 : Int) (w0 : (Lit.int .u64 a0).wf = true) :
    Calls Try.prog 6 #[.int .u64 a0] w fun e w' => e = .returned (.bool true) ∧ Below w.heap.size w w' := by
  obtain ⟨x, hx, rfl⟩ := wf_u64 w0
  go_enter Try.func6, Try.ntmps6
  go_wp2_with (go_at_call 21; refine (awake01 _).mono ?_; rintro e w1 ⟨rfl, hB1⟩)
  refine (hex_any x hx _).mono ?_
  rintro e w2 ⟨⟨J, hJ, rfl⟩, hB2⟩
  go_wp2_with fail
  refine (rhex_any x hx _).mono ?_
  rintro e w3 ⟨⟨K, hK, rfl⟩, rfl⟩
  obtain rfl := hJ.uniq hK
  go_wp2
  go_ret
  exact ⟨by simp, hB1.trans (hB2.mono hB1.size)⟩
end Go.Proofs.Ytebdehhamjlbpaa
