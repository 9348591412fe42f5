/-
  Walk: portreevelaw01.awake; the statement WordHexes' walk.
-/
import Derived.Test.YtapkhafgfbhkkaaDoorWordD
namespace Go.Proofs.YtapkhafgfbhkkaaDoor
open Go.RowKit

theorem wf_u64 {a : Int} (h : (Lit.int .u64 a).wf = true) : ∃ x : Nat, x < 18446744073709551616 ∧ a = (x : Int) := by
  simp [Lit.wf, IntKind.min, IntKind.max, IntKind.bits, IntKind.signed] at h
  exact ⟨a.toNat, by omega, by omega⟩
theorem wf_u32 {a : Int} (h : (Lit.int .u32 a).wf = true) : ∃ x : Nat, x < 4294967296 ∧ a = (x : Int) := by
  simp [Lit.wf, IntKind.min, IntKind.max, IntKind.bits, IntKind.signed] at h
  exact ⟨a.toNat, by omega, by omega⟩
theorem wf_u8 {a : Int} (h : (Lit.int .u8 a).wf = true) : ∃ x : Nat, x < 256 ∧ a = (x : Int) := by
  simp [Lit.wf, IntKind.min, IntKind.max, IntKind.bits, IntKind.signed] at h
  exact ⟨a.toNat, by omega, by omega⟩
theorem wf_i64 {a : Int} (h : (Lit.int .i64 a).wf = true) : -9223372036854775808 ≤ a ∧ a ≤ 9223372036854775807 := by
  simp [Lit.wf, IntKind.min, IntKind.max, IntKind.bits, IntKind.signed] at h
  omega

theorem own_form {w : World} {base : Nat} {e : TypeId} {A : Option Addr} {n c : Nat} {xs : List Value} (h : w.ownsRow base e 1 (.slice A n c) n xs) (hn : 0 < n) :
    ∃ g, A = some ⟨g, 0, none⟩ ∧ base ≤ g ∧ g < w.heap.size ∧ (∀ j v, xs[j]? = some v → w.cell? ⟨g, j, none⟩ = some v) ∧ (∀ j, w.frozen? ⟨g, j, none⟩ = false) := by
  rcases h.2 with ⟨e1, h0⟩ | ⟨g, cap, cur, e1, hb, hh, _⟩
  · omega
  · injection e1 with e1 _ _
    subst e1
    refine ⟨g, rfl, hb, (Array.getElem?_eq_some_iff.1 hh).1, fun j v hv => ?_, fun j => frozen_of_row w g j cur e hh⟩
    have := h.cells (g := g) rfl j v hv
    rw [addr_lit] at this; simpa using this

theorem HexLen.ff : HexLen 255 2 :=
  ⟨by omega, by decide, fun i h1 h2 => by
    obtain rfl : i = 1 := by omega
    decide⟩
theorem put_some : putAll [1, 258] 4 false = [0, 0, 0, 1, 0, 0, 1, 2] := by decide
theorem read_some : rdNum [0, 0, 0, 1, 0, 0, 1, 2] 4 4 true = 33619968 ∧ rdOk [0, 0, 0, 1, 0, 0, 1, 2] 4 4 = true := by decide

end Go.Proofs.YtapkhafgfbhkkaaDoor
