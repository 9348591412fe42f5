/-
  == on arrays of bytes (api.Node and its kin).
-/
import Derived.Test.YtnjfghlgknnhmaaKit
import Derived.ChangeKeysEq
namespace Go.Proofs.Ytnjfghlgknnhmaa
open Go.RowKit

section
variable {P : Program}
theorem run_part_byte (w : World) {e : TypeId} (he : P.underlying e = some (.int .u8)) (l : List UInt8) (i : Nat) (h : i < l.length) :
    (part e (bcells l).toArray i).run P w = .ok (.int .u8 (l[i].toNat : Int)) w := by
  have hc : (bcells l).toArray[i]? = some (.int .u8 (l[i].toNat : Int)) := by
    simp [bcells, h]
  simp [part, isAgg, run_underlying he, hc]

theorem run_eqItems_bytes (d : Nat) {e : TypeId} (he : P.underlying e = some (.int .u8)) (l1 l2 : List UInt8) (w : World) : ∀ (is : List Nat), (∀ i ∈ is, i < l1.length ∧ i < l2.length) →
    (Op.eqItems (d + 1) e 1 (bcells l1).toArray (bcells l2).toArray is).run P w = .ok (is.all fun i => l1[i]? == l2[i]?) w
  | [], _ => by simp [Op.eqItems]
  | i :: is, h => by
    obtain ⟨h1, h2⟩ := h i (by simp)
    have ih := run_eqItems_bytes d he l1 l2 w is (fun j hj => h j (by simp [hj]))
    have hb : (l1[i]? == l2[i]?) = ((l1[i].toNat : Int) == (l2[i].toNat : Int)) := by
      rw [List.getElem?_eq_getElem h1, List.getElem?_eq_getElem h2, Bool.eq_iff_iff]
      simp only [beq_iff_eq, Option.some.injEq]
      exact ⟨fun h => by rw [h], fun h => UInt8.toNat_inj.1 (by exact_mod_cast h)⟩
    simp only [Op.eqItems, Nat.mul_one, Sem.run_bind, run_part_byte w he l1 i h1, run_part_byte w he l2 i h2, Result.andThen_ok, run_equalIn_int w d e .u8 .u8 _ _ he, List.all_cons, hb]
    cases hq : ((l1[i].toNat : Int) == (l2[i].toNat : Int))
    · simp [Sem.run_pure]
    · simpa using ih

theorem all_range_eq (l1 l2 : List UInt8) (n : Nat) (h1 : l1.length = n) (h2 : l2.length = n) : ((List.range n).all fun i => l1[i]? == l2[i]?) = (l1 == l2) := by
  rw [Bool.eq_iff_iff, List.all_eq_true, beq_iff_eq]
  constructor
  · intro h
    apply List.ext_getElem?
    intro i
    by_cases hi : i < n
    · simpa using h i (by simpa using hi)
    · rw [List.getElem?_eq_none (by omega), List.getElem?_eq_none (by omega)]
  · rintro rfl i _
    simp

theorem run_eql_bytes (w : World) {t e : TypeId} {n : Nat} (hu : P.underlying t = some (.array n e)) (he : P.underlying e = some (.int .u8)) (hi : (P.info? e).isSome = true) (hC : P.cellsOf e = 1)
    (l1 l2 : List UInt8) (h1 : l1.length = n) (h2 : l2.length = n) :
    (binOp .eql t (.agg (bcells l1).toArray) (.agg (bcells l2).toArray)).run P w = .ok (.bool (l1 == l2)) w := by
  obtain ⟨i, hi'⟩ := Option.isSome_iff_exists.1 hi
  rw [run_eql_struct, run_equalIn_array w 9999 _ _ hu hi', hC, run_eqItems_bytes 9998 he l1 l2 w _ (by intro i hi; simp at hi; omega), all_range_eq l1 l2 n h1 h2]
  rfl
theorem run_neq_bytes (w : World) {t e : TypeId} {n : Nat} (hu : P.underlying t = some (.array n e)) (he : P.underlying e = some (.int .u8)) (hi : (P.info? e).isSome = true) (hC : P.cellsOf e = 1)
    (l1 l2 : List UInt8) (h1 : l1.length = n) (h2 : l2.length = n) :
    (binOp .neq t (.agg (bcells l1).toArray) (.agg (bcells l2).toArray)).run P w = .ok (.bool (!(l1 == l2))) w := by
  obtain ⟨i, hi'⟩ := Option.isSome_iff_exists.1 hi
  rw [run_neq_struct, run_equalIn_array w 9999 _ _ hu hi', hC, run_eqItems_bytes 9998 he l1 l2 w _ (by intro i hi; simp at hi; omega), all_range_eq l1 l2 n h1 h2]
  rfl
end

theorem infNode : (Try.prog.info? 29).map (·.size) = some 32 := by kernel_rfl
theorem nodeEq (l1 l2 : List UInt8) (h1 : l1.length = 32) (h2 : l2.length = 32) (w : World) : (binOp .eql 29 (.agg (bcells l1).toArray) (.agg (bcells l2).toArray)).run Try.prog w = .ok (.bool (l1 == l2)) w :=
  run_eql_bytes w Try.underlying29 Try.underlying5 (by kernel_rfl) (by kernel_rfl) l1 l2 h1 h2
theorem nodeNe (l1 l2 : List UInt8) (h1 : l1.length = 32) (h2 : l2.length = 32) (w : World) : (binOp .neq 29 (.agg (bcells l1).toArray) (.agg (bcells l2).toArray)).run Try.prog w = .ok (.bool (!(l1 == l2))) w :=
  run_neq_bytes w Try.underlying29 Try.underlying5 (by kernel_rfl) (by kernel_rfl) l1 l2 h1 h2
theorem nodeGuard : Try.prog.eqGuardType Try.prog.depth 29 = false := by kernel_rfl
end Go.Proofs.Ytnjfghlgknnhmaa
