/-
  Walks: portreevelaw06.awake; the statements WotsDigits and WotsUnlike.
-/
import Derived.Test.YtapkhafgfbhkkaaDoorWotsC
import Derived.Test.YtapkhafgfbhkkaaDoorRegion
namespace Go.Proofs.YtapkhafgfbhkkaaDoor
open Go.RowKit

section
variable {P : Program}
theorem run_part_int (w : World) {e : TypeId} (he : P.underlying e = some (.int .i64)) (l : List Nat) (i : Nat) (h : i < l.length) :
    (part e (icells l).toArray i).run P w = .ok (.int .i64 (l[i] : Nat)) w := by
  have hc : (icells l).toArray[i]? = some (.int .i64 (l[i] : Nat)) := by
    simp [icells, h]
  simp [part, isAgg, run_underlying he, hc]
theorem run_eqItems_ints (d : Nat) {e : TypeId} (he : P.underlying e = some (.int .i64)) (l : List Nat) (w : World) : ∀ (is : List Nat), (∀ i ∈ is, i < l.length) →
    (Op.eqItems (d + 1) e 1 (icells l).toArray (icells l).toArray is).run P w = .ok true w
  | [], _ => by simp [Op.eqItems]
  | i :: is, h => by
    have h1 := h i (by simp)
    have ih := run_eqItems_ints d he l w is (fun j hj => h j (by simp [hj]))
    simp only [Op.eqItems, Nat.mul_one, Sem.run_bind, run_part_int w he l i h1, Result.andThen_ok, run_equalIn_int w d e .i64 .i64 _ _ he]
    simpa using ih
theorem run_eql_ints (w : World) {t e : TypeId} {n : Nat} (hu : P.underlying t = some (.array n e)) (he : P.underlying e = some (.int .i64)) (hi : (P.info? e).isSome = true) (hC : P.cellsOf e = 1)
    (l : List Nat) (h : l.length = n) : (binOp .eql t (.agg (icells l).toArray) (.agg (icells l).toArray)).run P w = .ok (.bool true) w := by
  obtain ⟨i, hi'⟩ := Option.isSome_iff_exists.1 hi
  rw [run_eql_struct, run_equalIn_array w 9999 _ _ hu hi', hC, run_eqItems_ints 9998 he l w _ (by intro i hi; simp at hi; omega)]
  rfl
end
theorem digsEq (l : List Nat) (h : l.length = 67) (w : World) : (binOp .eql 54 (.agg (icells l).toArray) (.agg (icells l).toArray)).run Tryd.prog w = .ok (.bool true) w :=
  run_eql_ints w Tryd.underlying54 Tryd.underlying3 (by kernel_rfl) (by kernel_rfl) l h

def zeroNodeL : List UInt8 := List.replicate 32 0
theorem wdigs_zero : wdigs zeroNodeL = List.replicate 64 0 ++ [3, 12, 0] := by decide +kernel

theorem zcell {w : World} {g : Nat} (h : Blk w g 54 (icells (wdigs zeroNodeL)).toArray) (i v : Nat) (hv : (List.replicate 64 0 ++ [3, 12, 0])[i]? = some v) : w.cell? ⟨g, i, none⟩ = some (.int .i64 (v : Nat)) := by
  rw [h.cell, List.getElem?_toArray, icells, List.getElem?_map, wdigs_zero, hv]; rfl

set_option maxHeartbeats 1000000 in
theorem awake06 (w : World) : Calls Tryd.prog 29 #[] w fun e w' => e = .returned (.bool true) ∧ Below w.heap.size w w' := by
  go_enter Tryd.func29, Tryd.ntmps29
  go_wp2_with fail
  refine (mDigits_any zeroNodeL rfl w).mono ?_
  rintro e w1 ⟨rfl, hB1⟩
  have hl := Lib.hid (wdigs_length67 zeroNodeL)
  go_wp2_with ((with_reducible refine at_store 54 ?_); refine wpList_storeAll _ rfl 54 _ _ rfl w1.heap.size 54 _ (icells (wdigs zeroNodeL)).toArray (Blk.new w1 54 (icells zeros67).toArray) rfl rfl (by rw [List.size_toArray, List.size_toArray, icells_length, icells_length, hl.out]; rfl) (by rw [List.size_toArray, icells_length, hl.out]; kernel_rfl) (fun v hv => icells_one _ v (by simpa using hv)) ?_; intro w3 hb3 hg3 hs3; have c0 := zcell hb3 0 0 rfl; have c1 := zcell hb3 64 3 rfl; have c2 := zcell hb3 65 12 rfl; have c3 := zcell hb3 66 0 rfl)
  go_ret
  exact ⟨rfl, grown_below (hB1.alloc hB1.size _) hg3 (by simp; have := hB1.size; omega) hB1.size⟩

end Go.Proofs.YtapkhafgfbhkkaaDoor
