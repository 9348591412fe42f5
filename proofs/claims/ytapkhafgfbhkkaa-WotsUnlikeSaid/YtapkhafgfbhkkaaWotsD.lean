/-
  Walks: portreevelaw06.awake; the statements WotsDigits and WotsUnlike.
-/
import Derived.Test.YtapkhafgfbhkkaaWotsC
import Derived.Test.YtapkhafgfbhkkaaRegion
namespace Go.Proofs.Ytapkhafgfbhkkaa
open Go.RowKit

section
variable {P : Program}
theorem run_part_int (w : World) {e : TypeId} (he : P.underlying e = some (.int .i64)) (l : List Nat) (i : Nat) (h : i < l.length) :
    (part e (icells l).toArray i).run P w = .ok (.int .i64 (l[i] : Nat)) w := by
  have hc : (icells l).toArray[i]? = some (.int .i64 (l[i] : Nat)) := by
    simp [icells, h]
  simp [part, isAgg, run_underlying he, hc]
theorem run_eqItems_ints (d : Nat) {e : TypeId} (he : P.underlying e = some (.int .i64)) (l : List Nat) (w : World) : ∀ (is : List Nat), (∀ i ∈ is, i < l.length) →
    (Op.eqItems (d + 1) e 1 (icells l).toArray (icells l).toArray is).run P w = .ok true w
  | [], _ => by simp [Op.eqItems]
  | i :: is, h => by
    have h1 := h i (by simp)
    have ih := run_eqItems_ints d he l w is (fun j hj => h j (by simp [hj]))
    simp only [Op.eqItems, Nat.mul_one, Sem.run_bind, run_part_int w he l i h1, Result.andThen_ok, run_equalIn_int w d e .i64 .i64 _ _ he]
    simpa using ih
theorem run_eql_ints (w : World) {t e : TypeId} {n : Nat} (hu : P.underlying t = some (.array n e)) (he : P.underlying e = some (.int .i64)) (hi : (P.info? e).isSome = true) (hC : P.cellsOf e = 1)
    (l : List Nat) (h : l.length = n) : (binOp .eql t (.agg (icells l).toArray) (.agg (icells l).toArray)).run P w = .ok (.bool true) w := by
  obtain ⟨i, hi'⟩ := Option.isSome_iff_exists.1 hi
  rw [run_eql_struct, run_equalIn_array w 9999 _ _ hu hi', hC, run_eqItems_ints 9998 he l w _ (by intro i hi; simp at hi; omega)]
  rfl
end
theorem digsEq (l : List Nat) (h : l.length = 67) (w : World) : (binOp .eql 25 (.agg (icells l).toArray) (.agg (icells l).toArray)).run Try.prog w = .ok (.bool true) w :=
  run_eql_ints w Try.underlying25 Try.underlying3 (by kernel_rfl) (by kernel_rfl) l h

def zeroNode : List UInt8 := List.replicate 32 0
theorem digs_zero : digs zeroNode = List.replicate 64 0 ++ [3, 12, 0] := by decide +kernel

theorem zcell {w : World} {g : Nat} (h : Blk w g 25 (icells (digs zeroNode)).toArray) (i v : Nat) (hv : (List.replicate 64 0 ++ [3, 12, 0])[i]? = some v) : w.cell? ⟨g, i, none⟩ = some (.int .i64 (v : Nat)) := by
  rw [h.cell, List.getElem?_toArray, icells, List.getElem?_map, digs_zero, hv]; rfl

set_option maxHeartbeats 1000000 in
theorem awake06 (w : World) : Calls Try.prog 5 #[] w fun e w' => e = .returned (.bool true) ∧ Below w.heap.size w w' := by
  go_enter Try.func5, Try.ntmps5
  go_wp2_with fail
  refine (mDigits_any zeroNode rfl w).mono ?_
  rintro e w1 ⟨rfl, hB1⟩
  have hl := Lib.hid (digs_length67 zeroNode)
  go_wp2_with ((with_reducible refine at_store 25 ?_); refine wpList_storeAll _ rfl 25 _ _ rfl w1.heap.size 25 _ (icells (digs zeroNode)).toArray (Blk.new w1 25 (icells zeros67).toArray) rfl rfl (by rw [List.size_toArray, List.size_toArray, icells_length, icells_length, hl.out]; rfl) (by rw [List.size_toArray, icells_length, hl.out]; kernel_rfl) (fun v hv => icells_one _ v (by simpa using hv)) ?_; intro w3 hb3 hg3 hs3; have c0 := zcell hb3 0 0 rfl; have c1 := zcell hb3 64 3 rfl; have c2 := zcell hb3 65 12 rfl; have c3 := zcell hb3 66 0 rfl)
  go_ret
  exact ⟨rfl, grown_below (hB1.alloc hB1.size _) hg3 (by simp; have := hB1.size; omega) hB1.size⟩

set_option maxHeartbeats 1000000 in
theorem wotsDigits_walk (w : World) (n : List UInt8) (hn' : n.length = 32) :
    Calls Try.prog 3 #[.agg (bcells n).toArray] w fun e w' => e = .returned (.bool true) ∧ Below w.heap.size w w' := by
  have HL : Hid ((bcells n).length = 32) := Lib.hid (by rw [bcells_length]; exact hn')
  have hdd := fun W => digsEq (digs n) (digs_length67 n) W
  have hn := Lib.hid hn'
  clear hn'
  go_enter Try.func3, Try.ntmps3
  go_wp2_with fail
  refine (awake06 _).mono ?_
  rintro e w1 ⟨rfl, hB1⟩
  have B1 := ((Below.refl w.heap.size w).alloc (Nat.le_refl _) (.cells (bcells n).toArray 23)).trans (hB1.mono (by simp))
  have hb0 := ((Blk.new w 23 (bcells n).toArray).below hB1 (by simp)).drew
  clear hB1
  go_wp2_with fail
  refine Reg.wp_region_pass (by kernel_rfl) (by kernel_rfl) ?_
  refine Reg.pass_val (.agg (bcells n).toArray) (Reg.met_none rfl) (fun a w hE hS => ?_) ?_
  · have e0 := Reg.see_old 1 hS (by kernel_rfl) (by kernel_rfl) rfl
    exact reg_load 23 1 rfl e0 (hb0.ext hE) Try.underlying23 rfl (by rw [List.size_toArray, HL.out]; exact infNode)
  refine Reg.pass_step (Reg.eqs (.agg (icells (digs n)).toArray)) (Reg.stable_eqs _) (Reg.met_none rfl) (fun a w hE hS => ?_) ?_
  · have e0 := Reg.see_new 5 0 hS (by kernel_rfl) (by kernel_rfl) rfl rfl
    refine Reg.wp_call rfl Try.func6 rfl (by kernel_rfl) (by simp [Act.eval, e0]) (mDigits_any n hn.out w) ?_
    rintro e w' ⟨rfl, hB⟩
    exact ⟨_, rfl, _, rfl, hB, rfl⟩
  refine Reg.pass_val (.agg (bcells n).toArray) (Reg.met_none rfl) (fun a w hE hS => ?_) ?_
  · have e0 := Reg.see_old 1 hS (by kernel_rfl) (by kernel_rfl) rfl
    exact reg_load 23 1 rfl e0 (hb0.ext hE) Try.underlying23 rfl (by rw [List.size_toArray, HL.out]; exact infNode)
  refine Reg.pass_step (Reg.eqs (.agg (icells (digs n)).toArray)) (Reg.stable_eqs _) (Reg.met_none rfl) (fun a w hE hS => ?_) ?_
  · have e0 := Reg.see_new 7 2 hS (by kernel_rfl) (by kernel_rfl) rfl rfl
    refine Reg.wp_call rfl Try.func7 rfl (by kernel_rfl) (by simp [Act.eval, e0]) (rDigits_any n hn.out w) ?_
    rintro e w' ⟨rfl, hB⟩
    exact ⟨_, rfl, _, rfl, hB, rfl⟩
  refine Reg.pass_val (.bool true) (Reg.met_none rfl) (fun a w hE hS => ?_) ?_
  · have e0 := Reg.see_new 6 1 hS (by kernel_rfl) (by kernel_rfl) rfl rfl
    have e1 := Reg.see_new 8 3 hS (by kernel_rfl) (by kernel_rfl) rfl rfl
    go_simp
  refine Reg.pass_copy 9 4 (Reg.met_none rfl) (.inr rfl) (by kernel_rfl) (by kernel_rfl) rfl rfl (by first | exact Reg.stable_eqs _ | exact Reg.stable_built _ _ _ | exact Reg.stable_bytes _ _) ?_
  refine Reg.pass_end [none, none, some 2, none, none, some 5, some 6, some 7, some 8, some 9] (by kernel_rfl) ?_
  intro f w9 hE hf
  have h2' : f 2 = .bool true := hf 2 5 _ (by kernel_rfl) rfl
  have B9 := B1.drew.trans (hE.below B1.size)
  clear hf hE hb0 B1
  simp only [Reg.sel, h2']
  go_wp2
  go_ret
  exact ⟨rfl, B9⟩
end Go.Proofs.Ytapkhafgfbhkkaa
