/-
  Walks: SameVerdict of verdicts that are one; few; awake.
-/
import Derived.Test.YtipdmhppadapkaaGreatDoorLdJ
namespace Go.Proofs.YtipdmhppadapkaaGreatDoor
open Go.RowKit Sha

theorem blk2a (w : World) (o1 : Obj) (t : TypeId) (cs : Array Value) : Blk ((w.alloc (.cells cs t)).alloc o1) w.heap.size t cs := (Blk.new w t cs).alloc o1
theorem blk2b (w : World) (o0 : Obj) (t : TypeId) (cs : Array Value) : Blk ((w.alloc o0).alloc (.cells cs t)) (w.heap.size + 1) t cs := by
  have h := (Blk.new (w.alloc o0) t cs)
  rwa [World.size_alloc] at h

set_option maxRecDepth 100000 in
set_option maxHeartbeats 2000000 in
theorem svd_any (E : Int) (V : Nat) (D PL : List UInt8) (hd : D.length = 32) (A1 A2 : Option Addr) (n k1 k2 : Nat) (w : World) (h1 : Rd w w.heap.size 1 A1 n (bcells PL)) (h2 : Rd w w.heap.size 1 A2 n (bcells PL)) :
    Calls Tryz.prog 9 #[.agg (vdCells E V D A1 n k1).toArray, .agg (vdCells E V D A2 n k2).toArray] w fun e w' => e = .returned (.bool true) ∧ Below w.heap.size w w' := by
  have hA := blk2a w (.cells (vdCells E V D A2 n k2).toArray 41) 41 (vdCells E V D A1 n k1).toArray
  have hB := blk2b w (.cells (vdCells E V D A1 n k1).toArray 41) 41 (vdCells E V D A2 n k2).toArray
  have B1 : Below w.heap.size w ((w.alloc (.cells (vdCells E V D A1 n k1).toArray 41)).alloc (.cells (vdCells E V D A2 n k2).toArray 41)) := ((Below.refl _ _).alloc (Nat.le_refl _) _).alloc (by simp) _
  have s1 := run_str _ 22 9 5 A1 n k1 PL Tryz.underlying22 Tryz.underlying5 Tryz.underlying9 (h1.below B1)
  have s2 := run_str _ 22 9 5 A2 n k2 PL Tryz.underlying22 Tryz.underlying5 Tryz.underlying9 (h2.below B1)
  have c1 := vd_e hA
  have c2 := vd_e hB
  have c3 := vd_ver hA
  have c4 := vd_ver hB
  have c5 := vd_pay hA hd
  have c6 := vd_pay hB hd
  have r1 := vd_dig hA
  have r2 := vd_dig hB
  have hd2 := Lib.hid hd
  clear hd
  have hne := nodeEq D D hd2.out hd2.out
  rw [beq_self_eq_true] at hne
  have hz := zeroVd
  go_enter Tryz.func9, Tryz.ntmps9
  go_wp2_with (first
    | ((with_reducible refine at_load 39 ?_); refine wpList_load_midW rfl 39 _ rfl w.heap.size 2 rfl (bcells D) _ r1 Tryz.underlying39 rfl (by rw [bcells_length, hd2.out]; exact infNode) ?_)
    | ((with_reducible refine at_load 39 ?_); refine wpList_load_midW rfl 39 _ rfl (w.heap.size + 1) 2 rfl (bcells D) _ r2 Tryz.underlying39 rfl (by rw [bcells_length, hd2.out]; exact infNode) ?_)
    | ((with_reducible refine at_binT 39 ?_); refine wpList_eql _ rfl rfl (xs := (bcells D).toArray) (ys := (bcells D).toArray) rfl rfl nodeGuard (hne _) ?_))
  go_ret
  exact ⟨rfl, B1⟩

def fewB (g : Gu) : Bool := decide (g.wn ≤ 20) && decide (g.name.length ≤ 100)
set_option maxRecDepth 100000 in
set_option maxHeartbeats 2000000 in
theorem few_any26 (g : Gu) (hk : g.key.length = 68) (w : World) :
    Calls Tryz.prog 8 #[.agg g.cells.toArray] w fun e w' => e = .returned (.bool (fewB g)) ∧ Below w.heap.size w w' := by
  have hA := Blk.new w 31 g.cells.toArray
  have B1 : Below w.heap.size w (w.alloc (.cells g.cells.toArray 31)) := (Below.refl _ _).alloc (Nat.le_refl _) _
  have c1 := gu_win hA hk
  have c2 : World.cell? (w.alloc (.cells g.cells.toArray 31)) ⟨w.heap.size, 0, none⟩ = some (.string ⟨g.name.toArray⟩) := (hA.cell 0).trans rfl
  have hq : (ByteArray.mk g.name.toArray).size = g.name.length := by simp [ByteArray.size]
  have HK := Lib.hid hk
  clear hk
  by_cases h1 : g.wn ≤ 20
  · by_cases h2 : g.name.length ≤ 100
    · have hv : Hid (fewB g = true) := Lib.hid (by simp [fewB, h1, h2])
      go_enter Tryz.func8, Tryz.ntmps8
      go_wp2_with fail
      go_ret
      exact ⟨by rw [hv.out]; show Ending.returned (Value.bool (decide ((g.name.length : Int) ≤ 100))) = _; rw [decide_eq_true (by omega)], B1⟩
    · have hv : Hid (fewB g = false) := Lib.hid (by simp [fewB, h2])
      go_enter Tryz.func8, Tryz.ntmps8
      go_wp2_with fail
      go_ret
      exact ⟨by rw [hv.out]; show Ending.returned (Value.bool (decide ((g.name.length : Int) ≤ 100))) = _; rw [decide_eq_false (by omega)], B1⟩
  · have hv : Hid (fewB g = false) := Lib.hid (by simp [fewB, h1])
    go_enter Tryz.func8, Tryz.ntmps8
    go_wp2_with fail
    go_ret
    exact ⟨by rw [hv.out]; rfl, B1⟩

def ga : Gu := ⟨[], false, 0, 1, 0, 0, 0, List.replicate 68 0, none, 0, 0, 0, .slice none 0 0, .slice none 0 0, .slice none 0 0⟩
theorem ga_ok (w : World) (B : Nat) : ga.ok w B := ⟨by simp [ga], by decide, by decide, by simp [ga], fun h => by simp [ga] at h, by decide, rfl, rfl, rfl⟩
theorem run_ga (w : World) : (Instr.build 31 #[(3, .int .u32 1)]).run Tryz.prog w = .ok (.agg ga.cells.toArray) w := by
  have := run_build_from (P := Tryz.prog) w (t := 31) (z := gz.cells.toArray) #[(3, .int .u32 1)] [.int .u32 1] [(0, 1), (1, 1), (2, 1), (3, 1), (4, 1), (5, 1), (6, 1), (7, 68), (75, 1), (76, 1), (77, 1), (78, 1)] 3 3
    Tryz.underlying31 (by kernel_rfl) (by kernel_rfl) rfl (by simp [Rows1, Value.cells]) (by simp [flat, Value.cells, gz, Gu.cells, bcells_length])
  rw [this]
  have e : (flat [Value.int .u32 1]) = [.int .u32 1] := rfl
  rw [e]
  generalize hz : List.replicate 68 (0 : UInt8) = Z
  simp [gz, ga, Gu.cells, hz]
theorem run_ca (w : World) : (Instr.build 34 #[]).run Tryz.prog w = .ok (.agg (Ctr.mk 0 0).cells) w := by kernel_rfl
theorem run_vd0 (e : Int) (v : Nat) (dig : List UInt8) (A : Option Addr) (n c : Nat) (w : World) : (Instr.field 41 (.agg (vdCells e v dig A n c).toArray) 0).run Tryz.prog w = .ok (.int .i64 e) w := by
  have hc : (vdCells e v dig A n c)[0]? = some (.int .i64 e) := rfl
  simp [Instr.field, run_underlying Tryz.underlying41, asAgg, part, isAgg, run_underlying Tryz.underlying32, hc]
theorem ga_err (c : Ctr) : vErr [] ga c = 151 := by
  have h : errAt [] ga c 0 = 151 := by show e0 [] ga = 151; simp [e0, getE, ga]
  rw [vErr_at 0 (by omega) (fun i hi => by omega) (by rw [h]; decide), h]
set_option maxRecDepth 100000 in
set_option maxHeartbeats 2000000 in
theorem awake26 (w : World) (hT : Tabs w) : Calls Tryz.prog 7 #[] w fun e w' => e = .returned (.bool true) ∧ Below w.heap.size w w' := by
  have hb := burn_any none 0 0 [] (by omega) w (Rd.nil _ _ _ _)
  have hE := ga_err ⟨0, 0⟩
  obtain ⟨GC, hGC⟩ : ∃ X, ga.cells.toArray = X := ⟨_, rfl⟩
  obtain ⟨CC, hCC⟩ : ∃ X, (Ctr.mk 0 0).cells = X := ⟨_, rfl⟩
  have hg := run_ga
  have hc := run_ca
  have hck0 := fun W (h : Tabs W) f hF => lcheck_any f [] (by simp) ga ⟨0, 0⟩ W (ga_ok _ _) hF h
  unfold CkRet at hck0
  rw [hE, hGC, hCC] at hck0
  rw [hGC] at hg
  rw [hCC] at hc
  clear hGC hCC hE
  go_enter Tryz.func7, Tryz.ntmps7
  go_wp2_with fail
  refine Calls.mono hb ?_
  rintro e W1 ⟨f, rfl, _, hF, B1⟩
  have hck := hck0 W1 (hT.below B1) f hF
  clear hb hF hck0
  go_wp2_with (first
    | ((with_reducible refine at_build 31 ?_); refine wpList_buildV _ rfl #[(3, .int .u32 1)] rfl (by simp [Act.eval]) (hg _) ?_)
    | ((with_reducible refine at_build 34 ?_); refine wpList_buildV _ rfl #[] rfl (by simp) (hc _) ?_))
  refine Calls.mono hck ?_
  rintro e W2 ⟨A, k, rfl, _, _, hB2⟩
  have B2 := B1.trans (hB2.mono B1.size)
  clear hck hB2 B1
  have hfld := run_vd0 151 (vVer [] ga ⟨0, 0⟩) (vDig [] ga ⟨0, 0⟩) A (vPay [] ga ⟨0, 0⟩).length k
  go_wp2_with fail
  go_ret
  exact ⟨rfl, B2⟩
end Go.Proofs.YtipdmhppadapkaaGreatDoor
