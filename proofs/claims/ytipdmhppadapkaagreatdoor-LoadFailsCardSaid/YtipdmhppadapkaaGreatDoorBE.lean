/-
  Parts: ChA ChB ChC WotsA WotsB WotsC WotsD ChD.
-/
import Derived.Test.YtipdmhppadapkaaGreatDoorBD
import Derived.Test.YtipdmhppadapkaaGreatDoorBA
import Derived.RangeFuncNested
import Derived.RangeFuncBound
import Derived.RangeFuncCalls
import Derived.RangeFuncLeaves
import Derived.RangeFuncFrom
import Derived.Shelf.Abstract
import Derived.Shelf.RegionOpen
import Derived.WalkKit
import Derived.OwnWalkIn
import Derived.TacticsInMore
import Derived.LoopNIn
import Derived.LoopIn
/-
  WOTS+ chains: plain laws; the walk of a step.
-/
namespace Go.Proofs.YtipdmhppadapkaaGreatDoor
open Go.RowKit Sha

theorem reg_loadOff {P : Program} {o : Oper} {a : Act} {w : World} (ty : TypeId) (t : Tmp) (ho : o.op = .load ty (.tmp t)) {b off : Nat} {cs : Array Value} (he : a.tmps[t]?.getD undef = .pointer (some ⟨b, off, none⟩))
    (h : w.rangeAt b off cs.toList) {d : TypeDesc} (hu : P.underlying ty = some d) (hd : d.isRow = true) (hi : (P.info? ty).map (·.size) = some cs.size) :
    (execOp a.eval o).run P w = .ok (.value (.agg cs)) w := by
  have := run_loadAt_mid (P := P) w b off ty cs.toList d h hu hd (by simpa using hi)
  simp [execOp, ho, Act.eval, he, this]

def Ad.withC (x : Ad) (q : Nat) : Ad := ⟨x.layer, x.tree, x.kind, x.a, x.b, q, x.mask⟩
/-- one step of a chain -/
def stepH (x : Ad) (sd nd : List UInt8) : List UInt8 := fH (prfH sd (x.withMask 0)) (xorL nd (prfH sd (x.withMask 1)))
theorem stepH_length (x : Ad) (sd nd : List UInt8) : (stepH x sd nd).length = 32 := keyed_length _ _
/-- the address of a chain's step -/
def otsAd (a b c : Nat) : Ad := ⟨0, 0, 0, a, b, c, 0⟩
theorem otsAd_ok {a b c : Nat} (ha : a < 4294967296) (hb : b < 4294967296) (hc : c < 4294967296) : (otsAd a b c).ok := ⟨by show 0 < _; omega, by show 0 < _; omega, by show 0 < _; omega, ha, hb, hc, by show 0 < _; omega⟩
/-- the node after k steps -/
def chainN (sd : List UInt8) (a b from' : Nat) : Nat → List UInt8 → List UInt8
  | 0, nd => nd
  | k + 1, nd => stepH (otsAd a b (from' + k)) sd (chainN sd a b from' k nd)
theorem chainN_length (sd : List UInt8) (a b f : Nat) (nd : List UInt8) (h : nd.length = 32) : ∀ k, (chainN sd a b f k nd).length = 32
  | 0 => h
  | _ + 1 => stepH_length _ _ _
/-- the link's cells -/
def linkL (x : Ad) (sd : List UInt8) : Array Value := (x.cells.toList ++ bcells sd).toArray
theorem link_set (x : Ad) (sd : List UInt8) (q : Nat) : (linkL x sd).setIfInBounds 5 (.int .u32 (q : Int)) = linkL (x.withC q) sd := by
  apply Array.ext'
  simp [linkL, Ad.cells, Ad.withC]
theorem link_5 (x : Ad) (sd : List UInt8) : (linkL x sd)[5]? = some (.int .u32 (x.c : Int)) := by simp [linkL, Ad.cells]
theorem link_x {w : World} {g : Nat} {t : TypeId} {x : Ad} {sd : List UInt8} (h : Blk w g t (linkL x sd)) : w.rangeAt g 0 x.cells.toList := by
  intro j v hv
  rw [Nat.zero_add, h.cell]
  have hj := (List.getElem?_eq_some_iff.1 hv).1
  simp only [linkL, List.getElem?_toArray, List.getElem?_append_left hj]
  exact hv
theorem link_sd {w : World} {g : Nat} {t : TypeId} {x : Ad} {sd : List UInt8} (h : Blk w g t (linkL x sd)) : w.rangeAt g 7 (bcells sd).toArray.toList := by
  intro j v hv
  rw [h.cell]
  have e : x.cells.toList.length = 7 := rfl
  simp only [linkL, List.getElem?_toArray]
  rw [List.getElem?_append_right (by omega), e, show 7 + j - 7 = j by omega]
  simpa using hv

set_option maxRecDepth 100000 in
set_option maxHeartbeats 2000000 in
theorem linkStep_any (x : Ad) (sd nd : List UInt8) (hsd : sd.length = 32) (hnd : nd.length = 32) (q : Nat) (hq : q < 4294967296) (w : World) (hT : Tabs w) :
    Calls Tryz.prog 143 #[.agg (linkL x sd), .agg (bcells nd).toArray, .int .i64 (q : Int)] w fun e w' => e = .returned (.agg (bcells (stepH (x.withC q) sd nd)).toArray) ∧ Below w.heap.size w w' := by
  have hz := zeroNode
  have hwr : IntKind.u32.wrap (q : Int) = (q : Int) := IntWalk.u32_in _ (by omega)
  have hB0 : 0 < w.heap.size + 2 := by have := hT.first.lt; omega
  have hB1 : 1 < w.heap.size + 2 := by have := hT.rounds.lt; omega
  have sL := Lib.hid hsd
  have nL := Lib.hid hnd
  obtain ⟨y, hy⟩ : ∃ y, y = x.withC q := ⟨_, rfl⟩
  rw [← hy]
  have Hset := Lib.hid (show (linkL x sd).setIfInBounds 5 (.int .u32 (q : Int)) = linkL y sd by rw [hy]; exact link_set x sd q)
  have h5 := link_5 x sd
  obtain ⟨K0, hK0⟩ : ∃ K, K = prfH sd (y.withMask 0) := ⟨_, rfl⟩
  obtain ⟨K1, hK1⟩ : ∃ K, K = prfH sd (y.withMask 1) := ⟨_, rfl⟩
  obtain ⟨X1, hX1⟩ : ∃ X, X = xorL nd K1 := ⟨_, rfl⟩
  obtain ⟨S, hS⟩ : ∃ S, S = fH K0 X1 := ⟨_, rfl⟩
  have hSS : stepH y sd nd = S := by rw [hS, hX1, hK0, hK1]; rfl
  rw [hSS]
  have HK0l : Hid (K0.length = 32) := Lib.hid (by rw [hK0]; exact keyed_length _ _)
  have HK1l : Hid (K1.length = 32) := Lib.hid (by rw [hK1]; exact keyed_length _ _)
  have HX1l : Hid (X1.length = 32) := Lib.hid (by rw [hX1]; exact xorL_length _ _ hnd HK1l.out)
  have HSl : Hid (S.length = 32) := Lib.hid (by rw [hS]; exact keyed_length _ _)
  have HK0 := Lib.hid hK0
  have HK1 := Lib.hid hK1
  have HX1 := Lib.hid hX1
  have HS := Lib.hid hS
  clear hsd hnd hK0 hK1 hX1 hS hSS hy
  obtain ⟨L0, hL0⟩ : ∃ L0, L0 = linkL x sd := ⟨_, rfl⟩
  rw [← hL0] at h5 Hset ⊢
  clear hL0
  go_enter Tryz.func143, Tryz.ntmps143
  go_wp2_with fail
  rw [Hset.out]
  have hLk := (((Blk.new w 218 (linkL y sd)).alloc (.cells (bcells nd).toArray 39)).alloc (.cells zn 39)).drew
  have hNd := ((blk_new1 w (.cells (linkL y sd) 218) 39 (bcells nd).toArray).alloc (.cells zn 39)).drew
  have hN := blk_new2 w (.cells (linkL y sd) 218) (.cells (bcells nd).toArray 39) 39 zn
  have hBw0 : Below w.heap.size w (((w.alloc (.cells (linkL y sd) 218)).alloc (.cells (bcells nd).toArray 39)).alloc (.cells zn 39)) := (((Below.refl _ _).alloc (Nat.le_refl _) _).alloc (by simp) _).alloc (by simp; omega) _
  have hT0 := (((hT.alloc (.cells (linkL y sd) 218)).alloc (.cells (bcells nd).toArray 39)).alloc (.cells zn 39)).drew
  generalize ((w.alloc (.cells (linkL y sd) 218)).alloc (.cells (bcells nd).toArray 39)).alloc (.cells zn 39) = W0 at *
  have hsz : w.heap.size + 2 ≤ W0.drew.heap.size := Nat.le_of_lt hN.lt
  clear hz hT h5 Hset
  refine Flow.wp_region_flow (w.heap.size + 2) [(15, fun b => b = w.heap.size + 2)] [(15, fun W => Blk W (w.heap.size + 2) 39 (zn))] (by kernel_rfl) (by kernel_rfl) hsz (Flow.nz_cons (by rintro b rfl; exact Nat.le_refl _) Flow.nz_nil) (Flow.facts_cons (hN.drew) (Flow.kept_blk id) (Flow.fz_cons (Flow.no_follow (by kernel_rfl)) Flow.fz_nil) Flow.facts_nil) ?_
  refine Flow.pass_val (.pointer (some ⟨w.heap.size, 7, none⟩)) (Flow.met_none rfl) (fun a W hH => ?_) ?_
  · have e0 := Flow.see_old 3 hH.sees (by kernel_rfl) (by kernel_rfl) rfl
    go_simp; first | done | rfl
  refine Flow.pass_val (.agg (bcells sd).toArray) (Flow.met_none rfl) (fun a W hH => ?_) ?_
  · have e0 := Flow.see_new 11 0 hH.sees (by kernel_rfl) (by kernel_rfl) rfl rfl
    exact reg_loadOff 39 _ rfl e0 (link_sd (hLk.below hH.below (by omega))) Tryz.underlying39 rfl (by rw [List.size_toArray, bcells_length, sL.out]; exact infNode)
  refine Flow.pass_val (.pointer (some ⟨w.heap.size, 0, none⟩)) (Flow.met_none rfl) (fun a W hH => ?_) ?_
  · have e0 := Flow.see_old 3 hH.sees (by kernel_rfl) (by kernel_rfl) rfl
    go_simp; first | done | rfl
  refine Flow.pass_val (.agg y.cells) (Flow.met_none rfl) (fun a W hH => ?_) ?_
  · have e0 := Flow.see_new 13 2 hH.sees (by kernel_rfl) (by kernel_rfl) rfl rfl
    exact reg_loadOff 162 _ rfl e0 (link_x (hLk.below hH.below (by omega))) Tryz.underlying162 rfl (by exact infAdrs)
  refine Flow.pass_step (Reg.eqs (.agg (Ad.withMask y 0).cells)) (fun _ _ => Flow.kept_eqs _ _) (Flow.met_none rfl) (fun a W hH => ?_) ?_
  · have e0 := Flow.see_new 14 3 hH.sees (by kernel_rfl) (by kernel_rfl) rfl rfl
    refine Reg.wp_call rfl Tryz.func147 rfl (by kernel_rfl) (by simp [Act.eval, e0]) (maskedX y 0 W) ?_
    rintro e w' ⟨rfl, hB⟩
    exact ⟨_, rfl, _, rfl, hB, rfl⟩
  refine Flow.pass_step (Reg.eqs (.agg (bcells K0).toArray)) (fun _ _ => Flow.kept_eqs _ _) (Flow.met_none rfl) (fun a W hH => ?_) ?_
  · have e0 := Flow.see_new 12 1 hH.sees (by kernel_rfl) (by kernel_rfl) rfl rfl
    have e1 := Flow.see_new 15 4 hH.sees (by kernel_rfl) (by kernel_rfl) rfl rfl
    refine Reg.wp_call rfl Tryz.func146 rfl (by kernel_rfl) (by simp [Act.eval, e0, e1]) (mprf_any sd sL.out (Ad.withMask y 0) W (hT0.under hH.below hB1 hB0)) ?_
    rintro e w' ⟨rfl, hB⟩
    rw [← HK0.out]
    exact ⟨_, rfl, _, rfl, hB, rfl⟩
  refine Flow.pass_val (.agg (bcells nd).toArray) (Flow.met_none rfl) (fun a W hH => ?_) ?_
  · have e0 := Flow.see_old 4 hH.sees (by kernel_rfl) (by kernel_rfl) rfl
    exact reg_load 39 _ rfl e0 (hNd.below hH.below (by omega)) Tryz.underlying39 rfl (by rw [List.size_toArray, bcells_length, nL.out]; exact infNode)
  refine Flow.pass_val (.pointer (some ⟨w.heap.size, 7, none⟩)) (Flow.met_none rfl) (fun a W hH => ?_) ?_
  · have e0 := Flow.see_old 3 hH.sees (by kernel_rfl) (by kernel_rfl) rfl
    go_simp; first | done | rfl
  refine Flow.pass_val (.agg (bcells sd).toArray) (Flow.met_none rfl) (fun a W hH => ?_) ?_
  · have e0 := Flow.see_new 18 7 hH.sees (by kernel_rfl) (by kernel_rfl) rfl rfl
    exact reg_loadOff 39 _ rfl e0 (link_sd (hLk.below hH.below (by omega))) Tryz.underlying39 rfl (by rw [List.size_toArray, bcells_length, sL.out]; exact infNode)
  refine Flow.pass_val (.pointer (some ⟨w.heap.size, 0, none⟩)) (Flow.met_none rfl) (fun a W hH => ?_) ?_
  · have e0 := Flow.see_old 3 hH.sees (by kernel_rfl) (by kernel_rfl) rfl
    go_simp; first | done | rfl
  refine Flow.pass_val (.agg y.cells) (Flow.met_none rfl) (fun a W hH => ?_) ?_
  · have e0 := Flow.see_new 20 9 hH.sees (by kernel_rfl) (by kernel_rfl) rfl rfl
    exact reg_loadOff 162 _ rfl e0 (link_x (hLk.below hH.below (by omega))) Tryz.underlying162 rfl (by exact infAdrs)
  refine Flow.pass_step (Reg.eqs (.agg (Ad.withMask y 1).cells)) (fun _ _ => Flow.kept_eqs _ _) (Flow.met_none rfl) (fun a W hH => ?_) ?_
  · have e0 := Flow.see_new 21 10 hH.sees (by kernel_rfl) (by kernel_rfl) rfl rfl
    refine Reg.wp_call rfl Tryz.func147 rfl (by kernel_rfl) (by simp [Act.eval, e0]) (maskedX y 1 W) ?_
    rintro e w' ⟨rfl, hB⟩
    exact ⟨_, rfl, _, rfl, hB, rfl⟩
  refine Flow.pass_step (Reg.eqs (.agg (bcells K1).toArray)) (fun _ _ => Flow.kept_eqs _ _) (Flow.met_none rfl) (fun a W hH => ?_) ?_
  · have e0 := Flow.see_new 19 8 hH.sees (by kernel_rfl) (by kernel_rfl) rfl rfl
    have e1 := Flow.see_new 22 11 hH.sees (by kernel_rfl) (by kernel_rfl) rfl rfl
    refine Reg.wp_call rfl Tryz.func146 rfl (by kernel_rfl) (by simp [Act.eval, e0, e1]) (mprf_any sd sL.out (Ad.withMask y 1) W (hT0.under hH.below hB1 hB0)) ?_
    rintro e w' ⟨rfl, hB⟩
    rw [← HK1.out]
    exact ⟨_, rfl, _, rfl, hB, rfl⟩
  refine Flow.pass_step (Reg.eqs (.agg (bcells X1).toArray)) (fun _ _ => Flow.kept_eqs _ _) (Flow.met_none rfl) (fun a W hH => ?_) ?_
  · have e0 := Flow.see_new 17 6 hH.sees (by kernel_rfl) (by kernel_rfl) rfl rfl
    have e1 := Flow.see_new 23 12 hH.sees (by kernel_rfl) (by kernel_rfl) rfl rfl
    refine Reg.wp_call rfl Tryz.func149 rfl (by kernel_rfl) (by simp [Act.eval, e0, e1]) (mxor_any nd K1 nL.out HK1l.out W) ?_
    rintro e w' ⟨rfl, hB⟩
    rw [← HX1.out]
    exact ⟨_, rfl, _, rfl, hB, rfl⟩
  refine Flow.pass_step (Reg.eqs (.agg (bcells S).toArray)) (fun _ _ => Flow.kept_eqs _ _) (Flow.met_none rfl) (fun a W hH => ?_) ?_
  · have e0 := Flow.see_new 16 5 hH.sees (by kernel_rfl) (by kernel_rfl) rfl rfl
    have e1 := Flow.see_new 24 13 hH.sees (by kernel_rfl) (by kernel_rfl) rfl rfl
    refine Reg.wp_call rfl Tryz.func170 rfl (by kernel_rfl) (by simp [Act.eval, e0, e1]) (mf_any K0 X1 HK0l.out HX1l.out W (hT0.under hH.below hB1 hB0)) ?_
    rintro e w' ⟨rfl, hB⟩
    rw [← HS.out]
    exact ⟨_, rfl, _, rfl, hB, rfl⟩
  refine Flow.pass_list (fun _ W => Blk W (w.heap.size + 2) 39 (bcells S).toArray) (Flow.kept_of (fun _ _ _ c h => h.chg c id) (Flow.kz_cons (Flow.no_follow (by kernel_rfl)) Flow.kz_nil)) (Flow.met_none rfl) (fun a W hH => ?_) ?_
  · have e0 := Flow.see_old 6 hH.sees (by kernel_rfl) (by kernel_rfl) rfl
    have e1 := Flow.see_new 25 14 hH.sees (by kernel_rfl) (by kernel_rfl) rfl rfl
    have fa0 : (fun W => Blk W (w.heap.size + 2) 39 (zn)) W := hH.fact _ (List.mem_of_getElem? (i := 0) rfl) rfl
    refine wpList_storeAll W rfl 39 _ _ rfl (w.heap.size + 2) 39 _ (bcells S).toArray fa0 (by simpa [Act.eval] using e0) (by simpa [Act.eval] using e1) (by rw [List.size_toArray, bcells_length, HSl.out]; kernel_rfl) (by rw [List.size_toArray, bcells_length, HSl.out]; kernel_rfl) (fun v hv => bcells_one _ v (by simpa using hv)) ?_
    intro W2 h2 hg _
    exact Flow.qq_nil ⟨_, rfl, Chg.grown hg (by rintro k h; cases h; rfl), h2⟩
  refine Flow.pass_end [none, none, none, none, none, none, none, none, none, none, none, some 11, some 12, some 13, some 14, some 15, some 16, some 17, some 18, some 19, some 20, some 21, some 22, some 23, some 24, some 25] (by kernel_rfl) ?_
  intro f gg w9 hB9 hfa hT' hfg
  have h4 := hT' 15 _ (by kernel_rfl) rfl
  have hBw9 := hBw0.drew.trans (hB9.mono (by omega))
  clear hfa hT' hfg hBw0 hB9 hN
  simp only [Reg.sel]
  go_wp2
  refine bodyPost_ret (results_cell_row rfl _ _ (w.heap.size + 2) _ _ _ _ rfl h4 Tryz.underlying39 rfl (by rw [List.size_toArray, bcells_length, HSl.out]; kernel_rfl)) rfl ⟨rfl, hBw9⟩
end Go.Proofs.YtipdmhppadapkaaGreatDoor
/-
  Walk: wots.Chain.
-/
namespace Go.Proofs.YtipdmhppadapkaaGreatDoor
open Go.RowKit Sha

def zlink : Array Value := linkL ⟨0, 0, 0, 0, 0, 0, 0⟩ znode
theorem zeroLink : ∀ W, (zeroValue 218).run Tryz.prog W = .ok (.agg zlink) W := fun W => by kernel_rfl
theorem linkL_size (x : Ad) (sd : List UInt8) (h : sd.length = 32) : (linkL x sd).size = 39 := by simp [linkL, Ad.cells, bcells_length, h]
theorem infLink : (Tryz.prog.info? 218).map (·.size) = some 39 := by kernel_rfl
theorem linkL_one (x : Ad) (sd : List UInt8) : ∀ v ∈ (linkL x sd).toList, v.oneCell' = true := by
  intro v hv
  simp only [linkL, List.mem_append] at hv
  rcases hv with hv | hv
  · exact x.one v (by simpa using hv)
  · exact bcells_one _ v hv
theorem run_link (w : World) (x : Ad) (sd : List UInt8) (h : sd.length = 32) : (Instr.build 218 #[(0, .agg x.cells), (1, .agg (bcells sd).toArray)]).run Tryz.prog w = .ok (.agg (linkL x sd)) w := by
  have hf : flat [Value.agg x.cells, .agg (bcells sd).toArray] = x.cells.toList ++ bcells sd := by simp [flat, Value.cells]
  have e7 : x.cells.toList.length = 7 := rfl
  have := run_build_rows (P := Tryz.prog) w (t := 218) (z := zlink) #[(0, .agg x.cells), (1, .agg (bcells sd).toArray)] [.agg x.cells, .agg (bcells sd).toArray] [(0, 7), (7, 32)]
    Tryz.underlying218 (by kernel_rfl) (by kernel_rfl) rfl ⟨rfl, by simp [Value.cells]; rfl, rfl, by simp [Value.cells, bcells_length, h], trivial⟩ (by rw [hf, List.length_append, e7, bcells_length, h]; exact Nat.le_of_eq (by kernel_rfl))
  rw [this, hf, List.drop_eq_nil_of_le (by rw [List.length_append, e7, bcells_length, h]; exact Nat.le_of_eq (by kernel_rfl)), List.append_nil]
  rfl

set_option maxRecDepth 100000 in
set_option maxHeartbeats 4000000 in
theorem mchain_any (nd sd : List UInt8) (hnd : nd.length = 32) (hsd : sd.length = 32) (leaf : Nat) (f k c : Nat) (hfk : f + k ≤ 15) (hc : c ≤ 66) (w : World) (hT : Tabs w) :
    Calls Tryz.prog 118 #[.agg (bcells nd).toArray, .int .i64 (f : Int), .int .i64 (k : Int), .agg (bcells sd).toArray, .int .u32 (leaf : Int), .int .i64 (c : Int)] w fun e w' =>
      e = .returned (.agg (bcells (chainN sd leaf c f k nd)).toArray) ∧ Below w.heap.size w w' := by
  have hz := zeroNode
  have hwr : IntKind.u32.wrap (c : Int) = (c : Int) := IntWalk.u32_in _ (by omega)
  have hTl := hT.first.lt
  have hTl2 := hT.rounds.lt
  have h1 : ¬ ((f : Int) < 0) := by omega
  have h2 : ¬ ((k : Int) < 0) := by omega
  have h3 : ¬ (15 < (f : Int)) := by omega
  have h4 : ¬ (15 - (f : Int) < (k : Int)) := by omega
  have h5 : ¬ ((c : Int) < 0) := by omega
  have h6 : ¬ (67 ≤ (c : Int)) := by omega
  have hsub : IntKind.i64.wrap (15 - (f : Int)) = 15 - (f : Int) := by rw [IntKind.wrap_i64]; omega
  have sL := Lib.hid hsd
  have nL := Lib.hid hnd
  clear hsd hnd
  have hb_n := ((Blk.new w 39 (bcells nd).toArray).alloc (.cells (bcells sd).toArray 39)).alloc (.cells zn 39)
  have hb_s := (blk_new1 w (.cells (bcells nd).toArray 39) 39 (bcells sd).toArray).alloc (.cells zn 39)
  have hN := blk_new2 w (.cells (bcells nd).toArray 39) (.cells (bcells sd).toArray 39) 39 zn
  have hBw0 : Below w.heap.size w (((w.alloc (.cells (bcells nd).toArray 39)).alloc (.cells (bcells sd).toArray 39)).alloc (.cells zn 39)) := (((Below.refl _ _).alloc (Nat.le_refl _) _).alloc (by simp) _).alloc (by simp; omega) _
  have hT0 := ((hT.alloc (.cells (bcells nd).toArray 39)).alloc (.cells (bcells sd).toArray 39)).alloc (.cells zn 39)
  go_enter Tryz.func118, Tryz.ntmps118
  go_wp2_with fail
  generalize ((w.alloc (.cells (bcells nd).toArray 39)).alloc (.cells (bcells sd).toArray 39)).alloc (.cells zn 39) = W0 at *
  have hb_n := hb_n.drew
  have hb_s := hb_s.drew
  have hN := hN.drew
  have hBw0 := hBw0.drew
  have hT0 := hT0.drew
  clear hz h1 h2 h3 h4 h5 h6 hsub hT
  refine Reg.wp_region_tail 7 [6] (by kernel_rfl) (by kernel_rfl) (by kernel_rfl) (by kernel_rfl) (by kernel_rfl) ?_
  refine Reg.pass_old 4 (Reg.met_none rfl) (.inl rfl) (by kernel_rfl) (by kernel_rfl) rfl ?_
  refine Reg.pass_old 5 (Reg.met_none rfl) (.inl rfl) (by kernel_rfl) (by kernel_rfl) rfl ?_
  refine Reg.pass_val (.int .u32 (c : Int)) (Reg.met_none rfl) (fun a w hE hS => ?_) ?_
  · have e0 := Reg.see_new 41 1 hS (by kernel_rfl) (by kernel_rfl) rfl rfl
    go_simp; first | done | rfl | (rw [hwr])
  refine Reg.pass_step (Reg.eqs (.agg (otsAd leaf c 0).cells)) (Reg.stable_eqs _) (Reg.met_none rfl) (fun a w hE hS => ?_) ?_
  · have e0 := Reg.see_new 40 0 hS (by kernel_rfl) (by kernel_rfl) rfl rfl
    have e1 := Reg.see_new 42 2 hS (by kernel_rfl) (by kernel_rfl) rfl rfl
    refine Reg.wp_call rfl Tryz.func142 rfl (by kernel_rfl) (by simp [Act.eval, e0, e1]) (ots_any leaf c 0 w) ?_
    rintro e w' ⟨rfl, hB⟩
    exact ⟨_, rfl, _, rfl, hB, rfl⟩
  refine Reg.pass_val (.agg (bcells sd).toArray) (Reg.met_none rfl) (fun a w hE hS => ?_) ?_
  · have e0 := Reg.see_old 9 hS (by kernel_rfl) (by kernel_rfl) rfl
    exact reg_load 39 9 rfl e0 (hb_s.ext hE) Tryz.underlying39 rfl (by rw [List.size_toArray, bcells_length, sL.out]; exact infNode)
  refine Reg.pass_val (.agg (linkL (otsAd leaf c 0) sd)) (Reg.met_none rfl) (fun a w hE hS => ?_) ?_
  · have e0 := Reg.see_new 43 3 hS (by kernel_rfl) (by kernel_rfl) rfl rfl
    have e1 := Reg.see_new 44 4 hS (by kernel_rfl) (by kernel_rfl) rfl rfl
    exact Flow.reg_build _ rfl (by simp [Act.eval, e0, e1]) (run_link w (otsAd leaf c 0) sd sL.out)
  refine Reg.pass_new 218 zlink rfl rfl zeroLink ?_
  refine ⟨fun i hi o ho => ?_, ?_⟩
  · simp only [List.mem_cons, List.not_mem_nil, or_false] at hi
    rcases hi with rfl
    cases ho; exact ⟨_, _, rfl, rfl, zeroLink, rfl⟩
  refine Reg.tail_end [none, none, none, none, none, none, none, none, none, none, none, none, none, some 13, none, none, none, none, none, none, none, none, none, none, none, none, none, none, none, none, none, none, none, none, none, none, none, none, none, none, some 40, some 41, some 42, some 43, some 44, some 45, none, none, none, none, none, none, none, none, none, none, none, none] (by kernel_rfl) ?_
  intro ff w9 hE hf hfr
  have h45 : ff 45 = .agg (linkL (otsAd leaf c 0) sd) := hf 45 5 _ (by kernel_rfl) (by decide) rfl
  obtain ⟨b, h13, hbz⟩ : Reg.newK 218 zlink (ff 13) w9 := hf 13 6 _ (by kernel_rfl) (by decide) rfl
  obtain ⟨b', e13, hlb, _⟩ := hfr 6 (by simp) 13 (by kernel_rfl)
  have gb : W0.drew.heap.size ≤ b := by
    rw [h13] at e13
    simp only [Reg.ptr, Value.pointer.injEq, Option.some.injEq, Addr.mk.injEq, and_true] at e13
    rw [e13]; exact hlb.1
  have gb2 : w.heap.size + 2 < b := Nat.lt_of_lt_of_le hN.lt gb
  have hb_n9 := hb_n.ext hE
  have hN9 := hN.ext hE
  have B9 := hBw0.trans (hE.below hBw0.size)
  have hT9 := hT0.below (hE.below (Nat.le_refl _))
  clear hf hfr hE hb_n hb_s hN hBw0 hT0 e13 hlb gb
  simp only [Reg.sel, h13, h45, List.drop_succ_cons, List.drop_zero]
  have HlL := Lib.hid (linkL_size (otsAd leaf c 0) sd sL.out)
  go_wp2_with ((with_reducible refine at_store 218 ?_); refine wpList_storeAll w9 rfl 218 _ _ rfl b 218 _ (linkL (otsAd leaf c 0) sd) hbz rfl rfl (by rw [HlL.out]; kernel_rfl) (by rw [HlL.out]; exact infLink) (linkL_one _ _) ?_; intro w3 hb3 hg3 hs3)
  have hb_n3 := hb_n9.grown hg3 (by simp; omega)
  have hN3 := hN9.grown hg3 (by simp; omega)
  have hC3 : Chg (fun x => x = b) w9 w3 := Chg.grown hg3 (by rintro j h; cases h; rfl)
  have hT3 : Tabs w3 := ⟨hT9.first.chg hC3 (show ¬ _ = b by omega), hT9.rounds.chg hC3 (show ¬ _ = b by omega)⟩
  have B3 : Below w.heap.size w w3 := grown_below B9 hg3 B9.size (by omega)
  clear hb_n9 hN9 hT9 B9 hg3 hs3 hbz h13 h45 hC3
  go_loopw [47] (fun i wr => ∃ j : Nat, j ≤ k ∧ i = .int .i64 j ∧ Blk wr w.heap.size 39 (bcells (chainN sd leaf c f j nd)).toArray ∧ Blk wr (w.heap.size + 2) 39 zn ∧ Blk wr b 218 (linkL (otsAd leaf c 0) sd) ∧ Below w.heap.size w wr ∧ Tabs wr) (fun i _ => k - (intOf i).toNat)
  case atStart => exact ⟨0, by omega, rfl, hb_n3, hN3, hb3, B3, hT3⟩
  case round =>
    clear hb_n3 hN3 hT3 B3 hb3
    obtain ⟨j, hj, rfl, hA, hN, hL, hB, hTr⟩ := hrel
    obtain ⟨X, hX⟩ : ∃ X, X = chainN sd leaf c f j nd := ⟨_, rfl⟩
    rw [← hX] at hA
    have HXl : Hid (X.length = 32) := Lib.hid (by rw [hX]; exact chainN_length _ _ _ _ _ nL.out j)
    have HX := Lib.hid hX
    clear hX
    by_cases hlt : j < k
    · have hwa : IntKind.i64.wrap ((f : Int) + (j : Int)) = (f : Int) + (j : Int) := by rw [IntKind.wrap_i64]; omega
      obtain ⟨S, hS⟩ : ∃ S, S = stepH (otsAd leaf c (f + j)) sd X := ⟨_, rfl⟩
      have HSl : Hid (S.length = 32) := Lib.hid (by rw [hS]; exact stepH_length _ _ _)
      have HS := Lib.hid hS
      have HC := Lib.hid (show chainN sd leaf c f (j + 1) nd = S by rw [hS, HX.out]; rfl)
      clear hS
      go_wp2_with (first
        | ((with_reducible refine at_load 218 ?_); refine wpList_loadAll _ rfl 218 _ rfl b 218 (linkL (otsAd leaf c 0) sd) hL _ rfl Tryz.underlying218 rfl (by rw [HlL.out]; exact infLink) ?_)
        | ((with_reducible refine at_load 39 ?_); refine wpList_loadAll _ rfl 39 _ rfl w.heap.size 39 (bcells X).toArray hA _ rfl Tryz.underlying39 rfl (by rw [List.size_toArray, bcells_length, HXl.out]; kernel_rfl) ?_))
      refine (linkStep_any (otsAd leaf c 0) sd X sL.out HXl.out (f + j) (by omega) wr hTr).mono ?_
      rintro e w5 ⟨rfl, hB5⟩
      rw [show stepH ((otsAd leaf c 0).withC (f + j)) sd X = S from HS.out.symm]
      have hA5 := hA.below hB5 hA.lt
      have hN5 := hN.below hB5 hN.lt
      have hL5 := hL.below hB5 hL.lt
      have hBr := hB.trans (hB5.mono hB.size)
      have hT5 := hTr.below hB5
      clear hA hN hL hB hTr hB5
      go_wp2_with ((with_reducible refine at_store 39 ?_); refine wpList_storeAll w5 rfl 39 _ _ rfl w.heap.size 39 _ (bcells S).toArray hA5 rfl rfl (by rw [List.size_toArray, List.size_toArray, bcells_length, bcells_length, HSl.out, HXl.out]) (by rw [List.size_toArray, bcells_length, HSl.out]; kernel_rfl) (fun v hv => bcells_one _ v (by simpa using hv)) ?_; intro w6 h6 hg6 hs6)
      have hN6 := hN5.grown hg6 (by simp)
      have hL6 := hL5.grown hg6 (by simp; omega)
      have hC6 : Chg (fun x => x = w.heap.size) w5 w6 := Chg.grown hg6 (by rintro j h; cases h; rfl)
      have hT6 : Tabs w6 := ⟨hT5.first.chg hC6 (show ¬ _ = w.heap.size by omega), hT5.rounds.chg hC6 (show ¬ _ = w.heap.size by omega)⟩
      have hB6 : Below w.heap.size w w6 := grown_below hBr hg6 hBr.size (by omega)
      clear hA5 hN5 hL5 hT5 hBr hg6 hC6
      go_roundw
      case rel => exact ⟨j + 1, by omega, by go_num, by rw [HC.out]; exact h6, hN6, hL6, hB6, hT6⟩
      case measure => simp [intOf]; omega
    · obtain rfl : j = k := by omega
      go_wp2_with (first
        | ((with_reducible refine at_load 39 ?_); refine wpList_loadAll _ rfl 39 _ rfl w.heap.size 39 (bcells X).toArray hA _ rfl Tryz.underlying39 rfl (by rw [List.size_toArray, bcells_length, HXl.out]; kernel_rfl) ?_)
        | ((with_reducible refine at_store 39 ?_); refine wpList_storeAll _ rfl 39 _ _ rfl (w.heap.size + 2) 39 _ (bcells X).toArray hN rfl rfl (by rw [List.size_toArray, bcells_length, HXl.out]; kernel_rfl) (by rw [List.size_toArray, bcells_length, HXl.out]; kernel_rfl) (fun v hv => bcells_one _ v (by simpa using hv)) ?_; intro w5 h5 hg5 hs5))
      refine bodyPost_ret (results_cell_row rfl _ _ (w.heap.size + 2) _ _ _ _ rfl h5 Tryz.underlying39 rfl (by rw [List.size_toArray, bcells_length, HXl.out]; kernel_rfl)) rfl ⟨by rw [HX.out], ?_⟩
      exact grown_below hB hg5 hB.size (by omega)
end Go.Proofs.YtipdmhppadapkaaGreatDoor
/-
  Walk: wots.Chain, the inputs that it refuses; portreeveref04.Chain.
-/
namespace Go.Proofs.YtipdmhppadapkaaGreatDoor
open Go.RowKit Sha

end Go.Proofs.YtipdmhppadapkaaGreatDoor
/-
  Walk: the iterator of the digits of a message (wots.digits): what it yields, in order.
-/
namespace Go.Proofs.YtipdmhppadapkaaGreatDoor
open Go.RowKit Go.Shelf

attribute [local go_sem] Oper.semAt_some

/-- a digit of the message -/
def dig (m : List UInt8) (i : Nat) : Nat := if i % 2 = 0 then (m[i / 2]?.getD 0).toNat / 16 else (m[i / 2]?.getD 0).toNat % 16
def dsum (m : List UInt8) : Nat → Nat
  | 0 => 0
  | k + 1 => dsum m k + (15 - dig m k)
def digAll (m : List UInt8) (i : Nat) : Nat := if i < 64 then dig m i else dsum m 64 / 2 ^ (4 * (66 - i)) % 16
theorem dig_lt (m : List UInt8) (i : Nat) : dig m i < 16 := by
  have := (m[i / 2]?.getD 0).toNat_lt
  unfold dig; split <;> omega
theorem digAll_lt (m : List UInt8) (i : Nat) : digAll m i < 16 := by
  unfold digAll; split
  · exact dig_lt m i
  · exact Nat.mod_lt _ (by decide)
theorem dsum_le (m : List UInt8) : ∀ k, dsum m k ≤ 15 * k
  | 0 => Nat.le_refl _
  | k + 1 => by have := dsum_le m k; simp only [dsum]; omega

theorem i64_and15 (a : Nat) (h : a < 4611686018427387904) : bits .and .i64 (a : Int) 15 = ((a % 16 : Nat) : Int) := by
  show IntKind.i64.wrap ((BitVec.ofInt 64 (a : Int) &&& BitVec.ofInt 64 ((15 : Nat) : Int)).toNat : Int) = _
  have e : ∀ n : Nat, n < 18446744073709551616 → (BitVec.ofInt 64 (n : Int)).toNat = n := fun n hn => by
    rw [BitVec.ofInt_natCast, BitVec.toNat_ofNat]; exact Nat.mod_eq_of_lt (by omega)
  rw [BitVec.toNat_and, e a (by omega), e 15 (by omega), nat_mask4]
  have : a % 16 < 16 := Nat.mod_lt _ (by decide)
  exact IntWalk.i64_in _ (by omega)
theorem hdig_and (m : List UInt8) (k : Nat) : bits .and .i64 (wrap64 (((m[k / 2]?.getD 0).toNat : Int) / 2 ^ (4 - 4 * (k % 2)))) 15 = (dig m k : Nat) := by
  have hb := (m[k / 2]?.getD 0).toNat_lt
  unfold dig
  rcases Nat.mod_two_eq_zero_or_one k with h | h
  · rw [h, if_pos rfl]
    have : wrap64 (((m[k / 2]?.getD 0).toNat : Int) / 2 ^ (4 - 4 * 0)) = (((m[k / 2]?.getD 0).toNat / 16 : Nat) : Int) := by simp only [wrap64]; omega
    rw [this, i64_and15 _ (by omega)]; congr 1; omega
  · rw [h, if_neg (by decide)]
    have : wrap64 (((m[k / 2]?.getD 0).toNat : Int) / 2 ^ (4 - 4 * 1)) = (((m[k / 2]?.getD 0).toNat : Nat) : Int) := by simp only [wrap64]; omega
    rw [this, i64_and15 _ (by omega)]
theorem dsum_int (m : List UInt8) (k : Nat) : (dsum m k : Int) + (15 - (dig m k : Int)) = (dsum m (k + 1) : Nat) := by
  have := dig_lt m k
  simp only [dsum]; omega
theorem hchk (m : List UInt8) (k : Nat) (h1 : 64 ≤ k) (h2 : k < 67) : bits .and .i64 ((dsum m 64 : Int) / 2 ^ (4 * (66 - k))) 15 = (digAll m k : Nat) := by
  have hd := dsum_le m 64
  have hk : k = 64 ∨ k = 65 ∨ k = 66 := by omega
  unfold digAll
  rw [if_neg (by omega)]
  generalize dsum m 64 = s at *
  rcases hk with rfl | rfl | rfl
  · rw [show (s : Int) / 2 ^ (4 * (66 - 64)) = ((s / 256 : Nat) : Int) by omega, i64_and15 _ (by omega)]
  · rw [show (s : Int) / 2 ^ (4 * (66 - 65)) = ((s / 16 : Nat) : Int) by omega, i64_and15 _ (by omega)]
  · rw [show (s : Int) / 2 ^ (4 * (66 - 66)) = ((s : Nat) : Int) by omega, i64_and15 _ (by omega)]; congr 1; omega
/-- a block lies as it lay -/
def Kb (B : Nat) (W W' : World) : Prop := W'.heap[B]? = W.heap[B]?
abbrev dEncs (p : Nat × Nat) : Array Value := #[.int .i64 (p.1 % 67 : Nat), .int .i64 (p.2 % 16 : Nat)]
def upto {α : Type} (f : Nat → α) (k : Nat) : List α := (List.range k).map f
theorem upto_succ {α : Type} (f : Nat → α) (k : Nat) : upto f (k + 1) = upto f k ++ [f k] := by simp [upto, List.range_succ]
theorem upto_length {α : Type} (f : Nat → α) (k : Nat) : (upto f k).length = k := by simp [upto]
theorem upto_prefix {α : Type} (f : Nat → α) {k n : Nat} (h : k ≤ n) : upto f k <+: upto f n := by
  refine ⟨(List.range' k (n - k)).map f, ?_⟩
  simp only [upto, ← List.map_append, List.range_eq_range']
  have := List.range'_append_1 (s := 0) (m := k) (n := n - k)
  rw [Nat.zero_add] at this
  rw [this, Nat.add_sub_cancel' h]
def dpair (m : List UInt8) (k : Nat) : Nat × Nat := (k, digAll m k)
theorem dEncs_pair (m : List UInt8) (k : Nat) (h : k < 67) : dEncs (dpair m k) = #[.int .i64 (k : Nat), .int .i64 (digAll m k : Nat)] := by
  simp only [dEncs, dpair, Nat.mod_eq_of_lt h, Nat.mod_eq_of_lt (digAll_lt m k)]

set_option maxRecDepth 100000 in
set_option maxHeartbeats 2000000 in
theorem digits1_in (F : Fence) (n : Nat) (h9 : F.fn 169) (hro : F.round = none) (hn : 1 ≤ n) (l Bs : Nat) (m : List UInt8) (hm : m.length = 32) (Jv Jx : List (Nat × Nat) → World → Prop)
    (hY : ∀ pre x W, Jv pre W → pre.length < 67 → YieldAt F (n - 1) Tryz.prog l (dEncs x) W fun e W' =>
      (e = .returned (.bool true) ∧ Jv (pre ++ [x]) W' ∧ Kb Bs W W') ∨ (e = .returned (.bool false) ∧ Jx (pre ++ [x]) W'))
    (W : World) (hBs : Blk W Bs 39 (bcells m).toArray) (h0 : Jv [] W) :
    CallsIn F n Tryz.prog 169 #[.func (.yield l) #[] #[], .pointer (some ⟨Bs, 0, none⟩)] W fun e W' => (∃ v, e = .returned v) ∧
      ((∃ ys, ys = upto (dpair m) 67 ∧ Jv ys W') ∨ (∃ pre, pre <+: upto (dpair m) 67 ∧ Jx pre W')) := by
  have hcx : ∀ {wr : World}, Kb Bs W wr → ∀ q, q < 32 → wr.cell? ⟨Bs, q, none⟩ = some (.int .u8 (m[q]?.getD 0).toNat) := fun {wr} hbl q hq => by
    rw [Blk.cell (w := wr) (t := 39) (cs := (bcells m).toArray) (hbl.trans hBs) q]
    simp [bcells, hm, hq]
  refine callsIn_of_wp Tryz.func169 rfl h9 ?_ hro
  simp only [Tryz.ntmps169, List.size_toArray, List.length_cons, List.length_nil, Nat.reduceAdd, Nat.reduceSub, Array.replicate_succ, Array.replicate_zero, List.push_toArray, List.append_toArray, List.nil_append, List.cons_append]
  gi_wp2
  gi_loopw [3, 7] (fun s i wr => ∃ k : Nat, k ≤ 64 ∧ i = .int .i64 k ∧ s = .int .i64 (dsum m k : Nat) ∧ Jv (upto (dpair m) k) wr ∧ Kb Bs W wr)
    (fun _ i _ => 64 - (intOf i).toNat)
  case atStart => exact ⟨0, Nat.zero_le _, rfl, rfl, h0, rfl⟩
  case round =>
    obtain ⟨k, hk, rfl, rfl, hJs, hnx⟩ := hrel
    by_cases hlt : k < 64
    · have hyy := hY _ (dpair m k) wr hJs (by rw [upto_length]; omega)
      rw [dEncs_pair m k (by omega)] at hyy
      obtain ⟨fn, tmps, assign, body, hy, hR⟩ := hyy
      have hcell := hcx hnx (k / 2) (by omega)
      have hds := dsum_le m k
      have hdg := dig_lt m k
      have hand := hdig_and m k
      have hsub : wrap64 (15 - (dig m k : Int)) = ((15 - dig m k : Nat) : Int) := by simp only [wrap64]; omega
      have hadd : wrap64 ((dsum m k : Int) + ((15 - dig m k : Nat) : Int)) = (dsum m (k + 1) : Nat) := by simp only [wrap64, dsum]; omega
      have hall : digAll m k = dig m k := by simp [digAll, hlt]
      rw [hall] at hy
      gi_wp2
      refine hR.mono ?_
      rintro e W3 (⟨rfl, hJ3, hk3⟩ | ⟨rfl, hJx3⟩)
      · gi_wp2
        go_roundw
        case rel => exact ⟨k + 1, by omega, by simp, congrArg _ (dsum_int m k), by rw [upto_succ]; exact hJ3, hk3.trans hnx⟩
        case measure => simp [intOf]; omega
      · gi_wp2
        refine bodyPost_ret (results_none rfl _ _ _) rfl ?_
        exact ⟨⟨_, rfl⟩, .inr ⟨_, by rw [← upto_succ]; exact upto_prefix _ (by omega), hJx3⟩⟩
    · obtain rfl : k = 64 := by omega
      have e64 : ((64 : Nat) : Int) = 64 := rfl
      rw [e64]
      gi_wp2
      gi_loopw [6] (fun i wq => ∃ k : Nat, 64 ≤ k ∧ k ≤ 67 ∧ i = .int .i64 k ∧ Jv (upto (dpair m) k) wq ∧ Kb Bs W wq)
        (fun i _ => 67 - (intOf i).toNat)
      case atStart => exact ⟨64, Nat.le_refl _, by omega, rfl, hJs, hnx⟩
      case round =>
        obtain ⟨k, hk1, hk2, rfl, hJq, hnq⟩ := hrel
        have hds := dsum_le m 64
        by_cases hlt : k < 67
        · have hyy := hY _ (dpair m k) wr hJq (by rw [upto_length]; omega)
          rw [dEncs_pair m k (by omega)] at hyy
          obtain ⟨fn, tmps, assign, body, hy, hR⟩ := hyy
          have hand := hchk m k (by omega) (by omega)
          gi_wp2
          refine hR.mono ?_
          rintro e W3 (⟨rfl, hJ3, hk3⟩ | ⟨rfl, hJx3⟩)
          · gi_wp2
            go_roundw
            case rel => exact ⟨k + 1, by omega, by omega, by simp, by rw [upto_succ]; exact hJ3, hk3.trans hnq⟩
            case measure => simp [intOf]; omega
          · gi_wp2
            refine bodyPost_ret (results_none rfl _ _ _) rfl ?_
            exact ⟨⟨_, rfl⟩, .inr ⟨_, by rw [← upto_succ]; exact upto_prefix _ (by omega), hJx3⟩⟩
        · obtain rfl : k = 67 := by omega
          gi_wp2
          go_end0
          exact ⟨⟨_, rfl⟩, .inl ⟨_, rfl, hJq⟩⟩

theorem digits_stops (F : Fence) (n : Nat) (h9 : F.fn 169) (hro : F.round = none) (hn : 1 ≤ n) (Bs : Nat) (m : List UInt8) (hm : m.length = 32) (w : World)
    (hc : Blk w Bs 39 (bcells m).toArray) :
    SeqStopsK F n Tryz.prog 169 #[.pointer (some ⟨Bs, 0, none⟩)] dEncs (Kb Bs) (fun ys => ys = upto (dpair m) 67) (fun pre => pre <+: upto (dpair m) 67) 67 w := fun l Jv Jx W hW _ _ hY h0 =>
  digits1_in F n h9 hro hn l Bs m hm Jv Jx hY W (hc.below hW hc.lt) h0
end Go.Proofs.YtipdmhppadapkaaGreatDoor
/-
  Walk: wots.Digits: the row of the digits.
-/
namespace Go.Proofs.YtipdmhppadapkaaGreatDoor
open Go.RowKit Go.Shelf

attribute [local go_sem] Oper.semAt_some

def icells (l : List Nat) : List Value := l.map fun (n : Nat) => Value.int .i64 (n : Int)
theorem icells_length (l : List Nat) : (icells l).length = l.length := by simp [icells]
theorem icells_set (l : List Nat) (i x : Nat) : (icells l).toArray.setIfInBounds i (.int .i64 (x : Int)) = (icells (l.set i x)).toArray := by simp [icells, List.map_set]
theorem icells_one (l : List Nat) : ∀ u ∈ icells l, u.oneCell' = true := by
  intro u hu; simp only [icells, List.mem_map] at hu; obtain ⟨c, _, rfl⟩ := hu; rfl
theorem icells_zero (n : Nat) : (icells (List.replicate n 0)).toArray = Array.replicate n (.int .i64 0) := by simp [icells]
def zeros67 : List Nat := List.replicate 67 0
def rowL (pre : List (Nat × Nat)) : List Nat := pre.foldl (fun r p => r.set (p.1 % 67) (p.2 % 16)) zeros67
theorem rowL_snoc (pre : List (Nat × Nat)) (x : Nat × Nat) : rowL (pre ++ [x]) = (rowL pre).set (x.1 % 67) (x.2 % 16) := by simp [rowL]
theorem foldl_set_length (pre : List (Nat × Nat)) : ∀ r : List Nat, (pre.foldl (fun r p => r.set (p.1 % 67) (p.2 % 16)) r).length = r.length := by
  induction pre with
  | nil => intro r; rfl
  | cons x pre ih => intro r; simp [ih]
theorem rowL_length (pre : List (Nat × Nat)) : (rowL pre).length = 67 := by unfold rowL; rw [foldl_set_length]; simp [zeros67]
def wdigs (m : List UInt8) : List Nat := upto (digAll m) 67
theorem wdigs_length67 (m : List UInt8) : (wdigs m).length = 67 := upto_length _ _
theorem rowL_upto (m : List UInt8) : ∀ k, k ≤ 67 → rowL (upto (dpair m) k) = upto (digAll m) k ++ List.replicate (67 - k) 0
  | 0, _ => by simp [rowL, upto, zeros67]
  | k + 1, h => by
    rw [upto_succ, rowL_snoc, rowL_upto m k (by omega), upto_succ]
    have e : 67 - k = (67 - (k + 1)) + 1 := by omega
    rw [e, List.replicate_succ]
    simp only [dpair, Nat.mod_eq_of_lt (show k < 67 by omega), Nat.mod_eq_of_lt (digAll_lt m k)]
    rw [List.set_append_right _ _ (by rw [upto_length]; omega)]
    simp [upto_length]
theorem rowL_all (m : List UInt8) : rowL (upto (dpair m) 67) = wdigs m := by rw [rowL_upto m 67 (Nat.le_refl _)]; simp [wdigs]

section
variable {F : Fence} {n : Nat} {P : Program} {ops : Array Oper} {rest : List Oper} {o : Oper} {a : Act} {Q : Exit → Act → World → Prop}
theorem wpListIn_loadAll (w : World) (hgd : o.guard = none) (ty : TypeId) (x : Operand) (ho : o.op = .load ty x) (g : Nat) (te : TypeId) (cells : Array Value) (hb : Blk w g te cells) (d : TypeDesc)
    (hx : a.eval x = .pointer (some ⟨g, 0, none⟩)) (hu : P.underlying ty = some d) (hd : (match d with | .struct _ | .array _ _ => true | _ => false) = true) (hi : (P.info? ty).map (·.size) = some cells.size)
    (h : wpListIn F n P ops Q rest (a.put o.dst (.agg cells)) w) : wpListIn F n P ops Q (o :: rest) a w := by
  refine wpListIn_plain hgd fun K hK => ?_
  unfold Oper.wpIn
  refine ⟨?_, ?_⟩
  · simp [Oper.about, ho]
  · rw [Oper.semAt_plain F _ _ (by rw [ho]; intro c hc'; cases hc')]
    unfold execOp
    simp only [ho, hx, Instr.loadAt, Instr.sureAddr, Sem.run_bind, Sem.run_pure, Result.andThen_ok, run_loadVar_row w g te ty cells (0, 0) d hb hu hd hi]
    exact hK _ _ h
theorem wpListIn_storeAll (w : World) (hgd : o.guard = none) (ty : TypeId) (x y : Operand) (ho : o.op = .store ty x y) (g : Nat) (te : TypeId) (cur cells : Array Value) (hb : Blk w g te cur)
    (hx : a.eval x = .pointer (some ⟨g, 0, none⟩)) (hy : a.eval y = .agg cells) (hfit : cells.size = cur.size) (hi : (P.info? ty).map (·.size) = some cells.size) (h1 : ∀ v ∈ cells.toList, v.oneCell' = true)
    (h : ∀ w', Blk w' g te cells → w.grownBy w' (some g) → w'.heap.size = w.heap.size → wpListIn F n P ops Q rest (a.put o.dst undef) w') : wpListIn F n P ops Q (o :: rest) a w := by
  refine wpListIn_plain hgd fun K hK => ?_
  obtain ⟨h2, h3, h4⟩ := Blk.setCells cells.toList 0 w cur hb (by simp; omega)
  rw [splice_all _ _ (by simpa using hfit)] at h2
  unfold Oper.wpIn
  refine ⟨?_, ?_⟩
  · simp [Oper.about, ho]
  · rw [Oper.semAt_plain F _ _ (by rw [ho]; intro c hc'; cases hc')]
    unfold execOp
    simp only [ho, hx, hy, Instr.storeAt, Instr.sureAddr, Sem.run_bind, Sem.run_pure, Result.andThen_ok, run_storeVar_mid w g 0 ty cells (hb.there 0 cells.size (by omega)) hi (by rw [Array.all_eq_true]; intro i hi; exact h1 _ (by simp))]
    exact hK _ _ (h _ h2 h3 h4)
end

theorem Blk.kept {w w' : World} {g : Nat} {t : TypeId} {cs : Array Value} {row : Option Nat} (h : Blk w g t cs) (hg : w.grownBy w' row) (hr : ∀ r, row = some r → ∃ o : Obj, w.heap[r]? = some o ∧ o.isCells = false) : Blk w' g t cs :=
  h.grown hg (fun e => by
    obtain ⟨o, h1, h2⟩ := hr g e.symm
    rw [h] at h1; cases h1; simp [Obj.isCells] at h2)

theorem zero67 (w : World) : (zeroValue 164).run Tryz.prog w = .ok (.agg (icells zeros67).toArray) w := by rw [zeros67, icells_zero]; kernel_rfl
attribute [go_sem] zero67

set_option maxRecDepth 100000 in
set_option maxHeartbeats 1000000 in
theorem mdigits_in (F : Fence) (n : Nat) (h8 : F.fn 141) (hro : F.round = none) (cs : Array Value) (w : World) :
    CallsIn F n Tryz.prog 141 #[.agg cs] w fun e w' => e = .returned (.func (.func 169) #[] #[.pointer (some ⟨w.heap.size, 0, none⟩)]) ∧ w' = w.alloc (.cells cs 39) := by
  refine callsIn_of_wp Tryz.func141 rfl h8 ?_ hro
  simp only [Tryz.ntmps141, List.size_toArray, List.length_cons, List.length_nil, Nat.reduceAdd, Nat.reduceSub, Array.replicate_succ, Array.replicate_zero, List.push_toArray, List.append_toArray, List.nil_append, List.cons_append]
  gi_wp2
  go_ret
  exact ⟨rfl, rfl⟩

set_option maxRecDepth 100000 in
set_option maxHeartbeats 2000000 in
theorem mDigits_any (m : List UInt8) (hm : m.length = 32) (w : World) :
    Calls Tryz.prog 115 #[.agg (bcells m).toArray] w fun e w' => e = .returned (.agg (icells (wdigs m)).toArray) ∧ Below w.heap.size w w' := by
  refine (callsIn_wide (n := 6)).1 ?_
  refine callsIn_of_wp_marks Tryz.func115 rfl trivial ?_ rfl
  simp only [Tryz.ntmps115, List.size_toArray, List.length_cons, List.length_nil, Nat.reduceAdd, Nat.reduceSub, Array.replicate_succ, Array.replicate_zero, List.push_toArray, List.append_toArray, List.nil_append, List.cons_append]
  gi_wp2_with (refine wpListIn_loadAll _ rfl 39 _ rfl w.heap.size 39 (bcells m).toArray ((((Blk.new w 39 (bcells m).toArray).alloc _).alloc _)) _ rfl Tryz.underlying39 rfl (by rw [List.size_toArray, bcells_length, hm]; kernel_rfl) ?_)
  refine ⟨trivial, (mdigits_in Fence.wide 5 trivial rfl _ _).mono ?_⟩
  rintro e w' ⟨rfl, rfl⟩
  try rw [show Tryz.zeroCells164 = (icells zeros67).toArray from by kernel_rfl]
  obtain ⟨W, hW⟩ : ∃ W, W = ((w.alloc (.cells (bcells m).toArray 39)).alloc (.cells (icells zeros67).toArray 164)).alloc (.cells (icells zeros67).toArray 164) := ⟨_, rfl⟩
  have hr0 : Blk W (w.heap.size + 1) 164 (icells zeros67).toArray := by
    rw [hW]; have := (Blk.new (w.alloc (.cells (bcells m).toArray 39)) 164 (icells zeros67).toArray).alloc (.cells (icells zeros67).toArray 164)
    rwa [World.size_alloc] at this
  have ho0 : Blk W (w.heap.size + 2) 164 (icells (rowL [])).toArray := by
    rw [hW]; have := Blk.new ((w.alloc (.cells (bcells m).toArray 39)).alloc (.cells (icells zeros67).toArray 164)) 164 (icells zeros67).toArray
    rwa [World.size_alloc, World.size_alloc] at this
  have hs : W.heap.size = w.heap.size + 3 := by rw [hW]; simp
  have hB : Below w.heap.size w W := by rw [hW]; exact (((Below.refl _ w).alloc (Nat.le_refl _) _).alloc (by simp) _).alloc (by simp; omega) _
  rw [← hW]
  clear hW
  gi_wp2_with fail
  obtain ⟨W1, hW1⟩ : ∃ W1, W1 = W.alloc (.cells (bcells m).toArray 39) := ⟨_, rfl⟩
  have hm1 : Blk W1 (w.heap.size + 3) 39 (bcells m).toArray := by rw [hW1, ← hs]; exact Blk.new _ _ _
  have hr1 : Blk W1 (w.heap.size + 1) 164 (icells zeros67).toArray := by rw [hW1]; exact hr0.alloc _
  have ho1 : Blk W1 (w.heap.size + 2) 164 (icells (rowL [])).toArray := by rw [hW1]; exact ho0.alloc _
  have hs1 : W1.heap.size = w.heap.size + 4 := by rw [hW1]; simp [hs]
  have hB1 : Below w.heap.size w W1 := by rw [hW1]; exact hB.alloc (by omega) _
  rw [← hW1]
  clear hW1 hr0 ho0 hs hB
  refine wpIn_rangeFunc_ownF rfl (by omega) (gf := 169) (lb := #[.pointer (some ⟨w.heap.size + 3, 0, none⟩)]) rfl trivial (enters_of Tryz.func169 (by kernel_rfl) rfl)
    (digits_stops Fence.wide 5 trivial rfl (by omega) (w.heap.size + 3) m hm W1 hm1) (fun h k => k.trans h) (fun W l o o' hl h _ _ => World.putObj_heap_other (by omega)) (Below.refl _ _) (fun _ => rfl)
    (fun pre W => (Blk W (w.heap.size + 1) 164 (icells zeros67).toArray ∧ Blk W (w.heap.size + 2) 164 (icells (rowL pre)).toArray) ∧ Below w.heap.size w W)
    (fun _ _ _ => False)
    (OwnFrom.and (Own.from (fun s A B row hs hg hr => ⟨hs.1.kept hg hr, hs.2.kept hg hr⟩) _) (ownFrom_below (Nat.le_refl _) (by omega)))
    (fun _ _ _ _ _ hs _ _ => hs)
    ⟨⟨hr1, ho1⟩, hB1⟩
    (fun x => { tmps := #[.agg (bcells m).toArray, .pointer (some ⟨w.heap.size, 0, none⟩), .pointer (some ⟨w.heap.size + 1, 0, none⟩), .pointer (some ⟨w.heap.size + 1 + 1, 0, none⟩), .int .i64 (x.1 % 67 : Nat), .int .i64 (x.2 % 16 : Nat), .agg (bcells m).toArray, .func (.func 169) #[] #[.pointer (some ⟨w.heap.size + 3, 0, none⟩)], .int .i64 (x.1 % 67 : Nat), .int .i64 (x.2 % 16 : Nat), undef, undef, undef, undef], defers := [] }) ?assign ?body ?done ?stop
  case assign =>
    intro l x W K hK
    gi_wp2
    exact hK
  case body =>
    rintro l pre x W ⟨⟨hr, ho⟩, hB⟩ _
    have hlt : x.1 % 67 < 67 := Nat.mod_lt _ (by decide)
    have hc : W.cell? ⟨w.heap.size + 1 + 1, x.1 % 67, none⟩ = some (.int .i64 ((rowL pre)[x.1 % 67]'(by rw [rowL_length]; exact hlt) : Nat)) := by
      rw [ho.cell]; simp [icells, rowL_length, hlt]
    have hf : W.frozen? ⟨w.heap.size + 1 + 1, x.1 % 67, none⟩ = false := ho.frozen _
    gi_wp2
    refine ⟨KeepsOthers.setCell _ _ _, heap_setCell_other _ _ _ _ (by simp), ⟨hr.far (by simp) _, ?_⟩, hB.setCell (p := ⟨w.heap.size + 1 + 1, x.1 % 67, none⟩) (by simp; omega) _⟩
    rw [rowL_snoc, ← icells_set]
    exact ho.set_ _ _
  case done =>
    rintro D ys W hD rfl ⟨⟨hr, ho⟩, hB⟩ hK
    rw [rowL_all] at ho
    gi_wp2_with (first
      | (refine wpListIn_loadAll W rfl 164 _ rfl (w.heap.size + 1 + 1) 164 (icells (wdigs m)).toArray ho _ rfl Tryz.underlying164 rfl (by rw [List.size_toArray, icells_length, wdigs_length67]; kernel_rfl) ?_)
      | (refine wpListIn_storeAll W rfl 164 _ _ rfl (w.heap.size + 1) 164 _ (icells (wdigs m)).toArray hr rfl rfl (by rw [List.size_toArray, List.size_toArray, icells_length, icells_length, wdigs_length67]; rfl) (by rw [List.size_toArray, icells_length, wdigs_length67]; kernel_rfl) (fun v hv => icells_one _ v (by simpa using hv)) ?_; intro w3 hb3 hg3 hs3))
    have hlt := (Array.getElem?_eq_some_iff.1 hK).1
    have hK' : w3.heap[D]? = some (.deferred (some [])) := (hg3.block D hlt (by simp; omega)).trans hK
    refine ⟨by simp, .inl ⟨_, _, rfl, run_takeDeferred hK', ?_⟩⟩
    have hb4 := hb3.grown (grownBy_putObj' w3 D (.deferred none)) (by simp; omega)
    refine ⟨_, results_cell_row rfl _ _ (w.heap.size + 1) _ _ _ _ rfl hb4 Tryz.underlying164 rfl (by rw [List.size_toArray, icells_length, wdigs_length67]; kernel_rfl), rfl, ?_⟩
    exact grown_below (grown_below hB hg3 hB.size (by omega)) (grownBy_putObj' w3 D (.deferred none)) (by rw [hs3]; exact hB.size) (by omega)
  case stop =>
    rintro D c pre W _ _ h _
    exact h.elim
end Go.Proofs.YtipdmhppadapkaaGreatDoor
/-
  Walk: portreeveref04.Digits: the same row of digits.
-/
namespace Go.Proofs.YtipdmhppadapkaaGreatDoor
open Go.RowKit

theorem u8_and15 (a : Nat) (h : a < 256) : bits .and .u8 (a : Int) 15 = ((a % 16 : Nat) : Int) := by
  have := u8_and_nat a 15 h (by decide)
  rw [nat_mask4] at this; exact this

theorem size8 (W : World) : (sizeOf 5).run Tryz.prog W = .ok 1 W := by kernel_rfl
theorem nodeIndex (l : List UInt8) (h : l.length = 32) (k : Nat) (hk : k < 32) (W : World) :
    (Instr.index 39 (.agg (bcells l).toArray) (.int .i64 (k : Int))).run Tryz.prog W = .ok (.int .u8 (l[k]?.getD 0).toNat) W := by
  have h1 : (0 : Int) ≤ k ∧ (k : Int) < ((32 : Nat) : Int) := by omega
  have h2 := run_part_byte W Tryz.underlying5 l k (by omega)
  have e : l[k]?.getD 0 = l[k] := by simp [List.getElem?_eq_getElem (show k < l.length by omega)]
  rw [e]
  simp only [Instr.index, asIntOf, Sem.run_bind, Sem.run_pure, Result.andThen_ok, run_underlying Tryz.underlying39, if_pos h1, size8, Int.toNat_natCast, Nat.mul_one, h2]

theorem row_set (f : Nat → Nat) (n : Nat) (h : n < 67) : (upto f n ++ List.replicate (67 - n) 0).set n (f n) = upto f (n + 1) ++ List.replicate (67 - (n + 1)) 0 := by
  have e : 67 - n = (67 - (n + 1)) + 1 := by omega
  rw [e, List.replicate_succ, upto_succ, List.set_append_right _ _ (by rw [upto_length]; omega)]
  simp [upto_length]
theorem row_len (f : Nat → Nat) (n : Nat) (h : n ≤ 67) : (upto f n ++ List.replicate (67 - n) 0).length = 67 := by simp [upto_length]; omega
theorem row_cell {w : World} {g : Nat} {l : List Nat} (h : Blk w g 164 (icells l).toArray) (hl : l.length = 67) (i : Nat) (hi : i < 67) : ∃ v, w.cell? ⟨g, i, none⟩ = some v := by
  rw [h.cell]; exact ⟨_, Array.getElem?_eq_getElem (by simp [icells_length, hl, hi])⟩

theorem row_dig {w : World} {g : Nat} (f : Nat → Nat) (n : Nat) (r : List Nat) (h : Blk w g 164 (icells (upto f n ++ r)).toArray) (i : Nat) (hi : i < n) : w.cell? ⟨g, i, none⟩ = some (.int .i64 (f i : Nat)) := by
  rw [h.cell, List.getElem?_toArray, icells, List.getElem?_map, List.getElem?_append_left (by rw [upto_length]; exact hi)]
  simp [upto, hi]
theorem upto_dig (m : List UInt8) : upto (dig m) 64 = upto (digAll m) 64 := by
  unfold upto
  refine List.map_congr_left fun i hi => ?_
  simp only [List.mem_range] at hi
  simp [digAll, hi]
theorem chk64 (m : List UInt8) : bits .and .i64 ((dsum m 64 : Int) / 256) 15 = (digAll m 64 : Nat) := hchk m 64 (by decide) (by decide)
theorem chk65 (m : List UInt8) : bits .and .i64 ((dsum m 64 : Int) / 16) 15 = (digAll m 65 : Nat) := hchk m 65 (by decide) (by decide)
theorem chk66 (m : List UInt8) : bits .and .i64 (dsum m 64 : Int) 15 = (digAll m 66 : Nat) := by
  have := hchk m 66 (by decide) (by decide)
  rwa [show ((dsum m 64 : Nat) : Int) / 2 ^ (4 * (66 - 66)) = dsum m 64 by omega] at this

theorem dig_even (m : List UInt8) (k : Nat) : dig m (2 * k) = (m[k]?.getD 0).toNat / 16 := by
  unfold dig; rw [if_pos (by omega), show 2 * k / 2 = k by omega]
theorem dig_odd (m : List UInt8) (k : Nat) : dig m (2 * k + 1) = (m[k]?.getD 0).toNat % 16 := by
  unfold dig; rw [if_neg (by omega), show (2 * k + 1) / 2 = k by omega]

set_option maxRecDepth 100000 in
set_option maxHeartbeats 2000000 in
theorem rDigits_any (m : List UInt8) (hm : m.length = 32) (w : World) :
    Calls Tryz.prog 87 #[.agg (bcells m).toArray] w fun e w' => e = .returned (.agg (icells (wdigs m)).toArray) ∧ Below w.heap.size w w' := by
  have Hm := Lib.hid hm
  have hz67 := zero67
  clear hm
  go_enter Tryz.func87, Tryz.ntmps87
  go_wp2_with (refine wpList_loadAll _ rfl 39 _ rfl w.heap.size 39 (bcells m).toArray ((((Blk.new w 39 (bcells m).toArray).alloc _).alloc _)) _ rfl Tryz.underlying39 rfl (by rw [List.size_toArray, bcells_length, Hm.out]; kernel_rfl) ?_)
  obtain ⟨W, hW⟩ : ∃ W, W = ((w.alloc (.cells (bcells m).toArray 39)).alloc (.cells (icells zeros67).toArray 164)).alloc (.cells (icells zeros67).toArray 164) := ⟨_, rfl⟩
  have hr0 : Blk W (w.heap.size + 1) 164 (icells zeros67).toArray := by
    rw [hW]; have := (Blk.new (w.alloc (.cells (bcells m).toArray 39)) 164 (icells zeros67).toArray).alloc (.cells (icells zeros67).toArray 164)
    rwa [World.size_alloc] at this
  have ho0 : Blk W (w.heap.size + 2) 164 (icells zeros67).toArray := by
    rw [hW]; have := Blk.new ((w.alloc (.cells (bcells m).toArray 39)).alloc (.cells (icells zeros67).toArray 164)) 164 (icells zeros67).toArray
    rwa [World.size_alloc, World.size_alloc] at this
  have hs : W.heap.size = w.heap.size + 3 := by rw [hW]; simp
  have hB : Below w.heap.size w W := by rw [hW]; exact (((Below.refl _ w).alloc (Nat.le_refl _) _).alloc (by simp) _).alloc (by simp; omega) _
  rw [← hW]
  clear hW
  go_loopw [4, 8] (fun s i wr => ∃ k : Nat, k ≤ 32 ∧ i = .int .i64 k ∧ s = .int .i64 (dsum m (2 * k) : Nat) ∧ Blk wr (w.heap.size + 1) 164 (icells zeros67).toArray ∧
    Blk wr (w.heap.size + 2) 164 (icells (upto (dig m) (2 * k) ++ List.replicate (67 - 2 * k) 0)).toArray ∧ Below w.heap.size w wr) (fun _ i _ => 32 - (intOf i).toNat)
  case atStart => exact ⟨0, by omega, rfl, rfl, hr0, ho0, hB⟩
  case round =>
    obtain ⟨k, hk, rfl, rfl, hr, ho, hBr⟩ := hrel
    by_cases hlt : k < 32
    · have hix : (bcells m)[k]? = some (.int .u8 (m[k]?.getD 0).toNat) := bcells_get m k (by rw [Hm.out]; exact hlt)
      have hix' := nodeIndex m Hm.out k hlt
      have hb8 := (m[k]?.getD 0).toNat_lt
      have hand := u8_and15 (m[k]?.getD 0).toNat hb8
      obtain ⟨v1, hc1⟩ : ∃ v, wr.cell? ⟨w.heap.size + 1 + 1, 2 * k, none⟩ = some v := row_cell ho (row_len _ _ (by omega)) _ (by omega)
      obtain ⟨v2, hc2⟩ : ∃ v, wr.cell? ⟨w.heap.size + 1 + 1, 2 * k + 1, none⟩ = some v := row_cell ho (row_len _ _ (by omega)) _ (by omega)
      have hf1 : wr.frozen? ⟨w.heap.size + 1 + 1, 2 * k, none⟩ = false := ho.frozen _
      have hf2 : wr.frozen? ⟨w.heap.size + 1 + 1, 2 * k + 1, none⟩ = false := ho.frozen _
      go_wp2_with fail
      have e1 : ((m[k]?.getD 0).toNat : Int) / 16 = (dig m (2 * k) : Nat) := by rw [dig_even]; omega
      have e2 : ((m[k]?.getD 0).toNat : Int) % 16 = (dig m (2 * k + 1) : Nat) := by rw [dig_odd]; omega
      rw [e1, e2]
      have hb2 := (ho.set_ (2 * k) (.int .i64 (dig m (2 * k) : Nat))).set_ (2 * k + 1) (.int .i64 (dig m (2 * k + 1) : Nat))
      rw [icells_set, icells_set, row_set _ _ (by omega), row_set _ _ (by omega)] at hb2
      have hrr := (hr.far (p := ⟨w.heap.size + 2, 2 * k, none⟩) (by simp) (.int .i64 (dig m (2 * k) : Nat))).far (p := ⟨w.heap.size + 2, 2 * k + 1, none⟩) (by simp) (.int .i64 (dig m (2 * k + 1) : Nat))
      have hBB := (hBr.setCell (p := ⟨w.heap.size + 2, 2 * k, none⟩) (by simp) (.int .i64 (dig m (2 * k) : Nat))).setCell (p := ⟨w.heap.size + 2, 2 * k + 1, none⟩) (by simp) (.int .i64 (dig m (2 * k + 1) : Nat))
      obtain ⟨W2, hW2⟩ : ∃ W2, W2 = (wr.setCell ⟨w.heap.size + 2, 2 * k, none⟩ (.int .i64 (dig m (2 * k) : Nat))).setCell ⟨w.heap.size + 2, 2 * k + 1, none⟩ (.int .i64 (dig m (2 * k + 1) : Nat)) := ⟨_, rfl⟩
      rw [← hW2] at hb2 hrr hBB ⊢
      clear hW2 ho hr hBr hc1 hc2 hf1 hf2 hix hix' hand e1 e2
      have hd1 : W2.cell? ⟨w.heap.size + 1 + 1, 2 * k, none⟩ = some (.int .i64 (dig m (2 * k) : Nat)) := row_dig _ _ _ hb2 _ (by omega)
      have hd2 : W2.cell? ⟨w.heap.size + 1 + 1, 2 * k + 1, none⟩ = some (.int .i64 (dig m (2 * k + 1) : Nat)) := row_dig _ _ _ hb2 _ (by omega)
      have hl1 := dig_lt m (2 * k)
      have hl2 := dig_lt m (2 * k + 1)
      have hds := dsum_le m (2 * k)
      go_quiet (fail)
      have e3 : (dsum m (2 * k) : Int) + (30 - (dig m (2 * k) : Int) - (dig m (2 * k + 1) : Int)) = (dsum m (2 * (k + 1)) : Nat) := by
        rw [show 2 * (k + 1) = 2 * k + 1 + 1 by omega]
        simp only [dsum]; omega
      rw [e3]
      clear e3 hd1 hd2 hl1 hl2 hds
      go_wp2
      go_roundw
      case rel => exact ⟨k + 1, by omega, by simp, rfl, hrr, hb2, below_drewN hBB _⟩
      case measure => simp [intOf]; omega
    · obtain rfl : k = 32 := by omega
      have e64 : 2 * 32 = 64 := rfl
      rw [e64] at ho ⊢
      rw [upto_dig] at ho
      have hds := dsum_le m 64
      have hk1 := chk64 m
      have hk2 := chk65 m
      have hk3 := chk66 m
      obtain ⟨v1, hc1⟩ : ∃ v, wr.cell? ⟨w.heap.size + 1 + 1, 64, none⟩ = some v := row_cell ho (row_len _ _ (by omega)) _ (by omega)
      obtain ⟨v2, hc2⟩ : ∃ v, wr.cell? ⟨w.heap.size + 1 + 1, 65, none⟩ = some v := row_cell ho (row_len _ _ (by omega)) _ (by omega)
      obtain ⟨v3, hc3⟩ : ∃ v, wr.cell? ⟨w.heap.size + 1 + 1, 66, none⟩ = some v := row_cell ho (row_len _ _ (by omega)) _ (by omega)
      have hf1 : wr.frozen? ⟨w.heap.size + 1 + 1, 64, none⟩ = false := ho.frozen _
      have hf2 : wr.frozen? ⟨w.heap.size + 1 + 1, 65, none⟩ = false := ho.frozen _
      have hf3 : wr.frozen? ⟨w.heap.size + 1 + 1, 66, none⟩ = false := ho.frozen _
      have hb2 := ((ho.set_ 64 (.int .i64 (digAll m 64 : Nat))).set_ 65 (.int .i64 (digAll m 65 : Nat))).set_ 66 (.int .i64 (digAll m 66 : Nat))
      rw [icells_set, icells_set, icells_set, row_set _ _ (by omega), row_set _ _ (by omega), row_set _ _ (by omega)] at hb2
      rw [show upto (digAll m) (64 + 1 + 1 + 1) ++ List.replicate (67 - (64 + 1 + 1 + 1)) 0 = wdigs m by simp [wdigs]] at hb2
      have hrr := ((hr.far (p := ⟨w.heap.size + 2, 64, none⟩) (by simp) (.int .i64 (digAll m 64 : Nat))).far (p := ⟨w.heap.size + 2, 65, none⟩) (by simp) (.int .i64 (digAll m 65 : Nat))).far (p := ⟨w.heap.size + 2, 66, none⟩) (by simp) (.int .i64 (digAll m 66 : Nat))
      have hBB := ((hBr.setCell (p := ⟨w.heap.size + 2, 64, none⟩) (by simp) (.int .i64 (digAll m 64 : Nat))).setCell (p := ⟨w.heap.size + 2, 65, none⟩) (by simp) (.int .i64 (digAll m 65 : Nat))).setCell (p := ⟨w.heap.size + 2, 66, none⟩) (by simp) (.int .i64 (digAll m 66 : Nat))
      have hlt2 := hrr.lt
      go_wp2_with (first
        | ((with_reducible refine at_load 164 ?_); refine wpList_loadAll _ rfl 164 _ rfl (w.heap.size + 1 + 1) 164 (icells (wdigs m)).toArray hb2 _ rfl Tryz.underlying164 rfl (by rw [List.size_toArray, icells_length, wdigs_length67]; kernel_rfl) ?_)
        | ((with_reducible refine at_store 164 ?_); refine wpList_storeAll _ rfl 164 _ _ rfl (w.heap.size + 1) 164 _ (icells (wdigs m)).toArray hrr rfl rfl (by rw [List.size_toArray, List.size_toArray, icells_length, icells_length, wdigs_length67]; rfl) (by rw [List.size_toArray, icells_length, wdigs_length67]; kernel_rfl) (fun v hv => icells_one _ v (by simpa using hv)) ?_; intro w3 hb3 hg3 hs3))
      refine bodyPost_ret (results_cell_row rfl _ _ (w.heap.size + 1) _ _ _ _ rfl hb3 Tryz.underlying164 rfl (by rw [List.size_toArray, icells_length, wdigs_length67]; kernel_rfl)) rfl ⟨rfl, ?_⟩
      exact grown_below hBB hg3 hBB.size (by omega)
end Go.Proofs.YtipdmhppadapkaaGreatDoor
/-
  Walks: portreevelaw06.awake; the statements WotsDigits and WotsUnlike.
-/
namespace Go.Proofs.YtipdmhppadapkaaGreatDoor
open Go.RowKit

section
variable {P : Program}
end
end Go.Proofs.YtipdmhppadapkaaGreatDoor
/-
  Walk: portreeveref04.Chain.
-/
namespace Go.Proofs.YtipdmhppadapkaaGreatDoor
open Go.RowKit Sha

set_option maxRecDepth 100000 in
set_option maxHeartbeats 4000000 in
theorem rchain_any (nd sd : List UInt8) (hnd : nd.length = 32) (hsd : sd.length = 32) (leaf : Nat) (hleaf : leaf < 4294967296) (f k c : Nat) (hfk : f + k ≤ 15) (hc : c ≤ 66) (w : World) :
    Calls Tryz.prog 88 #[.agg (bcells nd).toArray, .int .i64 (f : Int), .int .i64 (k : Int), .agg (bcells sd).toArray, .int .u32 (leaf : Int), .int .i64 (c : Int)] w fun e w' =>
      e = .returned (.agg (bcells (chainN sd leaf c f k nd)).toArray) ∧ Below w.heap.size w w' := by
  have hz := zeroNode
  have hwr : IntKind.u32.wrap (c : Int) = (c : Int) := IntWalk.u32_in _ (by omega)
  have h1 : ¬ ((f : Int) < 0) := by omega
  have h2 : ¬ ((k : Int) < 0) := by omega
  have h3 : ¬ (15 < (f : Int)) := by omega
  have h4 : ¬ (15 - (f : Int) < (k : Int)) := by omega
  have h5 : ¬ ((c : Int) < 0) := by omega
  have h6 : ¬ (66 < (c : Int)) := by omega
  have hsub : IntKind.i64.wrap (15 - (f : Int)) = 15 - (f : Int) := by rw [IntKind.wrap_i64]; omega
  have hfk1 : IntKind.i64.wrap ((f : Int) + (k : Int)) = (f : Int) + (k : Int) := by rw [IntKind.wrap_i64]; omega
  have sL := Lib.hid hsd
  have nL := Lib.hid hnd
  clear hsd hnd
  have hb_n := ((Blk.new w 39 (bcells nd).toArray).alloc (.cells (bcells sd).toArray 39)).alloc (.cells zn 39)
  have hb_s := (blk_new1 w (.cells (bcells nd).toArray 39) 39 (bcells sd).toArray).alloc (.cells zn 39)
  have hN := blk_new2 w (.cells (bcells nd).toArray 39) (.cells (bcells sd).toArray 39) 39 zn
  have hBw0 : Below w.heap.size w (((w.alloc (.cells (bcells nd).toArray 39)).alloc (.cells (bcells sd).toArray 39)).alloc (.cells zn 39)) := (((Below.refl _ _).alloc (Nat.le_refl _) _).alloc (by simp) _).alloc (by simp; omega) _
  go_enter Tryz.func88, Tryz.ntmps88
  go_wp2_with fail
  generalize ((w.alloc (.cells (bcells nd).toArray 39)).alloc (.cells (bcells sd).toArray 39)).alloc (.cells zn 39) = W0 at *
  clear h1 h2 h3 h4 h5 h6 hsub
  go_loopw [13] (fun i wr => ∃ j : Nat, j ≤ k ∧ i = .int .i64 ((f + j : Nat) : Int) ∧ Blk wr w.heap.size 39 (bcells (chainN sd leaf c f j nd)).toArray ∧ Blk wr (w.heap.size + 1) 39 (bcells sd).toArray ∧ Blk wr (w.heap.size + 2) 39 zn ∧ Below w.heap.size w wr) (fun i _ => f + k - (intOf i).toNat)
  case atStart => exact ⟨0, by omega, rfl, hb_n, hb_s, hN, hBw0⟩
  case round =>
    clear hb_n hb_s hN hBw0
    obtain ⟨j, hj, rfl, hA, hD, hN, hB⟩ := hrel
    obtain ⟨X, hX⟩ : ∃ X, X = chainN sd leaf c f j nd := ⟨_, rfl⟩
    rw [← hX] at hA
    have HXl : Hid (X.length = 32) := Lib.hid (by rw [hX]; exact chainN_length _ _ _ _ _ nL.out j)
    have HX := Lib.hid hX
    clear hX
    by_cases hlt : j < k
    · obtain ⟨q, hq⟩ : ∃ q, q = f + j := ⟨_, rfl⟩
      rw [← hq]
      have hqk : (q : Int) < (f : Int) + (k : Int) := by omega
      have hwq : IntKind.u32.wrap (q : Int) = (q : Int) := IntWalk.u32_in _ (by omega)
      have hq15 : q ≤ 15 := by omega
      have Hq := Lib.hid hq
      clear hq
      go_wp2_with (first
        | ((with_reducible refine at_load 39 ?_); fail)
        | ((with_reducible refine at_load 39 ?_); refine wpList_loadAll _ rfl 39 _ rfl (w.heap.size + 1) 39 (bcells sd).toArray (hD.alloc _) _ rfl Tryz.underlying39 rfl (by rw [List.size_toArray, bcells_length, sL.out]; kernel_rfl) ?_))
      have hx0 : Blk (wr.alloc (.cells (otsAd leaf c q).cells 162)) wr.heap.size 162 (otsAd leaf c q).cells := Blk.new _ _ _
      have hA1 := hA.alloc (.cells (otsAd leaf c q).cells 162)
      have hD1 := hD.alloc (.cells (otsAd leaf c q).cells 162)
      have hN1 := hN.alloc (.cells (otsAd leaf c q).cells 162)
      have hB1 : Below w.heap.size w (wr.alloc (.cells (otsAd leaf c q).cells 162)) := hB.alloc hB.size _
      have hlt1 : w.heap.size + 2 < wr.heap.size := hN.lt
      obtain ⟨K0, hK0⟩ : ∃ K, K = prfH sd (otsAd leaf c q) := ⟨_, rfl⟩
      have HK0l : Hid (K0.length = 32) := Lib.hid (by rw [hK0]; exact keyed_length _ _)
      have HK0 := Lib.hid hK0
      clear hK0 hA hD hN hB
      refine (rprf_any sd sL.out (otsAd leaf c q) (wr.alloc (.cells (otsAd leaf c q).cells 162)) (otsAd_ok hleaf (by omega) (by omega))).mono ?_
      rintro e w5 ⟨rfl, hB5⟩
      rw [← HK0.out]
      have hx5 := hx0.below hB5 hx0.lt
      have hA5 := hA1.below hB5 hA1.lt
      have hD5 := hD1.below hB5 hD1.lt
      have hN5 := hN1.below hB5 hN1.lt
      have hBr := hB1.trans (hB5.mono hB1.size)
      have hgx : wr.heap.size < w5.heap.size := hx5.lt
      clear hx0 hA1 hD1 hN1 hB1 hB5
      generalize wr.heap.size = gx at *
      go_wp2_with ((with_reducible refine at_store 39 ?_); refine wpList_storeAll _ rfl 39 _ _ rfl w5.heap.size 39 _ (bcells K0).toArray (Blk.new w5 39 zn) rfl rfl (by rw [List.size_toArray, bcells_length, HK0l.out]; kernel_rfl) (by rw [List.size_toArray, bcells_length, HK0l.out]; kernel_rfl) (fun v hv => bcells_one _ v (by simpa using hv)) ?_; intro w6 hk6 hg6 hs6; have hC6 : Chg (fun b => b = w5.heap.size) w5 w6 := ((Chg.refl _ w5).alloc _).trans (Chg.grown hg6 (by rintro j h; cases h; rfl)); have hx6 := hx5.chg hC6 (show ¬ gx = w5.heap.size by omega); have hf6 := hx6.frozen 6; have hc6 : World.cell? w6 ⟨gx, 6, none⟩ = some (.int .u32 ((otsAd leaf c q).mask : Int)) := (hx6.cell 6).trans rfl)
      have hok1 : (Ad.withMask (otsAd leaf c q) 1).ok := Ad.ok_mask (otsAd_ok hleaf (by omega) (by omega)) 1 (by omega)
      have hA6 := hA5.chg hC6 (show ¬ _ = w5.heap.size by omega)
      have hD6 := hD5.chg hC6 (show ¬ _ = w5.heap.size by omega)
      have hN6 := hN5.chg hC6 (show ¬ _ = w5.heap.size by omega)
      have hB6 : Below w.heap.size w w6 := hBr.trans (hC6.below (fun b hb => by have hb : b = w5.heap.size := hb; omega) (by omega))
      have hgk : gx < w5.heap.size := hgx
      generalize w5.heap.size = gk at *
      have hx7 : Blk (World.setCell w6 ⟨gx, 6, none⟩ (.int .u32 1)).drew gx 162 (Ad.withMask (otsAd leaf c q) 1).cells := (hx6.set_ 6 _).drew
      have hA7 := (hA6.far (p := ⟨gx, 6, none⟩) (show w.heap.size ≠ gx by omega) (.int .u32 1)).drew
      have hD7 := (hD6.far (p := ⟨gx, 6, none⟩) (show w.heap.size + 1 ≠ gx by omega) (.int .u32 1)).drew
      have hN7 := (hN6.far (p := ⟨gx, 6, none⟩) (show w.heap.size + 2 ≠ gx by omega) (.int .u32 1)).drew
      have hk7 := (hk6.far (p := ⟨gx, 6, none⟩) (show gk ≠ gx by omega) (.int .u32 1)).drew
      have hB7 := (hB6.setCell (p := ⟨gx, 6, none⟩) (show w.heap.size ≤ gx by omega) (.int .u32 1))
      obtain ⟨K1, hK1⟩ : ∃ K, K = prfH sd (Ad.withMask (otsAd leaf c q) 1) := ⟨_, rfl⟩
      obtain ⟨X1, hX1⟩ : ∃ K, K = xorL X K1 := ⟨_, rfl⟩
      obtain ⟨S, hS⟩ : ∃ K, K = fH K0 X1 := ⟨_, rfl⟩
      have HK1l : Hid (K1.length = 32) := Lib.hid (by rw [hK1]; exact keyed_length _ _)
      have HX1l : Hid (X1.length = 32) := Lib.hid (by rw [hX1]; exact xorL_length _ _ HXl.out HK1l.out)
      have HSl : Hid (S.length = 32) := Lib.hid (by rw [hS]; exact keyed_length _ _)
      have HC := Lib.hid (show chainN sd leaf c f (j + 1) nd = S by rw [hS, hX1, hK1, HK0.out, HX.out, Hq.out]; rfl)
      have HK1 := Lib.hid hK1
      have HX1 := Lib.hid hX1
      have HS := Lib.hid hS
      clear hK1 hX1 hS hC6 hg6 hs6 hf6 hc6 hx6 hk6 hA6 hD6 hN6 hB6 hx5 hA5 hD5 hN5 hBr
      have hsz : w.heap.size ≤ (World.setCell w6 ⟨gx, 6, none⟩ (.int .u32 1)).drew.heap.size := hB7.size
      generalize World.setCell w6 ⟨gx, 6, none⟩ (.int .u32 1) = V at *
      refine Flow.wp_region_flow (w.heap.size) [(7, fun b => b = w.heap.size)] [(0, fun W => Blk W gk 39 ((bcells K0).toArray)), (1, fun W => Blk W w.heap.size 39 ((bcells X).toArray)), (2, fun W => Blk W (w.heap.size + 1) 39 ((bcells sd).toArray)), (3, fun W => Blk W gx 162 ((Ad.withMask (otsAd leaf c q) 1).cells)), (7, fun W => Blk W w.heap.size 39 ((bcells X).toArray)), (8, fun W => Blk W (w.heap.size + 1) 39 ((bcells sd).toArray)), (8, fun W => Blk W (w.heap.size + 2) 39 (zn))] (by kernel_rfl) (by kernel_rfl) hsz (Flow.nz_cons (by rintro b rfl; exact Nat.le_refl _) Flow.nz_nil) (Flow.facts_cons (hk7) (Flow.kept_blk id) (Flow.fz_cons (Flow.no_follow (by kernel_rfl)) Flow.fz_nil) (Flow.facts_cons (hA7) (Flow.kept_blk id) (Flow.fz_cons (Flow.no_follow (by kernel_rfl)) Flow.fz_nil) (Flow.facts_cons (hD7) (Flow.kept_blk id) (Flow.fz_cons (Flow.no_follow (by kernel_rfl)) Flow.fz_nil) (Flow.facts_cons (hx7) (Flow.kept_blk id) (Flow.fz_cons (Flow.no_follow (by kernel_rfl)) Flow.fz_nil) (Flow.facts_cons (hA7) (Flow.kept_blk id) (Flow.fz_cons (Flow.no_follow (by kernel_rfl)) Flow.fz_nil) (Flow.facts_cons (hD7) (Flow.kept_blk id) (Flow.fz_cons (fun _ => Flow.kept_blk (by first | assumption | (show ¬ _ = _; first | assumption | omega | (simp; omega)) | (show ¬ (_ ≤ _); omega))) Flow.fz_nil) (Flow.facts_cons (hN7) (Flow.kept_blk id) (Flow.fz_cons (fun _ => Flow.kept_blk (by first | assumption | (show ¬ _ = _; first | assumption | omega | (simp; omega)) | (show ¬ (_ ≤ _); omega))) Flow.fz_nil) Flow.facts_nil))))))) ?_
      refine Flow.pass_val (.agg (bcells K0).toArray) (Flow.met_none rfl) (fun a W hH => ?_) ?_
      · have e0 := Flow.see_old 15 hH.sees (by kernel_rfl) (by kernel_rfl) rfl
        have fa0 : (fun W => Blk W gk 39 ((bcells K0).toArray)) W := hH.fact _ (List.mem_of_getElem? (i := 0) rfl) rfl
        exact reg_load 39 _ rfl e0 fa0 Tryz.underlying39 rfl (by rw [List.size_toArray, bcells_length, HK0l.out]; exact infNode)
      refine Flow.pass_val (.agg (bcells X).toArray) (Flow.met_none rfl) (fun a W hH => ?_) ?_
      · have e0 := Flow.see_old 6 hH.sees (by kernel_rfl) (by kernel_rfl) rfl
        have fa1 : (fun W => Blk W w.heap.size 39 ((bcells X).toArray)) W := hH.fact _ (List.mem_of_getElem? (i := 1) rfl) rfl
        exact reg_load 39 _ rfl e0 fa1 Tryz.underlying39 rfl (by rw [List.size_toArray, bcells_length, HXl.out]; exact infNode)
      refine Flow.pass_val (.agg (bcells sd).toArray) (Flow.met_none rfl) (fun a W hH => ?_) ?_
      · have e0 := Flow.see_old 9 hH.sees (by kernel_rfl) (by kernel_rfl) rfl
        have fa2 : (fun W => Blk W (w.heap.size + 1) 39 ((bcells sd).toArray)) W := hH.fact _ (List.mem_of_getElem? (i := 2) rfl) rfl
        exact reg_load 39 _ rfl e0 fa2 Tryz.underlying39 rfl (by rw [List.size_toArray, bcells_length, sL.out]; exact infNode)
      refine Flow.pass_val (.agg (Ad.withMask (otsAd leaf c q) 1).cells) (Flow.met_none rfl) (fun a W hH => ?_) ?_
      · have e0 := Flow.see_old 14 hH.sees (by kernel_rfl) (by kernel_rfl) rfl
        have fa3 : (fun W => Blk W gx 162 ((Ad.withMask (otsAd leaf c q) 1).cells)) W := hH.fact _ (List.mem_of_getElem? (i := 3) rfl) rfl
        exact reg_load 162 _ rfl e0 fa3 Tryz.underlying162 rfl (by exact infAdrs)
      refine Flow.pass_step (Reg.eqs (.agg (bcells K1).toArray)) (fun _ _ => Flow.kept_eqs _ _) (Flow.met_none rfl) (fun a W hH => ?_) ?_
      · have e0 := Flow.see_new 61 2 hH.sees (by kernel_rfl) (by kernel_rfl) rfl rfl
        have e1 := Flow.see_new 62 3 hH.sees (by kernel_rfl) (by kernel_rfl) rfl rfl
        refine Reg.wp_call rfl Tryz.func128 rfl (by kernel_rfl) (by simp [Act.eval, e0, e1]) (rprf_any sd sL.out (Ad.withMask (otsAd leaf c q) 1) W hok1) ?_
        rintro e w' ⟨rfl, hB⟩
        rw [← HK1.out]
        exact ⟨_, rfl, _, rfl, hB, rfl⟩
      refine Flow.pass_step (Reg.eqs (.agg (bcells X1).toArray)) (fun _ _ => Flow.kept_eqs _ _) (Flow.met_none rfl) (fun a W hH => ?_) ?_
      · have e0 := Flow.see_new 60 1 hH.sees (by kernel_rfl) (by kernel_rfl) rfl rfl
        have e1 := Flow.see_new 63 4 hH.sees (by kernel_rfl) (by kernel_rfl) rfl rfl
        refine Reg.wp_call rfl Tryz.func130 rfl (by kernel_rfl) (by simp [Act.eval, e0, e1]) (rxor_any X K1 HXl.out HK1l.out W) ?_
        rintro e w' ⟨rfl, hB⟩
        rw [← HX1.out]
        exact ⟨_, rfl, _, rfl, hB, rfl⟩
      refine Flow.pass_step (Reg.eqs (.agg (bcells S).toArray)) (fun _ _ => Flow.kept_eqs _ _) (Flow.met_none rfl) (fun a W hH => ?_) ?_
      · have e0 := Flow.see_new 59 0 hH.sees (by kernel_rfl) (by kernel_rfl) rfl rfl
        have e1 := Flow.see_new 64 5 hH.sees (by kernel_rfl) (by kernel_rfl) rfl rfl
        refine Reg.wp_call rfl Tryz.func131 rfl (by kernel_rfl) (by simp [Act.eval, e0, e1]) (rf_any K0 X1 HK0l.out HX1l.out W) ?_
        rintro e w' ⟨rfl, hB⟩
        rw [← HS.out]
        exact ⟨_, rfl, _, rfl, hB, rfl⟩
      refine Flow.pass_list (fun _ W => Blk W w.heap.size 39 (bcells S).toArray) (Flow.kept_of (fun _ _ _ c h => h.chg c id) (Flow.kz_cons (Flow.no_follow (by kernel_rfl)) Flow.kz_nil)) (Flow.met_none rfl) (fun a W hH => ?_) ?_
      · have e0 := Flow.see_old 6 hH.sees (by kernel_rfl) (by kernel_rfl) rfl
        have e1 := Flow.see_new 65 6 hH.sees (by kernel_rfl) (by kernel_rfl) rfl rfl
        have fa4 : (fun W => Blk W w.heap.size 39 ((bcells X).toArray)) W := hH.fact _ (List.mem_of_getElem? (i := 4) rfl) rfl
        refine wpList_storeAll W rfl 39 _ _ rfl w.heap.size 39 _ (bcells S).toArray fa4 (by simpa [Act.eval] using e0) (by simpa [Act.eval] using e1) (by rw [List.size_toArray, List.size_toArray, bcells_length, bcells_length, HSl.out, HXl.out]) (by rw [List.size_toArray, bcells_length, HSl.out]; kernel_rfl) (fun v hv => bcells_one _ v (by simpa using hv)) ?_
        intro W2 h2 hg _
        exact Flow.qq_nil ⟨_, rfl, Chg.grown hg (by rintro k h; cases h; rfl), h2⟩
      refine Flow.pass_end [none, none, none, none, none, none, none, none, none, none, none, none, none, none, none, none, none, none, none, none, none, none, none, none, none, none, none, none, none, none, none, none, none, none, none, none, none, none, none, none, none, none, none, none, none, none, none, none, none, none, none, none, none, none, none, none, none, none, none, some 59, some 60, some 61, some 62, some 63, some 64, some 65, none] (by kernel_rfl) ?_
      intro f gg w9 hB hfa hT hfg
      have F5 : (fun W => Blk W (w.heap.size + 1) 39 ((bcells sd).toArray)) w9 := hfa _ (List.mem_of_getElem? (i := 5) rfl) (Nat.le_refl _)
      have F6 : (fun W => Blk W (w.heap.size + 2) 39 (zn)) w9 := hfa _ (List.mem_of_getElem? (i := 6) rfl) (Nat.le_refl _)
      have h4 := hT 7 _ (by kernel_rfl) rfl
      have hBw := hB7.drew.trans hB
      clear hfa hT hfg hB hB7 hx7 hA7 hD7 hN7 hk7
      simp only [Reg.sel]
      have hwi : IntKind.i64.wrap ((q : Int) + 1) = (q : Int) + 1 := by rw [IntKind.wrap_i64]; omega
      have hq := Hq.out
      go_wp2_with fail
      go_roundw
      case rel => exact ⟨j + 1, by omega, by first | go_num | (simp only [Value.int.injEq, true_and]; omega), by rw [HC.out]; exact h4, F5, F6, hBw⟩
      case measure => simp [intOf]; omega
    · obtain rfl : j = k := by omega
      have hend : ¬ (((f + j : Nat) : Int) < (f : Int) + (j : Int)) := by omega
      go_wp2_with (first
        | ((with_reducible refine at_load 39 ?_); refine wpList_loadAll _ rfl 39 _ rfl w.heap.size 39 (bcells X).toArray hA _ rfl Tryz.underlying39 rfl (by rw [List.size_toArray, bcells_length, HXl.out]; kernel_rfl) ?_)
        | ((with_reducible refine at_store 39 ?_); refine wpList_storeAll _ rfl 39 _ _ rfl (w.heap.size + 2) 39 _ (bcells X).toArray hN rfl rfl (by rw [List.size_toArray, bcells_length, HXl.out]; kernel_rfl) (by rw [List.size_toArray, bcells_length, HXl.out]; kernel_rfl) (fun v hv => bcells_one _ v (by simpa using hv)) ?_; intro w5 h5 hg5 hs5))
      refine bodyPost_ret (results_cell_row rfl _ _ (w.heap.size + 2) _ _ _ _ rfl h5 Tryz.underlying39 rfl (by rw [List.size_toArray, bcells_length, HXl.out]; kernel_rfl)) rfl ⟨by rw [HX.out], ?_⟩
      exact grown_below hB hg5 hB.size (by omega)

end Go.Proofs.YtipdmhppadapkaaGreatDoor
