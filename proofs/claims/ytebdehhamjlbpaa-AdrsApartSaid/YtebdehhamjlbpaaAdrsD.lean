/-
  Walks: the statement AdrsApart; adrs.Of and the statement AdrsBack.
-/
import Derived.Test.YtebdehhamjlbpaaAdrsC
import Derived.Test.YtebdehhamjlbpaaStore2
namespace Go.Proofs.Ytebdehhamjlbpaa
open Go.RowKit

set_option maxHeartbeats 1000000 in
theorem adrsApart_walk (w : World) (a0 : Int) (w0 : (Lit.int .u32 a0).wf = true) (a1 : Int) (w1 : (Lit.int .u32 a1).wf = true) (a2 : Int) (w2 : (Lit.int .u32 a2).wf = true) (a3 : Int) (w3 : (Lit.int .u32 a3).wf = true) (a4 : Int) (w4 : (Lit.int .u32 a4).wf = true) (a5 : Int) (w5 : (Lit.int .u32 a5).wf = true) :
    Calls Try.prog 4 #[.int .u32 a0, .int .u32 a1, .int .u32 a2, .int .u32 a3, .int .u32 a4, .int .u32 a5] w fun e w' => e = .returned (.bool true) ∧ Below w.heap.size w w' := by
  obtain ⟨a, _, rfl⟩ := wf_u32 w0
  obtain ⟨b, _, rfl⟩ := wf_u32 w1
  obtain ⟨c, _, rfl⟩ := wf_u32 w2
  obtain ⟨d, _, rfl⟩ := wf_u32 w3
  obtain ⟨e, _, rfl⟩ := wf_u32 w4
  obtain ⟨f, _, rfl⟩ := wf_u32 w5
  clear w0 w1 w2 w3 w4 w5
  have L := fun k a b c => adBytes_length 0 0 k a b c 0
  have g1 := fun W => nodeNe (adBytes 0 0 0 a b c 0) (adBytes 0 0 1 d e f 0) (L _ _ _ _) (L _ _ _ _) W
  have g2 := fun W => nodeNe (adBytes 0 0 1 d e f 0) (adBytes 0 0 2 0 b f 0) (L _ _ _ _) (L _ _ _ _) W
  have g3 := fun W => nodeNe (adBytes 0 0 0 a b c 0) (adBytes 0 0 2 0 b f 0) (L _ _ _ _) (L _ _ _ _) W
  rw [kinds_apart _ _ _ _ _ _ _ _ _ _ _ _ _ _ (by decide)] at g1 g2 g3
  have HX : Hid ((bcells (adBytes 0 0 0 a b c 0)).length = 32) := Lib.hid (by rw [bcells_length]; exact L _ _ _ _)
  have HY : Hid ((bcells (adBytes 0 0 1 d e f 0)).length = 32) := Lib.hid (by rw [bcells_length]; exact L _ _ _ _)
  have HZ : Hid ((bcells (adBytes 0 0 2 0 b f 0)).length = 32) := Lib.hid (by rw [bcells_length]; exact L _ _ _ _)
  have hng := nodeGuard
  clear L
  generalize hX : adBytes 0 0 0 a b c 0 = X at *
  generalize hY : adBytes 0 0 1 d e f 0 = Y at *
  generalize hZ : adBytes 0 0 2 0 b f 0 = Z at *
  have KX := Lib.hid hX; have KY := Lib.hid hY; have KZ := Lib.hid hZ
  clear hX hY hZ
  go_enter Try.func4, Try.ntmps4
  go_wp2_with fail
  refine (awake04 _).mono ?_
  rintro e' w1 ⟨rfl, B1⟩
  go_wp2_with fail
  refine (ots_any a b c w1).mono ?_
  rintro e' w2 ⟨rfl, hB⟩
  have B2 := B1.trans (hB.mono B1.size)
  clear B1 hB
  go_wp2_with fail
  refine (abytes_any 0 0 0 a b c 0 w2).mono ?_
  rintro e' w3 ⟨rfl, hB⟩
  rw [KX.out]
  have B3 := B2.trans (hB.mono B2.size)
  clear B2 hB
  go_wp2_with fail
  refine (ltree_any d e f w3).mono ?_
  rintro e' w4 ⟨rfl, hB⟩
  have B4 := B3.trans (hB.mono B3.size)
  clear B3 hB
  go_wp2_with fail
  refine (abytes_any 0 0 1 d e f 0 w4).mono ?_
  rintro e' w5 ⟨rfl, hB⟩
  rw [KY.out]
  have B5 := B4.trans (hB.mono B4.size)
  clear B4 hB
  go_wp2_with fail
  refine (tree_any b f w5).mono ?_
  rintro e' w6 ⟨rfl, hB⟩
  have B6 := B5.trans (hB.mono B5.size)
  clear B5 hB
  go_wp2_with fail
  refine (abytes_any 0 0 2 0 b f 0 w6).mono ?_
  rintro e' w7 ⟨rfl, hB⟩
  rw [KZ.out]
  have B7 := B6.trans (hB.mono B6.size)
  clear B6 hB
  have z0 := ((Blk.new w7 28 (Array.replicate 32 (.int .u8 0))).alloc (.cells (Array.replicate 32 (.int .u8 0)) 28)).alloc (.cells (Array.replicate 32 (.int .u8 0)) 28)
  have z1 := (Blk.new (w7.alloc (.cells (Array.replicate 32 (.int .u8 0)) 28)) 28 (Array.replicate 32 (.int .u8 0))).alloc (.cells (Array.replicate 32 (.int .u8 0)) 28)
  have z2 := Blk.new ((w7.alloc (.cells (Array.replicate 32 (.int .u8 0)) 28)).alloc (.cells (Array.replicate 32 (.int .u8 0)) 28)) 28 (Array.replicate 32 (.int .u8 0))
  rw [World.size_alloc] at z1 z2
  rw [World.size_alloc] at z2
  have B8 := ((B7.alloc B7.size (.cells (Array.replicate 32 (.int .u8 0)) 28)).alloc (by have := B7.size; simp; omega) (.cells (Array.replicate 32 (.int .u8 0)) 28)).alloc (by have := B7.size; simp; omega) (.cells (Array.replicate 32 (.int .u8 0)) 28)
  have hs7 := B7.size
  go_wp2_with (first
    | (refine wpList_storeAll _ rfl 28 _ _ rfl w7.heap.size _ _ (bcells X).toArray z0 rfl rfl (by simpa using HX.out) (by rw [List.size_toArray, HX.out]; exact infNode) (by simpa using bcells_one _) ?_; intro w8 y0 hg0 hs0; have y1 := z1.grown hg0 (by intro e; injection e with e; omega); have y2 := z2.grown hg0 (by intro e; injection e with e; omega); have B9 := grown_below B8 hg0 B8.size hs7)
    | (refine wpList_storeAll _ rfl 28 _ _ rfl (w7.heap.size + 1) _ _ (bcells Y).toArray y1 rfl rfl (by simpa using HY.out) (by rw [List.size_toArray, HY.out]; exact infNode) (by simpa using bcells_one _) ?_; intro w9 x1 hg1 hs1; have x0 := y0.grown hg1 (by intro e; injection e with e; omega); have x2 := y2.grown hg1 (by intro e; injection e with e; omega); have B10 := grown_below B9 hg1 B9.size (by omega))
    | (refine wpList_storeAll _ rfl 28 _ _ rfl (w7.heap.size + 1 + 1) _ _ (bcells Z).toArray x2 rfl rfl (by simpa using HZ.out) (by rw [List.size_toArray, HZ.out]; exact infNode) (by simpa using bcells_one _) ?_; intro w10 v2 hg2 hs2; have v0 := x0.grown hg2 (by intro e; injection e with e; omega); have v1 := x1.grown hg2 (by intro e; injection e with e; omega); have B11 := grown_below B10 hg2 B10.size (by omega))
    | (refine wpList_loadAllW w10 (by rfl) 28 _ rfl w7.heap.size _ _ v0 _ rfl Try.underlying28 rfl (by rw [List.size_toArray, HX.out]; exact infNode) ?_)
    | (refine wpList_loadAllW w10 (by rfl) 28 _ rfl (w7.heap.size + 1) _ _ v1 _ rfl Try.underlying28 rfl (by rw [List.size_toArray, HY.out]; exact infNode) ?_)
    | (refine wpList_loadAllW w10 (by rfl) 28 _ rfl (w7.heap.size + 1 + 1) _ _ v2 _ rfl Try.underlying28 rfl (by rw [List.size_toArray, HZ.out]; exact infNode) ?_))
  go_ret
  exact ⟨rfl, B11⟩
end Go.Proofs.Ytebdehhamjlbpaa
