/-
  Walks: prf.Rand and what it makes.
-/
import Derived.Test.YtapkhafgfbhkkaaDoorPrfG
namespace Go.Proofs.YtapkhafgfbhkkaaDoor
open Go.RowKit Sha

def Ad.withMask (x : Ad) (q : Nat) : Ad := ⟨x.layer, x.tree, x.kind, x.a, x.b, x.c, q⟩
theorem Ad.ok_mask {x : Ad} (h : x.ok) (q : Nat) (hq : q < 4294967296) : (x.withMask q).ok := ⟨h.layer, h.tree, h.kind, h.a, h.b, h.c, hq⟩
theorem maskedX (x : Ad) (q : Nat) (w : World) : Calls Tryd.prog 48 #[.agg x.cells, .int .u32 (q : Int)] w fun e w' => e = .returned (.agg (x.withMask q).cells) ∧ Below w.heap.size w w' := masked_any _ _ _ _ _ _ _ w q
/-- two nodes joined -/
def randH (l r seed : List UInt8) (x : Ad) : List UInt8 := hH2 (prfH seed (x.withMask 0)) (xorL l (prfH seed (x.withMask 1))) (xorL r (prfH seed (x.withMask 2)))
theorem randH_length (l r seed : List UInt8) (x : Ad) : (randH l r seed x).length = 32 := keyed_length _ _

set_option maxHeartbeats 1000000 in
theorem rand1_any (g6 g7 : Nat) (seed : List UInt8) (hs : seed.length = 32) (x : Ad) (q : Nat) (w : World) (h6 : Blk w g6 27 (bcells seed).toArray) (h7 : Blk w g7 40 x.cells) (hT : Tabs w) :
    Calls Tryd.prog 47 #[.int .u32 (q : Int), .pointer (some ⟨g6, 0, none⟩), .pointer (some ⟨g7, 0, none⟩)] w fun e w' => e = .returned (.agg (bcells (prfH seed (x.withMask q))).toArray) ∧ Below w.heap.size w w' := by
  have hz := zeroNode
  obtain ⟨S, hS⟩ : ∃ S, S = prfH seed (x.withMask q) := ⟨_, rfl⟩
  rw [← hS]
  have HSl : Hid (S.length = 32) := Lib.hid (by rw [hS]; exact keyed_length _ _)
  have HS := Lib.hid hS
  have sL := Lib.hid hs
  have hN := Blk.new w 27 zn
  have hB0 : Below w.heap.size w (w.alloc (.cells zn 27)) := (Below.refl _ _).alloc (Nat.le_refl _) _
  have h6' := h6.alloc (.cells zn 27)
  have h7' := h7.alloc (.cells zn 27)
  have hT' := hT.alloc (.cells zn 27)
  clear hS hs
  go_enter Tryd.func47, Tryd.ntmps47
  go_wp2_with fail
  generalize w.alloc (.cells zn 27) = W0 at *
  have h6d := h6'.drew
  have h7d := h7'.drew
  have hTd := hT'.drew
  have hsz : w.heap.size ≤ W0.drew.heap.size := hB0.size
  clear hz h6' h7' hT'
  refine Flow.wp_region_flow (w.heap.size) [(5, fun b => b = w.heap.size)] [(5, fun W => Blk W w.heap.size 27 (zn))] (by kernel_rfl) (by kernel_rfl) hsz (Flow.nz_cons (by rintro b rfl; exact Nat.le_refl _) Flow.nz_nil) (Flow.facts_cons (hN.drew) (Flow.kept_blk id) (Flow.fz_cons (Flow.no_follow (by kernel_rfl)) Flow.fz_nil) Flow.facts_nil) ?_
  refine Flow.pass_val (.agg (bcells seed).toArray) (Flow.met_none rfl) (fun a W hH => ?_) ?_
  · have e0 := Flow.see_old 1 hH.sees (by kernel_rfl) (by kernel_rfl) rfl
    exact reg_load 27 _ rfl e0 (h6d.below hH.below h6.lt) Tryd.underlying27 rfl (by rw [List.size_toArray, bcells_length, sL.out]; exact infNode)
  refine Flow.pass_val (.agg x.cells) (Flow.met_none rfl) (fun a W hH => ?_) ?_
  · have e0 := Flow.see_old 2 hH.sees (by kernel_rfl) (by kernel_rfl) rfl
    exact reg_load 40 _ rfl e0 (h7d.below hH.below h7.lt) Tryd.underlying40 rfl (by exact infAdrs)
  refine Flow.pass_old 0 (Flow.met_none rfl) (.inl rfl) (by kernel_rfl) (by kernel_rfl) rfl ?_
  refine Flow.pass_step (Reg.eqs (.agg (Ad.withMask x q).cells)) (fun _ _ => Flow.kept_eqs _ _) (Flow.met_none rfl) (fun a W hH => ?_) ?_
  · have e0 := Flow.see_new 6 1 hH.sees (by kernel_rfl) (by kernel_rfl) rfl rfl
    have e1 := Flow.see_new 7 2 hH.sees (by kernel_rfl) (by kernel_rfl) rfl rfl
    refine Reg.wp_call rfl Tryd.func48 rfl (by kernel_rfl) (by simp [Act.eval, e0, e1]) (maskedX x q W) ?_
    rintro e w' ⟨rfl, hB⟩
    exact ⟨_, rfl, _, rfl, hB, rfl⟩
  refine Flow.pass_step (Reg.eqs (.agg (bcells S).toArray)) (fun _ _ => Flow.kept_eqs _ _) (Flow.met_none rfl) (fun a W hH => ?_) ?_
  · have e0 := Flow.see_new 5 0 hH.sees (by kernel_rfl) (by kernel_rfl) rfl rfl
    have e1 := Flow.see_new 8 3 hH.sees (by kernel_rfl) (by kernel_rfl) rfl rfl
    refine Reg.wp_call rfl Tryd.func25 rfl (by kernel_rfl) (by simp [Act.eval, e0, e1]) (mprf_any seed sL.out (Ad.withMask x q) W (hTd.under hH.below hT.lt hT.first.lt)) ?_
    rintro e w' ⟨rfl, hB⟩
    rw [← HS.out]
    exact ⟨_, rfl, _, rfl, hB, rfl⟩
  refine Flow.pass_list (fun _ W => Blk W (w.heap.size) 27 (bcells S).toArray) (Flow.kept_of (fun _ _ _ c h => h.chg c id) (Flow.kz_cons (Flow.no_follow (by kernel_rfl)) Flow.kz_nil)) (Flow.met_none rfl) (fun a W hH => ?_) ?_
  · have e0 := Flow.see_old 4 hH.sees (by kernel_rfl) (by kernel_rfl) rfl
    have e1 := Flow.see_new 9 4 hH.sees (by kernel_rfl) (by kernel_rfl) rfl rfl
    have fa0 : (fun W => Blk W w.heap.size 27 (zn)) W := hH.fact _ (List.mem_of_getElem? (i := 0) rfl) rfl
    refine wpList_storeAll W rfl 27 _ _ rfl (w.heap.size) 27 _ (bcells S).toArray fa0 (by simpa [Act.eval] using e0) (by simpa [Act.eval] using e1) (by rw [List.size_toArray, bcells_length, HSl.out]; kernel_rfl) (by rw [List.size_toArray, bcells_length, HSl.out]; kernel_rfl) (fun v hv => bcells_one _ v (by simpa using hv)) ?_
    intro W2 h2 hg _
    exact Flow.qq_nil ⟨_, rfl, Chg.grown hg (by rintro k h; cases h; rfl), h2⟩
  refine Flow.pass_end [none, none, none, none, none, some 5, some 6, some 7, some 8, some 9] (by kernel_rfl) ?_
  intro f gg w9 hB9 hfa hT2 hfg
  have h4 := hT2 5 _ (by kernel_rfl) rfl
  have hBw9 := hB0.drew.trans hB9
  clear hfa hT2 hfg hB0 hB9 hN
  simp only [Reg.sel]
  go_wp2
  refine bodyPost_ret (results_cell_row rfl _ _ w.heap.size _ _ _ _ rfl h4 Tryd.underlying27 rfl (by rw [List.size_toArray, bcells_length, HSl.out]; kernel_rfl)) rfl ⟨rfl, hBw9⟩

set_option maxRecDepth 100000 in
set_option maxHeartbeats 2000000 in
theorem mrand_any (l r sd : List UInt8) (hl : l.length = 32) (hr : r.length = 32) (hsd : sd.length = 32) (x : Ad) (w : World) (hT : Tabs w) :
    Calls Tryd.prog 27 #[.agg (bcells l).toArray, .agg (bcells r).toArray, .agg (bcells sd).toArray, .agg x.cells] w fun e w' => e = .returned (.agg (bcells (randH l r sd x)).toArray) ∧ Below w.heap.size w w' := by
  have hz := zeroNode
  have lL := Lib.hid hl
  have rL := Lib.hid hr
  have sdL := Lib.hid hsd
  obtain ⟨K0, hK0⟩ : ∃ K, K = prfH sd (x.withMask 0) := ⟨_, rfl⟩
  obtain ⟨K1, hK1⟩ : ∃ K, K = prfH sd (x.withMask 1) := ⟨_, rfl⟩
  obtain ⟨K2, hK2⟩ : ∃ K, K = prfH sd (x.withMask 2) := ⟨_, rfl⟩
  obtain ⟨X1, hX1⟩ : ∃ X, X = xorL l K1 := ⟨_, rfl⟩
  obtain ⟨X2, hX2⟩ : ∃ X, X = xorL r K2 := ⟨_, rfl⟩
  obtain ⟨S, hS⟩ : ∃ S, S = hH2 K0 X1 X2 := ⟨_, rfl⟩
  have hSS : randH l r sd x = S := by rw [hS, hX1, hX2, hK0, hK1, hK2]; rfl
  rw [hSS]
  have HK0l : Hid (K0.length = 32) := Lib.hid (by rw [hK0]; exact keyed_length _ _)
  have HK1l : Hid (K1.length = 32) := Lib.hid (by rw [hK1]; exact keyed_length _ _)
  have HK2l : Hid (K2.length = 32) := Lib.hid (by rw [hK2]; exact keyed_length _ _)
  have HX1l : Hid (X1.length = 32) := Lib.hid (by rw [hX1]; exact xorL_length _ _ hl HK1l.out)
  have HX2l : Hid (X2.length = 32) := Lib.hid (by rw [hX2]; exact xorL_length _ _ hr HK2l.out)
  have HSl : Hid (S.length = 32) := Lib.hid (by rw [hS]; exact keyed_length _ _)
  have HK0 := Lib.hid hK0
  have HK1 := Lib.hid hK1
  have HK2 := Lib.hid hK2
  have HX1 := Lib.hid hX1
  have HX2 := Lib.hid hX2
  have HS := Lib.hid hS
  clear hl hr hsd hK0 hK1 hK2 hX1 hX2 hS hSS
  obtain ⟨xc, hxc⟩ : ∃ xc, xc = x.cells := ⟨_, rfl⟩
  have HXC := Lib.hid hxc
  rw [← hxc]
  have hb_l := (((Blk.new w 27 (bcells l).toArray).alloc (.cells (bcells r).toArray 27)).alloc (.cells (bcells sd).toArray 27)).alloc (.cells xc 40) |>.alloc (.cells zn 27)
  have hb_r := (((blk_new1 w (.cells (bcells l).toArray 27) 27 (bcells r).toArray).alloc (.cells (bcells sd).toArray 27)).alloc (.cells xc 40)).alloc (.cells zn 27)
  have hb_sd := ((blk_new2 w (.cells (bcells l).toArray 27) (.cells (bcells r).toArray 27) 27 (bcells sd).toArray).alloc (.cells xc 40)).alloc (.cells zn 27)
  have hb_x := (blk_new3 w (.cells (bcells l).toArray 27) (.cells (bcells r).toArray 27) (.cells (bcells sd).toArray 27) 40 xc).alloc (.cells zn 27)
  have hN := blk_new4 w (.cells (bcells l).toArray 27) (.cells (bcells r).toArray 27) (.cells (bcells sd).toArray 27) (.cells xc 40) 27 zn
  have hB : Below w.heap.size w (((((w.alloc (.cells (bcells l).toArray 27)).alloc (.cells (bcells r).toArray 27)).alloc (.cells (bcells sd).toArray 27)).alloc (.cells xc 40)).alloc (.cells zn 27)) := (((((Below.refl _ _).alloc (Nat.le_refl _) _).alloc (by simp) _).alloc (by simp; omega) _).alloc (by simp; omega) _).alloc (by simp; omega) _
  have hTl := hT.lt
  have hTl0 := hT.first.lt
  have hT0' := ((((hT.alloc (.cells (bcells l).toArray 27)).alloc (.cells (bcells r).toArray 27)).alloc (.cells (bcells sd).toArray 27)).alloc (.cells xc 40)).alloc (.cells zn 27)
  clear hxc hT
  go_enter Tryd.func27, Tryd.ntmps27
  go_wp2_with fail
  generalize ((((w.alloc (.cells (bcells l).toArray 27)).alloc (.cells (bcells r).toArray 27)).alloc (.cells (bcells sd).toArray 27)).alloc (.cells xc 40)).alloc (.cells zn 27) = W0 at *
  rw [HXC.out] at hb_x
  have hsz : w.heap.size + 4 ≤ W0.drew.heap.size := Nat.le_of_lt hN.lt
  have hT0 := hT0'.drew
  clear hz hT0'
  refine Flow.wp_region_flow (w.heap.size + 4) [(11, fun b => b = w.heap.size + 4)] [(11, fun W => Blk W (w.heap.size + 4) 27 (zn))] (by kernel_rfl) (by kernel_rfl) hsz (Flow.nz_cons (by rintro b rfl; exact Nat.le_refl _) Flow.nz_nil) (Flow.facts_cons (hN.drew) (Flow.kept_blk id) (Flow.fz_cons (Flow.no_follow (by kernel_rfl)) Flow.fz_nil) Flow.facts_nil) ?_
  refine Flow.pass_old (X := .func (.func 47) #[] #[.pointer (some ⟨w.heap.size + 2, 0, none⟩), .pointer (some ⟨w.heap.size + 3, 0, none⟩)]) 9 (Flow.met_none rfl) (.inl rfl) (by kernel_rfl) (by kernel_rfl) rfl ?_
  refine Flow.pass_gen (Reg.eqs (.agg (bcells K0).toArray)) (fun _ _ => Flow.kept_eqs _ _) (Flow.met_none rfl) (fun a W hH => ?_) ?_
  · have e0 := Flow.see_new 11 0 hH.sees (by kernel_rfl) (by kernel_rfl) rfl rfl
    refine Flow.wp_callF rfl e0 Tryd.func47 rfl (by kernel_rfl) (by simp [Act.eval]) (rand1_any (w.heap.size + 2) (w.heap.size + 3) sd sdL.out x 0 W (hb_sd.drew.below hH.below (by omega)) (hb_x.drew.below hH.below (by omega)) (hT0.under hH.below (by omega) (by omega))) ?_
    rintro e w' ⟨rfl, hB⟩
    rw [← HK0.out]
    exact ⟨_, rfl, Chg.of_ext hB, rfl⟩
  refine Flow.pass_val (.agg (bcells l).toArray) (Flow.met_none rfl) (fun a W hH => ?_) ?_
  · have e0 := Flow.see_old 4 hH.sees (by kernel_rfl) (by kernel_rfl) rfl
    exact reg_load 27 _ rfl e0 (hb_l.drew.below hH.below (by omega)) Tryd.underlying27 rfl (by rw [List.size_toArray, bcells_length, lL.out]; exact infNode)
  refine Flow.pass_old (X := .func (.func 47) #[] #[.pointer (some ⟨w.heap.size + 2, 0, none⟩), .pointer (some ⟨w.heap.size + 3, 0, none⟩)]) 9 (Flow.met_none rfl) (.inl rfl) (by kernel_rfl) (by kernel_rfl) rfl ?_
  refine Flow.pass_gen (Reg.eqs (.agg (bcells K1).toArray)) (fun _ _ => Flow.kept_eqs _ _) (Flow.met_none rfl) (fun a W hH => ?_) ?_
  · have e0 := Flow.see_new 14 3 hH.sees (by kernel_rfl) (by kernel_rfl) rfl rfl
    refine Flow.wp_callF rfl e0 Tryd.func47 rfl (by kernel_rfl) (by simp [Act.eval]) (rand1_any (w.heap.size + 2) (w.heap.size + 3) sd sdL.out x 1 W (hb_sd.drew.below hH.below (by omega)) (hb_x.drew.below hH.below (by omega)) (hT0.under hH.below (by omega) (by omega))) ?_
    rintro e w' ⟨rfl, hB⟩
    rw [← HK1.out]
    exact ⟨_, rfl, Chg.of_ext hB, rfl⟩
  refine Flow.pass_step (Reg.eqs (.agg (bcells X1).toArray)) (fun _ _ => Flow.kept_eqs _ _) (Flow.met_none rfl) (fun a W hH => ?_) ?_
  · have e0 := Flow.see_new 13 2 hH.sees (by kernel_rfl) (by kernel_rfl) rfl rfl
    have e1 := Flow.see_new 15 4 hH.sees (by kernel_rfl) (by kernel_rfl) rfl rfl
    refine Reg.wp_call rfl Tryd.func23 rfl (by kernel_rfl) (by simp [Act.eval, e0, e1]) (mxor_any l K1 lL.out HK1l.out W) ?_
    rintro e w' ⟨rfl, hB⟩
    rw [← HX1.out]
    exact ⟨_, rfl, _, rfl, hB, rfl⟩
  refine Flow.pass_val (.agg (bcells r).toArray) (Flow.met_none rfl) (fun a W hH => ?_) ?_
  · have e0 := Flow.see_old 5 hH.sees (by kernel_rfl) (by kernel_rfl) rfl
    exact reg_load 27 _ rfl e0 (hb_r.drew.below hH.below (by omega)) Tryd.underlying27 rfl (by rw [List.size_toArray, bcells_length, rL.out]; exact infNode)
  refine Flow.pass_old (X := .func (.func 47) #[] #[.pointer (some ⟨w.heap.size + 2, 0, none⟩), .pointer (some ⟨w.heap.size + 3, 0, none⟩)]) 9 (Flow.met_none rfl) (.inl rfl) (by kernel_rfl) (by kernel_rfl) rfl ?_
  refine Flow.pass_gen (Reg.eqs (.agg (bcells K2).toArray)) (fun _ _ => Flow.kept_eqs _ _) (Flow.met_none rfl) (fun a W hH => ?_) ?_
  · have e0 := Flow.see_new 18 7 hH.sees (by kernel_rfl) (by kernel_rfl) rfl rfl
    refine Flow.wp_callF rfl e0 Tryd.func47 rfl (by kernel_rfl) (by simp [Act.eval]) (rand1_any (w.heap.size + 2) (w.heap.size + 3) sd sdL.out x 2 W (hb_sd.drew.below hH.below (by omega)) (hb_x.drew.below hH.below (by omega)) (hT0.under hH.below (by omega) (by omega))) ?_
    rintro e w' ⟨rfl, hB⟩
    rw [← HK2.out]
    exact ⟨_, rfl, Chg.of_ext hB, rfl⟩
  refine Flow.pass_step (Reg.eqs (.agg (bcells X2).toArray)) (fun _ _ => Flow.kept_eqs _ _) (Flow.met_none rfl) (fun a W hH => ?_) ?_
  · have e0 := Flow.see_new 17 6 hH.sees (by kernel_rfl) (by kernel_rfl) rfl rfl
    have e1 := Flow.see_new 19 8 hH.sees (by kernel_rfl) (by kernel_rfl) rfl rfl
    refine Reg.wp_call rfl Tryd.func23 rfl (by kernel_rfl) (by simp [Act.eval, e0, e1]) (mxor_any r K2 rL.out HK2l.out W) ?_
    rintro e w' ⟨rfl, hB⟩
    rw [← HX2.out]
    exact ⟨_, rfl, _, rfl, hB, rfl⟩
  refine Flow.pass_step (Reg.eqs (.agg (bcells S).toArray)) (fun _ _ => Flow.kept_eqs _ _) (Flow.met_none rfl) (fun a W hH => ?_) ?_
  · have e0 := Flow.see_new 12 1 hH.sees (by kernel_rfl) (by kernel_rfl) rfl rfl
    have e1 := Flow.see_new 16 5 hH.sees (by kernel_rfl) (by kernel_rfl) rfl rfl
    have e2 := Flow.see_new 20 9 hH.sees (by kernel_rfl) (by kernel_rfl) rfl rfl
    refine Reg.wp_call rfl Tryd.func19 rfl (by kernel_rfl) (by simp [Act.eval, e0, e1, e2]) (mh_any K0 X1 X2 HK0l.out HX1l.out HX2l.out W (hT0.under hH.below (by omega) (by omega))) ?_
    rintro e w' ⟨rfl, hB⟩
    rw [← HS.out]
    exact ⟨_, rfl, _, rfl, hB, rfl⟩
  refine Flow.pass_list (fun _ W => Blk W (w.heap.size + 4) 27 (bcells S).toArray) (Flow.kept_of (fun _ _ _ c h => h.chg c id) (Flow.kz_cons (Flow.no_follow (by kernel_rfl)) Flow.kz_nil)) (Flow.met_none rfl) (fun a W hH => ?_) ?_
  · have e0 := Flow.see_old 8 hH.sees (by kernel_rfl) (by kernel_rfl) rfl
    have e1 := Flow.see_new 21 10 hH.sees (by kernel_rfl) (by kernel_rfl) rfl rfl
    have fa0 : (fun W => Blk W (w.heap.size + 4) 27 (zn)) W := hH.fact _ (List.mem_of_getElem? (i := 0) rfl) rfl
    refine wpList_storeAll W rfl 27 _ _ rfl (w.heap.size + 4) 27 _ (bcells S).toArray fa0 (by simpa [Act.eval] using e0) (by simpa [Act.eval] using e1) (by rw [List.size_toArray, bcells_length, HSl.out]; kernel_rfl) (by rw [List.size_toArray, bcells_length, HSl.out]; kernel_rfl) (fun v hv => bcells_one _ v (by simpa using hv)) ?_
    intro W2 h2 hg _
    exact Flow.qq_nil ⟨_, rfl, Chg.grown hg (by rintro k h; cases h; rfl), h2⟩
  refine Flow.pass_end [none, none, none, none, none, none, none, none, none, none, none, some 11, some 12, some 13, some 14, some 15, some 16, some 17, some 18, some 19, some 20, some 21] (by kernel_rfl) ?_
  intro f gg w9 hB9 hfa hT2 hfg
  have h4 := hT2 11 _ (by kernel_rfl) rfl
  have hBw9 := hB.drew.trans (hB9.mono (by omega))
  clear hfa hT2 hfg hB hB9 hN
  simp only [Reg.sel]
  go_wp2
  refine bodyPost_ret (results_cell_row rfl _ _ (w.heap.size + 4) _ _ _ _ rfl h4 Tryd.underlying27 rfl (by rw [List.size_toArray, bcells_length, HSl.out]; kernel_rfl)) rfl ⟨rfl, hBw9⟩
end Go.Proofs.YtapkhafgfbhkkaaDoor
