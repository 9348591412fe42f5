/-
  Walk: portreeveref04.Rand.
-/
import Derived.Test.YtapkhafgfbhkkaaDoorPrfH
namespace Go.Proofs.YtapkhafgfbhkkaaDoor
open Go.RowKit Sha

/-- the reference's blocks while it joins two nodes -/
structure RR (w : World) (l r sd : List UInt8) (x : Ad) (wr : World) : Prop where
  l : Blk wr w.heap.size 27 (bcells l).toArray
  r : Blk wr (w.heap.size + 1) 27 (bcells r).toArray
  sd : Blk wr (w.heap.size + 2) 27 (bcells sd).toArray
  x : Blk wr (w.heap.size + 3) 40 x.cells
  n : Blk wr (w.heap.size + 4) 27 zn
  B : Below w.heap.size w wr
namespace RR
variable {w wr : World} {l r sd : List UInt8} {x : Ad}
theorem lt (h : RR w l r sd x wr) : w.heap.size + 4 < wr.heap.size := h.n.lt
theorem ext (h : RR w l r sd x wr) {w' : World} (e : Ext wr w') : RR w l r sd x w' := ⟨h.l.ext e, h.r.ext e, h.sd.ext e, h.x.ext e, h.n.ext e, h.B.trans (e.below h.B.size)⟩
theorem chg (h : RR w l r sd x wr) {w' : World} {g : Nat} (c : Chg (fun b => b = g) wr w') (hg : w.heap.size + 4 < g) : RR w l r sd x w' :=
  ⟨h.l.chg c (show ¬ _ = g by omega), h.r.chg c (show ¬ _ = g by omega), h.sd.chg c (show ¬ _ = g by omega), h.x.chg c (show ¬ _ = g by omega), h.n.chg c (show ¬ _ = g by omega), h.B.trans (c.below (fun b hb => by have hb : b = g := hb; omega) h.B.size)⟩
theorem setMask (h : RR w l r sd x wr) (q : Nat) : RR w l r sd (x.withMask q) (wr.setCell ⟨w.heap.size + 3, 6, none⟩ (.int .u32 (q : Int))) :=
  ⟨h.l.far (show w.heap.size ≠ w.heap.size + 3 by omega) _, h.r.far (show w.heap.size + 1 ≠ w.heap.size + 3 by omega) _, h.sd.far (show w.heap.size + 2 ≠ w.heap.size + 3 by omega) _, h.x.set_ 6 _, h.n.far (show w.heap.size + 4 ≠ w.heap.size + 3 by omega) _,
    h.B.setCell (p := ⟨w.heap.size + 3, 6, none⟩) (show w.heap.size ≤ w.heap.size + 3 by omega) _⟩
end RR

set_option maxRecDepth 100000 in
set_option maxHeartbeats 4000000 in
theorem rrand_any (l r sd : List UInt8) (hl : l.length = 32) (hr : r.length = 32) (hsd : sd.length = 32) (x : Ad) (hx' : x.ok) (w : World) :
    Calls Tryd.prog 28 #[.agg (bcells l).toArray, .agg (bcells r).toArray, .agg (bcells sd).toArray, .agg x.cells] w fun e w' => e = .returned (.agg (bcells (randH l r sd x)).toArray) ∧ Below w.heap.size w w' := by
  have hz := zeroNode
  have lL := Lib.hid hl
  have rL := Lib.hid hr
  have sdL := Lib.hid hsd
  obtain ⟨K0, hK0⟩ : ∃ K, K = prfH sd (x.withMask 0) := ⟨_, rfl⟩
  obtain ⟨K1, hK1⟩ : ∃ K, K = prfH sd (x.withMask 1) := ⟨_, rfl⟩
  obtain ⟨K2, hK2⟩ : ∃ K, K = prfH sd (x.withMask 2) := ⟨_, rfl⟩
  obtain ⟨X1, hX1⟩ : ∃ X, X = xorL l K1 := ⟨_, rfl⟩
  obtain ⟨X2, hX2⟩ : ∃ X, X = xorL r K2 := ⟨_, rfl⟩
  obtain ⟨S, hS⟩ : ∃ S, S = hH2 K0 X1 X2 := ⟨_, rfl⟩
  have hSS : randH l r sd x = S := by rw [hS, hX1, hX2, hK0, hK1, hK2]; rfl
  rw [hSS]
  have HK0l : Hid (K0.length = 32) := Lib.hid (by rw [hK0]; exact keyed_length _ _)
  have HK1l : Hid (K1.length = 32) := Lib.hid (by rw [hK1]; exact keyed_length _ _)
  have HK2l : Hid (K2.length = 32) := Lib.hid (by rw [hK2]; exact keyed_length _ _)
  have HX1l : Hid (X1.length = 32) := Lib.hid (by rw [hX1]; exact xorL_length _ _ hl HK1l.out)
  have HX2l : Hid (X2.length = 32) := Lib.hid (by rw [hX2]; exact xorL_length _ _ hr HK2l.out)
  have HSl : Hid (S.length = 32) := Lib.hid (by rw [hS]; exact keyed_length _ _)
  have HK0 := Lib.hid hK0
  have HK1 := Lib.hid hK1
  have HK2 := Lib.hid hK2
  have HX1 := Lib.hid hX1
  have HX2 := Lib.hid hX2
  have HS := Lib.hid hS
  clear hl hr hsd hK0 hK1 hK2 hX1 hX2 hS hSS
  have hx := Lib.hid hx'
  clear hx'
  have hM0 : RR w l r sd (x.withMask 0) (((((w.alloc (.cells (bcells l).toArray 27)).alloc (.cells (bcells r).toArray 27)).alloc (.cells (bcells sd).toArray 27)).alloc (.cells (x.cells.setIfInBounds 6 (.int .u32 0)) 40)).alloc (.cells zn 27)) :=
    ⟨((((Blk.new w _ _).alloc _).alloc _).alloc _).alloc _, (((blk_new1 w _ _ _).alloc _).alloc _).alloc _, ((blk_new2 w _ _ _ _).alloc _).alloc _, (blk_new3 w _ _ _ _ _).alloc _, blk_new4 w _ _ _ _ _ _,
      (((((Below.refl _ _).alloc (Nat.le_refl _) _).alloc (by simp) _).alloc (by simp; omega) _).alloc (by simp; omega) _).alloc (by simp; omega) _⟩
  go_enter Tryd.func28, Tryd.ntmps28
  go_wp2_with (first
    | ((with_reducible refine at_load 27 ?_); refine wpList_loadAll _ rfl 27 _ rfl (w.heap.size + 2) 27 (bcells sd).toArray hM0.sd _ rfl Tryd.underlying27 rfl (by rw [List.size_toArray, bcells_length, sdL.out]; kernel_rfl) ?_)
    | ((with_reducible refine at_load 40 ?_); refine wpList_loadAll _ rfl 40 _ rfl (w.heap.size + 3) 40 (x.withMask 0).cells hM0.x _ rfl Tryd.underlying40 rfl (by exact infAdrs) ?_))
  generalize (((((w.alloc (.cells (bcells l).toArray 27)).alloc (.cells (bcells r).toArray 27)).alloc (.cells (bcells sd).toArray 27)).alloc (.cells (x.cells.setIfInBounds 6 (.int .u32 0)) 40)).alloc (.cells zn 27)) = V0 at *
  refine (rprf_any sd sdL.out (x.withMask 0) V0 (Ad.ok_mask hx.out 0 (by omega))).mono ?_
  rintro e U0 ⟨rfl, hB0⟩
  rw [← HK0.out]
  have hP0 := hM0.ext hB0
  go_wp2_with (first
    | ((with_reducible refine at_store 27 ?_); refine wpList_storeAll _ rfl 27 _ _ rfl U0.heap.size 27 _ (bcells K0).toArray (Blk.new U0 27 zn) rfl rfl (by rw [List.size_toArray, bcells_length, HK0l.out]; kernel_rfl) (by rw [List.size_toArray, bcells_length, HK0l.out]; kernel_rfl) (fun v hv => bcells_one _ v (by simpa using hv)) ?_; intro w0 hk0 hg0 hs0; have hC0 : Chg (fun b => b = U0.heap.size) U0 w0 := ((Chg.refl _ U0).alloc _).trans (Chg.grown hg0 (by rintro j h; cases h; rfl)); have hR0 := hP0.chg hC0 hP0.lt; have hgt0 := hP0.lt; have hf1 : World.frozen? w0 ⟨w.heap.size + 1 + 1 + 1, 6, none⟩ = false := hR0.x.frozen 6; have hc1 : World.cell? w0 ⟨w.heap.size + 1 + 1 + 1, 6, none⟩ = some (.int .u32 ((x.withMask 0).mask : Int)) := (hR0.x.cell 6).trans rfl; have hM1 : RR w l r sd (x.withMask 1) (World.setCell w0 ⟨w.heap.size + 1 + 1 + 1, 6, none⟩ (.int .u32 (1 : Int))) := hR0.setMask 1; have hk0 : Blk (World.setCell w0 ⟨w.heap.size + 1 + 1 + 1, 6, none⟩ (.int .u32 (1 : Int))) U0.heap.size 27 (bcells K0).toArray := hk0.far (p := ⟨w.heap.size + 1 + 1 + 1, 6, none⟩) (show U0.heap.size ≠ w.heap.size + 1 + 1 + 1 by omega) _)
    | ((with_reducible refine at_load 27 ?_); refine wpList_loadAll _ rfl 27 _ rfl (w.heap.size + 2) 27 (bcells sd).toArray hM1.sd _ rfl Tryd.underlying27 rfl (by rw [List.size_toArray, bcells_length, sdL.out]; kernel_rfl) ?_)
    | ((with_reducible refine at_load 40 ?_); refine wpList_loadAll _ rfl 40 _ rfl (w.heap.size + 3) 40 (x.withMask 1).cells hM1.x _ rfl Tryd.underlying40 rfl (by exact infAdrs) ?_))
  generalize World.setCell w0 ⟨w.heap.size + 1 + 1 + 1, 6, none⟩ (.int .u32 (1 : Int)) = V1 at *
  clear hP0 hC0 hg0 hs0 hR0 hf1 hc1 hB0 hM0
  generalize U0.heap.size = g0 at *
  refine (rprf_any sd sdL.out (x.withMask 1) V1 (Ad.ok_mask hx.out 1 (by omega))).mono ?_
  rintro e U1 ⟨rfl, hB1⟩
  rw [← HK1.out]
  have hP1 := hM1.ext hB1
  have hk0 := hk0.below hB1 hk0.lt
  go_wp2_with (first
    | ((with_reducible refine at_store 27 ?_); refine wpList_storeAll _ rfl 27 _ _ rfl U1.heap.size 27 _ (bcells K1).toArray (Blk.new U1 27 zn) rfl rfl (by rw [List.size_toArray, bcells_length, HK1l.out]; kernel_rfl) (by rw [List.size_toArray, bcells_length, HK1l.out]; kernel_rfl) (fun v hv => bcells_one _ v (by simpa using hv)) ?_; intro w1 hk1 hg1 hs1; have hC1 : Chg (fun b => b = U1.heap.size) U1 w1 := ((Chg.refl _ U1).alloc _).trans (Chg.grown hg1 (by rintro j h; cases h; rfl)); have hR1 := hP1.chg hC1 hP1.lt; have hgt1 := hP1.lt; have hk0 := hk0.chg hC1 (show ¬ g0 = U1.heap.size by have := hk0.lt; omega); have hf2 : World.frozen? w1 ⟨w.heap.size + 1 + 1 + 1, 6, none⟩ = false := hR1.x.frozen 6; have hc2 : World.cell? w1 ⟨w.heap.size + 1 + 1 + 1, 6, none⟩ = some (.int .u32 ((x.withMask 1).mask : Int)) := (hR1.x.cell 6).trans rfl; have hM2 : RR w l r sd (x.withMask 2) (World.setCell w1 ⟨w.heap.size + 1 + 1 + 1, 6, none⟩ (.int .u32 (2 : Int))) := hR1.setMask 2; have hk0 : Blk (World.setCell w1 ⟨w.heap.size + 1 + 1 + 1, 6, none⟩ (.int .u32 (2 : Int))) g0 27 (bcells K0).toArray := hk0.far (p := ⟨w.heap.size + 1 + 1 + 1, 6, none⟩) (show g0 ≠ w.heap.size + 1 + 1 + 1 by omega) _; have hk1 : Blk (World.setCell w1 ⟨w.heap.size + 1 + 1 + 1, 6, none⟩ (.int .u32 (2 : Int))) U1.heap.size 27 (bcells K1).toArray := hk1.far (p := ⟨w.heap.size + 1 + 1 + 1, 6, none⟩) (show U1.heap.size ≠ w.heap.size + 1 + 1 + 1 by omega) _)
    | ((with_reducible refine at_load 27 ?_); refine wpList_loadAll _ rfl 27 _ rfl (w.heap.size + 2) 27 (bcells sd).toArray hM2.sd _ rfl Tryd.underlying27 rfl (by rw [List.size_toArray, bcells_length, sdL.out]; kernel_rfl) ?_)
    | ((with_reducible refine at_load 40 ?_); refine wpList_loadAll _ rfl 40 _ rfl (w.heap.size + 3) 40 (x.withMask 2).cells hM2.x _ rfl Tryd.underlying40 rfl (by exact infAdrs) ?_))
  generalize World.setCell w1 ⟨w.heap.size + 1 + 1 + 1, 6, none⟩ (.int .u32 (2 : Int)) = V2 at *
  clear hP1 hC1 hg1 hs1 hR1 hf2 hc2 hB1 hM1
  generalize U1.heap.size = g1 at *
  refine (rprf_any sd sdL.out (x.withMask 2) V2 (Ad.ok_mask hx.out 2 (by omega))).mono ?_
  rintro e U2 ⟨rfl, hB2⟩
  rw [← HK2.out]
  have hP2 := hM2.ext hB2
  have hk0 := hk0.below hB2 hk0.lt
  have hk1 := hk1.below hB2 hk1.lt
  go_wp2_with ((with_reducible refine at_store 27 ?_); refine wpList_storeAll _ rfl 27 _ _ rfl U2.heap.size 27 _ (bcells K2).toArray (Blk.new U2 27 zn) rfl rfl (by rw [List.size_toArray, bcells_length, HK2l.out]; kernel_rfl) (by rw [List.size_toArray, bcells_length, HK2l.out]; kernel_rfl) (fun v hv => bcells_one _ v (by simpa using hv)) ?_; intro w2 hk2 hg2 hs2)
  have hC2 : Chg (fun b => b = U2.heap.size) U2 w2 := ((Chg.refl _ U2).alloc _).trans (Chg.grown hg2 (by rintro j h; cases h; rfl))
  have hR2 := hP2.chg hC2 hP2.lt
  have hk0 := hk0.chg hC2 (show ¬ g0 = U2.heap.size by have := hk0.lt; omega)
  have hk1 := hk1.chg hC2 (show ¬ g1 = U2.heap.size by have := hk1.lt; omega)
  have hgt2 := hP2.lt
  generalize U2.heap.size = g2 at *
  clear hM2 hB2 hP2 hC2 hg2 hs2
  have hQ := hR2
  have hb_l := hQ.l
  have hb_r := hQ.r
  have hsz : w.heap.size + 4 ≤ w2.drew.heap.size := Nat.le_of_lt hQ.lt
  have hB := hQ.B
  have n0 : ¬ g0 = w.heap.size + 4 := by omega
  have n1 : ¬ g1 = w.heap.size + 4 := by omega
  have n2 : ¬ g2 = w.heap.size + 4 := by omega
  clear hz
  simp only [Act.put]
  refine Flow.wp_region_flow (w.heap.size + 4) [(8, fun b => b = w.heap.size + 4)] [(8, fun W => Blk W (w.heap.size + 4) 27 (zn)), (0, fun W => Blk W g0 27 ((bcells K0).toArray)), (2, fun W => Blk W g1 27 ((bcells K1).toArray)), (5, fun W => Blk W g2 27 ((bcells K2).toArray))] (by kernel_rfl) (by kernel_rfl) hsz (Flow.nz_cons (by rintro b rfl; exact Nat.le_refl _) Flow.nz_nil) (Flow.facts_cons (hQ.n.drew) (Flow.kept_blk id) (Flow.fz_cons (Flow.no_follow (by kernel_rfl)) Flow.fz_nil) (Flow.facts_cons (hk0.drew) (Flow.kept_blk id) (Flow.fz_cons (Flow.no_follow (by kernel_rfl)) Flow.fz_nil) (Flow.facts_cons (hk1.drew) (Flow.kept_blk id) (Flow.fz_cons (Flow.no_follow (by kernel_rfl)) Flow.fz_nil) (Flow.facts_cons (hk2.drew) (Flow.kept_blk id) (Flow.fz_cons (Flow.no_follow (by kernel_rfl)) Flow.fz_nil) Flow.facts_nil)))) ?_
  refine Flow.pass_val (.agg (bcells K0).toArray) (Flow.met_none rfl) (fun a W hH => ?_) ?_
  · have e0 := Flow.see_old 9 hH.sees (by kernel_rfl) (by kernel_rfl) rfl
    have fa1 : (fun W => Blk W g0 27 ((bcells K0).toArray)) W := hH.fact _ (List.mem_of_getElem? (i := 1) rfl) rfl
    exact reg_load 27 _ rfl e0 fa1 Tryd.underlying27 rfl (by rw [List.size_toArray, bcells_length, HK0l.out]; exact infNode)
  refine Flow.pass_val (.agg (bcells l).toArray) (Flow.met_none rfl) (fun a W hH => ?_) ?_
  · have e0 := Flow.see_old 4 hH.sees (by kernel_rfl) (by kernel_rfl) rfl
    exact reg_load 27 _ rfl e0 (hb_l.drew.below hH.below (by omega)) Tryd.underlying27 rfl (by rw [List.size_toArray, bcells_length, lL.out]; exact infNode)
  refine Flow.pass_val (.agg (bcells K1).toArray) (Flow.met_none rfl) (fun a W hH => ?_) ?_
  · have e0 := Flow.see_old 10 hH.sees (by kernel_rfl) (by kernel_rfl) rfl
    have fa2 : (fun W => Blk W g1 27 ((bcells K1).toArray)) W := hH.fact _ (List.mem_of_getElem? (i := 2) rfl) rfl
    exact reg_load 27 _ rfl e0 fa2 Tryd.underlying27 rfl (by rw [List.size_toArray, bcells_length, HK1l.out]; exact infNode)
  refine Flow.pass_step (Reg.eqs (.agg (bcells X1).toArray)) (fun _ _ => Flow.kept_eqs _ _) (Flow.met_none rfl) (fun a W hH => ?_) ?_
  · have e0 := Flow.see_new 25 1 hH.sees (by kernel_rfl) (by kernel_rfl) rfl rfl
    have e1 := Flow.see_new 26 2 hH.sees (by kernel_rfl) (by kernel_rfl) rfl rfl
    refine Reg.wp_call rfl Tryd.func24 rfl (by kernel_rfl) (by simp [Act.eval, e0, e1]) (rxor_any l K1 lL.out HK1l.out W) ?_
    rintro e w' ⟨rfl, hB⟩
    rw [← HX1.out]
    exact ⟨_, rfl, _, rfl, hB, rfl⟩
  refine Flow.pass_val (.agg (bcells r).toArray) (Flow.met_none rfl) (fun a W hH => ?_) ?_
  · have e0 := Flow.see_old 5 hH.sees (by kernel_rfl) (by kernel_rfl) rfl
    exact reg_load 27 _ rfl e0 (hb_r.drew.below hH.below (by omega)) Tryd.underlying27 rfl (by rw [List.size_toArray, bcells_length, rL.out]; exact infNode)
  refine Flow.pass_val (.agg (bcells K2).toArray) (Flow.met_none rfl) (fun a W hH => ?_) ?_
  · have e0 := Flow.see_old 11 hH.sees (by kernel_rfl) (by kernel_rfl) rfl
    have fa3 : (fun W => Blk W g2 27 ((bcells K2).toArray)) W := hH.fact _ (List.mem_of_getElem? (i := 3) rfl) rfl
    exact reg_load 27 _ rfl e0 fa3 Tryd.underlying27 rfl (by rw [List.size_toArray, bcells_length, HK2l.out]; exact infNode)
  refine Flow.pass_step (Reg.eqs (.agg (bcells X2).toArray)) (fun _ _ => Flow.kept_eqs _ _) (Flow.met_none rfl) (fun a W hH => ?_) ?_
  · have e0 := Flow.see_new 28 4 hH.sees (by kernel_rfl) (by kernel_rfl) rfl rfl
    have e1 := Flow.see_new 29 5 hH.sees (by kernel_rfl) (by kernel_rfl) rfl rfl
    refine Reg.wp_call rfl Tryd.func24 rfl (by kernel_rfl) (by simp [Act.eval, e0, e1]) (rxor_any r K2 rL.out HK2l.out W) ?_
    rintro e w' ⟨rfl, hB⟩
    rw [← HX2.out]
    exact ⟨_, rfl, _, rfl, hB, rfl⟩
  refine Flow.pass_step (Reg.eqs (.agg (bcells S).toArray)) (fun _ _ => Flow.kept_eqs _ _) (Flow.met_none rfl) (fun a W hH => ?_) ?_
  · have e0 := Flow.see_new 24 0 hH.sees (by kernel_rfl) (by kernel_rfl) rfl rfl
    have e1 := Flow.see_new 27 3 hH.sees (by kernel_rfl) (by kernel_rfl) rfl rfl
    have e2 := Flow.see_new 30 6 hH.sees (by kernel_rfl) (by kernel_rfl) rfl rfl
    refine Reg.wp_call rfl Tryd.func20 rfl (by kernel_rfl) (by simp [Act.eval, e0, e1, e2]) (rh_any K0 X1 X2 HK0l.out HX1l.out HX2l.out W) ?_
    rintro e w' ⟨rfl, hB⟩
    rw [← HS.out]
    exact ⟨_, rfl, _, rfl, hB, rfl⟩
  refine Flow.pass_list (fun _ W => Blk W (w.heap.size + 4) 27 (bcells S).toArray) (Flow.kept_of (fun _ _ _ c h => h.chg c id) (Flow.kz_cons (Flow.no_follow (by kernel_rfl)) Flow.kz_nil)) (Flow.met_none rfl) (fun a W hH => ?_) ?_
  · have e0 := Flow.see_old 8 hH.sees (by kernel_rfl) (by kernel_rfl) rfl
    have e1 := Flow.see_new 31 7 hH.sees (by kernel_rfl) (by kernel_rfl) rfl rfl
    have fa0 : (fun W => Blk W (w.heap.size + 4) 27 (zn)) W := hH.fact _ (List.mem_of_getElem? (i := 0) rfl) rfl
    refine wpList_storeAll W rfl 27 _ _ rfl (w.heap.size + 4) 27 _ (bcells S).toArray fa0 (by simpa [Act.eval] using e0) (by simpa [Act.eval] using e1) (by rw [List.size_toArray, bcells_length, HSl.out]; kernel_rfl) (by rw [List.size_toArray, bcells_length, HSl.out]; kernel_rfl) (fun v hv => bcells_one _ v (by simpa using hv)) ?_
    intro W2 h2 hg _
    exact Flow.qq_nil ⟨_, rfl, Chg.grown hg (by rintro k h; cases h; rfl), h2⟩
  refine Flow.pass_end [none, none, none, none, none, none, none, none, none, none, none, none, none, none, none, none, none, none, none, none, none, none, none, none, some 24, some 25, some 26, some 27, some 28, some 29, some 30, some 31] (by kernel_rfl) ?_
  intro f gg w9 hB9 hfa hT2 hfg
  have h4 := hT2 8 _ (by kernel_rfl) rfl
  have hBw9 := hB.drew.trans (hB9.mono (by omega))
  clear hfa hT2 hfg hB hB9
  simp only [Reg.sel]
  go_wp2
  refine bodyPost_ret (results_cell_row rfl _ _ (w.heap.size + 4) _ _ _ _ rfl h4 Tryd.underlying27 rfl (by rw [List.size_toArray, bcells_length, HSl.out]; kernel_rfl)) rfl ⟨rfl, hBw9⟩
end Go.Proofs.YtapkhafgfbhkkaaDoor
