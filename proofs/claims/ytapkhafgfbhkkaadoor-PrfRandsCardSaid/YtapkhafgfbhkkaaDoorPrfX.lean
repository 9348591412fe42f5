/-
  Walk: portreevelaw05.PrfRands.
-/
import Derived.Test.YtapkhafgfbhkkaaDoorPrfI
import Derived.Test.YtapkhafgfbhkkaaDoorPrfE
namespace Go.Proofs.YtapkhafgfbhkkaaDoor
open Go.RowKit Sha

set_option maxRecDepth 100000 in
set_option maxHeartbeats 2000000 in
theorem prfRands_walk (w : World) (hT : Tabs w) (l : List UInt8) (hl : l.length = 32) (r : List UInt8) (hr : r.length = 32) (sd : List UInt8) (hsd : sd.length = 32) (x : Ad) (hx' : x.ok) :
    Calls Tryd.prog 7 #[.agg (bcells l).toArray, .agg (bcells r).toArray, .agg (bcells sd).toArray, .agg x.cells] w fun e w' => e = .returned (.bool true) ∧ Below w.heap.size w w' := by
  have lL := Lib.hid hl
  have rL := Lib.hid hr
  have sdL := Lib.hid hsd
  have hx := Lib.hid hx'
  obtain ⟨S, hS⟩ : ∃ S, S = prfH sd x := ⟨_, rfl⟩
  obtain ⟨U, hU⟩ : ∃ U, U = randH l r sd x := ⟨_, rfl⟩
  have HS := Lib.hid hS
  have HU := Lib.hid hU
  have HSl : Hid (S.length = 32) := Lib.hid (by rw [hS]; exact keyed_length _ _)
  have HUl : Hid (U.length = 32) := Lib.hid (by rw [hU]; exact keyed_length _ _)
  clear hl hr hsd hS hU hx'
  have hb_l := (((Blk.new w 27 (bcells l).toArray).alloc (.cells (bcells r).toArray 27)).alloc (.cells (bcells sd).toArray 27)).alloc (.cells x.cells 40)
  have hb_r := ((blk_new1 w (.cells (bcells l).toArray 27) 27 (bcells r).toArray).alloc (.cells (bcells sd).toArray 27)).alloc (.cells x.cells 40)
  have hb_sd := (blk_new2 w (.cells (bcells l).toArray 27) (.cells (bcells r).toArray 27) 27 (bcells sd).toArray).alloc (.cells x.cells 40)
  have hb_x := blk_new3 w (.cells (bcells l).toArray 27) (.cells (bcells r).toArray 27) (.cells (bcells sd).toArray 27) 40 x.cells
  have B0 : Below w.heap.size w ((((w.alloc (.cells (bcells l).toArray 27)).alloc (.cells (bcells r).toArray 27)).alloc (.cells (bcells sd).toArray 27)).alloc (.cells x.cells 40)) := ((((Below.refl _ _).alloc (Nat.le_refl _) _).alloc (by simp) _).alloc (by simp; omega) _).alloc (by simp; omega) _
  have hT0 := (((hT.alloc (.cells (bcells l).toArray 27)).alloc (.cells (bcells r).toArray 27)).alloc (.cells (bcells sd).toArray 27)).alloc (.cells x.cells 40)
  have hTl := hT.lt
  have hTl0 := hT.first.lt
  go_enter Tryd.func7, Tryd.ntmps7
  go_wp2_with fail
  generalize (((w.alloc (.cells (bcells l).toArray 27)).alloc (.cells (bcells r).toArray 27)).alloc (.cells (bcells sd).toArray 27)).alloc (.cells x.cells 40) = W0 at *
  refine (awake05 W0 hT0).mono ?_
  rintro e W1 ⟨rfl, hB1⟩
  have hb_l := hb_l.below hB1 hb_l.lt
  have hb_r := hb_r.below hB1 hb_r.lt
  have hb_sd := hb_sd.below hB1 hb_sd.lt
  have hb_x := hb_x.below hB1 hb_x.lt
  have hT1 := hT0.below hB1
  have B1 := B0.trans (hB1.mono B0.size)
  clear B0 hB1 hT hT0
  go_wp2_with fail
  have hsz : w.heap.size + 4 ≤ W1.drew.heap.size := hb_x.drew.lt
  refine Flow.wp_region_flow (w.heap.size + 4) [] [] (by kernel_rfl) (by kernel_rfl) hsz (fun _ h => by cases h) Flow.facts_nil ?_
  refine Flow.pass_val (.agg (bcells sd).toArray) (Flow.met_none rfl) (fun a W hH => ?_) ?_
  · have e0 := Flow.see_old 6 hH.sees (by kernel_rfl) (by kernel_rfl) rfl
    exact reg_load 27 _ rfl e0 (hb_sd.drew.below hH.below (by omega)) Tryd.underlying27 rfl (by rw [List.size_toArray, bcells_length, sdL.out]; exact infNode)
  refine Flow.pass_val (.agg x.cells) (Flow.met_none rfl) (fun a W hH => ?_) ?_
  · have e0 := Flow.see_old 7 hH.sees (by kernel_rfl) (by kernel_rfl) rfl
    exact reg_load 40 _ rfl e0 (hb_x.drew.below hH.below (by omega)) Tryd.underlying40 rfl (by exact infAdrs)
  refine Flow.pass_step (Reg.eqs (.agg (bcells S).toArray)) (fun _ _ => Flow.kept_eqs _ _) (Flow.met_none rfl) (fun a W hH => ?_) ?_
  · have e0 := Flow.see_new 11 0 hH.sees (by kernel_rfl) (by kernel_rfl) rfl rfl
    have e1 := Flow.see_new 12 1 hH.sees (by kernel_rfl) (by kernel_rfl) rfl rfl
    refine Reg.wp_call rfl Tryd.func25 rfl (by kernel_rfl) (by simp [Act.eval, e0, e1]) (mprf_any sd sdL.out x W (hT1.drew.under hH.below (by omega) (by omega))) ?_
    rintro e w' ⟨rfl, hB⟩
    rw [← HS.out]
    exact ⟨_, rfl, _, rfl, hB, rfl⟩
  refine Flow.pass_val (.agg (bcells sd).toArray) (Flow.met_none rfl) (fun a W hH => ?_) ?_
  · have e0 := Flow.see_old 6 hH.sees (by kernel_rfl) (by kernel_rfl) rfl
    exact reg_load 27 _ rfl e0 (hb_sd.drew.below hH.below (by omega)) Tryd.underlying27 rfl (by rw [List.size_toArray, bcells_length, sdL.out]; exact infNode)
  refine Flow.pass_val (.agg x.cells) (Flow.met_none rfl) (fun a W hH => ?_) ?_
  · have e0 := Flow.see_old 7 hH.sees (by kernel_rfl) (by kernel_rfl) rfl
    exact reg_load 40 _ rfl e0 (hb_x.drew.below hH.below (by omega)) Tryd.underlying40 rfl (by exact infAdrs)
  refine Flow.pass_step (Reg.eqs (.agg (bcells S).toArray)) (fun _ _ => Flow.kept_eqs _ _) (Flow.met_none rfl) (fun a W hH => ?_) ?_
  · have e0 := Flow.see_new 14 3 hH.sees (by kernel_rfl) (by kernel_rfl) rfl rfl
    have e1 := Flow.see_new 15 4 hH.sees (by kernel_rfl) (by kernel_rfl) rfl rfl
    refine Reg.wp_call rfl Tryd.func26 rfl (by kernel_rfl) (by simp [Act.eval, e0, e1]) (rprf_any sd sdL.out x W hx.out) ?_
    rintro e w' ⟨rfl, hB⟩
    rw [← HS.out]
    exact ⟨_, rfl, _, rfl, hB, rfl⟩
  refine Flow.pass_val ((.bool true)) (Flow.met_none rfl) (fun a W hH => ?_) ?_
  · have e0 := Flow.see_new 13 2 hH.sees (by kernel_rfl) (by kernel_rfl) rfl rfl
    have e1 := Flow.see_new 16 5 hH.sees (by kernel_rfl) (by kernel_rfl) rfl rfl
    exact reg_eqlT rfl (by simpa [Act.eval] using e0) (by simpa [Act.eval] using e1) nodeGuard (by have hne := nodeEq S S (HSl.out) (HSl.out) W; rw [beq_self_eq_true] at hne; exact hne)
  refine Flow.pass_copy 17 6 (Flow.met_none rfl) (.inl rfl) (by kernel_rfl) (by kernel_rfl) rfl rfl (fun _ _ => Flow.kept_eqs _ _) ?_
  refine Flow.pass_val (.agg (bcells l).toArray) (Flow.met_some 7 true 18 rfl rfl (by kernel_rfl) (by kernel_rfl) rfl rfl) (fun a W hH => ?_) ?_
  · have e0 := Flow.see_old 4 hH.sees (by kernel_rfl) (by kernel_rfl) rfl
    exact reg_load 27 _ rfl e0 (hb_l.drew.below hH.below (by omega)) Tryd.underlying27 rfl (by rw [List.size_toArray, bcells_length, lL.out]; exact infNode)
  refine Flow.pass_val (.agg (bcells r).toArray) (Flow.met_some 7 true 18 rfl rfl (by kernel_rfl) (by kernel_rfl) rfl rfl) (fun a W hH => ?_) ?_
  · have e0 := Flow.see_old 5 hH.sees (by kernel_rfl) (by kernel_rfl) rfl
    exact reg_load 27 _ rfl e0 (hb_r.drew.below hH.below (by omega)) Tryd.underlying27 rfl (by rw [List.size_toArray, bcells_length, rL.out]; exact infNode)
  refine Flow.pass_val (.agg (bcells sd).toArray) (Flow.met_some 7 true 18 rfl rfl (by kernel_rfl) (by kernel_rfl) rfl rfl) (fun a W hH => ?_) ?_
  · have e0 := Flow.see_old 6 hH.sees (by kernel_rfl) (by kernel_rfl) rfl
    exact reg_load 27 _ rfl e0 (hb_sd.drew.below hH.below (by omega)) Tryd.underlying27 rfl (by rw [List.size_toArray, bcells_length, sdL.out]; exact infNode)
  refine Flow.pass_val (.agg x.cells) (Flow.met_some 7 true 18 rfl rfl (by kernel_rfl) (by kernel_rfl) rfl rfl) (fun a W hH => ?_) ?_
  · have e0 := Flow.see_old 7 hH.sees (by kernel_rfl) (by kernel_rfl) rfl
    exact reg_load 40 _ rfl e0 (hb_x.drew.below hH.below (by omega)) Tryd.underlying40 rfl (by exact infAdrs)
  refine Flow.pass_step (Reg.eqs (.agg (bcells U).toArray)) (fun _ _ => Flow.kept_eqs _ _) (Flow.met_some 7 true 18 rfl rfl (by kernel_rfl) (by kernel_rfl) rfl rfl) (fun a W hH => ?_) ?_
  · have e0 := Flow.see_new 19 8 hH.sees (by kernel_rfl) (by kernel_rfl) rfl rfl
    have e1 := Flow.see_new 20 9 hH.sees (by kernel_rfl) (by kernel_rfl) rfl rfl
    have e2 := Flow.see_new 21 10 hH.sees (by kernel_rfl) (by kernel_rfl) rfl rfl
    have e3 := Flow.see_new 22 11 hH.sees (by kernel_rfl) (by kernel_rfl) rfl rfl
    refine Reg.wp_call rfl Tryd.func27 rfl (by kernel_rfl) (by simp [Act.eval, e0, e1, e2, e3]) (mrand_any l r sd lL.out rL.out sdL.out x W (hT1.drew.under hH.below (by omega) (by omega))) ?_
    rintro e w' ⟨rfl, hB⟩
    rw [← HU.out]
    exact ⟨_, rfl, _, rfl, hB, rfl⟩
  refine Flow.pass_val (.agg (bcells l).toArray) (Flow.met_some 7 true 18 rfl rfl (by kernel_rfl) (by kernel_rfl) rfl rfl) (fun a W hH => ?_) ?_
  · have e0 := Flow.see_old 4 hH.sees (by kernel_rfl) (by kernel_rfl) rfl
    exact reg_load 27 _ rfl e0 (hb_l.drew.below hH.below (by omega)) Tryd.underlying27 rfl (by rw [List.size_toArray, bcells_length, lL.out]; exact infNode)
  refine Flow.pass_val (.agg (bcells r).toArray) (Flow.met_some 7 true 18 rfl rfl (by kernel_rfl) (by kernel_rfl) rfl rfl) (fun a W hH => ?_) ?_
  · have e0 := Flow.see_old 5 hH.sees (by kernel_rfl) (by kernel_rfl) rfl
    exact reg_load 27 _ rfl e0 (hb_r.drew.below hH.below (by omega)) Tryd.underlying27 rfl (by rw [List.size_toArray, bcells_length, rL.out]; exact infNode)
  refine Flow.pass_val (.agg (bcells sd).toArray) (Flow.met_some 7 true 18 rfl rfl (by kernel_rfl) (by kernel_rfl) rfl rfl) (fun a W hH => ?_) ?_
  · have e0 := Flow.see_old 6 hH.sees (by kernel_rfl) (by kernel_rfl) rfl
    exact reg_load 27 _ rfl e0 (hb_sd.drew.below hH.below (by omega)) Tryd.underlying27 rfl (by rw [List.size_toArray, bcells_length, sdL.out]; exact infNode)
  refine Flow.pass_val (.agg x.cells) (Flow.met_some 7 true 18 rfl rfl (by kernel_rfl) (by kernel_rfl) rfl rfl) (fun a W hH => ?_) ?_
  · have e0 := Flow.see_old 7 hH.sees (by kernel_rfl) (by kernel_rfl) rfl
    exact reg_load 40 _ rfl e0 (hb_x.drew.below hH.below (by omega)) Tryd.underlying40 rfl (by exact infAdrs)
  refine Flow.pass_step (Reg.eqs (.agg (bcells U).toArray)) (fun _ _ => Flow.kept_eqs _ _) (Flow.met_some 7 true 18 rfl rfl (by kernel_rfl) (by kernel_rfl) rfl rfl) (fun a W hH => ?_) ?_
  · have e0 := Flow.see_new 24 13 hH.sees (by kernel_rfl) (by kernel_rfl) rfl rfl
    have e1 := Flow.see_new 25 14 hH.sees (by kernel_rfl) (by kernel_rfl) rfl rfl
    have e2 := Flow.see_new 26 15 hH.sees (by kernel_rfl) (by kernel_rfl) rfl rfl
    have e3 := Flow.see_new 27 16 hH.sees (by kernel_rfl) (by kernel_rfl) rfl rfl
    refine Reg.wp_call rfl Tryd.func28 rfl (by kernel_rfl) (by simp [Act.eval, e0, e1, e2, e3]) (rrand_any l r sd lL.out rL.out sdL.out x hx.out W) ?_
    rintro e w' ⟨rfl, hB⟩
    rw [← HU.out]
    exact ⟨_, rfl, _, rfl, hB, rfl⟩
  refine Flow.pass_val ((.bool true)) (Flow.met_some 7 true 18 rfl rfl (by kernel_rfl) (by kernel_rfl) rfl rfl) (fun a W hH => ?_) ?_
  · have e0 := Flow.see_new 23 12 hH.sees (by kernel_rfl) (by kernel_rfl) rfl rfl
    have e1 := Flow.see_new 28 17 hH.sees (by kernel_rfl) (by kernel_rfl) rfl rfl
    exact reg_eqlT rfl (by simpa [Act.eval] using e0) (by simpa [Act.eval] using e1) nodeGuard (by have hne := nodeEq U U (HUl.out) (HUl.out) W; rw [beq_self_eq_true] at hne; exact hne)
  refine Flow.pass_val ((.bool true)) (Flow.met_none rfl) (fun a W hH => ?_) ?_
  · have e0 := Flow.see_new 18 7 hH.sees (by kernel_rfl) (by kernel_rfl) rfl rfl
    have e1 := Flow.see_new 29 18 hH.sees (by kernel_rfl) (by kernel_rfl) rfl rfl
    go_simp; first | done | rfl
  refine Flow.pass_copy 30 19 (Flow.met_none rfl) (.inr rfl) (by kernel_rfl) (by kernel_rfl) rfl rfl (fun _ _ => Flow.kept_eqs _ _) ?_
  refine Flow.pass_end [none, none, none, none, none, none, none, none, some 8, none, none, some 11, some 12, some 13, some 14, some 15, some 16, some 17, some 18, some 19, some 20, some 21, some 22, some 23, some 24, some 25, some 26, some 27, some 28, some 29, some 30] (by kernel_rfl) ?_
  intro f gg w9 hB hfa hT hfg
  have h8 : f 8 = _ := (hfg 8 20 (by kernel_rfl)).trans (hT 20 _ (by kernel_rfl) rfl)
  have B9 := B1.drew.trans (hB.mono (by omega))
  clear hfa hT hfg hB
  simp only [Reg.sel, h8]
  go_wp2
  go_ret
  exact ⟨rfl, B9⟩
end Go.Proofs.YtapkhafgfbhkkaaDoor
