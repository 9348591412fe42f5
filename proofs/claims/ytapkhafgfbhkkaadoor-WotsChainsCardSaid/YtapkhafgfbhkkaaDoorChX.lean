/-
  Walk: portreevelaw06.WotsChains.
-/
import Derived.Test.YtapkhafgfbhkkaaDoorChD
import Derived.Test.YtapkhafgfbhkkaaDoorWotsD
namespace Go.Proofs.YtapkhafgfbhkkaaDoor
open Go.RowKit Sha

set_option maxRecDepth 100000 in
set_option maxHeartbeats 2000000 in
theorem chains_core (w : World) (hT : Tabs w) (nd : List UInt8) (hnd : nd.length = 32) (f k : Int) (sd : List UInt8) (hsd : sd.length = 32) (leaf c : Int) (S : List UInt8) (HSl : Hid (S.length = 32))
    (hmc : ∀ W, Tabs W → Calls Tryd.prog 30 #[.agg (bcells nd).toArray, .int .i64 f, .int .i64 k, .agg (bcells sd).toArray, .int .u32 leaf, .int .i64 c] W fun e w' => e = .returned (.agg (bcells S).toArray) ∧ Below W.heap.size W w')
    (hrc : ∀ W, Calls Tryd.prog 31 #[.agg (bcells nd).toArray, .int .i64 f, .int .i64 k, .agg (bcells sd).toArray, .int .u32 leaf, .int .i64 c] W fun e w' => e = .returned (.agg (bcells S).toArray) ∧ Below W.heap.size W w') :
    Calls Tryd.prog 8 #[.agg (bcells nd).toArray, .int .i64 f, .int .i64 k, .agg (bcells sd).toArray, .int .u32 leaf, .int .i64 c] w fun e w' => e = .returned (.bool true) ∧ Below w.heap.size w w' := by
  have ndL := Lib.hid hnd
  have sdL := Lib.hid hsd
  clear hnd hsd
  have hb_nd := (Blk.new w 27 (bcells nd).toArray).alloc (.cells (bcells sd).toArray 27)
  have hb_sd := blk_new1 w (.cells (bcells nd).toArray 27) 27 (bcells sd).toArray
  have B0 : Below w.heap.size w ((w.alloc (.cells (bcells nd).toArray 27)).alloc (.cells (bcells sd).toArray 27)) := ((Below.refl _ _).alloc (Nat.le_refl _) _).alloc (by simp) _
  have hT0 := (hT.alloc (.cells (bcells nd).toArray 27)).alloc (.cells (bcells sd).toArray 27)
  have hTl := hT.lt
  have hTl0 := hT.first.lt
  go_enter Tryd.func8, Tryd.ntmps8
  go_wp2_with fail
  generalize (w.alloc (.cells (bcells nd).toArray 27)).alloc (.cells (bcells sd).toArray 27) = W0 at *
  refine (awake06 W0).mono ?_
  rintro e W1 ⟨rfl, hB1⟩
  have hb_nd := hb_nd.below hB1 hb_nd.lt
  have hb_sd := hb_sd.below hB1 hb_sd.lt
  have hT1 := hT0.below hB1
  have B1 := B0.trans (hB1.mono B0.size)
  clear B0 hB1 hT hT0
  go_wp2_with fail
  have hsz : w.heap.size + 2 ≤ W1.drew.heap.size := hb_sd.drew.lt
  refine Flow.wp_region_flow (w.heap.size + 2) [] [] (by kernel_rfl) (by kernel_rfl) hsz (fun _ h => by cases h) Flow.facts_nil ?_
  refine Flow.pass_val (.agg (bcells nd).toArray) (Flow.met_none rfl) (fun a W hH => ?_) ?_
  · have e0 := Flow.see_old 6 hH.sees (by kernel_rfl) (by kernel_rfl) rfl
    exact reg_load 27 _ rfl e0 (hb_nd.drew.below hH.below (by omega)) Tryd.underlying27 rfl (by rw [List.size_toArray, bcells_length, ndL.out]; exact infNode)
  refine Flow.pass_old 1 (Flow.met_none rfl) (.inl rfl) (by kernel_rfl) (by kernel_rfl) rfl ?_
  refine Flow.pass_old 2 (Flow.met_none rfl) (.inl rfl) (by kernel_rfl) (by kernel_rfl) rfl ?_
  refine Flow.pass_val (.agg (bcells sd).toArray) (Flow.met_none rfl) (fun a W hH => ?_) ?_
  · have e0 := Flow.see_old 9 hH.sees (by kernel_rfl) (by kernel_rfl) rfl
    exact reg_load 27 _ rfl e0 (hb_sd.drew.below hH.below (by omega)) Tryd.underlying27 rfl (by rw [List.size_toArray, bcells_length, sdL.out]; exact infNode)
  refine Flow.pass_old 4 (Flow.met_none rfl) (.inl rfl) (by kernel_rfl) (by kernel_rfl) rfl ?_
  refine Flow.pass_old 5 (Flow.met_none rfl) (.inl rfl) (by kernel_rfl) (by kernel_rfl) rfl ?_
  refine Flow.pass_step (Reg.eqs (.agg (bcells S).toArray)) (fun _ _ => Flow.kept_eqs _ _) (Flow.met_none rfl) (fun a W hH => ?_) ?_
  · have e0 := Flow.see_new 15 0 hH.sees (by kernel_rfl) (by kernel_rfl) rfl rfl
    have e1 := Flow.see_new 16 1 hH.sees (by kernel_rfl) (by kernel_rfl) rfl rfl
    have e2 := Flow.see_new 17 2 hH.sees (by kernel_rfl) (by kernel_rfl) rfl rfl
    have e3 := Flow.see_new 18 3 hH.sees (by kernel_rfl) (by kernel_rfl) rfl rfl
    have e4 := Flow.see_new 19 4 hH.sees (by kernel_rfl) (by kernel_rfl) rfl rfl
    have e5 := Flow.see_new 20 5 hH.sees (by kernel_rfl) (by kernel_rfl) rfl rfl
    refine Reg.wp_call rfl Tryd.func30 rfl (by kernel_rfl) (by simp [Act.eval, e0, e1, e2, e3, e4, e5]) (hmc W (hT1.drew.under hH.below (by omega) (by omega))) ?_
    rintro e w' ⟨rfl, hB⟩
    exact ⟨_, rfl, _, rfl, hB, rfl⟩
  refine Flow.pass_val (.agg (bcells nd).toArray) (Flow.met_none rfl) (fun a W hH => ?_) ?_
  · have e0 := Flow.see_old 6 hH.sees (by kernel_rfl) (by kernel_rfl) rfl
    exact reg_load 27 _ rfl e0 (hb_nd.drew.below hH.below (by omega)) Tryd.underlying27 rfl (by rw [List.size_toArray, bcells_length, ndL.out]; exact infNode)
  refine Flow.pass_old 1 (Flow.met_none rfl) (.inl rfl) (by kernel_rfl) (by kernel_rfl) rfl ?_
  refine Flow.pass_old 2 (Flow.met_none rfl) (.inl rfl) (by kernel_rfl) (by kernel_rfl) rfl ?_
  refine Flow.pass_val (.agg (bcells sd).toArray) (Flow.met_none rfl) (fun a W hH => ?_) ?_
  · have e0 := Flow.see_old 9 hH.sees (by kernel_rfl) (by kernel_rfl) rfl
    exact reg_load 27 _ rfl e0 (hb_sd.drew.below hH.below (by omega)) Tryd.underlying27 rfl (by rw [List.size_toArray, bcells_length, sdL.out]; exact infNode)
  refine Flow.pass_old 4 (Flow.met_none rfl) (.inl rfl) (by kernel_rfl) (by kernel_rfl) rfl ?_
  refine Flow.pass_old 5 (Flow.met_none rfl) (.inl rfl) (by kernel_rfl) (by kernel_rfl) rfl ?_
  refine Flow.pass_step (Reg.eqs (.agg (bcells S).toArray)) (fun _ _ => Flow.kept_eqs _ _) (Flow.met_none rfl) (fun a W hH => ?_) ?_
  · have e0 := Flow.see_new 22 7 hH.sees (by kernel_rfl) (by kernel_rfl) rfl rfl
    have e1 := Flow.see_new 23 8 hH.sees (by kernel_rfl) (by kernel_rfl) rfl rfl
    have e2 := Flow.see_new 24 9 hH.sees (by kernel_rfl) (by kernel_rfl) rfl rfl
    have e3 := Flow.see_new 25 10 hH.sees (by kernel_rfl) (by kernel_rfl) rfl rfl
    have e4 := Flow.see_new 26 11 hH.sees (by kernel_rfl) (by kernel_rfl) rfl rfl
    have e5 := Flow.see_new 27 12 hH.sees (by kernel_rfl) (by kernel_rfl) rfl rfl
    refine Reg.wp_call rfl Tryd.func31 rfl (by kernel_rfl) (by simp [Act.eval, e0, e1, e2, e3, e4, e5]) (hrc W) ?_
    rintro e w' ⟨rfl, hB⟩
    exact ⟨_, rfl, _, rfl, hB, rfl⟩
  refine Flow.pass_val ((.bool true)) (Flow.met_none rfl) (fun a W hH => ?_) ?_
  · have e0 := Flow.see_new 21 6 hH.sees (by kernel_rfl) (by kernel_rfl) rfl rfl
    have e1 := Flow.see_new 28 13 hH.sees (by kernel_rfl) (by kernel_rfl) rfl rfl
    exact reg_eqlT rfl (by simpa [Act.eval] using e0) (by simpa [Act.eval] using e1) nodeGuard (by have hne := nodeEq S S (HSl.out) (HSl.out) W; rw [beq_self_eq_true] at hne; exact hne)
  refine Flow.pass_copy 29 14 (Flow.met_none rfl) (.inr rfl) (by kernel_rfl) (by kernel_rfl) rfl rfl (fun _ _ => Flow.kept_eqs _ _) ?_
  refine Flow.pass_end [none, none, none, none, none, none, none, none, none, none, none, none, some 12, none, none, some 15, some 16, some 17, some 18, some 19, some 20, some 21, some 22, some 23, some 24, some 25, some 26, some 27, some 28, some 29] (by kernel_rfl) ?_
  intro f gg w9 hB hfa hT hfg
  have h12 : f 12 = _ := (hfg 12 15 (by kernel_rfl)).trans (hT 15 _ (by kernel_rfl) rfl)
  have B9 := B1.drew.trans (hB.mono (by omega))
  clear hfa hT hfg hB
  simp only [Reg.sel, h12]
  go_wp2
  go_ret
  exact ⟨rfl, B9⟩
end Go.Proofs.YtapkhafgfbhkkaaDoor
