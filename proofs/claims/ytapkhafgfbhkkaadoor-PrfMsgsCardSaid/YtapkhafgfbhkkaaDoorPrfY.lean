/-
  Walk: portreevelaw05.PrfMsgs.
-/
import Derived.Test.YtapkhafgfbhkkaaDoorPrfL
import Derived.Test.YtapkhafgfbhkkaaDoorPrfE
namespace Go.Proofs.YtapkhafgfbhkkaaDoor
open Go.RowKit Sha

set_option maxRecDepth 100000 in
set_option maxHeartbeats 2000000 in
theorem prfMsgs_walk (w : World) (hT : Tabs w) (r : List UInt8) (hr : r.length = 32) (ro : List UInt8) (hro : ro.length = 32) (qi : Int) (wq : (Lit.int .u32 qi).wf = true)
    (A : Option Addr) (n c : Nat) (m : List UInt8) (hm0 : Rd w w.heap.size 1 A n (bcells m)) (hcc1 : n ≤ c) (hcc2 : c ≤ 9223372036854775807) :
    Calls Tryd.prog 5 #[.agg (bcells r).toArray, .agg (bcells ro).toArray, .int .u32 qi, .slice A n c] w fun e w' => e = .returned (.bool true) ∧ Below w.heap.size w w' := by
  obtain ⟨q, hq, rfl⟩ : ∃ n : Nat, n < 4294967296 ∧ qi = n := by
    simp [Lit.wf, IntKind.min, IntKind.max, IntKind.bits, IntKind.signed] at wq
    exact ⟨qi.toNat, by omega, by omega⟩
  clear wq
  have rL := Lib.hid hr
  have roL := Lib.hid hro
  have hcc : n ≤ c ∧ c ≤ 9223372036854775807 := ⟨hcc1, hcc2⟩
  obtain ⟨S, hS⟩ : ∃ S, S = msgH r ro q m := ⟨_, rfl⟩
  have HS := Lib.hid hS
  have HSl : Hid (S.length = 32) := Lib.hid (by rw [hS]; exact keyed_length _ _)
  clear hr hro hS
  have hb_r := (Blk.new w 27 (bcells r).toArray).alloc (.cells (bcells ro).toArray 27)
  have hb_ro := blk_new1 w (.cells (bcells r).toArray 27) 27 (bcells ro).toArray
  have B0 : Below w.heap.size w ((w.alloc (.cells (bcells r).toArray 27)).alloc (.cells (bcells ro).toArray 27)) := ((Below.refl _ _).alloc (Nat.le_refl _) _).alloc (by simp) _
  have hT0 := (hT.alloc (.cells (bcells r).toArray 27)).alloc (.cells (bcells ro).toArray 27)
  have hTl := hT.lt
  have hTl0 := hT.first.lt
  go_enter Tryd.func5, Tryd.ntmps5
  go_wp2_with fail
  generalize (w.alloc (.cells (bcells r).toArray 27)).alloc (.cells (bcells ro).toArray 27) = W0 at *
  refine (awake05 W0 hT0).mono ?_
  rintro e W1 ⟨rfl, hB1⟩
  have hb_r := hb_r.below hB1 hb_r.lt
  have hb_ro := hb_ro.below hB1 hb_ro.lt
  have hT1 := hT0.below hB1
  have B1 := B0.trans (hB1.mono B0.size)
  have hm := hm0.below B1
  clear B0 hB1 hT hT0 hm0
  go_wp2_with fail
  have hsz : w.heap.size + 2 ≤ W1.drew.heap.size := hb_ro.drew.lt
  by_cases hn : n ≤ 500
  · skip
    refine Flow.wp_region_flow (w.heap.size + 2) [] [] (by kernel_rfl) (by kernel_rfl) hsz (fun _ h => by cases h) Flow.facts_nil ?_
    refine Flow.pass_old 3 (Flow.met_none rfl) (.inl rfl) (by kernel_rfl) (by kernel_rfl) rfl ?_
    refine Flow.pass_val ((.int .i64 (n : Int))) (Flow.met_none rfl) (fun a W hH => ?_) ?_
    · have e0 := Flow.see_new 11 0 hH.sees (by kernel_rfl) (by kernel_rfl) rfl rfl
      go_simp; first | done | rfl
    refine Flow.pass_val ((.bool false)) (Flow.met_none rfl) (fun a W hH => ?_) ?_
    · have e0 := Flow.see_new 12 1 hH.sees (by kernel_rfl) (by kernel_rfl) rfl rfl
      go_simp; first | done | omega | (simp; omega)
    refine Flow.pass_copy 13 2 (Flow.met_none rfl) (.inl rfl) (by kernel_rfl) (by kernel_rfl) rfl rfl (fun _ _ => Flow.kept_eqs _ _) ?_
    refine Flow.pass_val (.agg (bcells r).toArray) (Flow.met_some 3 false 14 rfl rfl (by kernel_rfl) (by kernel_rfl) rfl rfl) (fun a W hH => ?_) ?_
    · have e0 := Flow.see_old 4 hH.sees (by kernel_rfl) (by kernel_rfl) rfl
      exact reg_load 27 _ rfl e0 (hb_r.drew.below hH.below (by omega)) Tryd.underlying27 rfl (by rw [List.size_toArray, bcells_length, rL.out]; exact infNode)
    refine Flow.pass_val (.agg (bcells ro).toArray) (Flow.met_some 3 false 14 rfl rfl (by kernel_rfl) (by kernel_rfl) rfl rfl) (fun a W hH => ?_) ?_
    · have e0 := Flow.see_old 5 hH.sees (by kernel_rfl) (by kernel_rfl) rfl
      exact reg_load 27 _ rfl e0 (hb_ro.drew.below hH.below (by omega)) Tryd.underlying27 rfl (by rw [List.size_toArray, bcells_length, roL.out]; exact infNode)
    refine Flow.pass_old 2 (Flow.met_some 3 false 14 rfl rfl (by kernel_rfl) (by kernel_rfl) rfl rfl) (.inl rfl) (by kernel_rfl) (by kernel_rfl) rfl ?_
    refine Flow.pass_old 3 (Flow.met_some 3 false 14 rfl rfl (by kernel_rfl) (by kernel_rfl) rfl rfl) (.inl rfl) (by kernel_rfl) (by kernel_rfl) rfl ?_
    refine Flow.pass_step (Reg.eqs (.agg (bcells S).toArray)) (fun _ _ => Flow.kept_eqs _ _) (Flow.met_some 3 false 14 rfl rfl (by kernel_rfl) (by kernel_rfl) rfl rfl) (fun a W hH => ?_) ?_
    · have e0 := Flow.see_new 15 4 hH.sees (by kernel_rfl) (by kernel_rfl) rfl rfl
      have e1 := Flow.see_new 16 5 hH.sees (by kernel_rfl) (by kernel_rfl) rfl rfl
      have e2 := Flow.see_new 17 6 hH.sees (by kernel_rfl) (by kernel_rfl) rfl rfl
      have e3 := Flow.see_new 18 7 hH.sees (by kernel_rfl) (by kernel_rfl) rfl rfl
      refine Reg.wp_call rfl Tryd.func21 rfl (by kernel_rfl) (by simp [Act.eval, e0, e1, e2, e3]) (mmsg_any r ro rL.out roL.out q A n c m W (((hm.drew.below (hH.below.mono (by omega)))).more (by have := hH.below.size; omega)) hn hcc (hT1.drew.under hH.below (by omega) (by omega))) ?_
      rintro e w' ⟨rfl, hB⟩
      rw [← HS.out]
      exact ⟨_, rfl, _, rfl, hB, rfl⟩
    refine Flow.pass_val (.agg (bcells r).toArray) (Flow.met_some 3 false 14 rfl rfl (by kernel_rfl) (by kernel_rfl) rfl rfl) (fun a W hH => ?_) ?_
    · have e0 := Flow.see_old 4 hH.sees (by kernel_rfl) (by kernel_rfl) rfl
      exact reg_load 27 _ rfl e0 (hb_r.drew.below hH.below (by omega)) Tryd.underlying27 rfl (by rw [List.size_toArray, bcells_length, rL.out]; exact infNode)
    refine Flow.pass_val (.agg (bcells ro).toArray) (Flow.met_some 3 false 14 rfl rfl (by kernel_rfl) (by kernel_rfl) rfl rfl) (fun a W hH => ?_) ?_
    · have e0 := Flow.see_old 5 hH.sees (by kernel_rfl) (by kernel_rfl) rfl
      exact reg_load 27 _ rfl e0 (hb_ro.drew.below hH.below (by omega)) Tryd.underlying27 rfl (by rw [List.size_toArray, bcells_length, roL.out]; exact infNode)
    refine Flow.pass_old 2 (Flow.met_some 3 false 14 rfl rfl (by kernel_rfl) (by kernel_rfl) rfl rfl) (.inl rfl) (by kernel_rfl) (by kernel_rfl) rfl ?_
    refine Flow.pass_old 3 (Flow.met_some 3 false 14 rfl rfl (by kernel_rfl) (by kernel_rfl) rfl rfl) (.inl rfl) (by kernel_rfl) (by kernel_rfl) rfl ?_
    refine Flow.pass_step (Reg.eqs (.agg (bcells S).toArray)) (fun _ _ => Flow.kept_eqs _ _) (Flow.met_some 3 false 14 rfl rfl (by kernel_rfl) (by kernel_rfl) rfl rfl) (fun a W hH => ?_) ?_
    · have e0 := Flow.see_new 20 9 hH.sees (by kernel_rfl) (by kernel_rfl) rfl rfl
      have e1 := Flow.see_new 21 10 hH.sees (by kernel_rfl) (by kernel_rfl) rfl rfl
      have e2 := Flow.see_new 22 11 hH.sees (by kernel_rfl) (by kernel_rfl) rfl rfl
      have e3 := Flow.see_new 23 12 hH.sees (by kernel_rfl) (by kernel_rfl) rfl rfl
      refine Reg.wp_call rfl Tryd.func22 rfl (by kernel_rfl) (by simp [Act.eval, e0, e1, e2, e3]) (rmsg_any r ro rL.out roL.out q hq A n c m W (((hm.drew.below (hH.below.mono (by omega)))).more (by have := hH.below.size; omega)) hn) ?_
      rintro e w' ⟨rfl, hB⟩
      rw [← HS.out]
      exact ⟨_, rfl, _, rfl, hB, rfl⟩
    refine Flow.pass_val ((.bool true)) (Flow.met_some 3 false 14 rfl rfl (by kernel_rfl) (by kernel_rfl) rfl rfl) (fun a W hH => ?_) ?_
    · have e0 := Flow.see_new 19 8 hH.sees (by kernel_rfl) (by kernel_rfl) rfl rfl
      have e1 := Flow.see_new 24 13 hH.sees (by kernel_rfl) (by kernel_rfl) rfl rfl
      exact reg_eqlT rfl (by simpa [Act.eval] using e0) (by simpa [Act.eval] using e1) nodeGuard (by have hne := nodeEq S S (HSl.out) (HSl.out) W; rw [beq_self_eq_true] at hne; exact hne)
    refine Flow.pass_val ((.bool true)) (Flow.met_none rfl) (fun a W hH => ?_) ?_
    · have e0 := Flow.see_new 14 3 hH.sees (by kernel_rfl) (by kernel_rfl) rfl rfl
      have e1 := Flow.see_new 25 14 hH.sees (by kernel_rfl) (by kernel_rfl) rfl rfl
      go_simp; first | done | rfl
    refine Flow.pass_copy 26 15 (Flow.met_none rfl) (.inr rfl) (by kernel_rfl) (by kernel_rfl) rfl rfl (fun _ _ => Flow.kept_eqs _ _) ?_
    refine Flow.pass_end [none, none, none, none, none, none, none, none, some 8, none, none, some 11, some 12, some 13, some 14, some 15, some 16, some 17, some 18, some 19, some 20, some 21, some 22, some 23, some 24, some 25, some 26] (by kernel_rfl) ?_
    intro f gg w9 hB hfa hT hfg
    have h8 : f 8 = _ := (hfg 8 16 (by kernel_rfl)).trans (hT 16 _ (by kernel_rfl) rfl)
    have B9 := B1.drew.trans (hB.mono (by omega))
    clear hfa hT hfg hB
    simp only [Reg.sel, h8]
    go_wp2
    go_ret
    exact ⟨rfl, B9⟩
  · skip
    refine Flow.wp_region_flow (w.heap.size + 2) [] [] (by kernel_rfl) (by kernel_rfl) hsz (fun _ h => by cases h) Flow.facts_nil ?_
    refine Flow.pass_old 3 (Flow.met_none rfl) (.inl rfl) (by kernel_rfl) (by kernel_rfl) rfl ?_
    refine Flow.pass_val ((.int .i64 (n : Int))) (Flow.met_none rfl) (fun a W hH => ?_) ?_
    · have e0 := Flow.see_new 11 0 hH.sees (by kernel_rfl) (by kernel_rfl) rfl rfl
      go_simp; first | done | rfl
    refine Flow.pass_val ((.bool true)) (Flow.met_none rfl) (fun a W hH => ?_) ?_
    · have e0 := Flow.see_new 12 1 hH.sees (by kernel_rfl) (by kernel_rfl) rfl rfl
      go_simp; first | done | omega | (simp; omega)
    refine Flow.pass_copy 13 2 (Flow.met_none rfl) (.inl rfl) (by kernel_rfl) (by kernel_rfl) rfl rfl (fun _ _ => Flow.kept_eqs _ _) ?_
    refine Flow.pass_skip (fun a W hH => Flow.not_wanted 3 false 14 hH rfl rfl (by kernel_rfl) (by kernel_rfl) rfl rfl) ?_
    refine Flow.pass_skip (fun a W hH => Flow.not_wanted 3 false 14 hH rfl rfl (by kernel_rfl) (by kernel_rfl) rfl rfl) ?_
    refine Flow.pass_skip (fun a W hH => Flow.not_wanted 3 false 14 hH rfl rfl (by kernel_rfl) (by kernel_rfl) rfl rfl) ?_
    refine Flow.pass_skip (fun a W hH => Flow.not_wanted 3 false 14 hH rfl rfl (by kernel_rfl) (by kernel_rfl) rfl rfl) ?_
    refine Flow.pass_skip (fun a W hH => Flow.not_wanted 3 false 14 hH rfl rfl (by kernel_rfl) (by kernel_rfl) rfl rfl) ?_
    refine Flow.pass_skip (fun a W hH => Flow.not_wanted 3 false 14 hH rfl rfl (by kernel_rfl) (by kernel_rfl) rfl rfl) ?_
    refine Flow.pass_skip (fun a W hH => Flow.not_wanted 3 false 14 hH rfl rfl (by kernel_rfl) (by kernel_rfl) rfl rfl) ?_
    refine Flow.pass_skip (fun a W hH => Flow.not_wanted 3 false 14 hH rfl rfl (by kernel_rfl) (by kernel_rfl) rfl rfl) ?_
    refine Flow.pass_skip (fun a W hH => Flow.not_wanted 3 false 14 hH rfl rfl (by kernel_rfl) (by kernel_rfl) rfl rfl) ?_
    refine Flow.pass_skip (fun a W hH => Flow.not_wanted 3 false 14 hH rfl rfl (by kernel_rfl) (by kernel_rfl) rfl rfl) ?_
    refine Flow.pass_skip (fun a W hH => Flow.not_wanted 3 false 14 hH rfl rfl (by kernel_rfl) (by kernel_rfl) rfl rfl) ?_
    refine Flow.pass_val ((.bool true)) (Flow.met_none rfl) (fun a W hH => ?_) ?_
    · have e0 := Flow.see_new 14 3 hH.sees (by kernel_rfl) (by kernel_rfl) rfl rfl
      have e1 := Flow.see_new 25 14 hH.sees (by kernel_rfl) (by kernel_rfl) rfl rfl
      go_simp; first | done | rfl
    refine Flow.pass_copy 26 15 (Flow.met_none rfl) (.inr rfl) (by kernel_rfl) (by kernel_rfl) rfl rfl (fun _ _ => Flow.kept_eqs _ _) ?_
    refine Flow.pass_end [none, none, none, none, none, none, none, none, some 8, none, none, some 11, some 12, some 13, some 14, some 15, some 16, some 17, some 18, some 19, some 20, some 21, some 22, some 23, some 24, some 25, some 26] (by kernel_rfl) ?_
    intro f gg w9 hB hfa hT hfg
    have h8 : f 8 = _ := (hfg 8 16 (by kernel_rfl)).trans (hT 16 _ (by kernel_rfl) rfl)
    have B9 := B1.drew.trans (hB.mono (by omega))
    clear hfa hT hfg hB
    simp only [Reg.sel, h8]
    go_wp2
    go_ret
    exact ⟨rfl, B9⟩
end Go.Proofs.YtapkhafgfbhkkaaDoor
