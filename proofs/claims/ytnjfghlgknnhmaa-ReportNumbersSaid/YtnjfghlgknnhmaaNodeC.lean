/-
  Walk of the statement ReportNumbers.
-/
import Derived.Test.YtnjfghlgknnhmaaNodeB
import Derived.Test.YtnjfghlgknnhmaaLinesC
namespace Go.Proofs.Ytnjfghlgknnhmaa
open Go.RowKit

set_option maxRecDepth 100000 in
set_option maxHeartbeats 2000000 in
theorem reportNumbers_walk (w : World) (x : Int) (wx : (Lit.int .i64 x).wf = true) (l : List UInt8) (hl' : l.length = 32) :
    Calls Try.prog 12 #[.int .i64 x, .agg (bcells l).toArray] w fun e w' => e = .returned (.bool true) ∧ Below w.heap.size w w' := by
  have hx := Lib.hid (inI_of wx)
  have hl := Lib.hid hl'
  obtain ⟨D, hD⟩ : ∃ D, D = digStr x := ⟨_, rfl⟩
  obtain ⟨H, hH⟩ : ∃ H, H = hexL l := ⟨_, rfl⟩
  have HD := Lib.hid hD
  have HH := Lib.hid hH
  clear wx hl' hD hH
  have hbx := Blk.new w 29 (bcells l).toArray
  have B0 : Below w.heap.size w (w.alloc (.cells (bcells l).toArray 29)) := (Below.refl _ _).alloc (Nat.le_refl _) _
  go_enter Try.func12, Try.ntmps12
  go_wp2_with fail
  generalize w.alloc (.cells (bcells l).toArray 29) = W0 at *
  refine (awake33 W0).mono ?_
  rintro e W1 ⟨rfl, hB1⟩
  have hbx := hbx.below hB1 hbx.lt
  have B1 := B0.trans (hB1.mono B0.size)
  clear B0 hB1
  go_wp2_with fail
  have hsz : w.heap.size + 1 ≤ W1.drew.heap.size := hbx.drew.lt
  refine Flow.wp_region_flow (w.heap.size + 1) [] [] (by kernel_rfl) (by kernel_rfl) hsz (fun _ h => by cases h) Flow.facts_nil ?_
  refine Flow.pass_old 0 (Flow.met_none rfl) (.inl rfl) (by kernel_rfl) (by kernel_rfl) rfl ?_
  refine Flow.pass_step (Reg.eqs (.string ⟨D.toArray⟩)) (fun _ _ => Flow.kept_eqs _ _) (Flow.met_none rfl) (fun a W hH => ?_) ?_
  · have e0 := Flow.see_new 7 0 hH.sees (by kernel_rfl) (by kernel_rfl) rfl rfl
    refine Reg.wp_call rfl Try.func41 rfl (by kernel_rfl) (by simp [Act.eval, e0]) (mDigits_any x hx.out.1 hx.out.2 W) ?_
    rintro e w' ⟨rfl, hB⟩
    rw [← HD.out]
    exact ⟨_, rfl, _, rfl, hB, rfl⟩
  refine Flow.pass_old 0 (Flow.met_none rfl) (.inl rfl) (by kernel_rfl) (by kernel_rfl) rfl ?_
  refine Flow.pass_step (Reg.eqs (.string ⟨D.toArray⟩)) (fun _ _ => Flow.kept_eqs _ _) (Flow.met_none rfl) (fun a W hH => ?_) ?_
  · have e0 := Flow.see_new 9 2 hH.sees (by kernel_rfl) (by kernel_rfl) rfl rfl
    refine Reg.wp_call rfl Try.func42 rfl (by kernel_rfl) (by simp [Act.eval, e0]) (rDigits_any x hx.out.1 hx.out.2 W) ?_
    rintro e w' ⟨rfl, rfl⟩
    rw [← HD.out]
    exact ⟨_, rfl, _, rfl, Below.refl _ _, rfl⟩
  refine Flow.pass_val (.bool true) (Flow.met_none rfl) (fun a W hH => ?_) ?_
  · have e0 := Flow.see_new 8 1 hH.sees (by kernel_rfl) (by kernel_rfl) rfl rfl
    have e1 := Flow.see_new 10 3 hH.sees (by kernel_rfl) (by kernel_rfl) rfl rfl
    go_simp
  refine Flow.pass_copy 11 4 (Flow.met_none rfl) (.inl rfl) (by kernel_rfl) (by kernel_rfl) rfl rfl (fun _ _ => Flow.kept_eqs _ _) ?_
  refine Flow.pass_val (.agg (bcells l).toArray) (Flow.met_some 5 true 12 rfl rfl (by kernel_rfl) (by kernel_rfl) rfl rfl) (fun a W hH => ?_) ?_
  · have e0 := Flow.see_old 3 hH.sees (by kernel_rfl) (by kernel_rfl) rfl
    exact reg_load 29 3 rfl e0 (hbx.drew.below hH.below (Nat.lt_succ_self _)) Try.underlying29 rfl (by rw [List.size_toArray, bcells_length, hl.out]; kernel_rfl)
  refine Flow.pass_step (Reg.eqs (.string ⟨H.toArray⟩)) (fun _ _ => Flow.kept_eqs _ _) (Flow.met_some 5 true 12 rfl rfl (by kernel_rfl) (by kernel_rfl) rfl rfl) (fun a W hH => ?_) ?_
  · have e0 := Flow.see_new 13 6 hH.sees (by kernel_rfl) (by kernel_rfl) rfl rfl
    refine Reg.wp_call rfl Try.func43 rfl (by kernel_rfl) (by simp [Act.eval, e0]) (mNode_any l hl W) ?_
    rintro e w' ⟨rfl, hB⟩
    rw [← HH.out]
    exact ⟨_, rfl, _, rfl, hB, rfl⟩
  refine Flow.pass_val ((.slice (some ⟨w.heap.size, 0, none⟩) 32 32)) (Flow.met_some 5 true 12 rfl rfl (by kernel_rfl) (by kernel_rfl) rfl rfl) (fun a W hH => ?_) ?_
  · have e0 := Flow.see_old 3 hH.sees (by kernel_rfl) (by kernel_rfl) rfl
    go_simp; first | done | rfl
  refine Flow.pass_step (Reg.eqs (.string ⟨H.toArray⟩)) (fun _ _ => Flow.kept_eqs _ _) (Flow.met_some 5 true 12 rfl rfl (by kernel_rfl) (by kernel_rfl) rfl rfl) (fun a W hH => ?_) ?_
  · have e0 := Flow.see_new 15 8 hH.sees (by kernel_rfl) (by kernel_rfl) rfl rfl
    refine Reg.wp_call rfl Try.func44 rfl (by kernel_rfl) (by simp [Act.eval, e0]) (rDigits16_any (some ⟨w.heap.size, 0, none⟩) 32 32 l W ((hbx.drew.below hH.below (Nat.lt_succ_self _)).rd (by rw [List.size_toArray, bcells_length, hl.out])) (by omega)) ?_
    rintro e w' ⟨rfl, hB⟩
    rw [← HH.out]
    exact ⟨_, rfl, _, rfl, hB, rfl⟩
  refine Flow.pass_val (.bool true) (Flow.met_some 5 true 12 rfl rfl (by kernel_rfl) (by kernel_rfl) rfl rfl) (fun a W hH => ?_) ?_
  · have e0 := Flow.see_new 14 7 hH.sees (by kernel_rfl) (by kernel_rfl) rfl rfl
    have e1 := Flow.see_new 16 9 hH.sees (by kernel_rfl) (by kernel_rfl) rfl rfl
    go_simp
  refine Flow.pass_val (.bool true) (Flow.met_none rfl) (fun a W hH => ?_) ?_
  · have e0 := Flow.see_new 12 5 hH.sees (by kernel_rfl) (by kernel_rfl) rfl rfl
    have e1 := Flow.see_new 17 10 hH.sees (by kernel_rfl) (by kernel_rfl) rfl rfl
    go_simp
  refine Flow.pass_copy 18 11 (Flow.met_none rfl) (.inr rfl) (by kernel_rfl) (by kernel_rfl) rfl rfl (fun _ _ => Flow.kept_eqs _ _) ?_
  refine Flow.pass_end [none, none, none, none, some 4, none, none, some 7, some 8, some 9, some 10, some 11, some 12, some 13, some 14, some 15, some 16, some 17, some 18] (by kernel_rfl) ?_
  intro f gg w9 hB hfa hT hfg
  have h4 : f 4 = _ := (hfg 4 12 (by kernel_rfl)).trans (hT 12 _ (by kernel_rfl) rfl)
  have B9 := B1.drew.trans (hB.mono (Nat.le_succ _))
  clear hfa hT hfg hB
  simp only [Reg.sel, h4]
  go_wp2
  go_ret
  exact ⟨rfl, B9⟩
end Go.Proofs.Ytnjfghlgknnhmaa
