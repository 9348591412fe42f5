/-
  Walk: the law MachFits.
-/
import Derived.Test.YtjfmgoickokbjaaMaL
namespace Go.Proofs.Ytjfmgoickokbjaa
open Go.RowKit

theorem inf_bd : (Try.prog.info? 39).map (·.size) = some 7 := by kernel_rfl
set_option maxRecDepth 100000 in
set_option maxHeartbeats 2000000 in
theorem machFits_walk (w : World) (b : Bd) (ok : b.ok) : Calls Try.prog 4 #[.agg b.cells] w fun e w' => e = .returned (.bool true) ∧ Below w.heap.size w w' := by
  have hb := Blk.new w 39 b.cells
  have B0 : Below w.heap.size w (w.alloc (.cells b.cells 39)) := (Below.refl _ _).alloc (Nat.le_refl _) _
  obtain ⟨E, hE⟩ : ∃ E, E = b.err := ⟨_, rfl⟩
  have h1 := fun W => mfit_any b ok W
  have h2 := fun W => rfit_any b ok W
  rw [← hE] at h1 h2
  clear hE
  go_enter Try.func4, Try.ntmps4
  go_wp2_with fail
  generalize w.alloc (.cells b.cells 39) = W0 at *
  refine (awake09 W0).mono ?_
  rintro e W1 ⟨rfl, hB1⟩
  have hb1 := hb.below hB1 hb.lt
  have B1 := B0.trans (hB1.mono B0.size)
  clear hb B0 hB1
  go_wp2_with fail
  refine Flow.wp_region_flow (W1.heap.size) [] [] (by kernel_rfl) (by kernel_rfl) (Nat.le_refl _) (fun _ h => by cases h) Flow.facts_nil ?_
  refine Flow.pass_val (.agg b.cells) (Flow.met_none rfl) (fun a W hH => ?_) ?_
  · have e0 := Flow.see_old 1 hH.sees (by kernel_rfl) (by kernel_rfl) rfl
    exact reg_load 39 _ rfl e0 (hb1.drew.below hH.below hb1.lt) Try.underlying39 rfl inf_bd
  refine Flow.pass_step (Reg.eqs (.int .i64 E)) (fun _ _ => Flow.kept_eqs _ _) (Flow.met_none rfl) (fun a W hH => ?_) ?_
  · have e0 := Flow.see_new 5 0 hH.sees (by kernel_rfl) (by kernel_rfl) rfl rfl
    refine Reg.wp_call rfl Try.func16 rfl (by kernel_rfl) (by simp [Act.eval, e0]) (h1 W) ?_
    rintro e w' ⟨rfl, hB⟩
    exact ⟨_, rfl, _, rfl, hB, rfl⟩
  refine Flow.pass_val (.agg b.cells) (Flow.met_none rfl) (fun a W hH => ?_) ?_
  · have e0 := Flow.see_old 1 hH.sees (by kernel_rfl) (by kernel_rfl) rfl
    exact reg_load 39 _ rfl e0 (hb1.drew.below hH.below hb1.lt) Try.underlying39 rfl inf_bd
  refine Flow.pass_step (Reg.eqs (.int .i64 E)) (fun _ _ => Flow.kept_eqs _ _) (Flow.met_none rfl) (fun a W hH => ?_) ?_
  · have e0 := Flow.see_new 7 2 hH.sees (by kernel_rfl) (by kernel_rfl) rfl rfl
    refine Reg.wp_call rfl Try.func17 rfl (by kernel_rfl) (by simp [Act.eval, e0]) (h2 W) ?_
    rintro e w' ⟨rfl, hB⟩
    exact ⟨_, rfl, _, rfl, hB, rfl⟩
  refine Flow.pass_val (.bool true) (Flow.met_none rfl) (fun a W hH => ?_) ?_
  · have e0 := Flow.see_new 6 1 hH.sees (by kernel_rfl) (by kernel_rfl) rfl rfl
    have e1 := Flow.see_new 8 3 hH.sees (by kernel_rfl) (by kernel_rfl) rfl rfl
    go_simp; first | done | rfl | simp
  refine Flow.pass_copy 9 4 (Flow.met_none rfl) (.inr rfl) (by kernel_rfl) (by kernel_rfl) rfl rfl (fun _ _ => Flow.kept_eqs _ _) ?_
  refine Flow.pass_end [none, none, some 2, none, none, some 5, some 6, some 7, some 8, some 9] (by kernel_rfl) ?_
  intro f gg w9 hB hfa hT hfg
  have h2 : f 2 = _ := (hfg 2 5 (by kernel_rfl)).trans (hT 5 _ (by kernel_rfl) rfl)
  simp only [Reg.sel, h2]
  have B9 := B1.drew.trans (hB.mono B1.size)
  clear hT hfg hfa
  go_wp2
  go_ret
  exact ⟨rfl, B9⟩
end Go.Proofs.Ytjfmgoickokbjaa
