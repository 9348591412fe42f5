/-
  Walk of the statement ReportLines.
-/
import Derived.Test.YtnjfghlgknnhmaaLinesL
namespace Go.Proofs.Ytnjfghlgknnhmaa
open Go.RowKit

theorem few_true (R : Rsl) (h : R.few) : (decide (R.n3 ≤ 40) && decide (R.n6 ≤ 40) && decide (R.n7 ≤ 40)) = true := by
  obtain ⟨a, b, c⟩ := h; simp [a, b, c]
theorem few_false (R : Rsl) (h : ¬ R.few) : (decide (R.n3 ≤ 40) && decide (R.n6 ≤ 40) && decide (R.n7 ≤ 40)) = false := by
  unfold Rsl.few at h
  by_cases a : R.n3 ≤ 40 <;> by_cases b : R.n6 ≤ 40 <;> by_cases c : R.n7 ≤ 40 <;> simp [a, b, c] <;> exact h ⟨a, b, c⟩
theorem refW_few (R : Rsl) (C : Array Value) (ok : R.Ok C) (hf : R.few) : R.lines.length ≤ 1000 := by
  obtain ⟨f3, f6, f7⟩ := hf
  have := ok.logL
  have := ok.gstL
  unfold Rsl.lines
  rw [List.length_append, ctrLines_len]
  split
  · simp only [manLines, List.length_append, regLines_len, List.length_map]; simp; omega
  · simp; omega

set_option maxRecDepth 100000 in
set_option maxHeartbeats 2000000 in
theorem reportLines_walk (w : World) (R : Rsl) (C : Array Value) (ok : R.Ok C) (hl : R.Lies w.heap.size w) :
    Calls Try.prog 11 #[.agg C] w fun e w' => e = .returned (.bool true) ∧ Below w.heap.size w w' := by
  have hs : Hid (C.size = 75) := Lib.hid ok.size
  have hok := Lib.hid ok
  have hbx := Blk.new w 77 C
  have B0 : Below w.heap.size w (w.alloc (.cells C 77)) := (Below.refl _ _).alloc (Nat.le_refl _) _
  obtain ⟨LS, hLS⟩ : ∃ LS, LS = R.lines := ⟨_, rfl⟩
  have HLS := Lib.hid hLS
  by_cases hf : R.few
  · have hLSn : LS.length ≤ 1000 := by rw [hLS]; exact refW_few R C ok hf
    have hfewb := Lib.hid (few_true R hf)
    have hfew := Lib.hid hf
    clear ok hf hLS
    go_enter Try.func11, Try.ntmps11
    go_wp2_with fail
    generalize w.alloc (.cells C 77) = W0 at *
    refine (awake33 W0).mono ?_
    rintro e W1 ⟨rfl, hB1⟩
    have hbx := hbx.below hB1 hbx.lt
    have B1 := B0.trans (hB1.mono B0.size)
    have hlie := hl.below B1
    clear B0 hB1 hl
    go_wp2_with fail
    have hsz : w.heap.size + 1 ≤ W1.drew.heap.size := hbx.drew.lt
    have B1b : Below w.heap.size W1 W1.drew := (Below.refl _ _).drew
    refine Flow.wp_region_flow (w.heap.size + 1) [] [] (by kernel_rfl) (by kernel_rfl) hsz (fun _ h => by cases h) Flow.facts_nil ?_
    refine Flow.pass_val (.agg C) (Flow.met_none rfl) (fun a W hH => ?_) ?_
    · have e0 := Flow.see_old 1 hH.sees (by kernel_rfl) (by kernel_rfl) rfl
      exact reg_load 77 1 rfl e0 (hbx.drew.below hH.below (Nat.lt_succ_self _)) Try.underlying77 rfl (by rw [hs.out]; kernel_rfl)
    refine Flow.pass_step (Reg.eqs (.bool true)) (fun _ _ => Flow.kept_eqs _ _) (Flow.met_none rfl) (fun a W hH => ?_) ?_
    · have e0 := Flow.see_new 5 0 hH.sees (by kernel_rfl) (by kernel_rfl) rfl rfl
      refine Reg.wp_call rfl Try.func37 rfl (by kernel_rfl) (by simp [Act.eval, e0]) (few_any C R.A3 R.A6 R.A7 R.n3 R.c3 R.n6 R.c6 R.n7 R.c7 hok.out.h3 (hok.out.hM 69 _ hok.out.m69) (hok.out.hM 70 _ hok.out.m70) W) ?_
      rintro e w' ⟨rfl, hB⟩
      rw [hfewb.out]
      exact ⟨_, rfl, _, rfl, hB, rfl⟩
    refine Flow.pass_val ((.bool false)) (Flow.met_none rfl) (fun a W hH => ?_) ?_
    · have e0 := Flow.see_new 6 1 hH.sees (by kernel_rfl) (by kernel_rfl) rfl rfl
      go_simp
    refine Flow.pass_copy 7 2 (Flow.met_none rfl) (.inl rfl) (by kernel_rfl) (by kernel_rfl) rfl rfl (fun _ _ => Flow.kept_eqs _ _) ?_
    refine Flow.pass_val (.agg C) (Flow.met_some 3 false 8 rfl rfl (by kernel_rfl) (by kernel_rfl) rfl rfl) (fun a W hH => ?_) ?_
    · have e0 := Flow.see_old 1 hH.sees (by kernel_rfl) (by kernel_rfl) rfl
      exact reg_load 77 1 rfl e0 (hbx.drew.below hH.below (Nat.lt_succ_self _)) Try.underlying77 rfl (by rw [hs.out]; kernel_rfl)
    refine Flow.pass_step (fun v W => ∃ A c, v = .slice A LS.length c ∧ Rd W W.heap.size 1 A LS.length (LS.map strV)) (Flow.kept_of (fun _ _ _ c ⟨A, k, h1, h2⟩ => ⟨A, k, h1, h2.ext c.ext⟩) Flow.kz_nil) (Flow.met_some 3 false 8 rfl rfl (by kernel_rfl) (by kernel_rfl) rfl rfl) (fun a W hH => ?_) ?_
    · have e0 := Flow.see_new 9 4 hH.sees (by kernel_rfl) (by kernel_rfl) rfl rfl
      refine Reg.wp_call rfl Try.func39 rfl (by kernel_rfl) (by simp [Act.eval, e0]) (mLines_any R C hok.out hfew.out W (((hlie.below (B1b.trans (hH.below.mono (Nat.le_succ _))))).more (Nat.le_trans (Nat.le_succ _) (Nat.le_trans hsz hH.below.size)))) ?_
      rintro e w' ⟨A9, c9, rfl, hr9, hB⟩
      rw [← HLS.out] at hr9 ⊢
      exact ⟨_, rfl, _, rfl, hB, A9, c9, rfl, hr9⟩
    refine Flow.pass_val (.agg C) (Flow.met_some 3 false 8 rfl rfl (by kernel_rfl) (by kernel_rfl) rfl rfl) (fun a W hH => ?_) ?_
    · have e0 := Flow.see_old 1 hH.sees (by kernel_rfl) (by kernel_rfl) rfl
      exact reg_load 77 1 rfl e0 (hbx.drew.below hH.below (Nat.lt_succ_self _)) Try.underlying77 rfl (by rw [hs.out]; kernel_rfl)
    refine Flow.pass_step (fun v W => ∃ A c, v = .slice A LS.length c ∧ Rd W W.heap.size 1 A LS.length (LS.map strV)) (Flow.kept_of (fun _ _ _ c ⟨A, k, h1, h2⟩ => ⟨A, k, h1, h2.ext c.ext⟩) Flow.kz_nil) (Flow.met_some 3 false 8 rfl rfl (by kernel_rfl) (by kernel_rfl) rfl rfl) (fun a W hH => ?_) ?_
    · have e0 := Flow.see_new 11 6 hH.sees (by kernel_rfl) (by kernel_rfl) rfl rfl
      refine Reg.wp_call rfl Try.func40 rfl (by kernel_rfl) (by simp [Act.eval, e0]) (rLines_any R C hok.out hfew.out W (((hlie.below (B1b.trans (hH.below.mono (Nat.le_succ _))))).more (Nat.le_trans (Nat.le_succ _) (Nat.le_trans hsz hH.below.size)))) ?_
      rintro e w' ⟨A9, c9, rfl, hr9, hB⟩
      rw [← HLS.out] at hr9 ⊢
      exact ⟨_, rfl, _, rfl, hB, A9, c9, rfl, hr9⟩
    refine Flow.pass_step (Reg.eqs (.bool true)) (fun _ _ => Flow.kept_eqs _ _) (Flow.met_some 3 false 8 rfl rfl (by kernel_rfl) (by kernel_rfl) rfl rfl) (fun a W hH => ?_) ?_
    · obtain ⟨A0, c0, e0, q0⟩ := Flow.see_up 10 5 hH.sees (by kernel_rfl) (by kernel_rfl) rfl rfl
      obtain ⟨A1, c1, e1, q1⟩ := Flow.see_up 12 7 hH.sees (by kernel_rfl) (by kernel_rfl) rfl rfl
      refine Reg.wp_call rfl Try.func38 rfl (by kernel_rfl) (by simp [Act.eval, e0, e1]) (sameTexts_eq A0 A1 LS.length c0 c1 LS W q0 q1 hLSn) ?_
      rintro e w' ⟨rfl, hB⟩
      exact ⟨_, rfl, _, rfl, hB, rfl⟩
    refine Flow.pass_val ((.bool true)) (Flow.met_none rfl) (fun a W hH => ?_) ?_
    · have e0 := Flow.see_new 8 3 hH.sees (by kernel_rfl) (by kernel_rfl) rfl rfl
      have e1 := Flow.see_new 13 8 hH.sees (by kernel_rfl) (by kernel_rfl) rfl rfl
      go_simp
    refine Flow.pass_copy 14 9 (Flow.met_none rfl) (.inr rfl) (by kernel_rfl) (by kernel_rfl) rfl rfl (fun _ _ => Flow.kept_eqs _ _) ?_
    refine Flow.pass_end [none, none, some 2, none, none, some 5, some 6, some 7, some 8, some 9, some 10, some 11, some 12, some 13, some 14] (by kernel_rfl) ?_
    intro f gg w9 hB hfa hT hfg
    have h2 : f 2 = _ := (hfg 2 10 (by kernel_rfl)).trans (hT 10 _ (by kernel_rfl) rfl)
    have B9 := B1.drew.trans (hB.mono (Nat.le_succ _))
    clear hfa hT hfg hB
    simp only [Reg.sel, h2]
    go_wp2
    go_ret
    exact ⟨rfl, B9⟩
  · have hfewb := Lib.hid (few_false R hf)
    clear ok hf hLS
    go_enter Try.func11, Try.ntmps11
    go_wp2_with fail
    generalize w.alloc (.cells C 77) = W0 at *
    refine (awake33 W0).mono ?_
    rintro e W1 ⟨rfl, hB1⟩
    have hbx := hbx.below hB1 hbx.lt
    have B1 := B0.trans (hB1.mono B0.size)
    have hlie := hl.below B1
    clear B0 hB1 hl
    go_wp2_with fail
    have hsz : w.heap.size + 1 ≤ W1.drew.heap.size := hbx.drew.lt
    have B1b : Below w.heap.size W1 W1.drew := (Below.refl _ _).drew
    refine Flow.wp_region_flow (w.heap.size + 1) [] [] (by kernel_rfl) (by kernel_rfl) hsz (fun _ h => by cases h) Flow.facts_nil ?_
    refine Flow.pass_val (.agg C) (Flow.met_none rfl) (fun a W hH => ?_) ?_
    · have e0 := Flow.see_old 1 hH.sees (by kernel_rfl) (by kernel_rfl) rfl
      exact reg_load 77 1 rfl e0 (hbx.drew.below hH.below (Nat.lt_succ_self _)) Try.underlying77 rfl (by rw [hs.out]; kernel_rfl)
    refine Flow.pass_step (Reg.eqs (.bool false)) (fun _ _ => Flow.kept_eqs _ _) (Flow.met_none rfl) (fun a W hH => ?_) ?_
    · have e0 := Flow.see_new 5 0 hH.sees (by kernel_rfl) (by kernel_rfl) rfl rfl
      refine Reg.wp_call rfl Try.func37 rfl (by kernel_rfl) (by simp [Act.eval, e0]) (few_any C R.A3 R.A6 R.A7 R.n3 R.c3 R.n6 R.c6 R.n7 R.c7 hok.out.h3 (hok.out.hM 69 _ hok.out.m69) (hok.out.hM 70 _ hok.out.m70) W) ?_
      rintro e w' ⟨rfl, hB⟩
      rw [hfewb.out]
      exact ⟨_, rfl, _, rfl, hB, rfl⟩
    refine Flow.pass_val ((.bool true)) (Flow.met_none rfl) (fun a W hH => ?_) ?_
    · have e0 := Flow.see_new 6 1 hH.sees (by kernel_rfl) (by kernel_rfl) rfl rfl
      go_simp
    refine Flow.pass_copy 7 2 (Flow.met_none rfl) (.inl rfl) (by kernel_rfl) (by kernel_rfl) rfl rfl (fun _ _ => Flow.kept_eqs _ _) ?_
    refine Flow.pass_skip (fun a W hH => Flow.not_wanted 3 false 8 hH rfl rfl (by kernel_rfl) (by kernel_rfl) rfl rfl) ?_
    refine Flow.pass_skip (fun a W hH => Flow.not_wanted 3 false 8 hH rfl rfl (by kernel_rfl) (by kernel_rfl) rfl rfl) ?_
    refine Flow.pass_skip (fun a W hH => Flow.not_wanted 3 false 8 hH rfl rfl (by kernel_rfl) (by kernel_rfl) rfl rfl) ?_
    refine Flow.pass_skip (fun a W hH => Flow.not_wanted 3 false 8 hH rfl rfl (by kernel_rfl) (by kernel_rfl) rfl rfl) ?_
    refine Flow.pass_skip (fun a W hH => Flow.not_wanted 3 false 8 hH rfl rfl (by kernel_rfl) (by kernel_rfl) rfl rfl) ?_
    refine Flow.pass_val ((.bool true)) (Flow.met_none rfl) (fun a W hH => ?_) ?_
    · have e0 := Flow.see_new 8 3 hH.sees (by kernel_rfl) (by kernel_rfl) rfl rfl
      have e1 := Flow.see_new 13 8 hH.sees (by kernel_rfl) (by kernel_rfl) rfl rfl
      go_simp
    refine Flow.pass_copy 14 9 (Flow.met_none rfl) (.inr rfl) (by kernel_rfl) (by kernel_rfl) rfl rfl (fun _ _ => Flow.kept_eqs _ _) ?_
    refine Flow.pass_end [none, none, some 2, none, none, some 5, some 6, some 7, some 8, some 9, some 10, some 11, some 12, some 13, some 14] (by kernel_rfl) ?_
    intro f gg w9 hB hfa hT hfg
    have h2 : f 2 = _ := (hfg 2 10 (by kernel_rfl)).trans (hT 10 _ (by kernel_rfl) rfl)
    have B9 := B1.drew.trans (hB.mono (Nat.le_succ _))
    clear hfa hT hfg hB
    simp only [Reg.sel, h2]
    go_wp2
    go_ret
    exact ⟨rfl, B9⟩
end Go.Proofs.Ytnjfghlgknnhmaa
