/-
  Walks: Within of both; span.Pages.
-/
import Derived.Test.YtjfmgoickokbjaaMaA
namespace Go.Proofs.Ytjfmgoickokbjaa
open Go.RowKit

set_option maxRecDepth 100000 in
set_option maxHeartbeats 2000000 in
theorem within_any (s t : Sp) (ok : s.ok) (okt : t.ok) (w : World) : Calls Try.prog 38 #[.agg s.cells, .agg t.cells] w (BoolRet w (s.within t)) := by
  have hbS := (Blk.new w 24 s.cells).alloc (.cells t.cells 24)
  have hbT := Blk.new (w.alloc (.cells s.cells 24)) 24 t.cells
  rw [World.size_alloc] at hbT
  have B1 : Below w.heap.size w ((w.alloc (.cells s.cells 24)).alloc (.cells t.cells 24)) := ((Below.refl _ _).alloc (Nat.le_refl _) _).alloc (by simp) _
  have k1 := ok.base
  have k2 := ok.size
  have k3 := okt.base
  have k4 := okt.size
  cases hgs : s.good with
  | false =>
    have hx : Hid (s.within t = false) := Lib.hid (by simp [Sp.within, hgs])
    have hg : ∀ W, Calls Try.prog 57 #[.agg s.cells] W (BoolRet W false) := fun W => by have := good_any s ok W; rwa [hgs] at this
    clear hgs
    go_enter Try.func38, Try.ntmps38
    go_wp2_with fail
    generalize (w.alloc (.cells s.cells 24)).alloc (.cells t.cells 24) = W1 at *
    refine Flow.wp_region_flow (W1.heap.size) [] [] (by kernel_rfl) (by kernel_rfl) (Nat.le_refl _) (fun _ h => by cases h) Flow.facts_nil ?_
    refine Flow.pass_val (.agg s.cells) (Flow.met_none rfl) (fun a W hH => ?_) ?_
    · have e0 := Flow.see_old 2 hH.sees (by kernel_rfl) (by kernel_rfl) rfl
      exact reg_load 24 _ rfl e0 (hbS.drew.below hH.below hbS.lt) Try.underlying24 rfl infSpan
    refine Flow.pass_step (Reg.eqs (.bool false)) (fun _ _ => Flow.kept_eqs _ _) (Flow.met_none rfl) (fun a W hH => ?_) ?_
    · have e0 := Flow.see_new 5 0 hH.sees (by kernel_rfl) (by kernel_rfl) rfl rfl
      refine Reg.wp_call rfl Try.func57 rfl (by kernel_rfl) (by simp [Act.eval, e0]) (hg W) ?_
      rintro e w' ⟨rfl, hB⟩
      exact ⟨_, rfl, _, rfl, hB, rfl⟩
    refine Flow.pass_copy 6 1 (Flow.met_none rfl) (.inl rfl) (by kernel_rfl) (by kernel_rfl) rfl rfl (fun _ _ => Flow.kept_eqs _ _) ?_
    refine Flow.pass_skip (fun a W hH => Flow.not_wanted 2 true 7 hH rfl rfl (by kernel_rfl) (by kernel_rfl) rfl rfl) ?_
    refine Flow.pass_skip (fun a W hH => Flow.not_wanted 2 true 7 hH rfl rfl (by kernel_rfl) (by kernel_rfl) rfl rfl) ?_
    refine Flow.pass_skip (fun a W hH => Flow.not_wanted 2 true 7 hH rfl rfl (by kernel_rfl) (by kernel_rfl) rfl rfl) ?_
    refine Flow.pass_skip (fun a W hH => Flow.not_wanted 2 true 7 hH rfl rfl (by kernel_rfl) (by kernel_rfl) rfl rfl) ?_
    refine Flow.pass_val (.bool false) (Flow.met_none rfl) (fun a W hH => ?_) ?_
    · have e0 := Flow.see_new 7 2 hH.sees (by kernel_rfl) (by kernel_rfl) rfl rfl
      have e1 := Flow.see_new 11 6 hH.sees (by kernel_rfl) (by kernel_rfl) rfl rfl
      go_simp; first | done | rfl
    refine Flow.pass_copy 12 7 (Flow.met_none rfl) (.inl rfl) (by kernel_rfl) (by kernel_rfl) rfl rfl (fun _ _ => Flow.kept_eqs _ _) ?_
    refine Flow.pass_skip (fun a W hH => Flow.not_wanted 8 true 13 hH rfl rfl (by kernel_rfl) (by kernel_rfl) rfl rfl) ?_
    refine Flow.pass_skip (fun a W hH => Flow.not_wanted 8 true 13 hH rfl rfl (by kernel_rfl) (by kernel_rfl) rfl rfl) ?_
    refine Flow.pass_skip (fun a W hH => Flow.not_wanted 8 true 13 hH rfl rfl (by kernel_rfl) (by kernel_rfl) rfl rfl) ?_
    refine Flow.pass_skip (fun a W hH => Flow.not_wanted 8 true 13 hH rfl rfl (by kernel_rfl) (by kernel_rfl) rfl rfl) ?_
    refine Flow.pass_val (.bool false) (Flow.met_none rfl) (fun a W hH => ?_) ?_
    · have e0 := Flow.see_new 13 8 hH.sees (by kernel_rfl) (by kernel_rfl) rfl rfl
      have e1 := Flow.see_new 17 12 hH.sees (by kernel_rfl) (by kernel_rfl) rfl rfl
      go_simp; first | done | rfl
    refine Flow.pass_copy 18 13 (Flow.met_none rfl) (.inr rfl) (by kernel_rfl) (by kernel_rfl) rfl rfl (fun _ _ => Flow.kept_eqs _ _) ?_
    refine Flow.pass_end [none, none, none, none, some 4, some 5, some 6, some 7, some 8, some 9, some 10, some 11, some 12, some 13, some 14, some 15, some 16, some 17, some 18] (by kernel_rfl) ?_
    intro f gg w9 hB hfa hT hfg
    have h4 : f 4 = _ := (hfg 4 14 (by kernel_rfl)).trans (hT 14 _ (by kernel_rfl) rfl)
    simp only [Reg.sel, h4]
    have B9 := B1.drew.trans (hB.mono B1.size)
    clear hT hfg hfa h4
    go_wp2
    go_ret
    refine ⟨ret_bool ?_, B9⟩
    rw [hx.out]
  | true =>
    have hg : ∀ W, Calls Try.prog 57 #[.agg s.cells] W (BoolRet W true) := fun W => by have := good_any s ok W; rwa [hgs] at this
    have q1 := Sp.good_iff.1 hgs
    cases hh : t.has s.base with
    | false =>
      have hx : Hid (s.within t = false) := Lib.hid (by
        simp only [Sp.has, decide_eq_false_iff_not] at hh
        simp only [Sp.within, decide_eq_false_iff_not, Sp.good_iff]; omega)
      have hh1 : ∀ W, Calls Try.prog 58 #[.agg t.cells, .int .u64 (s.base : Int)] W (BoolRet W false) := fun W => by have := has_any t okt s.base k1 W; rwa [hh] at this
      clear hgs hh
      go_enter Try.func38, Try.ntmps38
      go_wp2_with fail
      generalize (w.alloc (.cells s.cells 24)).alloc (.cells t.cells 24) = W1 at *
      refine Flow.wp_region_flow (W1.heap.size) [] [] (by kernel_rfl) (by kernel_rfl) (Nat.le_refl _) (fun _ h => by cases h) Flow.facts_nil ?_
      refine Flow.pass_val (.agg s.cells) (Flow.met_none rfl) (fun a W hH => ?_) ?_
      · have e0 := Flow.see_old 2 hH.sees (by kernel_rfl) (by kernel_rfl) rfl
        exact reg_load 24 _ rfl e0 (hbS.drew.below hH.below hbS.lt) Try.underlying24 rfl infSpan
      refine Flow.pass_step (Reg.eqs (.bool true)) (fun _ _ => Flow.kept_eqs _ _) (Flow.met_none rfl) (fun a W hH => ?_) ?_
      · have e0 := Flow.see_new 5 0 hH.sees (by kernel_rfl) (by kernel_rfl) rfl rfl
        refine Reg.wp_call rfl Try.func57 rfl (by kernel_rfl) (by simp [Act.eval, e0]) (hg W) ?_
        rintro e w' ⟨rfl, hB⟩
        exact ⟨_, rfl, _, rfl, hB, rfl⟩
      refine Flow.pass_copy 6 1 (Flow.met_none rfl) (.inl rfl) (by kernel_rfl) (by kernel_rfl) rfl rfl (fun _ _ => Flow.kept_eqs _ _) ?_
      refine Flow.pass_val (.agg t.cells) (Flow.met_some 2 true 7 rfl rfl (by kernel_rfl) (by kernel_rfl) rfl rfl) (fun a W hH => ?_) ?_
      · have e0 := Flow.see_old 3 hH.sees (by kernel_rfl) (by kernel_rfl) rfl
        exact reg_load 24 _ rfl e0 (hbT.drew.below hH.below hbT.lt) Try.underlying24 rfl infSpan
      refine Flow.pass_val (.pointer (some ⟨w.heap.size, 0, none⟩)) (Flow.met_some 2 true 7 rfl rfl (by kernel_rfl) (by kernel_rfl) rfl rfl) (fun a W hH => ?_) ?_
      · have e0 := Flow.see_old 2 hH.sees (by kernel_rfl) (by kernel_rfl) rfl
        go_simp; first | done | rfl
      refine Flow.pass_val (.int .u64 (s.base : Int)) (Flow.met_some 2 true 7 rfl rfl (by kernel_rfl) (by kernel_rfl) rfl rfl) (fun a W hH => ?_) ?_
      · have e0 := Flow.see_new 9 4 hH.sees (by kernel_rfl) (by kernel_rfl) rfl rfl
        have cc := (sp_cells (hbS.drew.below hH.below hbS.lt)).1; go_simp
      refine Flow.pass_step (Reg.eqs (.bool false)) (fun _ _ => Flow.kept_eqs _ _) (Flow.met_some 2 true 7 rfl rfl (by kernel_rfl) (by kernel_rfl) rfl rfl) (fun a W hH => ?_) ?_
      · have e0 := Flow.see_new 8 3 hH.sees (by kernel_rfl) (by kernel_rfl) rfl rfl
        have e1 := Flow.see_new 10 5 hH.sees (by kernel_rfl) (by kernel_rfl) rfl rfl
        refine Reg.wp_call rfl Try.func58 rfl (by kernel_rfl) (by simp [Act.eval, e0, e1]) (hh1 W) ?_
        rintro e w' ⟨rfl, hB⟩
        exact ⟨_, rfl, _, rfl, hB, rfl⟩
      refine Flow.pass_val (.bool false) (Flow.met_none rfl) (fun a W hH => ?_) ?_
      · have e0 := Flow.see_new 7 2 hH.sees (by kernel_rfl) (by kernel_rfl) rfl rfl
        have e1 := Flow.see_new 11 6 hH.sees (by kernel_rfl) (by kernel_rfl) rfl rfl
        go_simp; first | done | rfl
      refine Flow.pass_copy 12 7 (Flow.met_none rfl) (.inl rfl) (by kernel_rfl) (by kernel_rfl) rfl rfl (fun _ _ => Flow.kept_eqs _ _) ?_
      refine Flow.pass_skip (fun a W hH => Flow.not_wanted 8 true 13 hH rfl rfl (by kernel_rfl) (by kernel_rfl) rfl rfl) ?_
      refine Flow.pass_skip (fun a W hH => Flow.not_wanted 8 true 13 hH rfl rfl (by kernel_rfl) (by kernel_rfl) rfl rfl) ?_
      refine Flow.pass_skip (fun a W hH => Flow.not_wanted 8 true 13 hH rfl rfl (by kernel_rfl) (by kernel_rfl) rfl rfl) ?_
      refine Flow.pass_skip (fun a W hH => Flow.not_wanted 8 true 13 hH rfl rfl (by kernel_rfl) (by kernel_rfl) rfl rfl) ?_
      refine Flow.pass_val (.bool false) (Flow.met_none rfl) (fun a W hH => ?_) ?_
      · have e0 := Flow.see_new 13 8 hH.sees (by kernel_rfl) (by kernel_rfl) rfl rfl
        have e1 := Flow.see_new 17 12 hH.sees (by kernel_rfl) (by kernel_rfl) rfl rfl
        go_simp; first | done | rfl
      refine Flow.pass_copy 18 13 (Flow.met_none rfl) (.inr rfl) (by kernel_rfl) (by kernel_rfl) rfl rfl (fun _ _ => Flow.kept_eqs _ _) ?_
      refine Flow.pass_end [none, none, none, none, some 4, some 5, some 6, some 7, some 8, some 9, some 10, some 11, some 12, some 13, some 14, some 15, some 16, some 17, some 18] (by kernel_rfl) ?_
      intro f gg w9 hB hfa hT hfg
      have h4 : f 4 = _ := (hfg 4 14 (by kernel_rfl)).trans (hT 14 _ (by kernel_rfl) rfl)
      simp only [Reg.sel, h4]
      have B9 := B1.drew.trans (hB.mono B1.size)
      clear hT hfg hfa h4
      go_wp2
      go_ret
      refine ⟨ret_bool ?_, B9⟩
      rw [hx.out]
    | true =>
      have hh1 : ∀ W, Calls Try.prog 58 #[.agg t.cells, .int .u64 (s.base : Int)] W (BoolRet W true) := fun W => by have := has_any t okt s.base k1 W; rwa [hh] at this
      obtain ⟨L, hL⟩ : ∃ L, L = s.last := ⟨_, rfl⟩
      obtain ⟨H, hH'⟩ : ∃ H, H = t.has L := ⟨_, rfl⟩
      have hlt : L < 18446744073709551616 := by rw [hL]; exact s.last_lt ok
      have hx : Hid (s.within t = H) := Lib.hid (by
        have e1 : s.last = s.base + s.size - 1 := by simp [Sp.last, hgs]
        rw [hH', hL, e1]
        simp only [Sp.has, decide_eq_true_eq] at hh
        simp only [Sp.within, Sp.has, decide_eq_decide, Sp.good_iff]; omega)
      have hl : ∀ W, Calls Try.prog 34 #[.agg s.cells] W (NatRet W L) := fun W => by have := last_any s ok W; rwa [← hL] at this
      have hh2 : ∀ W, Calls Try.prog 58 #[.agg t.cells, .int .u64 (L : Int)] W (BoolRet W H) := fun W => by have := has_any t okt L hlt W; rwa [← hH'] at this
      clear hgs hh hL hH'
      go_enter Try.func38, Try.ntmps38
      go_wp2_with fail
      generalize (w.alloc (.cells s.cells 24)).alloc (.cells t.cells 24) = W1 at *
      refine Flow.wp_region_flow (W1.heap.size) [] [] (by kernel_rfl) (by kernel_rfl) (Nat.le_refl _) (fun _ h => by cases h) Flow.facts_nil ?_
      refine Flow.pass_val (.agg s.cells) (Flow.met_none rfl) (fun a W hH => ?_) ?_
      · have e0 := Flow.see_old 2 hH.sees (by kernel_rfl) (by kernel_rfl) rfl
        exact reg_load 24 _ rfl e0 (hbS.drew.below hH.below hbS.lt) Try.underlying24 rfl infSpan
      refine Flow.pass_step (Reg.eqs (.bool true)) (fun _ _ => Flow.kept_eqs _ _) (Flow.met_none rfl) (fun a W hH => ?_) ?_
      · have e0 := Flow.see_new 5 0 hH.sees (by kernel_rfl) (by kernel_rfl) rfl rfl
        refine Reg.wp_call rfl Try.func57 rfl (by kernel_rfl) (by simp [Act.eval, e0]) (hg W) ?_
        rintro e w' ⟨rfl, hB⟩
        exact ⟨_, rfl, _, rfl, hB, rfl⟩
      refine Flow.pass_copy 6 1 (Flow.met_none rfl) (.inl rfl) (by kernel_rfl) (by kernel_rfl) rfl rfl (fun _ _ => Flow.kept_eqs _ _) ?_
      refine Flow.pass_val (.agg t.cells) (Flow.met_some 2 true 7 rfl rfl (by kernel_rfl) (by kernel_rfl) rfl rfl) (fun a W hH => ?_) ?_
      · have e0 := Flow.see_old 3 hH.sees (by kernel_rfl) (by kernel_rfl) rfl
        exact reg_load 24 _ rfl e0 (hbT.drew.below hH.below hbT.lt) Try.underlying24 rfl infSpan
      refine Flow.pass_val (.pointer (some ⟨w.heap.size, 0, none⟩)) (Flow.met_some 2 true 7 rfl rfl (by kernel_rfl) (by kernel_rfl) rfl rfl) (fun a W hH => ?_) ?_
      · have e0 := Flow.see_old 2 hH.sees (by kernel_rfl) (by kernel_rfl) rfl
        go_simp; first | done | rfl
      refine Flow.pass_val (.int .u64 (s.base : Int)) (Flow.met_some 2 true 7 rfl rfl (by kernel_rfl) (by kernel_rfl) rfl rfl) (fun a W hH => ?_) ?_
      · have e0 := Flow.see_new 9 4 hH.sees (by kernel_rfl) (by kernel_rfl) rfl rfl
        have cc := (sp_cells (hbS.drew.below hH.below hbS.lt)).1; go_simp
      refine Flow.pass_step (Reg.eqs (.bool true)) (fun _ _ => Flow.kept_eqs _ _) (Flow.met_some 2 true 7 rfl rfl (by kernel_rfl) (by kernel_rfl) rfl rfl) (fun a W hH => ?_) ?_
      · have e0 := Flow.see_new 8 3 hH.sees (by kernel_rfl) (by kernel_rfl) rfl rfl
        have e1 := Flow.see_new 10 5 hH.sees (by kernel_rfl) (by kernel_rfl) rfl rfl
        refine Reg.wp_call rfl Try.func58 rfl (by kernel_rfl) (by simp [Act.eval, e0, e1]) (hh1 W) ?_
        rintro e w' ⟨rfl, hB⟩
        exact ⟨_, rfl, _, rfl, hB, rfl⟩
      refine Flow.pass_val (.bool true) (Flow.met_none rfl) (fun a W hH => ?_) ?_
      · have e0 := Flow.see_new 7 2 hH.sees (by kernel_rfl) (by kernel_rfl) rfl rfl
        have e1 := Flow.see_new 11 6 hH.sees (by kernel_rfl) (by kernel_rfl) rfl rfl
        go_simp; first | done | rfl
      refine Flow.pass_copy 12 7 (Flow.met_none rfl) (.inl rfl) (by kernel_rfl) (by kernel_rfl) rfl rfl (fun _ _ => Flow.kept_eqs _ _) ?_
      refine Flow.pass_val (.agg t.cells) (Flow.met_some 8 true 13 rfl rfl (by kernel_rfl) (by kernel_rfl) rfl rfl) (fun a W hH => ?_) ?_
      · have e0 := Flow.see_old 3 hH.sees (by kernel_rfl) (by kernel_rfl) rfl
        exact reg_load 24 _ rfl e0 (hbT.drew.below hH.below hbT.lt) Try.underlying24 rfl infSpan
      refine Flow.pass_val (.agg s.cells) (Flow.met_some 8 true 13 rfl rfl (by kernel_rfl) (by kernel_rfl) rfl rfl) (fun a W hH => ?_) ?_
      · have e0 := Flow.see_old 2 hH.sees (by kernel_rfl) (by kernel_rfl) rfl
        exact reg_load 24 _ rfl e0 (hbS.drew.below hH.below hbS.lt) Try.underlying24 rfl infSpan
      refine Flow.pass_step (Reg.eqs (.int .u64 (L : Int))) (fun _ _ => Flow.kept_eqs _ _) (Flow.met_some 8 true 13 rfl rfl (by kernel_rfl) (by kernel_rfl) rfl rfl) (fun a W hH => ?_) ?_
      · have e0 := Flow.see_new 15 10 hH.sees (by kernel_rfl) (by kernel_rfl) rfl rfl
        refine Reg.wp_call rfl Try.func34 rfl (by kernel_rfl) (by simp [Act.eval, e0]) (hl W) ?_
        rintro e w' ⟨rfl, hB⟩
        exact ⟨_, rfl, _, rfl, hB, rfl⟩
      refine Flow.pass_step (Reg.eqs (.bool H)) (fun _ _ => Flow.kept_eqs _ _) (Flow.met_some 8 true 13 rfl rfl (by kernel_rfl) (by kernel_rfl) rfl rfl) (fun a W hH => ?_) ?_
      · have e0 := Flow.see_new 14 9 hH.sees (by kernel_rfl) (by kernel_rfl) rfl rfl
        have e1 := Flow.see_new 16 11 hH.sees (by kernel_rfl) (by kernel_rfl) rfl rfl
        refine Reg.wp_call rfl Try.func58 rfl (by kernel_rfl) (by simp [Act.eval, e0, e1]) (hh2 W) ?_
        rintro e w' ⟨rfl, hB⟩
        exact ⟨_, rfl, _, rfl, hB, rfl⟩
      refine Flow.pass_val (.bool H) (Flow.met_none rfl) (fun a W hH => ?_) ?_
      · have e0 := Flow.see_new 13 8 hH.sees (by kernel_rfl) (by kernel_rfl) rfl rfl
        have e1 := Flow.see_new 17 12 hH.sees (by kernel_rfl) (by kernel_rfl) rfl rfl
        go_simp; first | done | rfl
      refine Flow.pass_copy 18 13 (Flow.met_none rfl) (.inr rfl) (by kernel_rfl) (by kernel_rfl) rfl rfl (fun _ _ => Flow.kept_eqs _ _) ?_
      refine Flow.pass_end [none, none, none, none, some 4, some 5, some 6, some 7, some 8, some 9, some 10, some 11, some 12, some 13, some 14, some 15, some 16, some 17, some 18] (by kernel_rfl) ?_
      intro f gg w9 hB hfa hT hfg
      have h4 : f 4 = _ := (hfg 4 14 (by kernel_rfl)).trans (hT 14 _ (by kernel_rfl) rfl)
      simp only [Reg.sel, h4]
      have B9 := B1.drew.trans (hB.mono B1.size)
      clear hT hfg hfa h4
      go_wp2
      go_ret
      refine ⟨ret_bool ?_, B9⟩
      rw [hx.out]

set_option maxRecDepth 100000 in
set_option maxHeartbeats 2000000 in
theorem rwithin_any (s t : Sp) (ok : s.ok) (okt : t.ok) (w : World) : Calls Try.prog 41 #[.agg s.cells, .agg t.cells] w (BoolRet w (s.within t)) := by
  have hbS := (Blk.new w 24 s.cells).alloc (.cells t.cells 24)
  have hbT := Blk.new (w.alloc (.cells s.cells 24)) 24 t.cells
  rw [World.size_alloc] at hbT
  have B1 : Below w.heap.size w ((w.alloc (.cells s.cells 24)).alloc (.cells t.cells 24)) := ((Below.refl _ _).alloc (Nat.le_refl _) _).alloc (by simp) _
  have k1 := ok.base
  have k2 := ok.size
  have k3 := okt.base
  have k4 := okt.size
  cases hgs : s.good with
  | false =>
    have hx : Hid (s.within t = false) := Lib.hid (by simp [Sp.within, hgs])
    have hg : ∀ W, Calls Try.prog 36 #[.agg s.cells] W (BoolRet W false) := fun W => by have := rgood_any s ok W; rwa [hgs] at this
    clear hgs
    go_enter Try.func41, Try.ntmps41
    go_wp2_with fail
    generalize (w.alloc (.cells s.cells 24)).alloc (.cells t.cells 24) = W1 at *
    refine Flow.wp_region_flow (W1.heap.size) [] [] (by kernel_rfl) (by kernel_rfl) (Nat.le_refl _) (fun _ h => by cases h) Flow.facts_nil ?_
    refine Flow.pass_val (.agg s.cells) (Flow.met_none rfl) (fun a W hH => ?_) ?_
    · have e0 := Flow.see_old 2 hH.sees (by kernel_rfl) (by kernel_rfl) rfl
      exact reg_load 24 _ rfl e0 (hbS.drew.below hH.below hbS.lt) Try.underlying24 rfl infSpan
    refine Flow.pass_step (Reg.eqs (.bool false)) (fun _ _ => Flow.kept_eqs _ _) (Flow.met_none rfl) (fun a W hH => ?_) ?_
    · have e0 := Flow.see_new 5 0 hH.sees (by kernel_rfl) (by kernel_rfl) rfl rfl
      refine Reg.wp_call rfl Try.func36 rfl (by kernel_rfl) (by simp [Act.eval, e0]) (hg W) ?_
      rintro e w' ⟨rfl, hB⟩
      exact ⟨_, rfl, _, rfl, hB, rfl⟩
    refine Flow.pass_copy 6 1 (Flow.met_none rfl) (.inl rfl) (by kernel_rfl) (by kernel_rfl) rfl rfl (fun _ _ => Flow.kept_eqs _ _) ?_
    refine Flow.pass_skip (fun a W hH => Flow.not_wanted 2 true 7 hH rfl rfl (by kernel_rfl) (by kernel_rfl) rfl rfl) ?_
    refine Flow.pass_skip (fun a W hH => Flow.not_wanted 2 true 7 hH rfl rfl (by kernel_rfl) (by kernel_rfl) rfl rfl) ?_
    refine Flow.pass_val (.bool false) (Flow.met_none rfl) (fun a W hH => ?_) ?_
    · have e0 := Flow.see_new 7 2 hH.sees (by kernel_rfl) (by kernel_rfl) rfl rfl
      have e1 := Flow.see_new 9 4 hH.sees (by kernel_rfl) (by kernel_rfl) rfl rfl
      go_simp; first | done | rfl
    refine Flow.pass_copy 10 5 (Flow.met_none rfl) (.inl rfl) (by kernel_rfl) (by kernel_rfl) rfl rfl (fun _ _ => Flow.kept_eqs _ _) ?_
    refine Flow.pass_skip (fun a W hH => Flow.not_wanted 6 true 11 hH rfl rfl (by kernel_rfl) (by kernel_rfl) rfl rfl) ?_
    refine Flow.pass_skip (fun a W hH => Flow.not_wanted 6 true 11 hH rfl rfl (by kernel_rfl) (by kernel_rfl) rfl rfl) ?_
    refine Flow.pass_skip (fun a W hH => Flow.not_wanted 6 true 11 hH rfl rfl (by kernel_rfl) (by kernel_rfl) rfl rfl) ?_
    refine Flow.pass_skip (fun a W hH => Flow.not_wanted 6 true 11 hH rfl rfl (by kernel_rfl) (by kernel_rfl) rfl rfl) ?_
    refine Flow.pass_skip (fun a W hH => Flow.not_wanted 6 true 11 hH rfl rfl (by kernel_rfl) (by kernel_rfl) rfl rfl) ?_
    refine Flow.pass_val (.bool false) (Flow.met_none rfl) (fun a W hH => ?_) ?_
    · have e0 := Flow.see_new 11 6 hH.sees (by kernel_rfl) (by kernel_rfl) rfl rfl
      have e1 := Flow.see_new 16 11 hH.sees (by kernel_rfl) (by kernel_rfl) rfl rfl
      go_simp; first | done | rfl
    refine Flow.pass_copy 17 12 (Flow.met_none rfl) (.inl rfl) (by kernel_rfl) (by kernel_rfl) rfl rfl (fun _ _ => Flow.kept_eqs _ _) ?_
    refine Flow.pass_skip (fun a W hH => Flow.not_wanted 13 true 18 hH rfl rfl (by kernel_rfl) (by kernel_rfl) rfl rfl) ?_
    refine Flow.pass_skip (fun a W hH => Flow.not_wanted 13 true 18 hH rfl rfl (by kernel_rfl) (by kernel_rfl) rfl rfl) ?_
    refine Flow.pass_skip (fun a W hH => Flow.not_wanted 13 true 18 hH rfl rfl (by kernel_rfl) (by kernel_rfl) rfl rfl) ?_
    refine Flow.pass_skip (fun a W hH => Flow.not_wanted 13 true 18 hH rfl rfl (by kernel_rfl) (by kernel_rfl) rfl rfl) ?_
    refine Flow.pass_skip (fun a W hH => Flow.not_wanted 13 true 18 hH rfl rfl (by kernel_rfl) (by kernel_rfl) rfl rfl) ?_
    refine Flow.pass_val (.bool false) (Flow.met_none rfl) (fun a W hH => ?_) ?_
    · have e0 := Flow.see_new 18 13 hH.sees (by kernel_rfl) (by kernel_rfl) rfl rfl
      have e1 := Flow.see_new 23 18 hH.sees (by kernel_rfl) (by kernel_rfl) rfl rfl
      go_simp; first | done | rfl
    refine Flow.pass_copy 24 19 (Flow.met_none rfl) (.inr rfl) (by kernel_rfl) (by kernel_rfl) rfl rfl (fun _ _ => Flow.kept_eqs _ _) ?_
    refine Flow.pass_end [none, none, none, none, some 4, some 5, some 6, some 7, some 8, some 9, some 10, some 11, some 12, some 13, some 14, some 15, some 16, some 17, some 18, some 19, some 20, some 21, some 22, some 23, some 24] (by kernel_rfl) ?_
    intro f gg w9 hB hfa hT hfg
    have h4 : f 4 = _ := (hfg 4 20 (by kernel_rfl)).trans (hT 20 _ (by kernel_rfl) rfl)
    simp only [Reg.sel, h4]
    have B9 := B1.drew.trans (hB.mono B1.size)
    clear hT hfg hfa h4
    go_wp2
    go_ret
    refine ⟨ret_bool ?_, B9⟩
    rw [hx.out]
  | true =>
    have hg : ∀ W, Calls Try.prog 36 #[.agg s.cells] W (BoolRet W true) := fun W => by have := rgood_any s ok W; rwa [hgs] at this
    have q1 := Sp.good_iff.1 hgs
    cases hgt : t.good with
    | false =>
      have hx : Hid (s.within t = false) := Lib.hid (by simp [Sp.within, hgt])
      have hgT : ∀ W, Calls Try.prog 36 #[.agg t.cells] W (BoolRet W false) := fun W => by have := rgood_any t okt W; rwa [hgt] at this
      clear hgs hgt
      go_enter Try.func41, Try.ntmps41
      go_wp2_with fail
      generalize (w.alloc (.cells s.cells 24)).alloc (.cells t.cells 24) = W1 at *
      refine Flow.wp_region_flow (W1.heap.size) [] [] (by kernel_rfl) (by kernel_rfl) (Nat.le_refl _) (fun _ h => by cases h) Flow.facts_nil ?_
      refine Flow.pass_val (.agg s.cells) (Flow.met_none rfl) (fun a W hH => ?_) ?_
      · have e0 := Flow.see_old 2 hH.sees (by kernel_rfl) (by kernel_rfl) rfl
        exact reg_load 24 _ rfl e0 (hbS.drew.below hH.below hbS.lt) Try.underlying24 rfl infSpan
      refine Flow.pass_step (Reg.eqs (.bool true)) (fun _ _ => Flow.kept_eqs _ _) (Flow.met_none rfl) (fun a W hH => ?_) ?_
      · have e0 := Flow.see_new 5 0 hH.sees (by kernel_rfl) (by kernel_rfl) rfl rfl
        refine Reg.wp_call rfl Try.func36 rfl (by kernel_rfl) (by simp [Act.eval, e0]) (hg W) ?_
        rintro e w' ⟨rfl, hB⟩
        exact ⟨_, rfl, _, rfl, hB, rfl⟩
      refine Flow.pass_copy 6 1 (Flow.met_none rfl) (.inl rfl) (by kernel_rfl) (by kernel_rfl) rfl rfl (fun _ _ => Flow.kept_eqs _ _) ?_
      refine Flow.pass_val (.agg t.cells) (Flow.met_some 2 true 7 rfl rfl (by kernel_rfl) (by kernel_rfl) rfl rfl) (fun a W hH => ?_) ?_
      · have e0 := Flow.see_old 3 hH.sees (by kernel_rfl) (by kernel_rfl) rfl
        exact reg_load 24 _ rfl e0 (hbT.drew.below hH.below hbT.lt) Try.underlying24 rfl infSpan
      refine Flow.pass_step (Reg.eqs (.bool false)) (fun _ _ => Flow.kept_eqs _ _) (Flow.met_some 2 true 7 rfl rfl (by kernel_rfl) (by kernel_rfl) rfl rfl) (fun a W hH => ?_) ?_
      · have e0 := Flow.see_new 8 3 hH.sees (by kernel_rfl) (by kernel_rfl) rfl rfl
        refine Reg.wp_call rfl Try.func36 rfl (by kernel_rfl) (by simp [Act.eval, e0]) (hgT W) ?_
        rintro e w' ⟨rfl, hB⟩
        exact ⟨_, rfl, _, rfl, hB, rfl⟩
      refine Flow.pass_val (.bool false) (Flow.met_none rfl) (fun a W hH => ?_) ?_
      · have e0 := Flow.see_new 7 2 hH.sees (by kernel_rfl) (by kernel_rfl) rfl rfl
        have e1 := Flow.see_new 9 4 hH.sees (by kernel_rfl) (by kernel_rfl) rfl rfl
        go_simp; first | done | rfl
      refine Flow.pass_copy 10 5 (Flow.met_none rfl) (.inl rfl) (by kernel_rfl) (by kernel_rfl) rfl rfl (fun _ _ => Flow.kept_eqs _ _) ?_
      refine Flow.pass_skip (fun a W hH => Flow.not_wanted 6 true 11 hH rfl rfl (by kernel_rfl) (by kernel_rfl) rfl rfl) ?_
      refine Flow.pass_skip (fun a W hH => Flow.not_wanted 6 true 11 hH rfl rfl (by kernel_rfl) (by kernel_rfl) rfl rfl) ?_
      refine Flow.pass_skip (fun a W hH => Flow.not_wanted 6 true 11 hH rfl rfl (by kernel_rfl) (by kernel_rfl) rfl rfl) ?_
      refine Flow.pass_skip (fun a W hH => Flow.not_wanted 6 true 11 hH rfl rfl (by kernel_rfl) (by kernel_rfl) rfl rfl) ?_
      refine Flow.pass_skip (fun a W hH => Flow.not_wanted 6 true 11 hH rfl rfl (by kernel_rfl) (by kernel_rfl) rfl rfl) ?_
      refine Flow.pass_val (.bool false) (Flow.met_none rfl) (fun a W hH => ?_) ?_
      · have e0 := Flow.see_new 11 6 hH.sees (by kernel_rfl) (by kernel_rfl) rfl rfl
        have e1 := Flow.see_new 16 11 hH.sees (by kernel_rfl) (by kernel_rfl) rfl rfl
        go_simp; first | done | rfl
      refine Flow.pass_copy 17 12 (Flow.met_none rfl) (.inl rfl) (by kernel_rfl) (by kernel_rfl) rfl rfl (fun _ _ => Flow.kept_eqs _ _) ?_
      refine Flow.pass_skip (fun a W hH => Flow.not_wanted 13 true 18 hH rfl rfl (by kernel_rfl) (by kernel_rfl) rfl rfl) ?_
      refine Flow.pass_skip (fun a W hH => Flow.not_wanted 13 true 18 hH rfl rfl (by kernel_rfl) (by kernel_rfl) rfl rfl) ?_
      refine Flow.pass_skip (fun a W hH => Flow.not_wanted 13 true 18 hH rfl rfl (by kernel_rfl) (by kernel_rfl) rfl rfl) ?_
      refine Flow.pass_skip (fun a W hH => Flow.not_wanted 13 true 18 hH rfl rfl (by kernel_rfl) (by kernel_rfl) rfl rfl) ?_
      refine Flow.pass_skip (fun a W hH => Flow.not_wanted 13 true 18 hH rfl rfl (by kernel_rfl) (by kernel_rfl) rfl rfl) ?_
      refine Flow.pass_val (.bool false) (Flow.met_none rfl) (fun a W hH => ?_) ?_
      · have e0 := Flow.see_new 18 13 hH.sees (by kernel_rfl) (by kernel_rfl) rfl rfl
        have e1 := Flow.see_new 23 18 hH.sees (by kernel_rfl) (by kernel_rfl) rfl rfl
        go_simp; first | done | rfl
      refine Flow.pass_copy 24 19 (Flow.met_none rfl) (.inr rfl) (by kernel_rfl) (by kernel_rfl) rfl rfl (fun _ _ => Flow.kept_eqs _ _) ?_
      refine Flow.pass_end [none, none, none, none, some 4, some 5, some 6, some 7, some 8, some 9, some 10, some 11, some 12, some 13, some 14, some 15, some 16, some 17, some 18, some 19, some 20, some 21, some 22, some 23, some 24] (by kernel_rfl) ?_
      intro f gg w9 hB hfa hT hfg
      have h4 : f 4 = _ := (hfg 4 20 (by kernel_rfl)).trans (hT 20 _ (by kernel_rfl) rfl)
      simp only [Reg.sel, h4]
      have B9 := B1.drew.trans (hB.mono B1.size)
      clear hT hfg hfa h4
      go_wp2
      go_ret
      refine ⟨ret_bool ?_, B9⟩
      rw [hx.out]
    | true =>
      have hgT : ∀ W, Calls Try.prog 36 #[.agg t.cells] W (BoolRet W true) := fun W => by have := rgood_any t okt W; rwa [hgt] at this
      have q2 := Sp.good_iff.1 hgt
      by_cases hle : t.base ≤ s.base
      · obtain ⟨L1, hL1⟩ : ∃ L, L = s.last := ⟨_, rfl⟩
        obtain ⟨L2, hL2⟩ : ∃ L, L = t.last := ⟨_, rfl⟩
        have hx : Hid (s.within t = decide ((L1 : Int) ≤ (L2 : Int))) := Lib.hid (by
          have e1 : s.last = s.base + s.size - 1 := by simp [Sp.last, hgs]
          have e2 : t.last = t.base + t.size - 1 := by simp [Sp.last, hgt]
          rw [hL1, hL2, e1, e2]
          simp only [Sp.within, decide_eq_decide, Sp.good_iff]; omega)
        have hl1 : ∀ W, Calls Try.prog 40 #[.agg s.cells] W (NatRet W L1) := fun W => by have := rlast_any s ok W; rwa [← hL1] at this
        have hl2 : ∀ W, Calls Try.prog 40 #[.agg t.cells] W (NatRet W L2) := fun W => by have := rlast_any t okt W; rwa [← hL2] at this
        clear hgs hgt hL1 hL2
        go_enter Try.func41, Try.ntmps41
        go_wp2_with fail
        generalize (w.alloc (.cells s.cells 24)).alloc (.cells t.cells 24) = W1 at *
        refine Flow.wp_region_flow (W1.heap.size) [] [] (by kernel_rfl) (by kernel_rfl) (Nat.le_refl _) (fun _ h => by cases h) Flow.facts_nil ?_
        refine Flow.pass_val (.agg s.cells) (Flow.met_none rfl) (fun a W hH => ?_) ?_
        · have e0 := Flow.see_old 2 hH.sees (by kernel_rfl) (by kernel_rfl) rfl
          exact reg_load 24 _ rfl e0 (hbS.drew.below hH.below hbS.lt) Try.underlying24 rfl infSpan
        refine Flow.pass_step (Reg.eqs (.bool true)) (fun _ _ => Flow.kept_eqs _ _) (Flow.met_none rfl) (fun a W hH => ?_) ?_
        · have e0 := Flow.see_new 5 0 hH.sees (by kernel_rfl) (by kernel_rfl) rfl rfl
          refine Reg.wp_call rfl Try.func36 rfl (by kernel_rfl) (by simp [Act.eval, e0]) (hg W) ?_
          rintro e w' ⟨rfl, hB⟩
          exact ⟨_, rfl, _, rfl, hB, rfl⟩
        refine Flow.pass_copy 6 1 (Flow.met_none rfl) (.inl rfl) (by kernel_rfl) (by kernel_rfl) rfl rfl (fun _ _ => Flow.kept_eqs _ _) ?_
        refine Flow.pass_val (.agg t.cells) (Flow.met_some 2 true 7 rfl rfl (by kernel_rfl) (by kernel_rfl) rfl rfl) (fun a W hH => ?_) ?_
        · have e0 := Flow.see_old 3 hH.sees (by kernel_rfl) (by kernel_rfl) rfl
          exact reg_load 24 _ rfl e0 (hbT.drew.below hH.below hbT.lt) Try.underlying24 rfl infSpan
        refine Flow.pass_step (Reg.eqs (.bool true)) (fun _ _ => Flow.kept_eqs _ _) (Flow.met_some 2 true 7 rfl rfl (by kernel_rfl) (by kernel_rfl) rfl rfl) (fun a W hH => ?_) ?_
        · have e0 := Flow.see_new 8 3 hH.sees (by kernel_rfl) (by kernel_rfl) rfl rfl
          refine Reg.wp_call rfl Try.func36 rfl (by kernel_rfl) (by simp [Act.eval, e0]) (hgT W) ?_
          rintro e w' ⟨rfl, hB⟩
          exact ⟨_, rfl, _, rfl, hB, rfl⟩
        refine Flow.pass_val (.bool true) (Flow.met_none rfl) (fun a W hH => ?_) ?_
        · have e0 := Flow.see_new 7 2 hH.sees (by kernel_rfl) (by kernel_rfl) rfl rfl
          have e1 := Flow.see_new 9 4 hH.sees (by kernel_rfl) (by kernel_rfl) rfl rfl
          go_simp; first | done | rfl
        refine Flow.pass_copy 10 5 (Flow.met_none rfl) (.inl rfl) (by kernel_rfl) (by kernel_rfl) rfl rfl (fun _ _ => Flow.kept_eqs _ _) ?_
        refine Flow.pass_val (.pointer (some ⟨w.heap.size, 0, none⟩)) (Flow.met_some 6 true 11 rfl rfl (by kernel_rfl) (by kernel_rfl) rfl rfl) (fun a W hH => ?_) ?_
        · have e0 := Flow.see_old 2 hH.sees (by kernel_rfl) (by kernel_rfl) rfl
          go_simp; first | done | rfl
        refine Flow.pass_val (.int .u64 (s.base : Int)) (Flow.met_some 6 true 11 rfl rfl (by kernel_rfl) (by kernel_rfl) rfl rfl) (fun a W hH => ?_) ?_
        · have e0 := Flow.see_new 12 7 hH.sees (by kernel_rfl) (by kernel_rfl) rfl rfl
          have cc := (sp_cells (hbS.drew.below hH.below hbS.lt)).1; go_simp
        refine Flow.pass_val (.pointer (some ⟨(w.heap.size + 1), 0, none⟩)) (Flow.met_some 6 true 11 rfl rfl (by kernel_rfl) (by kernel_rfl) rfl rfl) (fun a W hH => ?_) ?_
        · have e0 := Flow.see_old 3 hH.sees (by kernel_rfl) (by kernel_rfl) rfl
          go_simp; first | done | rfl
        refine Flow.pass_val (.int .u64 (t.base : Int)) (Flow.met_some 6 true 11 rfl rfl (by kernel_rfl) (by kernel_rfl) rfl rfl) (fun a W hH => ?_) ?_
        · have e0 := Flow.see_new 14 9 hH.sees (by kernel_rfl) (by kernel_rfl) rfl rfl
          have cc := (sp_cells (hbT.drew.below hH.below hbT.lt)).1; go_simp
        refine Flow.pass_val (.bool true) (Flow.met_some 6 true 11 rfl rfl (by kernel_rfl) (by kernel_rfl) rfl rfl) (fun a W hH => ?_) ?_
        · have e0 := Flow.see_new 13 8 hH.sees (by kernel_rfl) (by kernel_rfl) rfl rfl
          have e1 := Flow.see_new 15 10 hH.sees (by kernel_rfl) (by kernel_rfl) rfl rfl
          go_simp; first | done | rfl | (simp; omega)
        refine Flow.pass_val (.bool true) (Flow.met_none rfl) (fun a W hH => ?_) ?_
        · have e0 := Flow.see_new 11 6 hH.sees (by kernel_rfl) (by kernel_rfl) rfl rfl
          have e1 := Flow.see_new 16 11 hH.sees (by kernel_rfl) (by kernel_rfl) rfl rfl
          go_simp; first | done | rfl
        refine Flow.pass_copy 17 12 (Flow.met_none rfl) (.inl rfl) (by kernel_rfl) (by kernel_rfl) rfl rfl (fun _ _ => Flow.kept_eqs _ _) ?_
        refine Flow.pass_val (.agg s.cells) (Flow.met_some 13 true 18 rfl rfl (by kernel_rfl) (by kernel_rfl) rfl rfl) (fun a W hH => ?_) ?_
        · have e0 := Flow.see_old 2 hH.sees (by kernel_rfl) (by kernel_rfl) rfl
          exact reg_load 24 _ rfl e0 (hbS.drew.below hH.below hbS.lt) Try.underlying24 rfl infSpan
        refine Flow.pass_step (Reg.eqs (.int .u64 (L1 : Int))) (fun _ _ => Flow.kept_eqs _ _) (Flow.met_some 13 true 18 rfl rfl (by kernel_rfl) (by kernel_rfl) rfl rfl) (fun a W hH => ?_) ?_
        · have e0 := Flow.see_new 19 14 hH.sees (by kernel_rfl) (by kernel_rfl) rfl rfl
          refine Reg.wp_call rfl Try.func40 rfl (by kernel_rfl) (by simp [Act.eval, e0]) (hl1 W) ?_
          rintro e w' ⟨rfl, hB⟩
          exact ⟨_, rfl, _, rfl, hB, rfl⟩
        refine Flow.pass_val (.agg t.cells) (Flow.met_some 13 true 18 rfl rfl (by kernel_rfl) (by kernel_rfl) rfl rfl) (fun a W hH => ?_) ?_
        · have e0 := Flow.see_old 3 hH.sees (by kernel_rfl) (by kernel_rfl) rfl
          exact reg_load 24 _ rfl e0 (hbT.drew.below hH.below hbT.lt) Try.underlying24 rfl infSpan
        refine Flow.pass_step (Reg.eqs (.int .u64 (L2 : Int))) (fun _ _ => Flow.kept_eqs _ _) (Flow.met_some 13 true 18 rfl rfl (by kernel_rfl) (by kernel_rfl) rfl rfl) (fun a W hH => ?_) ?_
        · have e0 := Flow.see_new 21 16 hH.sees (by kernel_rfl) (by kernel_rfl) rfl rfl
          refine Reg.wp_call rfl Try.func40 rfl (by kernel_rfl) (by simp [Act.eval, e0]) (hl2 W) ?_
          rintro e w' ⟨rfl, hB⟩
          exact ⟨_, rfl, _, rfl, hB, rfl⟩
        refine Flow.pass_val (.bool (decide ((L1 : Int) ≤ (L2 : Int)))) (Flow.met_some 13 true 18 rfl rfl (by kernel_rfl) (by kernel_rfl) rfl rfl) (fun a W hH => ?_) ?_
        · have e0 := Flow.see_new 20 15 hH.sees (by kernel_rfl) (by kernel_rfl) rfl rfl
          have e1 := Flow.see_new 22 17 hH.sees (by kernel_rfl) (by kernel_rfl) rfl rfl
          go_simp; first | done | rfl
        refine Flow.pass_val (.bool (decide ((L1 : Int) ≤ (L2 : Int)))) (Flow.met_none rfl) (fun a W hH => ?_) ?_
        · have e0 := Flow.see_new 18 13 hH.sees (by kernel_rfl) (by kernel_rfl) rfl rfl
          have e1 := Flow.see_new 23 18 hH.sees (by kernel_rfl) (by kernel_rfl) rfl rfl
          go_simp; first | done | rfl
        refine Flow.pass_copy 24 19 (Flow.met_none rfl) (.inr rfl) (by kernel_rfl) (by kernel_rfl) rfl rfl (fun _ _ => Flow.kept_eqs _ _) ?_
        refine Flow.pass_end [none, none, none, none, some 4, some 5, some 6, some 7, some 8, some 9, some 10, some 11, some 12, some 13, some 14, some 15, some 16, some 17, some 18, some 19, some 20, some 21, some 22, some 23, some 24] (by kernel_rfl) ?_
        intro f gg w9 hB hfa hT hfg
        have h4 : f 4 = _ := (hfg 4 20 (by kernel_rfl)).trans (hT 20 _ (by kernel_rfl) rfl)
        simp only [Reg.sel, h4]
        have B9 := B1.drew.trans (hB.mono B1.size)
        clear hT hfg hfa h4
        go_wp2
        go_ret
        refine ⟨ret_bool ?_, B9⟩
        rw [hx.out]
      · have hx : Hid (s.within t = false) := Lib.hid (by simp [Sp.within, hle])
        clear hgs hgt
        go_enter Try.func41, Try.ntmps41
        go_wp2_with fail
        generalize (w.alloc (.cells s.cells 24)).alloc (.cells t.cells 24) = W1 at *
        refine Flow.wp_region_flow (W1.heap.size) [] [] (by kernel_rfl) (by kernel_rfl) (Nat.le_refl _) (fun _ h => by cases h) Flow.facts_nil ?_
        refine Flow.pass_val (.agg s.cells) (Flow.met_none rfl) (fun a W hH => ?_) ?_
        · have e0 := Flow.see_old 2 hH.sees (by kernel_rfl) (by kernel_rfl) rfl
          exact reg_load 24 _ rfl e0 (hbS.drew.below hH.below hbS.lt) Try.underlying24 rfl infSpan
        refine Flow.pass_step (Reg.eqs (.bool true)) (fun _ _ => Flow.kept_eqs _ _) (Flow.met_none rfl) (fun a W hH => ?_) ?_
        · have e0 := Flow.see_new 5 0 hH.sees (by kernel_rfl) (by kernel_rfl) rfl rfl
          refine Reg.wp_call rfl Try.func36 rfl (by kernel_rfl) (by simp [Act.eval, e0]) (hg W) ?_
          rintro e w' ⟨rfl, hB⟩
          exact ⟨_, rfl, _, rfl, hB, rfl⟩
        refine Flow.pass_copy 6 1 (Flow.met_none rfl) (.inl rfl) (by kernel_rfl) (by kernel_rfl) rfl rfl (fun _ _ => Flow.kept_eqs _ _) ?_
        refine Flow.pass_val (.agg t.cells) (Flow.met_some 2 true 7 rfl rfl (by kernel_rfl) (by kernel_rfl) rfl rfl) (fun a W hH => ?_) ?_
        · have e0 := Flow.see_old 3 hH.sees (by kernel_rfl) (by kernel_rfl) rfl
          exact reg_load 24 _ rfl e0 (hbT.drew.below hH.below hbT.lt) Try.underlying24 rfl infSpan
        refine Flow.pass_step (Reg.eqs (.bool true)) (fun _ _ => Flow.kept_eqs _ _) (Flow.met_some 2 true 7 rfl rfl (by kernel_rfl) (by kernel_rfl) rfl rfl) (fun a W hH => ?_) ?_
        · have e0 := Flow.see_new 8 3 hH.sees (by kernel_rfl) (by kernel_rfl) rfl rfl
          refine Reg.wp_call rfl Try.func36 rfl (by kernel_rfl) (by simp [Act.eval, e0]) (hgT W) ?_
          rintro e w' ⟨rfl, hB⟩
          exact ⟨_, rfl, _, rfl, hB, rfl⟩
        refine Flow.pass_val (.bool true) (Flow.met_none rfl) (fun a W hH => ?_) ?_
        · have e0 := Flow.see_new 7 2 hH.sees (by kernel_rfl) (by kernel_rfl) rfl rfl
          have e1 := Flow.see_new 9 4 hH.sees (by kernel_rfl) (by kernel_rfl) rfl rfl
          go_simp; first | done | rfl
        refine Flow.pass_copy 10 5 (Flow.met_none rfl) (.inl rfl) (by kernel_rfl) (by kernel_rfl) rfl rfl (fun _ _ => Flow.kept_eqs _ _) ?_
        refine Flow.pass_val (.pointer (some ⟨w.heap.size, 0, none⟩)) (Flow.met_some 6 true 11 rfl rfl (by kernel_rfl) (by kernel_rfl) rfl rfl) (fun a W hH => ?_) ?_
        · have e0 := Flow.see_old 2 hH.sees (by kernel_rfl) (by kernel_rfl) rfl
          go_simp; first | done | rfl
        refine Flow.pass_val (.int .u64 (s.base : Int)) (Flow.met_some 6 true 11 rfl rfl (by kernel_rfl) (by kernel_rfl) rfl rfl) (fun a W hH => ?_) ?_
        · have e0 := Flow.see_new 12 7 hH.sees (by kernel_rfl) (by kernel_rfl) rfl rfl
          have cc := (sp_cells (hbS.drew.below hH.below hbS.lt)).1; go_simp
        refine Flow.pass_val (.pointer (some ⟨(w.heap.size + 1), 0, none⟩)) (Flow.met_some 6 true 11 rfl rfl (by kernel_rfl) (by kernel_rfl) rfl rfl) (fun a W hH => ?_) ?_
        · have e0 := Flow.see_old 3 hH.sees (by kernel_rfl) (by kernel_rfl) rfl
          go_simp; first | done | rfl
        refine Flow.pass_val (.int .u64 (t.base : Int)) (Flow.met_some 6 true 11 rfl rfl (by kernel_rfl) (by kernel_rfl) rfl rfl) (fun a W hH => ?_) ?_
        · have e0 := Flow.see_new 14 9 hH.sees (by kernel_rfl) (by kernel_rfl) rfl rfl
          have cc := (sp_cells (hbT.drew.below hH.below hbT.lt)).1; go_simp
        refine Flow.pass_val (.bool false) (Flow.met_some 6 true 11 rfl rfl (by kernel_rfl) (by kernel_rfl) rfl rfl) (fun a W hH => ?_) ?_
        · have e0 := Flow.see_new 13 8 hH.sees (by kernel_rfl) (by kernel_rfl) rfl rfl
          have e1 := Flow.see_new 15 10 hH.sees (by kernel_rfl) (by kernel_rfl) rfl rfl
          go_simp; first | done | rfl | (simp; omega)
        refine Flow.pass_val (.bool false) (Flow.met_none rfl) (fun a W hH => ?_) ?_
        · have e0 := Flow.see_new 11 6 hH.sees (by kernel_rfl) (by kernel_rfl) rfl rfl
          have e1 := Flow.see_new 16 11 hH.sees (by kernel_rfl) (by kernel_rfl) rfl rfl
          go_simp; first | done | rfl
        refine Flow.pass_copy 17 12 (Flow.met_none rfl) (.inl rfl) (by kernel_rfl) (by kernel_rfl) rfl rfl (fun _ _ => Flow.kept_eqs _ _) ?_
        refine Flow.pass_skip (fun a W hH => Flow.not_wanted 13 true 18 hH rfl rfl (by kernel_rfl) (by kernel_rfl) rfl rfl) ?_
        refine Flow.pass_skip (fun a W hH => Flow.not_wanted 13 true 18 hH rfl rfl (by kernel_rfl) (by kernel_rfl) rfl rfl) ?_
        refine Flow.pass_skip (fun a W hH => Flow.not_wanted 13 true 18 hH rfl rfl (by kernel_rfl) (by kernel_rfl) rfl rfl) ?_
        refine Flow.pass_skip (fun a W hH => Flow.not_wanted 13 true 18 hH rfl rfl (by kernel_rfl) (by kernel_rfl) rfl rfl) ?_
        refine Flow.pass_skip (fun a W hH => Flow.not_wanted 13 true 18 hH rfl rfl (by kernel_rfl) (by kernel_rfl) rfl rfl) ?_
        refine Flow.pass_val (.bool false) (Flow.met_none rfl) (fun a W hH => ?_) ?_
        · have e0 := Flow.see_new 18 13 hH.sees (by kernel_rfl) (by kernel_rfl) rfl rfl
          have e1 := Flow.see_new 23 18 hH.sees (by kernel_rfl) (by kernel_rfl) rfl rfl
          go_simp; first | done | rfl
        refine Flow.pass_copy 24 19 (Flow.met_none rfl) (.inr rfl) (by kernel_rfl) (by kernel_rfl) rfl rfl (fun _ _ => Flow.kept_eqs _ _) ?_
        refine Flow.pass_end [none, none, none, none, some 4, some 5, some 6, some 7, some 8, some 9, some 10, some 11, some 12, some 13, some 14, some 15, some 16, some 17, some 18, some 19, some 20, some 21, some 22, some 23, some 24] (by kernel_rfl) ?_
        intro f gg w9 hB hfa hT hfg
        have h4 : f 4 = _ := (hfg 4 20 (by kernel_rfl)).trans (hT 20 _ (by kernel_rfl) rfl)
        simp only [Reg.sel, h4]
        have B9 := B1.drew.trans (hB.mono B1.size)
        clear hT hfg hfa h4
        go_wp2
        go_ret
        refine ⟨ret_bool ?_, B9⟩
        rw [hx.out]
end Go.Proofs.Ytjfmgoickokbjaa
