/-
  Walk: the law LtreeLeaves.
-/
import Derived.Test.YtgfdjfglfipjfaaDoorBH
namespace Go.Proofs.YtgfdjfglfipjfaaDoor
open Go.RowKit Sha

set_option maxRecDepth 100000 in
set_option maxHeartbeats 2000000 in
theorem ltreeLeaves_walk (w : World) (hT : Tabs w) (A : Option Addr) (n c : Nat) (ns : List (List UInt8)) (hn0 : n = ns.length) (hcc : n ≤ c) (hR : Rd w w.heap.size 32 A n (ncells ns)) (h32 : ∀ x ∈ ns, x.length = 32)
    (sd : List UInt8) (hsd : sd.length = 32) (leaf : Int) (wl : (Lit.int .u32 leaf).wf = true) :
    Calls Tryd.prog 3 #[.slice A n c, .agg (bcells sd).toArray, .int .u32 leaf] w fun e w' => e = .returned (.bool true) ∧ Below w.heap.size w w' := by
  obtain ⟨leaf, hleaf, rfl⟩ := u32_nat wl
  clear wl
  have hn := Lib.hid hn0
  have hn32 := Lib.hid h32
  have sdL := Lib.hid hsd
  obtain ⟨S, hS⟩ : ∃ S, S = ltLeaf sd leaf ns := ⟨_, rfl⟩
  have HSl : Hid (S.length = 32) := Lib.hid (by rw [hS]; exact ltLeaf_length _ _ _ h32)
  have HS := Lib.hid hS
  clear hn0 h32 hsd hS
  have hb_sd := Blk.new w 24 (bcells sd).toArray
  have B0 : Below w.heap.size w (w.alloc (.cells (bcells sd).toArray 24)) := (Below.refl _ _).alloc (Nat.le_refl _) _
  have hT0 := hT.alloc (.cells (bcells sd).toArray 24)
  go_enter Tryd.func3, Tryd.ntmps3
  go_wp2_with fail
  generalize w.alloc (.cells (bcells sd).toArray 24) = W0 at *
  refine (awake07 W0 hT0).mono ?_
  rintro e W1 ⟨rfl, hB1⟩
  have hb_sd := hb_sd.below hB1 hb_sd.lt
  have hT1 := hT0.below hB1
  have B1 := B0.trans (hB1.mono B0.size)
  have hR1 := ((hR.below B1).more B1.size).drew
  clear B0 hB1 hT hT0 hR
  by_cases h70 : n ≤ 70
  · have h70' : ¬ (70 : Int) < (n : Int) := by omega
    go_wp2_with fail
    refine Flow.wp_region_flow (W1.drew.heap.size) [] [] (by kernel_rfl) (by kernel_rfl) (Nat.le_refl _) (fun _ h => by cases h) Flow.facts_nil ?_
    refine Flow.pass_old 0 (Flow.met_none rfl) (.inl rfl) (by kernel_rfl) (by kernel_rfl) rfl ?_
    refine Flow.pass_val (.int .i64 (n : Nat)) (Flow.met_none rfl) (fun a W hH => ?_) ?_
    · have e0 := Flow.see_new 9 0 hH.sees (by kernel_rfl) (by kernel_rfl) rfl rfl
      go_simp; first | done | rfl
    refine Flow.pass_val ((.bool false)) (Flow.met_none rfl) (fun a W hH => ?_) ?_
    · have e0 := Flow.see_new 10 1 hH.sees (by kernel_rfl) (by kernel_rfl) rfl rfl
      go_simp; first | done | rfl
    refine Flow.pass_copy 11 2 (Flow.met_none rfl) (.inl rfl) (by kernel_rfl) (by kernel_rfl) rfl rfl (fun _ _ => Flow.kept_eqs _ _) ?_
    refine Flow.pass_old 0 (Flow.met_some 3 false 12 rfl rfl (by kernel_rfl) (by kernel_rfl) rfl rfl) (.inl rfl) (by kernel_rfl) (by kernel_rfl) rfl ?_
    refine Flow.pass_val (.agg (bcells sd).toArray) (Flow.met_some 3 false 12 rfl rfl (by kernel_rfl) (by kernel_rfl) rfl rfl) (fun a W hH => ?_) ?_
    · have e0 := Flow.see_old 4 hH.sees (by kernel_rfl) (by kernel_rfl) rfl
      exact reg_load 24 _ rfl e0 (hb_sd.drew.below hH.below hb_sd.lt) Tryd.underlying24 rfl (by rw [List.size_toArray, bcells_length, sdL.out]; exact infNode)
    refine Flow.pass_old 2 (Flow.met_some 3 false 12 rfl rfl (by kernel_rfl) (by kernel_rfl) rfl rfl) (.inl rfl) (by kernel_rfl) (by kernel_rfl) rfl ?_
    refine Flow.pass_step (Reg.eqs (.agg (bcells S).toArray)) (fun _ _ => Flow.kept_eqs _ _) (Flow.met_some 3 false 12 rfl rfl (by kernel_rfl) (by kernel_rfl) rfl rfl) (fun a W hH => ?_) ?_
    · have e0 := Flow.see_new 13 4 hH.sees (by kernel_rfl) (by kernel_rfl) rfl rfl
      have e1 := Flow.see_new 14 5 hH.sees (by kernel_rfl) (by kernel_rfl) rfl rfl
      have e2 := Flow.see_new 15 6 hH.sees (by kernel_rfl) (by kernel_rfl) rfl rfl
      refine Reg.wp_call rfl Tryd.func12 rfl (by kernel_rfl) (by simp [Act.eval, e0, e1, e2]) (mleaf_any sd sdL.out leaf A n c ns hn.out hn32.out hcc W ((hR1.below hH.below).more hH.below.size) (hT1.drew.under hH.below hT1.rounds.lt hT1.first.lt)) ?_
      rintro e w' ⟨rfl, hB⟩
      rw [← HS.out]
      exact ⟨_, rfl, _, rfl, hB, rfl⟩
    refine Flow.pass_old 0 (Flow.met_some 3 false 12 rfl rfl (by kernel_rfl) (by kernel_rfl) rfl rfl) (.inl rfl) (by kernel_rfl) (by kernel_rfl) rfl ?_
    refine Flow.pass_val (.agg (bcells sd).toArray) (Flow.met_some 3 false 12 rfl rfl (by kernel_rfl) (by kernel_rfl) rfl rfl) (fun a W hH => ?_) ?_
    · have e0 := Flow.see_old 4 hH.sees (by kernel_rfl) (by kernel_rfl) rfl
      exact reg_load 24 _ rfl e0 (hb_sd.drew.below hH.below hb_sd.lt) Tryd.underlying24 rfl (by rw [List.size_toArray, bcells_length, sdL.out]; exact infNode)
    refine Flow.pass_old 2 (Flow.met_some 3 false 12 rfl rfl (by kernel_rfl) (by kernel_rfl) rfl rfl) (.inl rfl) (by kernel_rfl) (by kernel_rfl) rfl ?_
    refine Flow.pass_step (Reg.eqs (.agg (bcells S).toArray)) (fun _ _ => Flow.kept_eqs _ _) (Flow.met_some 3 false 12 rfl rfl (by kernel_rfl) (by kernel_rfl) rfl rfl) (fun a W hH => ?_) ?_
    · have e0 := Flow.see_new 17 8 hH.sees (by kernel_rfl) (by kernel_rfl) rfl rfl
      have e1 := Flow.see_new 18 9 hH.sees (by kernel_rfl) (by kernel_rfl) rfl rfl
      have e2 := Flow.see_new 19 10 hH.sees (by kernel_rfl) (by kernel_rfl) rfl rfl
      refine Reg.wp_call rfl Tryd.func13 rfl (by kernel_rfl) (by simp [Act.eval, e0, e1, e2]) (rleaf_any sd sdL.out leaf hleaf A n c ns hn.out hn32.out W ((hR1.below hH.below).more hH.below.size)) ?_
      rintro e w' ⟨rfl, hB⟩
      rw [← HS.out]
      exact ⟨_, rfl, _, rfl, hB, rfl⟩
    refine Flow.pass_val ((.bool true)) (Flow.met_some 3 false 12 rfl rfl (by kernel_rfl) (by kernel_rfl) rfl rfl) (fun a W hH => ?_) ?_
    · have e0 := Flow.see_new 16 7 hH.sees (by kernel_rfl) (by kernel_rfl) rfl rfl
      have e1 := Flow.see_new 20 11 hH.sees (by kernel_rfl) (by kernel_rfl) rfl rfl
      exact reg_eqlT rfl (by simpa [Act.eval] using e0) (by simpa [Act.eval] using e1) nodeGuard (by have hne := nodeEq S S HSl.out HSl.out W; rw [beq_self_eq_true] at hne; exact hne)
    refine Flow.pass_val ((.bool true)) (Flow.met_none rfl) (fun a W hH => ?_) ?_
    · have e0 := Flow.see_new 12 3 hH.sees (by kernel_rfl) (by kernel_rfl) rfl rfl
      have e1 := Flow.see_new 21 12 hH.sees (by kernel_rfl) (by kernel_rfl) rfl rfl
      go_simp; first | done | rfl
    refine Flow.pass_copy 22 13 (Flow.met_none rfl) (.inr rfl) (by kernel_rfl) (by kernel_rfl) rfl rfl (fun _ _ => Flow.kept_eqs _ _) ?_
    refine Flow.pass_end [none, none, none, none, none, none, some 6, none, none, some 9, some 10, some 11, some 12, some 13, some 14, some 15, some 16, some 17, some 18, some 19, some 20, some 21, some 22] (by kernel_rfl) ?_
    intro f gg w9 hB hfa hT hfg
    have h6 : f 6 = _ := (hfg 6 14 (by kernel_rfl)).trans (hT 14 _ (by kernel_rfl) rfl)
    have B9 := B1.drew.trans (hB.mono B1.drew.size)
    clear hfa hT hfg hB
    simp only [Reg.sel, h6]
    go_wp2
    go_ret
    exact ⟨rfl, B9⟩
  · have h70' : (70 : Int) < (n : Int) := by omega
    go_wp2_with fail
    refine Flow.wp_region_flow (W1.drew.heap.size) [] [] (by kernel_rfl) (by kernel_rfl) (Nat.le_refl _) (fun _ h => by cases h) Flow.facts_nil ?_
    refine Flow.pass_old 0 (Flow.met_none rfl) (.inl rfl) (by kernel_rfl) (by kernel_rfl) rfl ?_
    refine Flow.pass_val (.int .i64 (n : Nat)) (Flow.met_none rfl) (fun a W hH => ?_) ?_
    · have e0 := Flow.see_new 9 0 hH.sees (by kernel_rfl) (by kernel_rfl) rfl rfl
      go_simp; first | done | rfl
    refine Flow.pass_val ((.bool true)) (Flow.met_none rfl) (fun a W hH => ?_) ?_
    · have e0 := Flow.see_new 10 1 hH.sees (by kernel_rfl) (by kernel_rfl) rfl rfl
      go_simp; first | done | rfl
    refine Flow.pass_copy 11 2 (Flow.met_none rfl) (.inl rfl) (by kernel_rfl) (by kernel_rfl) rfl rfl (fun _ _ => Flow.kept_eqs _ _) ?_
    refine Flow.pass_skip (fun a W hH => Flow.not_wanted 3 false 12 hH rfl rfl (by kernel_rfl) (by kernel_rfl) rfl rfl) ?_
    refine Flow.pass_skip (fun a W hH => Flow.not_wanted 3 false 12 hH rfl rfl (by kernel_rfl) (by kernel_rfl) rfl rfl) ?_
    refine Flow.pass_skip (fun a W hH => Flow.not_wanted 3 false 12 hH rfl rfl (by kernel_rfl) (by kernel_rfl) rfl rfl) ?_
    refine Flow.pass_skip (fun a W hH => Flow.not_wanted 3 false 12 hH rfl rfl (by kernel_rfl) (by kernel_rfl) rfl rfl) ?_
    refine Flow.pass_skip (fun a W hH => Flow.not_wanted 3 false 12 hH rfl rfl (by kernel_rfl) (by kernel_rfl) rfl rfl) ?_
    refine Flow.pass_skip (fun a W hH => Flow.not_wanted 3 false 12 hH rfl rfl (by kernel_rfl) (by kernel_rfl) rfl rfl) ?_
    refine Flow.pass_skip (fun a W hH => Flow.not_wanted 3 false 12 hH rfl rfl (by kernel_rfl) (by kernel_rfl) rfl rfl) ?_
    refine Flow.pass_skip (fun a W hH => Flow.not_wanted 3 false 12 hH rfl rfl (by kernel_rfl) (by kernel_rfl) rfl rfl) ?_
    refine Flow.pass_skip (fun a W hH => Flow.not_wanted 3 false 12 hH rfl rfl (by kernel_rfl) (by kernel_rfl) rfl rfl) ?_
    refine Flow.pass_val ((.bool true)) (Flow.met_none rfl) (fun a W hH => ?_) ?_
    · have e0 := Flow.see_new 12 3 hH.sees (by kernel_rfl) (by kernel_rfl) rfl rfl
      have e1 := Flow.see_new 21 12 hH.sees (by kernel_rfl) (by kernel_rfl) rfl rfl
      go_simp; first | done | rfl
    refine Flow.pass_copy 22 13 (Flow.met_none rfl) (.inr rfl) (by kernel_rfl) (by kernel_rfl) rfl rfl (fun _ _ => Flow.kept_eqs _ _) ?_
    refine Flow.pass_end [none, none, none, none, none, none, some 6, none, none, some 9, some 10, some 11, some 12, some 13, some 14, some 15, some 16, some 17, some 18, some 19, some 20, some 21, some 22] (by kernel_rfl) ?_
    intro f gg w9 hB hfa hT hfg
    have h6 : f 6 = _ := (hfg 6 14 (by kernel_rfl)).trans (hT 14 _ (by kernel_rfl) rfl)
    have B9 := B1.drew.trans (hB.mono B1.drew.size)
    clear hfa hT hfg hB
    simp only [Reg.sel, h6]
    go_wp2
    go_ret
    exact ⟨rfl, B9⟩
end Go.Proofs.YtgfdjfglfipjfaaDoor
