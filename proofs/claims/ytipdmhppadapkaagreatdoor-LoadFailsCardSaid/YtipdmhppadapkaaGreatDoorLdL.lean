/-
  Walk: the law LoadChecks.
-/
import Derived.Test.YtipdmhppadapkaaGreatDoorLdK
namespace Go.Proofs.YtipdmhppadapkaaGreatDoor
open Go.RowKit Sha

theorem inf_ct : (Tryz.prog.info? 34).map (·.size) = some 2 := by kernel_rfl
theorem vDig_length (l : List UInt8) (g : Gu) (c : Ctr) : (vDig l g c).length = 32 := by
  unfold vDig
  split
  · exact (gHd_ok l g).1
  · simp [z32]

set_option maxRecDepth 100000 in
set_option maxHeartbeats 2000000 in
theorem loadChecks_walk (w : World) (hT : Tabs w) (A : Option Addr) (n k : Nat) (l : List UInt8) (hR : Rd w w.heap.size 1 A n (bcells l)) (hnk : n ≤ k) (_hk : k ≤ 9223372036854775807) (g : Gu) (ok : g.ok w w.heap.size) (c : Ctr) (_okc : c.ok) :
    Calls Tryz.prog 3 #[.slice A n k, .agg g.cells.toArray, .agg c.cells] w fun e w' => e = .returned (.bool true) ∧ Below w.heap.size w w' := by
  have hl : n = l.length := by have := hR.len; rw [bcells_length] at this; omega
  have HL := Lib.hid hl
  have HK := Lib.hid ok.key
  have hA := blk2a w (.cells c.cells 34) 31 g.cells.toArray
  have hB := blk2b w (.cells g.cells.toArray 31) 34 c.cells
  have B1 : Below w.heap.size w ((w.alloc (.cells g.cells.toArray 31)).alloc (.cells c.cells 34)) := ((Below.refl _ _).alloc (Nat.le_refl _) _).alloc (by simp) _
  clear hl
  go_enter Tryz.func3, Tryz.ntmps3
  go_wp2_with fail
  have haw := awake26 ((w.alloc (.cells g.cells.toArray 31)).alloc (.cells c.cells 34)) (hT.below B1)
  generalize (w.alloc (.cells g.cells.toArray 31)).alloc (.cells c.cells 34) = W1 at *
  refine Calls.mono haw ?_
  rintro e W2 ⟨rfl, hB2⟩
  have hA2 := hA.below hB2 hA.lt
  have hb2 := hB.below hB2 hB.lt
  have B2 := B1.trans (hB2.mono B1.size)
  have hfew := few_any26 g HK.out W2
  clear haw hA hB B1 hB2
  by_cases hbig : 20000 < n
  · have hdb : decide (20000 < (n : Int)) = true := decide_eq_true (by omega)
    go_wp2_with fail
    go_ret
    exact ⟨rfl, B2⟩
  have hdb : decide (20000 < (n : Int)) = false := decide_eq_false (by omega)
  go_wp2_with ((with_reducible refine at_load 31 ?_); refine wpList_loadAllW _ rfl 31 _ rfl w.heap.size 31 g.cells.toArray hA2 _ rfl Tryz.underlying31 rfl (by rw [List.size_toArray, g.cells_length HK.out]; exact inf_gu) ?_)
  have hn5 : n ≤ 1000000 := by omega
  have hl5 : l.length ≤ 1000000 := by rw [← HL.out]; exact hn5
  refine Calls.mono hfew ?_
  rintro e W3 ⟨rfl, hB3⟩
  have hA3 := hA2.below hB3 hA2.lt
  have hb3 := hb2.below hB3 hb2.lt
  have B3 := B2.trans (hB3.mono B2.size)
  clear hfew hA2 hb2 B2 hB3
  cases fewB g with
  | false =>
    go_wp2_with fail
    go_ret
    exact ⟨rfl, B3⟩
  | true =>
    have hB3 := hb3
    have hR3 := (hR.below B3).more B3.size
    have hT3 := hT.below B3
    have ok3 := ok.below B3 B3.size
    have hck := fun W (ok : g.ok W W.heap.size) (hT : Tabs W) f hF => lcheck_any f l hl5 g c W ok hF hT
    have hrk := fun W (ok : g.ok W W.heap.size) hR => rlcheck_any W A n k l hR hnk hn5 g c ok
    have hD := vDig_length l g c
    unfold CkRet at hck hrk
    generalize vErr l g c = E at *
    generalize vVer l g c = V at *
    generalize vDig l g c = D at *
    generalize vPay l g c = PL at *
    clear hR hT ok hb3
    go_wp2_with fail
    refine Flow.wp_region_flow (W3.heap.size) [] [] (by kernel_rfl) (by kernel_rfl) (Nat.le_refl _) (fun _ h => by cases h) Flow.facts_nil ?_
    refine Flow.pass_old (X := .slice A n k) 0 (Flow.met_none rfl) (.inl rfl) (by kernel_rfl) (by kernel_rfl) rfl ?_
    refine Flow.pass_step (fun v W => ∃ f, v = .pointer (some ⟨f, 0, none⟩) ∧ FL W f l) (Flow.kept_of (fun _ _ _ c ⟨f, h1, h2⟩ => ⟨f, h1, h2.below c.ext⟩) Flow.kz_nil) (Flow.met_none rfl) (fun a W hH => ?_) ?_
    · have e0 := Flow.see_new 17 0 hH.sees (by kernel_rfl) (by kernel_rfl) rfl rfl
      refine Reg.wp_call rfl Tryz.func11 rfl (by kernel_rfl) (by simp [Act.eval, e0]) (burn_any A n k l hn5 W ((hR3.below ((Below.refl W3.heap.size W3).drew.trans hH.below)).more hH.below.size)) ?_
      rintro e w' ⟨f, rfl, h1, h2, hB⟩
      exact ⟨_, rfl, _, rfl, hB, f, rfl, h2⟩
    refine Flow.pass_val (.agg g.cells.toArray) (Flow.met_none rfl) (fun a W hH => ?_) ?_
    · have e0 := Flow.see_old 4 hH.sees (by kernel_rfl) (by kernel_rfl) rfl
      exact reg_load 31 _ rfl e0 (hA3.below ((Below.refl W3.heap.size W3).drew.trans hH.below) hA3.lt) Tryz.underlying31 rfl (by rw [List.size_toArray, g.cells_length HK.out]; exact inf_gu)
    refine Flow.pass_val (.agg c.cells) (Flow.met_none rfl) (fun a W hH => ?_) ?_
    · have e0 := Flow.see_old 5 hH.sees (by kernel_rfl) (by kernel_rfl) rfl
      exact reg_load 34 _ rfl e0 (hB3.below ((Below.refl W3.heap.size W3).drew.trans hH.below) hB3.lt) Tryz.underlying34 rfl inf_ct
    refine Flow.pass_step (fun v W => ∃ A k, v = .agg (vdCells E V D A PL.length k).toArray ∧ (PL.length ≤ k ∧ Rd W W.heap.size 1 A PL.length (bcells PL))) (Flow.kept_of (fun _ _ _ c ⟨A, k, h1, h2, h3⟩ => ⟨A, k, h1, h2, h3.ext c.ext⟩) Flow.kz_nil) (Flow.met_none rfl) (fun a W hH => ?_) ?_
    · obtain ⟨f0, e0, q0⟩ := Flow.see_up 18 1 hH.sees (by kernel_rfl) (by kernel_rfl) rfl rfl
      have e1 := Flow.see_new 19 2 hH.sees (by kernel_rfl) (by kernel_rfl) rfl rfl
      have e2 := Flow.see_new 20 3 hH.sees (by kernel_rfl) (by kernel_rfl) rfl rfl
      refine Reg.wp_call rfl Tryz.func10 rfl (by kernel_rfl) (by simp [Act.eval, e0, e1, e2]) (hck W (ok3.below ((Below.refl W3.heap.size W3).drew.trans hH.below) hH.below.size) (hT3.below ((Below.refl W3.heap.size W3).drew.trans hH.below)) f0 q0) ?_
      rintro e w' ⟨A, k, rfl, h1, h2, hB⟩
      exact ⟨_, rfl, _, rfl, hB, A, k, rfl, h1, h2⟩
    refine Flow.pass_old (X := .slice A n k) 0 (Flow.met_none rfl) (.inl rfl) (by kernel_rfl) (by kernel_rfl) rfl ?_
    refine Flow.pass_val (.agg g.cells.toArray) (Flow.met_none rfl) (fun a W hH => ?_) ?_
    · have e0 := Flow.see_old 4 hH.sees (by kernel_rfl) (by kernel_rfl) rfl
      exact reg_load 31 _ rfl e0 (hA3.below ((Below.refl W3.heap.size W3).drew.trans hH.below) hA3.lt) Tryz.underlying31 rfl (by rw [List.size_toArray, g.cells_length HK.out]; exact inf_gu)
    refine Flow.pass_val (.agg c.cells) (Flow.met_none rfl) (fun a W hH => ?_) ?_
    · have e0 := Flow.see_old 5 hH.sees (by kernel_rfl) (by kernel_rfl) rfl
      exact reg_load 34 _ rfl e0 (hB3.below ((Below.refl W3.heap.size W3).drew.trans hH.below) hB3.lt) Tryz.underlying34 rfl inf_ct
    refine Flow.pass_step (fun v W => ∃ A k, v = .agg (vdCells E V D A PL.length k).toArray ∧ (PL.length ≤ k ∧ Rd W W.heap.size 1 A PL.length (bcells PL))) (Flow.kept_of (fun _ _ _ c ⟨A, k, h1, h2, h3⟩ => ⟨A, k, h1, h2, h3.ext c.ext⟩) Flow.kz_nil) (Flow.met_none rfl) (fun a W hH => ?_) ?_
    · have e0 := Flow.see_new 22 5 hH.sees (by kernel_rfl) (by kernel_rfl) rfl rfl
      have e1 := Flow.see_new 23 6 hH.sees (by kernel_rfl) (by kernel_rfl) rfl rfl
      have e2 := Flow.see_new 24 7 hH.sees (by kernel_rfl) (by kernel_rfl) rfl rfl
      refine Reg.wp_call rfl Tryz.func12 rfl (by kernel_rfl) (by simp [Act.eval, e0, e1, e2]) (hrk W (ok3.below ((Below.refl W3.heap.size W3).drew.trans hH.below) hH.below.size) ((hR3.below ((Below.refl W3.heap.size W3).drew.trans hH.below)).more hH.below.size)) ?_
      rintro e w' ⟨A, k, rfl, h1, h2, hB⟩
      exact ⟨_, rfl, _, rfl, hB, A, k, rfl, h1, h2⟩
    refine Flow.pass_step (Reg.eqs (.bool true)) (fun _ _ => Flow.kept_eqs _ _) (Flow.met_none rfl) (fun a W hH => ?_) ?_
    · obtain ⟨A0, k0, e0, q0⟩ := Flow.see_up 21 4 hH.sees (by kernel_rfl) (by kernel_rfl) rfl rfl
      obtain ⟨A1, k1, e1, q1⟩ := Flow.see_up 25 8 hH.sees (by kernel_rfl) (by kernel_rfl) rfl rfl
      refine Reg.wp_call rfl Tryz.func9 rfl (by kernel_rfl) (by simp [Act.eval, e0, e1]) (svd_any E V D PL hD A0 A1 PL.length k0 k1 W q0.2 q1.2) ?_
      rintro e w' ⟨rfl, hB⟩
      exact ⟨_, rfl, _, rfl, hB, rfl⟩
    refine Flow.pass_copy 26 9 (Flow.met_none rfl) (.inr rfl) (by kernel_rfl) (by kernel_rfl) rfl rfl (fun _ _ => Flow.kept_eqs _ _) ?_
    refine Flow.pass_end [none, none, none, none, none, none, some 6, none, none, none, none, none, none, none, none, none, none, some 17, some 18, some 19, some 20, some 21, some 22, some 23, some 24, some 25, some 26] (by kernel_rfl) ?_
    intro f gg w9 hB hfa hT hfg
    have h6 : f 6 = _ := (hfg 6 10 (by kernel_rfl)).trans (hT 10 _ (by kernel_rfl) rfl)
    have B9 := B3.trans ((Below.refl W3.heap.size W3).drew.trans hB |>.mono B3.size)
    simp only [Reg.sel, h6]
    clear hT hfg hfa hB hck hrk
    go_wp2
    go_ret
    exact ⟨rfl, B9⟩
end Go.Proofs.YtipdmhppadapkaaGreatDoor
