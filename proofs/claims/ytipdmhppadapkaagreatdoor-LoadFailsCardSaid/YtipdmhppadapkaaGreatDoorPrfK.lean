/-
  Walk: portreeveref04.Msg.
-/
import Derived.Test.YtipdmhppadapkaaGreatDoorPrfJ
namespace Go.Proofs.YtipdmhppadapkaaGreatDoor
open Go.RowKit Sha

set_option maxRecDepth 100000 in
set_option maxHeartbeats 2000000 in
theorem rmsg_any (r ro : List UInt8) (hr : r.length = 32) (hro : ro.length = 32) (q : Nat) (hq : q < 4294967296) (A : Option Addr) (n c : Nat) (m : List UInt8) (w : World) (hR : Rd w w.heap.size 1 A n (bcells m)) (hn : n ≤ 500) :
    Calls Tryz.prog 45 #[.agg (bcells r).toArray, .agg (bcells ro).toArray, .int .u32 (q : Int), .slice A n c] w fun e w' => e = .returned (.agg (bcells (msgH r ro q m)).toArray) ∧ Below w.heap.size w w' := by
  have hz := zeroNode
  have hwr : IntKind.u64.wrap (q : Int) = (q : Int) := IntWalk.u64_in _ (by omega)
  obtain ⟨S, hS⟩ : ∃ S, S = msgH r ro q m := ⟨_, rfl⟩
  rw [← hS]
  have HSl : Hid (S.length = 32) := Lib.hid (by rw [hS]; exact keyed_length _ _)
  have hSe : Hid (keyed 2 ([] ++ r ++ ro ++ List.replicate 28 0 ++ putNum q 4 false ++ m) = S) := Lib.hid (by rw [hS]; rfl)
  have hA0 := (((Blk.new w 39 (bcells r).toArray).alloc (.cells (bcells ro).toArray 39)).alloc (.cells zn 39))
  have hC0 := (blk_new1 w (.cells (bcells r).toArray 39) 39 (bcells ro).toArray).alloc (.cells zn 39)
  have hN := blk_new2 w (.cells (bcells r).toArray 39) (.cells (bcells ro).toArray 39) 39 zn
  have hBw0 : Below w.heap.size w (((w.alloc (.cells (bcells r).toArray 39)).alloc (.cells (bcells ro).toArray 39)).alloc (.cells zn 39)) := (((Below.refl _ _).alloc (Nat.le_refl _) _).alloc (by simp) _).alloc (by simp; omega) _
  go_enter Tryz.func45, Tryz.ntmps45
  go_wp2_with fail
  generalize ((w.alloc (.cells (bcells r).toArray 39)).alloc (.cells (bcells ro).toArray 39)).alloc (.cells zn 39) = W0 at *
  have hsz : w.heap.size + 3 ≤ W0.drew.heap.size := hN.lt
  have hA : Rd W0.drew (w.heap.size + 3) 1 (some ⟨w.heap.size, 0, none⟩) 32 (bcells r) := (hA0.drew.rdB 32 (by simp [bcells_length, hr]) (by omega))
  have hC : Rd W0.drew (w.heap.size + 3) 1 (some ⟨w.heap.size + 1, 0, none⟩) 32 (bcells ro) := (hC0.drew.rdB 32 (by simp [bcells_length, hro]) (by omega))
  clear hS hz hA0 hC0
  refine Flow.wp_region_flow (w.heap.size + 3) [(3, fun b => w.heap.size + 3 ≤ b)] [] (by kernel_rfl) (by kernel_rfl) hsz (Flow.nz_cons (fun b h => h) Flow.nz_nil) Flow.facts_nil ?_
  refine Flow.pass_val (.slice (some ⟨w.heap.size, 0, none⟩) 32 32) (Flow.met_none rfl) (fun a W hH => ?_) ?_
  · have e0 := Flow.see_old 4 hH.sees (by kernel_rfl) (by kernel_rfl) rfl
    go_simp; first | done | rfl
  refine Flow.pass_linlist [3] (fun v W => ∃ A c, v = .slice A (0 + 32) c ∧ W.ownsRow (w.heap.size + 3) 5 1 (.slice A (0 + 32) c) (0 + 32) (bcells ([] ++ r))) (Flow.kept_lin [3] (fun _ _ _ c ⟨A, k, h1, h2⟩ => ⟨A, k, h1, own_chg h2 c (fun _ _ => id)⟩) (Flow.lz_cons (fun _ => .inl rfl) Flow.lz_nil)) (Flow.met_none rfl) (fun a W hH => ?_) ?_
  · have e0 := Flow.see_new 10 0 hH.sees (by kernel_rfl) (by kernel_rfl) rfl rfl
    refine wpList_app W el8 rfl _ _ rfl (w.heap.size + 3) none 0 0 _ (by simp [Act.eval]) (own_nil _ _ _ _) (w.heap.size + 3) (some ⟨w.heap.size, 0, none⟩) 32 32 (bcells r) (by simpa [Act.eval] using e0) (hA.below hH.below) (bcells_one r) (by omega) (by omega) (Nat.le_trans hsz hH.below.size) ?_
    intro A' c' W2 hO2 hg hB _
    exact Flow.qq_nil ⟨_, rfl, Chg.of_ext (Chg.grown (Z := fun _ => False) hg (by rintro j h; cases h)).ext, A', c', rfl, hO2⟩
  refine Flow.pass_val (.slice (some ⟨w.heap.size + 1, 0, none⟩) 32 32) (Flow.met_none rfl) (fun a W hH => ?_) ?_
  · have e0 := Flow.see_old 5 hH.sees (by kernel_rfl) (by kernel_rfl) rfl
    go_simp; first | done | rfl
  refine Flow.pass_list (fun v W => ∃ A c, v = .slice A (0 + 32 + 32) c ∧ W.ownsRow (w.heap.size + 3) 5 1 (.slice A (0 + 32 + 32) c) (0 + 32 + 32) (bcells ([] ++ r ++ ro))) (Flow.kept_of (fun _ _ _ c ⟨A, k, h1, h2⟩ => ⟨A, k, h1, own_chg h2 c (fun _ _ => id)⟩) (Flow.kz_cons (Flow.no_follow (by kernel_rfl)) Flow.kz_nil)) (Flow.met_none rfl) (fun a W hH => ?_) ?_
  · obtain ⟨A0, c0, e0, q0⟩ := Flow.see_lin 11 1 hH.sees (by kernel_rfl) (by kernel_rfl) rfl rfl (by kernel_rfl)
    have e1 := Flow.see_new 12 2 hH.sees (by kernel_rfl) (by kernel_rfl) rfl rfl
    refine wpList_app W el8 rfl _ _ rfl (w.heap.size + 3) A0 (0 + 32) c0 _ (by simpa [Act.eval] using e0) q0 (w.heap.size + 3) (some ⟨w.heap.size + 1, 0, none⟩) 32 32 (bcells ro) (by simpa [Act.eval] using e1) (hC.below hH.below) (bcells_one ro) (by omega) (by omega) (Nat.le_trans hsz hH.below.size) ?_
    intro A' c' W2 hO2 hg hB _
    exact Flow.qq_nil ⟨_, rfl, Chg.of_below hB (fun k hk _ => hk), A', c', rfl, by rw [bcells_append]; exact hO2⟩
  refine Flow.pass_copy 13 3 (Flow.met_none rfl) (.inr rfl) (by kernel_rfl) (by kernel_rfl) rfl rfl (Flow.kept_of (fun _ _ _ c ⟨A, k, h1, h2⟩ => ⟨A, k, h1, own_chg h2 c (fun _ _ => id)⟩) (Flow.kz_cons (Flow.no_follow (by kernel_rfl)) Flow.kz_nil)) ?_
  refine Flow.pass_end [none, none, none, none, none, none, none, none, none, some 9, some 10, some 11, some 12, some 13, none, none, none, none, none, none, none, none, none] (by kernel_rfl) ?_
  intro f gg w9 hB hfa hT hfg
  obtain ⟨A9, c9, h9, g9⟩ := hT 4 _ (by kernel_rfl) rfl
  rw [← hfg 9 4 (by kernel_rfl)] at h9
  have hN9 := hN.drew.below hB (by omega)
  have hBw9 := hBw0.drew.trans (hB.mono (by omega))
  have hR9 := hR.below hBw9
  have hs9 : w.heap.size + 3 ≤ w9.heap.size := Nat.le_trans hsz hB.size
  clear hfa hT hfg hB hBw0 hN hR hA hC
  simp only [Reg.sel, h9]
  go_wp2_with (at_builtin; refine wpList_appMake w9 el8 rfl _ _ 3 .i64 .i64 rfl rfl (w.heap.size + 3) A9 (0 + 32 + 32) c9 _ rfl g9 (by omega) 28 rfl (by omega) (by rw [zeros28]; exact bcells_one _) (by omega) (by omega) hs9 ?_; intro A1 c1 w1 hO1 hg1 hB1)
  rw [zeros28, ← bcells_append] at hO1
  have hN1 := hN9.below hB1 (by omega)
  have hR1 := hR9.below (hB1.mono (by omega))
  have hBw1 := hBw9.trans (hB1.mono (by omega))
  have hs1 : w.heap.size + 3 ≤ w1.heap.size := Nat.le_trans hs9 hB1.size
  clear g9 h9 hg1 hB1 hN9 hR9 hBw9
  refine (rput_any A1 (0 + 32 + 32 + 28) c1 false _ w1 q 4 (Rd.of_own hO1) (by omega) (by omega)).mono ?_
  rintro e w2 ⟨A2, c2, rfl, hO2, hB2⟩
  have hN2 := hN1.below hB2 hN1.lt
  have hR2 := hR1.below (hB2.mono (by omega))
  have hBw2 := hBw1.trans (hB2.mono hBw1.size)
  have hs2 := hB2.size
  clear hO1 hB2 hN1 hR1 hBw1
  go_wp2_with (at_builtin; refine wpList_app w2 el8 rfl _ _ rfl w1.heap.size A2 (0 + 32 + 32 + 28 + 4) c2 _ rfl hO2 w.heap.size A n c _ rfl hR2 (bcells_one m) (by omega) (by omega) hs2 ?_; intro A3 c3 w3 hO3 hg3 hB3 _)
  rw [← bcells_append] at hO3
  have hN3 := hN2.below hB3 (by omega)
  have hBw3 := hBw2.trans (hB3.mono (by omega))
  clear hO2 hR2 hg3 hB3 hN2 hBw2
  refine (rkeyed_any 2 (by decide) A3 (0 + 32 + 32 + 28 + 4 + n) c3 _ w3 (Rd.of_own hO3) (by omega)).mono ?_
  rintro e w4 ⟨rfl, hB4⟩
  rw [hSe.out]
  have hN4 := hN3.below hB4 hN3.lt
  have hBw4 := hBw3.trans (hB4.mono hBw3.size)
  clear hO3 hB4 hN3 hBw3
  go_wp2_with ((with_reducible refine at_store 39 ?_); refine wpList_storeAll _ rfl 39 _ _ rfl (w.heap.size + 2) 39 _ (bcells S).toArray hN4 rfl rfl (by rw [List.size_toArray, bcells_length, HSl.out]; kernel_rfl) (by rw [List.size_toArray, bcells_length, HSl.out]; kernel_rfl) (fun v hv => bcells_one _ v (by simpa using hv)) ?_; intro w5 h5 hg5 hs5)
  refine bodyPost_ret (results_cell_row rfl _ _ (w.heap.size + 2) _ _ _ _ rfl h5 Tryz.underlying39 rfl (by rw [List.size_toArray, bcells_length, HSl.out]; kernel_rfl)) rfl ⟨rfl, ?_⟩
  exact grown_below hBw4 hg5 hBw4.size (by omega)
end Go.Proofs.YtipdmhppadapkaaGreatDoor
