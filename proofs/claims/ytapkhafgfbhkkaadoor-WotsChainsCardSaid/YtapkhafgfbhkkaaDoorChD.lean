/-
  Walk: portreeveref04.Chain.
-/
import Derived.Test.YtapkhafgfbhkkaaDoorChC
namespace Go.Proofs.YtapkhafgfbhkkaaDoor
open Go.RowKit Sha

set_option maxRecDepth 100000 in
set_option maxHeartbeats 4000000 in
theorem rchain_any (nd sd : List UInt8) (hnd : nd.length = 32) (hsd : sd.length = 32) (leaf : Nat) (hleaf : leaf < 4294967296) (f k c : Nat) (hfk : f + k ≤ 15) (hc : c ≤ 66) (w : World) :
    Calls Tryd.prog 31 #[.agg (bcells nd).toArray, .int .i64 (f : Int), .int .i64 (k : Int), .agg (bcells sd).toArray, .int .u32 (leaf : Int), .int .i64 (c : Int)] w fun e w' =>
      e = .returned (.agg (bcells (chainN sd leaf c f k nd)).toArray) ∧ Below w.heap.size w w' := by
  have hz := zeroNode
  have hwr : IntKind.u32.wrap (c : Int) = (c : Int) := IntWalk.u32_in _ (by omega)
  have h1 : ¬ ((f : Int) < 0) := by omega
  have h2 : ¬ ((k : Int) < 0) := by omega
  have h3 : ¬ (15 < (f : Int)) := by omega
  have h4 : ¬ (15 - (f : Int) < (k : Int)) := by omega
  have h5 : ¬ ((c : Int) < 0) := by omega
  have h6 : ¬ (66 < (c : Int)) := by omega
  have hsub : IntKind.i64.wrap (15 - (f : Int)) = 15 - (f : Int) := by rw [IntKind.wrap_i64]; omega
  have hfk1 : IntKind.i64.wrap ((f : Int) + (k : Int)) = (f : Int) + (k : Int) := by rw [IntKind.wrap_i64]; omega
  have sL := Lib.hid hsd
  have nL := Lib.hid hnd
  clear hsd hnd
  have hb_n := ((Blk.new w 27 (bcells nd).toArray).alloc (.cells (bcells sd).toArray 27)).alloc (.cells zn 27)
  have hb_s := (blk_new1 w (.cells (bcells nd).toArray 27) 27 (bcells sd).toArray).alloc (.cells zn 27)
  have hN := blk_new2 w (.cells (bcells nd).toArray 27) (.cells (bcells sd).toArray 27) 27 zn
  have hBw0 : Below w.heap.size w (((w.alloc (.cells (bcells nd).toArray 27)).alloc (.cells (bcells sd).toArray 27)).alloc (.cells zn 27)) := (((Below.refl _ _).alloc (Nat.le_refl _) _).alloc (by simp) _).alloc (by simp; omega) _
  go_enter Tryd.func31, Tryd.ntmps31
  go_wp2_with fail
  generalize ((w.alloc (.cells (bcells nd).toArray 27)).alloc (.cells (bcells sd).toArray 27)).alloc (.cells zn 27) = W0 at *
  clear h1 h2 h3 h4 h5 h6 hsub
  go_loopw [13] (fun i wr => ∃ j : Nat, j ≤ k ∧ i = .int .i64 ((f + j : Nat) : Int) ∧ Blk wr w.heap.size 27 (bcells (chainN sd leaf c f j nd)).toArray ∧ Blk wr (w.heap.size + 1) 27 (bcells sd).toArray ∧ Blk wr (w.heap.size + 2) 27 zn ∧ Below w.heap.size w wr) (fun i _ => f + k - (intOf i).toNat)
  case atStart => exact ⟨0, by omega, rfl, hb_n, hb_s, hN, hBw0⟩
  case round =>
    clear hb_n hb_s hN hBw0
    obtain ⟨j, hj, rfl, hA, hD, hN, hB⟩ := hrel
    obtain ⟨X, hX⟩ : ∃ X, X = chainN sd leaf c f j nd := ⟨_, rfl⟩
    rw [← hX] at hA
    have HXl : Hid (X.length = 32) := Lib.hid (by rw [hX]; exact chainN_length _ _ _ _ _ nL.out j)
    have HX := Lib.hid hX
    clear hX
    by_cases hlt : j < k
    · obtain ⟨q, hq⟩ : ∃ q, q = f + j := ⟨_, rfl⟩
      rw [← hq]
      have hqk : (q : Int) < (f : Int) + (k : Int) := by omega
      have hwq : IntKind.u32.wrap (q : Int) = (q : Int) := IntWalk.u32_in _ (by omega)
      have hq15 : q ≤ 15 := by omega
      have Hq := Lib.hid hq
      clear hq
      go_wp2_with (first
        | ((with_reducible refine at_load 27 ?_); fail)
        | ((with_reducible refine at_load 27 ?_); refine wpList_loadAll _ rfl 27 _ rfl (w.heap.size + 1) 27 (bcells sd).toArray (hD.alloc _) _ rfl Tryd.underlying27 rfl (by rw [List.size_toArray, bcells_length, sL.out]; kernel_rfl) ?_))
      have hx0 : Blk (wr.alloc (.cells (otsAd leaf c q).cells 40)) wr.heap.size 40 (otsAd leaf c q).cells := Blk.new _ _ _
      have hA1 := hA.alloc (.cells (otsAd leaf c q).cells 40)
      have hD1 := hD.alloc (.cells (otsAd leaf c q).cells 40)
      have hN1 := hN.alloc (.cells (otsAd leaf c q).cells 40)
      have hB1 : Below w.heap.size w (wr.alloc (.cells (otsAd leaf c q).cells 40)) := hB.alloc hB.size _
      have hlt1 : w.heap.size + 2 < wr.heap.size := hN.lt
      obtain ⟨K0, hK0⟩ : ∃ K, K = prfH sd (otsAd leaf c q) := ⟨_, rfl⟩
      have HK0l : Hid (K0.length = 32) := Lib.hid (by rw [hK0]; exact keyed_length _ _)
      have HK0 := Lib.hid hK0
      clear hK0 hA hD hN hB
      refine (rprf_any sd sL.out (otsAd leaf c q) (wr.alloc (.cells (otsAd leaf c q).cells 40)) (otsAd_ok hleaf (by omega) (by omega))).mono ?_
      rintro e w5 ⟨rfl, hB5⟩
      rw [← HK0.out]
      have hx5 := hx0.below hB5 hx0.lt
      have hA5 := hA1.below hB5 hA1.lt
      have hD5 := hD1.below hB5 hD1.lt
      have hN5 := hN1.below hB5 hN1.lt
      have hBr := hB1.trans (hB5.mono hB1.size)
      have hgx : wr.heap.size < w5.heap.size := hx5.lt
      clear hx0 hA1 hD1 hN1 hB1 hB5
      generalize wr.heap.size = gx at *
      go_wp2_with ((with_reducible refine at_store 27 ?_); refine wpList_storeAll _ rfl 27 _ _ rfl w5.heap.size 27 _ (bcells K0).toArray (Blk.new w5 27 zn) rfl rfl (by rw [List.size_toArray, bcells_length, HK0l.out]; kernel_rfl) (by rw [List.size_toArray, bcells_length, HK0l.out]; kernel_rfl) (fun v hv => bcells_one _ v (by simpa using hv)) ?_; intro w6 hk6 hg6 hs6; have hC6 : Chg (fun b => b = w5.heap.size) w5 w6 := ((Chg.refl _ w5).alloc _).trans (Chg.grown hg6 (by rintro j h; cases h; rfl)); have hx6 := hx5.chg hC6 (show ¬ gx = w5.heap.size by omega); have hf6 := hx6.frozen 6; have hc6 : World.cell? w6 ⟨gx, 6, none⟩ = some (.int .u32 ((otsAd leaf c q).mask : Int)) := (hx6.cell 6).trans rfl)
      have hok1 : (Ad.withMask (otsAd leaf c q) 1).ok := Ad.ok_mask (otsAd_ok hleaf (by omega) (by omega)) 1 (by omega)
      have hA6 := hA5.chg hC6 (show ¬ _ = w5.heap.size by omega)
      have hD6 := hD5.chg hC6 (show ¬ _ = w5.heap.size by omega)
      have hN6 := hN5.chg hC6 (show ¬ _ = w5.heap.size by omega)
      have hB6 : Below w.heap.size w w6 := hBr.trans (hC6.below (fun b hb => by have hb : b = w5.heap.size := hb; omega) (by omega))
      have hgk : gx < w5.heap.size := hgx
      generalize w5.heap.size = gk at *
      have hx7 : Blk (World.setCell w6 ⟨gx, 6, none⟩ (.int .u32 1)).drew gx 40 (Ad.withMask (otsAd leaf c q) 1).cells := (hx6.set_ 6 _).drew
      have hA7 := (hA6.far (p := ⟨gx, 6, none⟩) (show w.heap.size ≠ gx by omega) (.int .u32 1)).drew
      have hD7 := (hD6.far (p := ⟨gx, 6, none⟩) (show w.heap.size + 1 ≠ gx by omega) (.int .u32 1)).drew
      have hN7 := (hN6.far (p := ⟨gx, 6, none⟩) (show w.heap.size + 2 ≠ gx by omega) (.int .u32 1)).drew
      have hk7 := (hk6.far (p := ⟨gx, 6, none⟩) (show gk ≠ gx by omega) (.int .u32 1)).drew
      have hB7 := (hB6.setCell (p := ⟨gx, 6, none⟩) (show w.heap.size ≤ gx by omega) (.int .u32 1))
      obtain ⟨K1, hK1⟩ : ∃ K, K = prfH sd (Ad.withMask (otsAd leaf c q) 1) := ⟨_, rfl⟩
      obtain ⟨X1, hX1⟩ : ∃ K, K = xorL X K1 := ⟨_, rfl⟩
      obtain ⟨S, hS⟩ : ∃ K, K = fH K0 X1 := ⟨_, rfl⟩
      have HK1l : Hid (K1.length = 32) := Lib.hid (by rw [hK1]; exact keyed_length _ _)
      have HX1l : Hid (X1.length = 32) := Lib.hid (by rw [hX1]; exact xorL_length _ _ HXl.out HK1l.out)
      have HSl : Hid (S.length = 32) := Lib.hid (by rw [hS]; exact keyed_length _ _)
      have HC := Lib.hid (show chainN sd leaf c f (j + 1) nd = S by rw [hS, hX1, hK1, HK0.out, HX.out, Hq.out]; rfl)
      have HK1 := Lib.hid hK1
      have HX1 := Lib.hid hX1
      have HS := Lib.hid hS
      clear hK1 hX1 hS hC6 hg6 hs6 hf6 hc6 hx6 hk6 hA6 hD6 hN6 hB6 hx5 hA5 hD5 hN5 hBr
      have hsz : w.heap.size ≤ (World.setCell w6 ⟨gx, 6, none⟩ (.int .u32 1)).drew.heap.size := hB7.size
      generalize World.setCell w6 ⟨gx, 6, none⟩ (.int .u32 1) = V at *
      refine Flow.wp_region_flow (w.heap.size) [(7, fun b => b = w.heap.size)] [(0, fun W => Blk W gk 27 ((bcells K0).toArray)), (1, fun W => Blk W w.heap.size 27 ((bcells X).toArray)), (2, fun W => Blk W (w.heap.size + 1) 27 ((bcells sd).toArray)), (3, fun W => Blk W gx 40 ((Ad.withMask (otsAd leaf c q) 1).cells)), (7, fun W => Blk W w.heap.size 27 ((bcells X).toArray)), (8, fun W => Blk W (w.heap.size + 1) 27 ((bcells sd).toArray)), (8, fun W => Blk W (w.heap.size + 2) 27 (zn))] (by kernel_rfl) (by kernel_rfl) hsz (Flow.nz_cons (by rintro b rfl; exact Nat.le_refl _) Flow.nz_nil) (Flow.facts_cons (hk7) (Flow.kept_blk id) (Flow.fz_cons (Flow.no_follow (by kernel_rfl)) Flow.fz_nil) (Flow.facts_cons (hA7) (Flow.kept_blk id) (Flow.fz_cons (Flow.no_follow (by kernel_rfl)) Flow.fz_nil) (Flow.facts_cons (hD7) (Flow.kept_blk id) (Flow.fz_cons (Flow.no_follow (by kernel_rfl)) Flow.fz_nil) (Flow.facts_cons (hx7) (Flow.kept_blk id) (Flow.fz_cons (Flow.no_follow (by kernel_rfl)) Flow.fz_nil) (Flow.facts_cons (hA7) (Flow.kept_blk id) (Flow.fz_cons (Flow.no_follow (by kernel_rfl)) Flow.fz_nil) (Flow.facts_cons (hD7) (Flow.kept_blk id) (Flow.fz_cons (fun _ => Flow.kept_blk (by first | assumption | (show ¬ _ = _; first | assumption | omega | (simp; omega)) | (show ¬ (_ ≤ _); omega))) Flow.fz_nil) (Flow.facts_cons (hN7) (Flow.kept_blk id) (Flow.fz_cons (fun _ => Flow.kept_blk (by first | assumption | (show ¬ _ = _; first | assumption | omega | (simp; omega)) | (show ¬ (_ ≤ _); omega))) Flow.fz_nil) Flow.facts_nil))))))) ?_
      refine Flow.pass_val (.agg (bcells K0).toArray) (Flow.met_none rfl) (fun a W hH => ?_) ?_
      · have e0 := Flow.see_old 15 hH.sees (by kernel_rfl) (by kernel_rfl) rfl
        have fa0 : (fun W => Blk W gk 27 ((bcells K0).toArray)) W := hH.fact _ (List.mem_of_getElem? (i := 0) rfl) rfl
        exact reg_load 27 _ rfl e0 fa0 Tryd.underlying27 rfl (by rw [List.size_toArray, bcells_length, HK0l.out]; exact infNode)
      refine Flow.pass_val (.agg (bcells X).toArray) (Flow.met_none rfl) (fun a W hH => ?_) ?_
      · have e0 := Flow.see_old 6 hH.sees (by kernel_rfl) (by kernel_rfl) rfl
        have fa1 : (fun W => Blk W w.heap.size 27 ((bcells X).toArray)) W := hH.fact _ (List.mem_of_getElem? (i := 1) rfl) rfl
        exact reg_load 27 _ rfl e0 fa1 Tryd.underlying27 rfl (by rw [List.size_toArray, bcells_length, HXl.out]; exact infNode)
      refine Flow.pass_val (.agg (bcells sd).toArray) (Flow.met_none rfl) (fun a W hH => ?_) ?_
      · have e0 := Flow.see_old 9 hH.sees (by kernel_rfl) (by kernel_rfl) rfl
        have fa2 : (fun W => Blk W (w.heap.size + 1) 27 ((bcells sd).toArray)) W := hH.fact _ (List.mem_of_getElem? (i := 2) rfl) rfl
        exact reg_load 27 _ rfl e0 fa2 Tryd.underlying27 rfl (by rw [List.size_toArray, bcells_length, sL.out]; exact infNode)
      refine Flow.pass_val (.agg (Ad.withMask (otsAd leaf c q) 1).cells) (Flow.met_none rfl) (fun a W hH => ?_) ?_
      · have e0 := Flow.see_old 14 hH.sees (by kernel_rfl) (by kernel_rfl) rfl
        have fa3 : (fun W => Blk W gx 40 ((Ad.withMask (otsAd leaf c q) 1).cells)) W := hH.fact _ (List.mem_of_getElem? (i := 3) rfl) rfl
        exact reg_load 40 _ rfl e0 fa3 Tryd.underlying40 rfl (by exact infAdrs)
      refine Flow.pass_step (Reg.eqs (.agg (bcells K1).toArray)) (fun _ _ => Flow.kept_eqs _ _) (Flow.met_none rfl) (fun a W hH => ?_) ?_
      · have e0 := Flow.see_new 61 2 hH.sees (by kernel_rfl) (by kernel_rfl) rfl rfl
        have e1 := Flow.see_new 62 3 hH.sees (by kernel_rfl) (by kernel_rfl) rfl rfl
        refine Reg.wp_call rfl Tryd.func26 rfl (by kernel_rfl) (by simp [Act.eval, e0, e1]) (rprf_any sd sL.out (Ad.withMask (otsAd leaf c q) 1) W hok1) ?_
        rintro e w' ⟨rfl, hB⟩
        rw [← HK1.out]
        exact ⟨_, rfl, _, rfl, hB, rfl⟩
      refine Flow.pass_step (Reg.eqs (.agg (bcells X1).toArray)) (fun _ _ => Flow.kept_eqs _ _) (Flow.met_none rfl) (fun a W hH => ?_) ?_
      · have e0 := Flow.see_new 60 1 hH.sees (by kernel_rfl) (by kernel_rfl) rfl rfl
        have e1 := Flow.see_new 63 4 hH.sees (by kernel_rfl) (by kernel_rfl) rfl rfl
        refine Reg.wp_call rfl Tryd.func24 rfl (by kernel_rfl) (by simp [Act.eval, e0, e1]) (rxor_any X K1 HXl.out HK1l.out W) ?_
        rintro e w' ⟨rfl, hB⟩
        rw [← HX1.out]
        exact ⟨_, rfl, _, rfl, hB, rfl⟩
      refine Flow.pass_step (Reg.eqs (.agg (bcells S).toArray)) (fun _ _ => Flow.kept_eqs _ _) (Flow.met_none rfl) (fun a W hH => ?_) ?_
      · have e0 := Flow.see_new 59 0 hH.sees (by kernel_rfl) (by kernel_rfl) rfl rfl
        have e1 := Flow.see_new 64 5 hH.sees (by kernel_rfl) (by kernel_rfl) rfl rfl
        refine Reg.wp_call rfl Tryd.func18 rfl (by kernel_rfl) (by simp [Act.eval, e0, e1]) (rf_any K0 X1 HK0l.out HX1l.out W) ?_
        rintro e w' ⟨rfl, hB⟩
        rw [← HS.out]
        exact ⟨_, rfl, _, rfl, hB, rfl⟩
      refine Flow.pass_list (fun _ W => Blk W w.heap.size 27 (bcells S).toArray) (Flow.kept_of (fun _ _ _ c h => h.chg c id) (Flow.kz_cons (Flow.no_follow (by kernel_rfl)) Flow.kz_nil)) (Flow.met_none rfl) (fun a W hH => ?_) ?_
      · have e0 := Flow.see_old 6 hH.sees (by kernel_rfl) (by kernel_rfl) rfl
        have e1 := Flow.see_new 65 6 hH.sees (by kernel_rfl) (by kernel_rfl) rfl rfl
        have fa4 : (fun W => Blk W w.heap.size 27 ((bcells X).toArray)) W := hH.fact _ (List.mem_of_getElem? (i := 4) rfl) rfl
        refine wpList_storeAll W rfl 27 _ _ rfl w.heap.size 27 _ (bcells S).toArray fa4 (by simpa [Act.eval] using e0) (by simpa [Act.eval] using e1) (by rw [List.size_toArray, List.size_toArray, bcells_length, bcells_length, HSl.out, HXl.out]) (by rw [List.size_toArray, bcells_length, HSl.out]; kernel_rfl) (fun v hv => bcells_one _ v (by simpa using hv)) ?_
        intro W2 h2 hg _
        exact Flow.qq_nil ⟨_, rfl, Chg.grown hg (by rintro k h; cases h; rfl), h2⟩
      refine Flow.pass_end [none, none, none, none, none, none, none, none, none, none, none, none, none, none, none, none, none, none, none, none, none, none, none, none, none, none, none, none, none, none, none, none, none, none, none, none, none, none, none, none, none, none, none, none, none, none, none, none, none, none, none, none, none, none, none, none, none, none, none, some 59, some 60, some 61, some 62, some 63, some 64, some 65, none] (by kernel_rfl) ?_
      intro f gg w9 hB hfa hT hfg
      have F5 : (fun W => Blk W (w.heap.size + 1) 27 ((bcells sd).toArray)) w9 := hfa _ (List.mem_of_getElem? (i := 5) rfl) (Nat.le_refl _)
      have F6 : (fun W => Blk W (w.heap.size + 2) 27 (zn)) w9 := hfa _ (List.mem_of_getElem? (i := 6) rfl) (Nat.le_refl _)
      have h4 := hT 7 _ (by kernel_rfl) rfl
      have hBw := hB7.drew.trans hB
      clear hfa hT hfg hB hB7 hx7 hA7 hD7 hN7 hk7
      simp only [Reg.sel]
      have hwi : IntKind.i64.wrap ((q : Int) + 1) = (q : Int) + 1 := by rw [IntKind.wrap_i64]; omega
      have hq := Hq.out
      go_wp2_with fail
      go_roundw
      case rel => exact ⟨j + 1, by omega, by first | go_num | (simp only [Value.int.injEq, true_and]; omega), by rw [HC.out]; exact h4, F5, F6, hBw⟩
      case measure => simp [intOf]; omega
    · obtain rfl : j = k := by omega
      have hend : ¬ (((f + j : Nat) : Int) < (f : Int) + (j : Int)) := by omega
      go_wp2_with (first
        | ((with_reducible refine at_load 27 ?_); refine wpList_loadAll _ rfl 27 _ rfl w.heap.size 27 (bcells X).toArray hA _ rfl Tryd.underlying27 rfl (by rw [List.size_toArray, bcells_length, HXl.out]; kernel_rfl) ?_)
        | ((with_reducible refine at_store 27 ?_); refine wpList_storeAll _ rfl 27 _ _ rfl (w.heap.size + 2) 27 _ (bcells X).toArray hN rfl rfl (by rw [List.size_toArray, bcells_length, HXl.out]; kernel_rfl) (by rw [List.size_toArray, bcells_length, HXl.out]; kernel_rfl) (fun v hv => bcells_one _ v (by simpa using hv)) ?_; intro w5 h5 hg5 hs5))
      refine bodyPost_ret (results_cell_row rfl _ _ (w.heap.size + 2) _ _ _ _ rfl h5 Tryd.underlying27 rfl (by rw [List.size_toArray, bcells_length, HXl.out]; kernel_rfl)) rfl ⟨by rw [HX.out], ?_⟩
      exact grown_below hB hg5 hB.size (by omega)

set_option maxRecDepth 100000 in
set_option maxHeartbeats 4000000 in
theorem rchain_bad (nd sd : List UInt8) (leaf : Int) (f k c : Int) (hbad : badC f k c) (w : World) :
    Calls Tryd.prog 31 #[.agg (bcells nd).toArray, .int .i64 f, .int .i64 k, .agg (bcells sd).toArray, .int .u32 leaf, .int .i64 c] w fun e w' =>
      e = .returned (.agg zn) ∧ Below w.heap.size w w' := by
  have hz := zeroNode
  have hN := blk_new2 w (.cells (bcells nd).toArray 27) (.cells (bcells sd).toArray 27) 27 zn
  have hBw0 : Below w.heap.size w (((w.alloc (.cells (bcells nd).toArray 27)).alloc (.cells (bcells sd).toArray 27)).alloc (.cells zn 27)) := (((Below.refl _ _).alloc (Nat.le_refl _) _).alloc (by simp) _).alloc (by simp; omega) _
  have hzs : Hid (zn.size = 32) := Lib.hid (by kernel_rfl)
  have hone : Hid (∀ v ∈ zn.toList, v.oneCell' = true) := Lib.hid (fun v hv => bcells_one znode v (by simpa [zn] using hv))
  unfold badC at hbad
  by_cases a1 : f < 0
  case' neg => by_cases a2 : k < 0
  case' neg => by_cases a3 : 15 < f
  case' neg =>
    have hsub : IntKind.i64.wrap (15 - f) = 15 - f := by rw [IntKind.wrap_i64]; omega
    by_cases a4 : 15 - f < k
  case' neg => by_cases a5 : c < 0
  case' neg => have a6 : 66 < c := by omega
  all_goals
    clear hbad
    go_enter Tryd.func31, Tryd.ntmps31
    go_wp2_with ((with_reducible refine at_store 27 ?_); refine wpList_storeAll _ rfl 27 _ _ rfl (w.heap.size + 2) 27 _ zn hN rfl rfl rfl (by rw [hzs.out]; exact infNode) hone.out ?_; intro w5 h5 hg5 hs5)
    refine bodyPost_ret (results_cell_row rfl _ _ (w.heap.size + 2) _ _ _ _ rfl h5 Tryd.underlying27 rfl (by rw [hzs.out]; exact infNode)) rfl ⟨rfl, ?_⟩
    exact grown_below hBw0 hg5 hBw0.size (by omega)
end Go.Proofs.YtapkhafgfbhkkaaDoor
