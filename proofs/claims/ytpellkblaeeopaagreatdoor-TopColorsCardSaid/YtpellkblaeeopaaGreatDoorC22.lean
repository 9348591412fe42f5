/-
  Parts: GeK GeF.
-/
import Derived.Test.YtpellkblaeeopaaGreatDoorC20
import Derived.Test.YtpellkblaeeopaaGreatDoorC21
import Derived.Recover
import Derived.Test.YtpellkblaeeopaaGreatDoorC19
import Derived.Test.YtpellkblaeeopaaGreatDoorC17
/-
  Walks for awake35: cfg.Put$1, cfg.caught, cfg.Put.
-/
namespace Go.Proofs.YtpellkblaeeopaaGreatDoor
open Go.RowKit

set_option maxRecDepth 100000 in
set_option maxHeartbeats 8000000 in
theorem put1_any (w w0 : World) (g CB PB B bs bc b1 b2 b3 b4 b5 b6 : Nat) (hp : PSw w g 0 0 w0) (hcb : Blk w0 CB 55 (cfgC bs bc)) (hpb : Blk w0 PB 168 #[.pointer (some ⟨g, 0, none⟩)])
    (hgs : GsB B w0 bs b1 b2 b3 b4 b5 b6) (hch : Blk w0 bc 115 chC) :
    Calls Tryz.prog 72 #[.pointer (some ⟨CB, 0, none⟩), .pointer (some ⟨PB, 0, none⟩)] w0 fun e w' => e = .returned (.tuple #[]) ∧ PSw w g 0 8000 w' ∧ KpT g w0 w' := by
  have hn : ∀ b t cs, t ≠ 170 → Blk w0 b t cs → b ≠ g := fun b t cs ht hb e => by
    obtain ⟨l, _, _, A, c, h, _⟩ := hp.ex
    subst e
    unfold Blk at h hb
    rw [h] at hb
    injection hb with hb
    injection hb with _ hb
    exact ht hb.symm
  have hcg : CB ≠ g := hn _ _ _ (by decide) hcb
  have hpg : PB ≠ g := hn _ _ _ (by decide) hpb
  have hbg : bs ≠ g := hn _ _ _ (by decide) hgs.hs
  have hbcg : bc ≠ g := hn _ _ _ (by decide) hch
  have hn1 : b1 ≠ g := hn _ _ _ (by decide) hgs.h1
  have hn2 : b2 ≠ g := hn _ _ _ (by decide) hgs.h2
  have hn3 : b3 ≠ g := hn _ _ _ (by decide) hgs.h3
  have hn4 : b4 ≠ g := hn _ _ _ (by decide) hgs.h4
  have hn5 : b5 ≠ g := hn _ _ _ (by decide) hgs.h5
  have hn6 : b6 ≠ g := hn _ _ _ (by decide) hgs.h6
  obtain ⟨gA, hgA⟩ : ∃ gA, gA = gstC ⟨#[111, 110, 101]⟩ 1 b1 b2 b3 := ⟨_, rfl⟩
  obtain ⟨gB, hgB⟩ : ∃ gB, gB = gstC ⟨#[116, 119, 111]⟩ 2 b4 b5 b6 := ⟨_, rfl⟩
  have hA : GC gA ⟨#[111, 110, 101]⟩ 1 b1 b2 b3 := hgA ▸ GC.of _ _ _ _ _
  have hB : GC gB ⟨#[116, 119, 111]⟩ 2 b4 b5 b6 := hgB ▸ GC.of _ _ _ _ _
  have hs := hgs.hs
  rw [← hgA, ← hgB] at hs
  clear hgA hgB hn
  have hk0 := KpT.refl g w0
  have hps := hp
  clear hp
  have cc1 := (hcb.cell 1).trans (show (cfgC bs bc)[1]? = some (Value.slice (some ⟨bs, 0, none⟩) 2 2) from rfl)
  have cc2 := (hcb.cell 2).trans (show (cfgC bs bc)[2]? = some (Value.slice (some ⟨bc, 0, none⟩) 1 1) from rfl)
  go_enter Tryz.func72, Tryz.ntmps72
  go_wp2_with fail
  refine (must_any _ _ _).mono ?_
  rintro e w0' ⟨rfl, rfl⟩
  clear cc1 cc2
  obtain ⟨W0, rfl⟩ : ∃ V, V = w0' := ⟨_, rfl⟩
  have cp := (hpb.cell 0).trans (show (#[Value.pointer (some ⟨g, 0, none⟩)] : Array Value)[0]? = some (.pointer (some ⟨g, 0, none⟩)) from rfl)
  go_wp2_with ((with_reducible refine at_buildSlice 119 ?_); refine wpList_bsO W0 rfl rfl #[(0, .int .u32 1111705159)] _ (by simp [Act.eval]) (run_n1 elU32 W0 1111705159) ?_; intro U0 x0 hEU0 hxx0 hbx0)
  refine (four_ws w g 0 0 x0 1 [1111705159] rfl (by omega) U0 (hps.ext hEU0) (by omega) hbx0).mono ?_
  rintro e W1 ⟨rfl, hpsW1, hKW1⟩
  have hkW1 := (KpT.of_ext hEU0 (Nat.le_of_lt hps.lt)).trans hKW1
  replace hcb := hkW1.blk CB _ _ (by decide) hcg hcb
  replace hpb := hkW1.blk PB _ _ (by decide) hpg hpb
  replace hs := hkW1.blk bs _ _ (by decide) hbg hs
  replace hch := hkW1.blk bc _ _ (by decide) hbcg hch
  replace hk0 := hk0.trans hkW1
  replace hps : PSw w g 0 100 W1 := hpsW1
  clear hEU0 hxx0 hbx0 hpsW1 hKW1 hkW1
  have cp := (hpb.cell 0).trans (show (#[Value.pointer (some ⟨g, 0, none⟩)] : Array Value)[0]? = some (.pointer (some ⟨g, 0, none⟩)) from rfl)
  have cc1 := (hcb.cell 1).trans (show (cfgC bs bc)[1]? = some (Value.slice (some ⟨bs, 0, none⟩) 2 2) from rfl)
  have cc2 := (hcb.cell 2).trans (show (cfgC bs bc)[2]? = some (Value.slice (some ⟨bc, 0, none⟩) 1 1) from rfl)
  go_wp2_with ((with_reducible refine at_buildSlice 207 ?_); refine wpList_bsO W1 rfl rfl #[(0, .int .i64 1), (1, .int .i64 2), (2, .int .i64 1), (3, .int .i64 0)] _ (by simp [Act.eval]) (run_n4 elI64 W1 1 2 1 0) ?_; intro U1 x1 hEU1 hxx1 hbx1)
  refine (two_ws w g 0 100 x1 4 [1, 2, 1, 0] rfl (by omega) (by decide) U1 (hps.ext hEU1) (by omega) hbx1).mono ?_
  rintro e W2 ⟨rfl, hpsW2, hKW2⟩
  have hkW2 := (KpT.of_ext hEU1 (Nat.le_of_lt hps.lt)).trans hKW2
  replace hcb := hkW2.blk CB _ _ (by decide) hcg hcb
  replace hpb := hkW2.blk PB _ _ (by decide) hpg hpb
  replace hs := hkW2.blk bs _ _ (by decide) hbg hs
  replace hch := hkW2.blk bc _ _ (by decide) hbcg hch
  replace hk0 := hk0.trans hkW2
  clear cp cc1 cc2
  replace hps : PSw w g 0 200 W2 := hpsW2
  clear hEU1 hxx1 hbx1 hpsW2 hKW2 hkW2
  have cp := (hpb.cell 0).trans (show (#[Value.pointer (some ⟨g, 0, none⟩)] : Array Value)[0]? = some (.pointer (some ⟨g, 0, none⟩)) from rfl)
  have cc0 := (hcb.cell 0).trans (show (cfgC bs bc)[0]? = some (Value.int .u32 1) from rfl)
  go_wp2_with ((with_reducible refine at_buildSlice 119 ?_); refine wpList_bsO W2 rfl rfl #[(0, .int .u32 1)] _ (by simp [Act.eval]) (run_n1 elU32 W2 1) ?_; intro U2 x2 hEU2 hxx2 hbx2)
  refine (four_ws w g 0 200 x2 1 [1] rfl (by omega) U2 (hps.ext hEU2) (by omega) hbx2).mono ?_
  rintro e W3 ⟨rfl, hpsW3, hKW3⟩
  have hkW3 := (KpT.of_ext hEU2 (Nat.le_of_lt hps.lt)).trans hKW3
  replace hcb := hkW3.blk CB _ _ (by decide) hcg hcb
  replace hpb := hkW3.blk PB _ _ (by decide) hpg hpb
  replace hs := hkW3.blk bs _ _ (by decide) hbg hs
  replace hch := hkW3.blk bc _ _ (by decide) hbcg hch
  replace hk0 := hk0.trans hkW3
  clear cp cc0
  replace hps : PSw w g 0 300 W3 := hpsW3
  clear hEU2 hxx2 hbx2 hpsW3 hKW3 hkW3
  have cc1 := (hcb.cell 1).trans (show (cfgC bs bc)[1]? = some (Value.slice (some ⟨bs, 0, none⟩) 2 2) from rfl)
  go_wp2_with fail
  refine wp_loop_rounds 3 ?_
  simp only [rounds_succ]
  have hr0 := rangeA hs
  go_wp2_with (first
    | ((with_reducible refine at_load 121 ?_); refine wpList_load_mid rfl 121 _ rfl bs 0 rfl gA.toList _ hr0 Tryz.underlying121 rfl hA.infl ?_)
    | ((with_reducible refine at_alloc 121 ?_); refine wpList_allocO W3 rfl rfl (.agg Tryz.zeroCells121) zGst ?_; intro V4 G1 hEV4 hlV4 hzV4)
    | ((with_reducible refine at_store 121 ?_); refine wpList_storeAll V4 rfl 121 _ _ rfl G1 121 _ gA hzV4 rfl rfl hA.zs hA.inf hA.one ?_; intro W4 hbW4 hgW4 hsW4; have hEW4 : Ext W3 W4 := grown_below hEV4 hgW4 hEV4.size hlV4; have cW4 := ((hpb.ext hEW4).cell 0).trans (show (#[Value.pointer (some ⟨g, 0, none⟩)] : Array Value)[0]? = some (.pointer (some ⟨g, 0, none⟩)) from rfl))
    | ((with_reducible refine at_load 121 ?_); refine wpList_loadAll W4 rfl 121 _ rfl G1 121 gA hbW4 _ rfl Tryz.underlying121 rfl hA.inf ?_))
  have hxW5 : KpT g W3 W4 := KpT.of_ext hEW4 (Nat.le_of_lt hps.lt)
  have hx0W5 := hk0.trans hxW5
  refine (wguest_any g [111, 110, 101] (by decide) 1 1074790400 32 0 b1 b2 b3 (by omega) (by omega) w W4 0 300 (by omega) (hps.ext hEW4) (hx0W5.blk b1 _ _ (by decide) hn1 hgs.h1) (hx0W5.blk b2 _ _ (by decide) hn2 hgs.h2) (hx0W5.blk b3 _ _ (by decide) hn3 hgs.h3) gA hA).mono ?_
  rintro e W5 ⟨rfl, hpsW5, hKW5⟩
  have hkW5 := hxW5.trans hKW5
  replace hcb := hkW5.blk CB _ _ (by decide) hcg hcb
  replace hpb := hkW5.blk PB _ _ (by decide) hpg hpb
  replace hs := hkW5.blk bs _ _ (by decide) hbg hs
  replace hch := hkW5.blk bc _ _ (by decide) hbcg hch
  replace hk0 := hk0.trans hkW5
  replace hps : PSw w g 0 2300 W5 := hpsW5
  clear hEV4 hlV4 hzV4 hbW4 hgW4 hsW4 hEW4 cW4 hxW5 hx0W5 hpsW5 hKW5 hkW5
  clear cc1 hr0
  go_wp2_with fail
  simp only [rounds_succ]
  have hr1 := rangeB hs hA.size
  go_wp2_with (first
    | ((with_reducible refine at_load 121 ?_); refine wpList_load_mid rfl 121 _ rfl bs 79 rfl gB.toList _ hr1 Tryz.underlying121 rfl hB.infl ?_)
    | ((with_reducible refine at_alloc 121 ?_); refine wpList_allocO W5 rfl rfl (.agg Tryz.zeroCells121) zGst ?_; intro V6 G2 hEV6 hlV6 hzV6)
    | ((with_reducible refine at_store 121 ?_); refine wpList_storeAll V6 rfl 121 _ _ rfl G2 121 _ gB hzV6 rfl rfl hB.zs hB.inf hB.one ?_; intro W6 hbW6 hgW6 hsW6; have hEW6 : Ext W5 W6 := grown_below hEV6 hgW6 hEV6.size hlV6; have cW6 := ((hpb.ext hEW6).cell 0).trans (show (#[Value.pointer (some ⟨g, 0, none⟩)] : Array Value)[0]? = some (.pointer (some ⟨g, 0, none⟩)) from rfl))
    | ((with_reducible refine at_load 121 ?_); refine wpList_loadAll W6 rfl 121 _ rfl G2 121 gB hbW6 _ rfl Tryz.underlying121 rfl hB.inf ?_))
  have hxW7 : KpT g W5 W6 := KpT.of_ext hEW6 (Nat.le_of_lt hps.lt)
  have hx0W7 := hk0.trans hxW7
  refine (wguest_any g [116, 119, 111] (by decide) 2 1075838976 33 1 b4 b5 b6 (by omega) (by omega) w W6 0 2300 (by omega) (hps.ext hEW6) (hx0W7.blk b4 _ _ (by decide) hn4 hgs.h4) (hx0W7.blk b5 _ _ (by decide) hn5 hgs.h5) (hx0W7.blk b6 _ _ (by decide) hn6 hgs.h6) gB hB).mono ?_
  rintro e W7 ⟨rfl, hpsW7, hKW7⟩
  have hkW7 := hxW7.trans hKW7
  replace hcb := hkW7.blk CB _ _ (by decide) hcg hcb
  replace hpb := hkW7.blk PB _ _ (by decide) hpg hpb
  replace hs := hkW7.blk bs _ _ (by decide) hbg hs
  replace hch := hkW7.blk bc _ _ (by decide) hbcg hch
  replace hk0 := hk0.trans hkW7
  replace hps : PSw w g 0 4300 W7 := hpsW7
  clear hEV6 hlV6 hzV6 hbW6 hgW6 hsW6 hEW6 cW6 hxW7 hx0W7 hpsW7 hKW7 hkW7
  clear hr1
  have cc2 := (hcb.cell 2).trans (show (cfgC bs bc)[2]? = some (Value.slice (some ⟨bc, 0, none⟩) 1 1) from rfl)
  go_wp2_with fail
  simp only [rounds_succ]
  go_wp2_with fail
  refine wp_loop_rounds 2 ?_
  simp only [rounds_succ]
  go_wp2_with (first
    | ((with_reducible refine at_load 115 ?_); refine wpList_loadAll W7 rfl 115 _ rfl bc 115 chC hch _ rfl Tryz.underlying115 rfl infCh ?_)
    | ((with_reducible refine at_alloc 115 ?_); refine wpList_allocO W7 rfl rfl _ zCh ?_; intro V8 BC hE8 hl8 hz8)
    | ((with_reducible refine at_store 115 ?_); refine wpList_storeAll V8 rfl 115 _ _ rfl BC 115 _ chC hz8 rfl rfl rfl infCh ch_one ?_; intro W8 hbC hg8 hs8; have hE8' : Ext W7 W8 := grown_below hE8 hg8 hE8.size hl8; have cW8 := ((hpb.ext hE8').cell 0).trans (show (#[Value.pointer (some ⟨g, 0, none⟩)] : Array Value)[0]? = some (.pointer (some ⟨g, 0, none⟩)) from rfl); have k0 := (hbC.cell 0).trans (show chC[0]? = some (.int .u64 1107296256) from rfl); have k1 := (hbC.cell 1).trans (show chC[1]? = some (.int .u64 4096) from rfl))
    | ((with_reducible refine at_buildSlice 33 ?_); refine wpList_bsO W8 rfl rfl #[(0, .int .u64 1107296256), (1, .int .u64 4096)] _ (by simp [Act.eval]) (run_n2 elU64e W8 1107296256 4096) ?_; intro U8 x8 hEU8 hx8 hbx8))
  have hx8' : KpT g W7 W8 := KpT.of_ext hE8' (Nat.le_of_lt hps.lt)
  have hbCg : BC ≠ g := by have := hps.lt; omega
  replace hps := hps.ext hE8'
  replace hcb := hx8'.blk CB _ _ (by decide) hcg hcb
  replace hpb := hx8'.blk PB _ _ (by decide) hpg hpb
  replace hs := hx8'.blk bs _ _ (by decide) hbg hs
  replace hch := hx8'.blk bc _ _ (by decide) hbcg hch
  replace hk0 := hk0.trans hx8'
  refine (eight_ws w g 0 4300 x8 2 [1107296256, 4096] rfl (by omega) U8 (hps.ext hEU8) (by omega) hbx8).mono ?_
  rintro e W9 ⟨rfl, hps9, hK9⟩
  have hk9 := (KpT.of_ext hEU8 (Nat.le_of_lt hps.lt)).trans hK9
  replace hbC := hk9.blk BC _ _ (by decide) hbCg hbC
  replace hcb := hk9.blk CB _ _ (by decide) hcg hcb
  replace hpb := hk9.blk PB _ _ (by decide) hpg hpb
  replace hs := hk9.blk bs _ _ (by decide) hbg hs
  replace hch := hk9.blk bc _ _ (by decide) hbcg hch
  replace hk0 := hk0.trans hk9
  replace hps : PSw w g 0 4400 W9 := hps9
  clear hE8 hl8 hz8 hg8 hs8 hE8' cW8 k0 k1 hEU8 hx8 hbx8 hx8' hps9 hK9 hk9 cc2
  have hr7 := ch_ens hbC
  go_wp2_with ((with_reducible refine at_load 113 ?_); refine wpList_load_mid rfl 113 _ rfl BC 2 rfl ensC.toList _ hr7 Tryz.underlying113 rfl infEns ?_)
  refine wp_loop_rounds 3 ?_
  simp only [rounds_succ]
  go_wp2_with (first
    | ((with_reducible refine at_index 113 ?_); refine wpList_runV rfl (reg_index rfl rfl rfl (ix_en0 _)) ?_)
    | ((with_reducible refine at_alloc 112 ?_); refine wpList_allocO W9 rfl rfl _ zEn ?_; intro VA E1 hEVA hlVA hzVA)
    | ((with_reducible refine at_store 112 ?_); refine wpList_storeAll VA rfl 112 _ _ rfl E1 112 _ (chEn 0 3 268435456) hzVA rfl rfl rfl infEn (en_one _ _ _) ?_; intro X1 hbe hgX1 hsX1; have hEX1 : Ext W9 X1 := grown_below hEVA hgX1 hEVA.size hlVA))
  have hxX1 : KpT g W9 X1 := KpT.of_ext hEX1 (Nat.le_of_lt hps.lt)
  replace hcb := hxX1.blk CB _ _ (by decide) hcg hcb
  replace hpb := hxX1.blk PB _ _ (by decide) hpg hpb
  replace hs := hxX1.blk bs _ _ (by decide) hbg hs
  replace hch := hxX1.blk bc _ _ (by decide) hbcg hch
  replace hk0 := hk0.trans hxX1
  have hEgX1 : E1 ≠ g := by have := hps.lt; omega
  have hpsx := hps.ext hEX1
  have hpbx := hpb
  simp only [Act.put, List.setIfInBounds_toArray, List.set_cons_succ, List.set_cons_zero]
  refine Flow.wp_region_flow (g) [(8, fun b => g ≤ b)] [(0, fun W => Chg (fun _ => False) X1 W), (2, fun W => Chg (fun _ => False) X1 W), (5, fun W => Chg (fun _ => False) X1 W), (8, fun W => Chg (fun _ => False) X1 W)] (by kernel_rfl) (by kernel_rfl) (Nat.le_of_lt hpsx.lt) (Flow.nz_cons (fun b h => h) Flow.nz_nil) (Flow.facts_cons ((Chg.refl _ _).drew) (fun _ _ c h => h.trans c) (Flow.fz_cons (Flow.no_follow (by kernel_rfl)) Flow.fz_nil) (Flow.facts_cons ((Chg.refl _ _).drew) (fun _ _ c h => h.trans c) (Flow.fz_cons (Flow.no_follow (by kernel_rfl)) Flow.fz_nil) (Flow.facts_cons ((Chg.refl _ _).drew) (fun _ _ c h => h.trans c) (Flow.fz_cons (Flow.no_follow (by kernel_rfl)) Flow.fz_nil) (Flow.facts_cons ((Chg.refl _ _).drew) (fun _ _ c h => h.trans c) (Flow.fz_cons (Flow.no_follow (by kernel_rfl)) Flow.fz_nil) Flow.facts_nil))))  ?_
  refine Flow.pass_val (.pointer (some ⟨g, 0, none⟩)) (Flow.met_none rfl) (fun a W hH => ?_) ?_
  · have e0 := Flow.see_old 1 hH.sees (by kernel_rfl) (by kernel_rfl) rfl
    have fa0 : (fun W => Chg (fun _ => False) X1 W) W := hH.fact _ (List.mem_of_getElem? (i := 0) rfl) rfl
    have cc : World.cell? W ⟨PB, 0, none⟩ = some (.pointer (some ⟨g, 0, none⟩)) := (((hpbx).chg fa0 id).cell (0)).trans rfl; go_simp; first | done | rfl
  refine Flow.pass_val (.pointer (some ⟨E1, 0, none⟩)) (Flow.met_none rfl) (fun a W hH => ?_) ?_
  · have e0 := Flow.see_old 7 hH.sees (by kernel_rfl) (by kernel_rfl) rfl
    go_simp; first | done | rfl
  refine Flow.pass_val (.int .i64 (0)) (Flow.met_none rfl) (fun a W hH => ?_) ?_
  · have e0 := Flow.see_new 73 1 hH.sees (by kernel_rfl) (by kernel_rfl) rfl rfl
    have fa1 : (fun W => Chg (fun _ => False) X1 W) W := hH.fact _ (List.mem_of_getElem? (i := 1) rfl) rfl
    have cc : World.cell? W ⟨E1, 0, none⟩ = some (.int .i64 (0)) := (((hbe).chg fa1 id).cell (0)).trans rfl; go_simp; first | done | rfl
  refine Flow.pass_step (Reg.eqs (.int .i64 (0))) (fun _ _ => Flow.kept_eqs _ _) (Flow.met_none rfl) (fun a W hH => ?_) ?_
  · have e0 := Flow.see_new 74 2 hH.sees (by kernel_rfl) (by kernel_rfl) rfl rfl
    refine Reg.wp_call rfl Tryz.func78 rfl (by kernel_rfl) (by simp [Act.eval, e0]) (small_any (0) 65535 (by omega) (by omega) W) ?_
    rintro e w' ⟨rfl, rfl⟩
    exact ⟨_, rfl, _, rfl, Ext.refl _, rfl⟩
  refine Flow.pass_val (.pointer (some ⟨E1, 1, none⟩)) (Flow.met_none rfl) (fun a W hH => ?_) ?_
  · have e0 := Flow.see_old 7 hH.sees (by kernel_rfl) (by kernel_rfl) rfl
    go_simp; first | done | rfl
  refine Flow.pass_val (.int .i64 (3)) (Flow.met_none rfl) (fun a W hH => ?_) ?_
  · have e0 := Flow.see_new 76 4 hH.sees (by kernel_rfl) (by kernel_rfl) rfl rfl
    have fa2 : (fun W => Chg (fun _ => False) X1 W) W := hH.fact _ (List.mem_of_getElem? (i := 2) rfl) rfl
    have cc : World.cell? W ⟨E1, 1, none⟩ = some (.int .i64 (3)) := (((hbe).chg fa2 id).cell (1)).trans rfl; go_simp; first | done | rfl
  refine Flow.pass_step (Reg.eqs (.int .i64 (3))) (fun _ _ => Flow.kept_eqs _ _) (Flow.met_none rfl) (fun a W hH => ?_) ?_
  · have e0 := Flow.see_new 77 5 hH.sees (by kernel_rfl) (by kernel_rfl) rfl rfl
    refine Reg.wp_call rfl Tryz.func78 rfl (by kernel_rfl) (by simp [Act.eval, e0]) (small_any (3) 7 (by omega) (by omega) W) ?_
    rintro e w' ⟨rfl, rfl⟩
    exact ⟨_, rfl, _, rfl, Ext.refl _, rfl⟩
  refine Flow.pass_lin [8] (fun v W => ∃ b, v = .slice (some ⟨b, 0, none⟩) 2 2 ∧ Blk W b 3 (([0, 3] : List Nat).map fun (x : Nat) => Value.int .i64 (x : Int)).toArray) (Flow.kept_lin [8] (fun _ _ _ c ⟨b, h1, h2⟩ => ⟨b, h1, h2.chg c id⟩) (Flow.lz_cons (fun _ => .inl rfl) Flow.lz_nil)) (Flow.met_none rfl) (fun a W hH => ?_) ?_
  · have e0 := Flow.see_new 75 3 hH.sees (by kernel_rfl) (by kernel_rfl) rfl rfl
    have e1 := Flow.see_new 78 6 hH.sees (by kernel_rfl) (by kernel_rfl) rfl rfl
    refine Flow.wp_run (Flow.reg_buildSlice _ rfl (by simp [Act.eval, e0, e1]) (run_n2 elI64 W 0 3)) ?_
    exact ⟨_, rfl, Chg.of_ext ((Ext.refl W).alloc _), W.heap.size, rfl, Blk.new _ _ _⟩
  refine Flow.pass_gen (fun v W => v = .tuple #[] ∧ (PSw w g 0 4500 W ∧ KpT g X1 W)) (Flow.kept_of (fun _ _ _ c ⟨h1, h2, h3⟩ => ⟨h1, h2.ext c.ext, h3.trans (KpT.of_ext c.ext (Nat.le_of_lt h2.lt))⟩) (Flow.kz_cons (Flow.no_follow (by kernel_rfl)) Flow.kz_nil)) (Flow.met_none rfl) (fun a W hH => ?_) ?_
  · have e0 := Flow.see_new 72 0 hH.sees (by kernel_rfl) (by kernel_rfl) rfl rfl
    obtain ⟨b1, e1, q1⟩ := Flow.see_lin 79 7 hH.sees (by kernel_rfl) (by kernel_rfl) rfl rfl (by kernel_rfl)
    have fa3 : (fun W => Chg (fun _ => False) X1 W) W := hH.fact _ (List.mem_of_getElem? (i := 3) rfl) rfl
    refine Flow.wp_callZ rfl Tryz.func75 rfl (by kernel_rfl) (by simp [Act.eval, e0, e1]) (two_ws w g 0 4400 b1 2 [0, 3] rfl (by omega) (by intro n hn; simp at hn; omega) W (PSw.ext hpsx fa3.ext) (by omega) q1) ?_
    rintro e w' ⟨rfl, hp2, hK⟩
    exact ⟨_, rfl, Chg.of_below hK.below (fun _ h _ => h), rfl, hp2, (KpT.of_ext fa3.ext (Nat.le_of_lt hpsx.lt)).trans hK⟩
  refine Flow.pass_end [none, none, none, none, none, none, none, none, none, none, none, none, none, none, none, none, none, none, none, none, none, none, none, none, none, none, none, none, none, none, none, none, none, none, none, none, none, none, none, none, none, none, none, none, none, none, none, none, none, none, none, none, none, none, none, none, none, none, none, none, none, none, none, none, none, none, none, none, none, none, none, none, some 72, some 73, some 74, some 75, some 76, some 77, some 78, some 79, some 80, none, none, none, none, none, none, none, none, none, none, none, none, none, none] (by kernel_rfl) ?_
  intro f gg w9 hB hfa hT hfg
  have h80 := hT 8 _ (by kernel_rfl) rfl
  rw [← hfg 80 8 (by kernel_rfl)] at h80
  obtain ⟨_, hpsZ1, hKZ1⟩ := h80
  replace hbe := hKZ1.blk E1 _ _ (by decide) hEgX1 hbe
  replace hcb := hKZ1.blk CB _ _ (by decide) hcg hcb
  replace hpb := hKZ1.blk PB _ _ (by decide) hpg hpb
  replace hs := hKZ1.blk bs _ _ (by decide) hbg hs
  replace hch := hKZ1.blk bc _ _ (by decide) hbcg hch
  replace hk0 := hk0.trans hKZ1
  simp only [Reg.sel]
  replace hps : PSw w g 0 4500 w9 := hpsZ1
  clear hT hfg hfa hB hpsZ1 hKZ1 hpsx hpbx hxX1 hEVA hlVA hzVA hgX1 hsX1 hEX1
  obtain ⟨Z1, rfl⟩ : ∃ V, V = w9 := ⟨_, rfl⟩
  have cp := (hpb.cell 0).trans (show (#[Value.pointer (some ⟨g, 0, none⟩)] : Array Value)[0]? = some (.pointer (some ⟨g, 0, none⟩)) from rfl)
  have ce := (hbe.cell 2).trans (show (chEn 0 3 268435456)[2]? = some (.int .u64 268435456) from rfl)
  go_wp2_with ((with_reducible refine at_buildSlice 33 ?_); refine wpList_bsO Z1 rfl rfl #[(0, .int .u64 268435456)] _ (by simp [Act.eval]) (run_n1 elU64e Z1 268435456) ?_; intro UZ1 xZ1 hEUZ1 hxxZ1 hbxZ1)
  refine (eight_ws w g 0 4500 xZ1 1 [268435456] rfl (by omega) UZ1 (hps.ext hEUZ1) (by omega) hbxZ1).mono ?_
  rintro e YZ1 ⟨rfl, hpsYZ1, hKYZ1⟩
  have hkYZ1 := (KpT.of_ext hEUZ1 (Nat.le_of_lt hps.lt)).trans hKYZ1
  replace hcb := hkYZ1.blk CB _ _ (by decide) hcg hcb
  replace hpb := hkYZ1.blk PB _ _ (by decide) hpg hpb
  replace hs := hkYZ1.blk bs _ _ (by decide) hbg hs
  replace hch := hkYZ1.blk bc _ _ (by decide) hbcg hch
  replace hk0 := hk0.trans hkYZ1
  replace hps : PSw w g 0 4600 YZ1 := hpsYZ1
  clear hEUZ1 hxxZ1 hbxZ1 hpsYZ1 hKYZ1
  clear cp ce hkYZ1 hbe
  go_wp2_with fail
  simp only [rounds_succ]
  go_wp2_with (first
    | ((with_reducible refine at_index 113 ?_); refine wpList_runV rfl (reg_index rfl rfl rfl (ix_en1 _)) ?_)
    | ((with_reducible refine at_alloc 112 ?_); refine wpList_allocO YZ1 rfl rfl _ zEn ?_; intro VB E2 hEVB hlVB hzVB)
    | ((with_reducible refine at_store 112 ?_); refine wpList_storeAll VB rfl 112 _ _ rfl E2 112 _ (chEn 1 1 536870912) hzVB rfl rfl rfl infEn (en_one _ _ _) ?_; intro X2 hbe hgX2 hsX2; have hEX2 : Ext YZ1 X2 := grown_below hEVB hgX2 hEVB.size hlVB))
  have hxX2 : KpT g YZ1 X2 := KpT.of_ext hEX2 (Nat.le_of_lt hps.lt)
  replace hcb := hxX2.blk CB _ _ (by decide) hcg hcb
  replace hpb := hxX2.blk PB _ _ (by decide) hpg hpb
  replace hs := hxX2.blk bs _ _ (by decide) hbg hs
  replace hch := hxX2.blk bc _ _ (by decide) hbcg hch
  replace hk0 := hk0.trans hxX2
  have hEgX2 : E2 ≠ g := by have := hps.lt; omega
  have hpsx := hps.ext hEX2
  have hpbx := hpb
  simp only [Act.put, List.setIfInBounds_toArray, List.set_cons_succ, List.set_cons_zero]
  refine Flow.wp_region_flow (g) [(8, fun b => g ≤ b)] [(0, fun W => Chg (fun _ => False) X2 W), (2, fun W => Chg (fun _ => False) X2 W), (5, fun W => Chg (fun _ => False) X2 W), (8, fun W => Chg (fun _ => False) X2 W)] (by kernel_rfl) (by kernel_rfl) (Nat.le_of_lt hpsx.lt) (Flow.nz_cons (fun b h => h) Flow.nz_nil) (Flow.facts_cons ((Chg.refl _ _).drew) (fun _ _ c h => h.trans c) (Flow.fz_cons (Flow.no_follow (by kernel_rfl)) Flow.fz_nil) (Flow.facts_cons ((Chg.refl _ _).drew) (fun _ _ c h => h.trans c) (Flow.fz_cons (Flow.no_follow (by kernel_rfl)) Flow.fz_nil) (Flow.facts_cons ((Chg.refl _ _).drew) (fun _ _ c h => h.trans c) (Flow.fz_cons (Flow.no_follow (by kernel_rfl)) Flow.fz_nil) (Flow.facts_cons ((Chg.refl _ _).drew) (fun _ _ c h => h.trans c) (Flow.fz_cons (Flow.no_follow (by kernel_rfl)) Flow.fz_nil) Flow.facts_nil))))  ?_
  refine Flow.pass_val (.pointer (some ⟨g, 0, none⟩)) (Flow.met_none rfl) (fun a W hH => ?_) ?_
  · have e0 := Flow.see_old 1 hH.sees (by kernel_rfl) (by kernel_rfl) rfl
    have fa0 : (fun W => Chg (fun _ => False) X2 W) W := hH.fact _ (List.mem_of_getElem? (i := 0) rfl) rfl
    have cc : World.cell? W ⟨PB, 0, none⟩ = some (.pointer (some ⟨g, 0, none⟩)) := (((hpbx).chg fa0 id).cell (0)).trans rfl; go_simp; first | done | rfl
  refine Flow.pass_val (.pointer (some ⟨E2, 0, none⟩)) (Flow.met_none rfl) (fun a W hH => ?_) ?_
  · have e0 := Flow.see_old 7 hH.sees (by kernel_rfl) (by kernel_rfl) rfl
    go_simp; first | done | rfl
  refine Flow.pass_val (.int .i64 (1)) (Flow.met_none rfl) (fun a W hH => ?_) ?_
  · have e0 := Flow.see_new 73 1 hH.sees (by kernel_rfl) (by kernel_rfl) rfl rfl
    have fa1 : (fun W => Chg (fun _ => False) X2 W) W := hH.fact _ (List.mem_of_getElem? (i := 1) rfl) rfl
    have cc : World.cell? W ⟨E2, 0, none⟩ = some (.int .i64 (1)) := (((hbe).chg fa1 id).cell (0)).trans rfl; go_simp; first | done | rfl
  refine Flow.pass_step (Reg.eqs (.int .i64 (1))) (fun _ _ => Flow.kept_eqs _ _) (Flow.met_none rfl) (fun a W hH => ?_) ?_
  · have e0 := Flow.see_new 74 2 hH.sees (by kernel_rfl) (by kernel_rfl) rfl rfl
    refine Reg.wp_call rfl Tryz.func78 rfl (by kernel_rfl) (by simp [Act.eval, e0]) (small_any (1) 65535 (by omega) (by omega) W) ?_
    rintro e w' ⟨rfl, rfl⟩
    exact ⟨_, rfl, _, rfl, Ext.refl _, rfl⟩
  refine Flow.pass_val (.pointer (some ⟨E2, 1, none⟩)) (Flow.met_none rfl) (fun a W hH => ?_) ?_
  · have e0 := Flow.see_old 7 hH.sees (by kernel_rfl) (by kernel_rfl) rfl
    go_simp; first | done | rfl
  refine Flow.pass_val (.int .i64 (1)) (Flow.met_none rfl) (fun a W hH => ?_) ?_
  · have e0 := Flow.see_new 76 4 hH.sees (by kernel_rfl) (by kernel_rfl) rfl rfl
    have fa2 : (fun W => Chg (fun _ => False) X2 W) W := hH.fact _ (List.mem_of_getElem? (i := 2) rfl) rfl
    have cc : World.cell? W ⟨E2, 1, none⟩ = some (.int .i64 (1)) := (((hbe).chg fa2 id).cell (1)).trans rfl; go_simp; first | done | rfl
  refine Flow.pass_step (Reg.eqs (.int .i64 (1))) (fun _ _ => Flow.kept_eqs _ _) (Flow.met_none rfl) (fun a W hH => ?_) ?_
  · have e0 := Flow.see_new 77 5 hH.sees (by kernel_rfl) (by kernel_rfl) rfl rfl
    refine Reg.wp_call rfl Tryz.func78 rfl (by kernel_rfl) (by simp [Act.eval, e0]) (small_any (1) 7 (by omega) (by omega) W) ?_
    rintro e w' ⟨rfl, rfl⟩
    exact ⟨_, rfl, _, rfl, Ext.refl _, rfl⟩
  refine Flow.pass_lin [8] (fun v W => ∃ b, v = .slice (some ⟨b, 0, none⟩) 2 2 ∧ Blk W b 3 (([1, 1] : List Nat).map fun (x : Nat) => Value.int .i64 (x : Int)).toArray) (Flow.kept_lin [8] (fun _ _ _ c ⟨b, h1, h2⟩ => ⟨b, h1, h2.chg c id⟩) (Flow.lz_cons (fun _ => .inl rfl) Flow.lz_nil)) (Flow.met_none rfl) (fun a W hH => ?_) ?_
  · have e0 := Flow.see_new 75 3 hH.sees (by kernel_rfl) (by kernel_rfl) rfl rfl
    have e1 := Flow.see_new 78 6 hH.sees (by kernel_rfl) (by kernel_rfl) rfl rfl
    refine Flow.wp_run (Flow.reg_buildSlice _ rfl (by simp [Act.eval, e0, e1]) (run_n2 elI64 W 1 1)) ?_
    exact ⟨_, rfl, Chg.of_ext ((Ext.refl W).alloc _), W.heap.size, rfl, Blk.new _ _ _⟩
  refine Flow.pass_gen (fun v W => v = .tuple #[] ∧ (PSw w g 0 4700 W ∧ KpT g X2 W)) (Flow.kept_of (fun _ _ _ c ⟨h1, h2, h3⟩ => ⟨h1, h2.ext c.ext, h3.trans (KpT.of_ext c.ext (Nat.le_of_lt h2.lt))⟩) (Flow.kz_cons (Flow.no_follow (by kernel_rfl)) Flow.kz_nil)) (Flow.met_none rfl) (fun a W hH => ?_) ?_
  · have e0 := Flow.see_new 72 0 hH.sees (by kernel_rfl) (by kernel_rfl) rfl rfl
    obtain ⟨b1, e1, q1⟩ := Flow.see_lin 79 7 hH.sees (by kernel_rfl) (by kernel_rfl) rfl rfl (by kernel_rfl)
    have fa3 : (fun W => Chg (fun _ => False) X2 W) W := hH.fact _ (List.mem_of_getElem? (i := 3) rfl) rfl
    refine Flow.wp_callZ rfl Tryz.func75 rfl (by kernel_rfl) (by simp [Act.eval, e0, e1]) (two_ws w g 0 4600 b1 2 [1, 1] rfl (by omega) (by intro n hn; simp at hn; omega) W (PSw.ext hpsx fa3.ext) (by omega) q1) ?_
    rintro e w' ⟨rfl, hp2, hK⟩
    exact ⟨_, rfl, Chg.of_below hK.below (fun _ h _ => h), rfl, hp2, (KpT.of_ext fa3.ext (Nat.le_of_lt hpsx.lt)).trans hK⟩
  refine Flow.pass_end [none, none, none, none, none, none, none, none, none, none, none, none, none, none, none, none, none, none, none, none, none, none, none, none, none, none, none, none, none, none, none, none, none, none, none, none, none, none, none, none, none, none, none, none, none, none, none, none, none, none, none, none, none, none, none, none, none, none, none, none, none, none, none, none, none, none, none, none, none, none, none, none, some 72, some 73, some 74, some 75, some 76, some 77, some 78, some 79, some 80, none, none, none, none, none, none, none, none, none, none, none, none, none, none] (by kernel_rfl) ?_
  intro f gg w9 hB hfa hT hfg
  have h80 := hT 8 _ (by kernel_rfl) rfl
  rw [← hfg 80 8 (by kernel_rfl)] at h80
  obtain ⟨_, hpsZ2, hKZ2⟩ := h80
  replace hbe := hKZ2.blk E2 _ _ (by decide) hEgX2 hbe
  replace hcb := hKZ2.blk CB _ _ (by decide) hcg hcb
  replace hpb := hKZ2.blk PB _ _ (by decide) hpg hpb
  replace hs := hKZ2.blk bs _ _ (by decide) hbg hs
  replace hch := hKZ2.blk bc _ _ (by decide) hbcg hch
  replace hk0 := hk0.trans hKZ2
  simp only [Reg.sel]
  replace hps : PSw w g 0 4700 w9 := hpsZ2
  clear hT hfg hfa hB hpsZ2 hKZ2 hpsx hpbx hxX2 hEVB hlVB hzVB hgX2 hsX2 hEX2
  obtain ⟨Z2, rfl⟩ : ∃ V, V = w9 := ⟨_, rfl⟩
  have cp := (hpb.cell 0).trans (show (#[Value.pointer (some ⟨g, 0, none⟩)] : Array Value)[0]? = some (.pointer (some ⟨g, 0, none⟩)) from rfl)
  have ce := (hbe.cell 2).trans (show (chEn 1 1 536870912)[2]? = some (.int .u64 536870912) from rfl)
  go_wp2_with ((with_reducible refine at_buildSlice 33 ?_); refine wpList_bsO Z2 rfl rfl #[(0, .int .u64 536870912)] _ (by simp [Act.eval]) (run_n1 elU64e Z2 536870912) ?_; intro UZ2 xZ2 hEUZ2 hxxZ2 hbxZ2)
  refine (eight_ws w g 0 4700 xZ2 1 [536870912] rfl (by omega) UZ2 (hps.ext hEUZ2) (by omega) hbxZ2).mono ?_
  rintro e YZ2 ⟨rfl, hpsYZ2, hKYZ2⟩
  have hkYZ2 := (KpT.of_ext hEUZ2 (Nat.le_of_lt hps.lt)).trans hKYZ2
  replace hcb := hkYZ2.blk CB _ _ (by decide) hcg hcb
  replace hpb := hkYZ2.blk PB _ _ (by decide) hpg hpb
  replace hs := hkYZ2.blk bs _ _ (by decide) hbg hs
  replace hch := hkYZ2.blk bc _ _ (by decide) hbcg hch
  replace hk0 := hk0.trans hkYZ2
  replace hps : PSw w g 0 4800 YZ2 := hpsYZ2
  clear hEUZ2 hxxZ2 hbxZ2 hpsYZ2 hKYZ2
  clear cp ce hkYZ2 hbe
  go_wp2_with fail
  simp only [rounds_succ]
  have cp := (hpb.cell 0).trans (show (#[Value.pointer (some ⟨g, 0, none⟩)] : Array Value)[0]? = some (.pointer (some ⟨g, 0, none⟩)) from rfl)
  obtain ⟨⟨lz, hz1, hz2, ⟨Az, cz, hbz, hoz⟩⟩, hkz⟩ := hps
  have cgz : YZ2.cell? ⟨g, 0, none⟩ = some (.slice Az lz.length cz) := (hbz.cell 0).trans rfl
  have hdz : decide ((lz.length : Int) ≤ 65536) = true := decide_eq_true (by omega)
  go_wp2_with fail
  simp only [rounds_succ]
  go_wp2_with fail
  refine (must_any _ _ _).mono ?_
  rintro e Z3 ⟨rfl, rfl⟩
  go_wp2_with fail
  go_end0
  exact ⟨rfl, ⟨⟨lz, hz1, by omega, Az, cz, hbz, hoz⟩, hkz⟩, hk0⟩
theorem kpt_chg2 {G : Nat} {W0 W W' : World} {Z : Nat → Prop} (h : KpT G W0 W) (c : Chg Z W W') (hz : ∀ b, Z b → W0.heap.size ≤ b) (hl : ∀ b, Z b → G ≤ b) (hG : G ≤ W.heap.size) : KpT G W0 W' :=
  ⟨h.below.trans (c.below hl hG), fun X t cs h1 h2 hX => (h.blk X t cs h1 h2 hX).chg c (fun hb => by have := hz X hb; have := hX.lt; omega)⟩
theorem PSw.put {w W W' : World} {g n hi b : Nat} {t : TypeId} {cs : Array Value} (h : PSw w g n hi W) (hg : W.grownBy W' (some b)) (hb : Blk W b t cs) (ht : t ≠ 5) (hbg : g < b) (hw : w.heap.size ≤ b) : PSw w g n hi W' := by
  obtain ⟨⟨l, h1, h2, A, c, h3, h4⟩, hk⟩ := h
  have hC : Chg (fun x => x = b) W W' := Chg.grown hg (by rintro k h; cases h; rfl)
  exact ⟨⟨l, h1, h2, A, c, h3.chg hC (by show ¬ _ = _; omega), own_chg h4 hC (fun k hk e => own_ne h4 hb ht hk e)⟩, kpt_chg2 hk hC (fun x e => by have e : x = b := e; omega) (fun x e => by have e : x = b := e; omega) (Nat.le_of_lt h3.lt)⟩
theorem results_cells2E {P : Program} {fn : Func} {p q : Tmp} {ty ty2 : TypeId} (h : fn.results = #[.cell p ty, .cell q ty2]) (tmps : Array Value) (w : World) (a b : Addr) {v v2 : Value}
    (hp : tmps[p]?.getD undef = .pointer (some a)) (hq : tmps[q]?.getD undef = .pointer (some b)) (ha : w.cell? a = some v) (hb : w.cell? b = some v2)
    (hi : (isAgg ty).run P w = .ok false w) (hi2 : (isAgg ty2).run P w = .ok false w) :
    (results fn tmps).run P w = .ok (.tuple #[v, v2]) w := by
  simp [results, h, hp, hq, asAddr, go_sem, hi, hi2, ha, hb]
/-- the deferred closure, where nothing was thrown -/
theorem caught1_idle (p q : Addr) (w : World) :
    CallsD Tryz.prog 98 #[.pointer (some p), .pointer (some q)] .returning w fun e u' w' => e = .returned (.tuple #[]) ∧ u' = .returning ∧ w' = w := by
  refine callsD_of_wpS Tryz.func98 rfl fun c₀ cs hu => ?_
  apply wpS_seq
  apply wpS_region
  simp [wpOpsS, go_sem, recoverD, hu, Tryz.ntmps98, Exit.thenS]
  apply wpS_seq
  apply wpS_region
  simp [wpOpsS, go_sem, Exit.thenS]
  refine wpS_cond (t := false) (by simp [Act.eval]) ?_
  simp only [Bool.false_eq_true, if_false]
  refine wpS_of_wp (_root_.Go.wp_skip ?_)
  cases c₀
  simp_all [bodyPostS, results]
set_option maxRecDepth 100000 in
set_option maxHeartbeats 4000000 in
theorem caught_any (w w0 : World) (g CB PB B bs bc b1 b2 b3 b4 b5 b6 : Nat) (hp : PSw w g 0 0 w0) (hcb : Blk w0 CB 55 (cfgC bs bc)) (hpb : Blk w0 PB 168 #[.pointer (some ⟨g, 0, none⟩)])
    (hgs : GsB B w0 bs b1 b2 b3 b4 b5 b6) (hch : Blk w0 bc 115 chC) :
    Calls Tryz.prog 71 #[.func (.func 72) #[] #[.pointer (some ⟨CB, 0, none⟩), .pointer (some ⟨PB, 0, none⟩)]] w0 fun e w' => e = .returned (.tuple #[.int .i64 0, .int .i64 0]) ∧ PSw w g 0 8000 w' ∧ KpT g w0 w' := by
  have hmf : ∀ (fn : Fn) (first cap : Array Value) (w : World), (Instr.makeFunc fn first cap).run Tryz.prog w = .ok (.func fn first cap) w := fun _ _ _ _ => rfl
  have hgl := hp.lt
  go_enter_defers Tryz.func71, Tryz.ntmps71
  go_wp2_with (first
    | ((with_reducible refine at_alloc 3 ?_); refine wpList_allocO w0 rfl rfl (.int .i64 0) (fun W => by kernel_rfl) ?_; intro W1 B1 hE1 hl1 hb1)
    | ((with_reducible refine at_alloc 27 ?_); refine wpList_allocO W1 rfl rfl (.int .i64 0) (fun W => by kernel_rfl) ?_; intro W2 B2 hE2 hl2 hb2))
  have hE := hE1.trans hE2
  refine (put1_any w W2 g CB PB B bs bc b1 b2 b3 b4 b5 b6 (hp.ext hE) (hcb.ext hE) (hpb.ext hE) (hgs.chg (Chg.of_ext (Z := fun _ => False) hE) (fun _ h => h.elim)) (hch.ext hE)).mono ?_
  rintro e W3 ⟨rfl, hps, hK⟩
  have hz1 := hb1.lt
  have hz2 := hb2.lt
  have hb1 := hK.blk B1 _ _ (by decide) (by omega) (hb1.ext hE2)
  have hb2 := hK.blk B2 _ _ (by decide) (by omega) hb2
  have c1 : W3.cell? ⟨B1, 0, none⟩ = some (.int .i64 0) := (hb1.cell 0).trans rfl
  have c2 : W3.cell? ⟨B2, 0, none⟩ = some (.int .i64 0) := (hb2.cell 0).trans rfl
  have f1 := hb1.frozen 0
  have f2 := hb2.frozen 0
  have hne : B1 ≠ B2 := by omega
  have hne' : B2 ≠ B1 := by omega
  go_wp2_with fail
  have hww := hp.k.below.size
  have g1 : W3.grownBy (W3.setCell ⟨B1, 0, none⟩ (.int .i64 0)) (some B1) := grown_setE _ _ _ _
  have g2 := grown_setE (W3.setCell ⟨B1, 0, none⟩ (.int .i64 0)) B2 0 (.int .i64 0)
  have q1 := hb1.set_ 0 (.int .i64 0)
  have q2 : Blk (W3.setCell ⟨B1, 0, none⟩ (.int .i64 0)) B2 27 (Value.int .i64 0).cells := hb2.far hne' _
  have r1 := q1.far (p := ⟨B2, 0, none⟩) hne (.int .i64 0)
  have r2 := q2.set_ 0 (.int .i64 0)
  have p1 := hps.put g1 hb1 (by decide) (by omega) (by omega)
  have p2 := p1.put g2 q2 (by decide) (by omega) (by omega)
  have hK0 : KpT g w0 W3 := (KpT.of_ext hE (Nat.le_of_lt hgl)).trans hK
  have k1 := kpt_chg2 hK0 (Chg.grown (Z := fun x => x = B1) g1 (by rintro k h; cases h; rfl)) (fun x e => by have e : x = B1 := e; omega) (fun x e => by have e : x = B1 := e; omega) (Nat.le_of_lt hps.lt)
  have k2 := kpt_chg2 k1 (Chg.grown (Z := fun x => x = B2) g2 (by rintro k h; cases h; rfl)) (fun x e => by have e : x = B2 := e; omega) (fun x e => by have e : x = B2 := e; omega) (Nat.le_of_lt p1.lt)
  have d1 : ((W3.setCell ⟨B1, 0, none⟩ (.int .i64 0)).setCell ⟨B2, 0, none⟩ (.int .i64 0)).cell? ⟨B1, 0, none⟩ = some (.int .i64 0) := (r1.cell 0).trans rfl
  have d2 : ((W3.setCell ⟨B1, 0, none⟩ (.int .i64 0)).setCell ⟨B2, 0, none⟩ (.int .i64 0)).cell? ⟨B2, 0, none⟩ = some (.int .i64 0) := (r2.cell 0).trans rfl
  refine leaves_cons (f := 98) (args := #[.pointer (some ⟨B1, 0, none⟩), .pointer (some ⟨B2, 0, none⟩)]) (by simp) (by simp [go_sem]) ?_
  refine (caught1_idle ⟨B1, 0, none⟩ ⟨B2, 0, none⟩ _).mono ?_
  rintro e u' w'' ⟨rfl, rfl, rfl⟩
  exact ⟨_, results_cells2E rfl _ _ ⟨B1, 0, none⟩ ⟨B2, 0, none⟩ rfl rfl d1 d2 (by kernel_rfl) (by kernel_rfl), rfl, p2, k2⟩
set_option maxRecDepth 100000 in
set_option maxHeartbeats 4000000 in
theorem put_any (w : World) (B bs bc b1 b2 b3 b4 b5 b6 : Nat) (hgs : GsB B w bs b1 b2 b3 b4 b5 b6) (hch : Blk w bc 115 chC) :
    Calls Tryz.prog 35 #[.agg (cfgC bs bc)] w fun e w' => (∃ A n c, e = .returned (.tuple #[.slice A n c, .int .i64 0])) ∧ Below w.heap.size w w' := by
  have hmf : ∀ (fn : Fn) (first cap : Array Value) (w : World), (Instr.makeFunc fn first cap).run Tryz.prog w = .ok (.func fn first cap) w := fun _ _ _ _ => rfl
  have zpt : ∀ W, (zeroValue 168).run Tryz.prog W = .ok (.pointer none) W := fun W => by kernel_rfl
  go_enter Tryz.func35, Tryz.ntmps35
  go_wp2_with (first
    | ((with_reducible refine at_box 55 ?_); refine wpList_boxO w rfl rfl (cfgC bs bc) rfl ?_; intro W1 CB hE1 hl1 hb1)
    | ((with_reducible refine at_box 170 ?_); refine wpList_boxO W1 rfl rfl #[.slice none 0 0] rfl ?_; intro W2 g hE2 hl2 hb2)
    | ((with_reducible refine at_alloc 168 ?_); refine wpList_allocO W2 rfl rfl (.pointer none) zpt ?_; intro W3 PB hE3 hl3 hb3; have cp3 := (hb3.cell 0).trans (show ((Value.pointer none).cells)[0]? = some (.pointer none) from rfl); have fp3 := hb3.frozen 0))
  have gX := grown_setE W3 PB 0 (.pointer (some ⟨g, 0, none⟩))
  have z1 := hE1.size
  have z2 := hE2.size
  have z3 := hE3.size
  have hE2X : Ext W2 (W3.setCell ⟨PB, 0, none⟩ (.pointer (some ⟨g, 0, none⟩))) := grown_below hE3 gX hE3.size hl3
  have hE1X := hE2.trans hE2X
  have hEX := hE1.trans hE1X
  have hbX := hb3.set_ 0 (.pointer (some ⟨g, 0, none⟩))
  have hbX' : Blk (W3.setCell ⟨PB, 0, none⟩ (.pointer (some ⟨g, 0, none⟩))) PB 168 #[.pointer (some ⟨g, 0, none⟩)] := hbX
  have hgX := hb2.ext hE2X
  have hcX := hb1.ext hE1X
  have hgsX := hgs.chg (Chg.of_ext (Z := fun _ => False) hEX) (fun _ h => h.elim)
  have hchX := hch.ext hEX
  generalize W3.setCell ⟨PB, 0, none⟩ (.pointer (some ⟨g, 0, none⟩)) = X at *
  have hp : PSw X g 0 0 X := ⟨⟨[], Nat.le_refl _, Nat.le_refl _, none, 0, hgX, World.ownsRow_nil _ _ _ _⟩, KpT.refl _ _⟩
  have hb2' := hb2
  clear cp3 fp3 hb3 hE3 gX hb2 hb1 hbX
  refine (caught_any X X g CB PB B bs bc b1 b2 b3 b4 b5 b6 hp hcX hbX' hgsX hchX).mono ?_
  rintro e Y ⟨rfl, hps, hK⟩
  have hpg : PB ≠ g := by have := hb2'.lt; omega
  have hbY := hK.blk PB _ _ (by decide) hpg hbX'
  have cY : Y.cell? ⟨PB, 0, none⟩ = some (.pointer (some ⟨g, 0, none⟩)) := (hbY.cell 0).trans rfl
  obtain ⟨⟨lz, hz1, hz2, ⟨Az, cz, hbz, hoz⟩⟩, hkz⟩ := hps
  have cgz : Y.cell? ⟨g, 0, none⟩ = some (.slice Az lz.length cz) := (hbz.cell 0).trans rfl
  go_wp2_with fail
  refine bodyPost_ret (results_tmp2 rfl _ _ _) rfl ?_
  have hBX : Below w.heap.size w X := hEX
  exact ⟨⟨_, _, _, rfl⟩, hBX.trans (hK.below.mono (by omega))⟩
end Go.Proofs.YtpellkblaeeopaaGreatDoor
/-
  Walk for awake35: text.page.guest.
-/
namespace Go.Proofs.YtpellkblaeeopaaGreatDoor
open Go.RowKit

theorem elSt : Elem Tryz.prog 178 9 (.string ⟨#[]⟩) 1 16 := Elem.of (by kernel_rfl) (by kernel_rfl) rfl (by omega)
theorem run_s1 (w : World) (a : List UInt8) : (Instr.buildSlice 178 1 #[(0, strVE a)]).run Tryz.prog w = .ok (.slice (some ⟨w.heap.size, 0, none⟩) 1 1) (w.alloc (.cells ([a].map strVE).toArray 9)) := by
  have := run_buildSlice_all (P := Tryz.prog) w elSt 1 #[(0, strVE a)] [strVE a] rfl rfl (by omega) (by omega) (by simp [Value.cells, strVE])
  simpa [flat, Value.cells, strVE] using this
theorem run_s2 (w : World) (a b : List UInt8) : (Instr.buildSlice 178 2 #[(0, strVE a), (1, strVE b)]).run Tryz.prog w = .ok (.slice (some ⟨w.heap.size, 0, none⟩) 2 2) (w.alloc (.cells ([a, b].map strVE).toArray 9)) := by
  have := run_buildSlice_all (P := Tryz.prog) w elSt 2 #[(0, strVE a), (1, strVE b)] [strVE a, strVE b] rfl rfl (by omega) (by omega) (by simp [Value.cells, strVE])
  simpa [flat, Value.cells, strVE] using this
theorem run_s3 (w : World) (a b c : List UInt8) : (Instr.buildSlice 178 3 #[(0, strVE a), (1, strVE b), (2, strVE c)]).run Tryz.prog w = .ok (.slice (some ⟨w.heap.size, 0, none⟩) 3 3) (w.alloc (.cells ([a, b, c].map strVE).toArray 9)) := by
  have := run_buildSlice_all (P := Tryz.prog) w elSt 3 #[(0, strVE a), (1, strVE b), (2, strVE c)] [strVE a, strVE b, strVE c] rfl rfl (by omega) (by omega) (by simp [Value.cells, strVE])
  simpa [flat, Value.cells, strVE] using this
theorem run_s4 (w : World) (a b c d : List UInt8) : (Instr.buildSlice 178 4 #[(0, strVE a), (1, strVE b), (2, strVE c), (3, strVE d)]).run Tryz.prog w = .ok (.slice (some ⟨w.heap.size, 0, none⟩) 4 4) (w.alloc (.cells ([a, b, c, d].map strVE).toArray 9)) := by
  have := run_buildSlice_all (P := Tryz.prog) w elSt 4 #[(0, strVE a), (1, strVE b), (2, strVE c), (3, strVE d)] [strVE a, strVE b, strVE c, strVE d] rfl rfl (by omega) (by omega) (by simp [Value.cells, strVE])
  simpa [flat, Value.cells, strVE] using this
theorem run_s5 (w : World) (a b c d e : List UInt8) : (Instr.buildSlice 178 5 #[(0, strVE a), (1, strVE b), (2, strVE c), (3, strVE d), (4, strVE e)]).run Tryz.prog w = .ok (.slice (some ⟨w.heap.size, 0, none⟩) 5 5) (w.alloc (.cells ([a, b, c, d, e].map strVE).toArray 9)) := by
  have := run_buildSlice_all (P := Tryz.prog) w elSt 5 #[(0, strVE a), (1, strVE b), (2, strVE c), (3, strVE d), (4, strVE e)] [strVE a, strVE b, strVE c, strVE d, strVE e] rfl rfl (by omega) (by omega) (by simp [Value.cells, strVE])
  simpa [flat, Value.cells, strVE] using this
/-- a page between two lines: how long it is at least and at most -/
structure PSt (w : World) (g n lo hi : Nat) (W : World) : Prop where
  ex : ∃ l : List UInt8, n + lo ≤ l.length ∧ l.length ≤ n + hi ∧ PgT 128 g l W
  k : KpT g w W
theorem PSt.lt {w : World} {g n lo hi : Nat} {W : World} (h : PSt w g n lo hi W) : g < W.heap.size := by obtain ⟨_, _, _, h⟩ := h.ex; exact h.lt
theorem PSt.ext {w : World} {g n lo hi : Nat} {W W' : World} (h : PSt w g n lo hi W) (e : Ext W W') : PSt w g n lo hi W' := by
  obtain ⟨⟨l, h1, h2, h3⟩, hk⟩ := h
  exact ⟨⟨l, h1, h2, h3.ext e⟩, hk.trans (KpT.of_ext e (Nat.le_of_lt h3.lt))⟩
theorem line_ps (w : World) (g x : Nat) (inner : Bool) (ws : List (List UInt8)) (m : Nat) (hm : Hid (ws.length = m)) (hm1 : m ≤ 10) (ht : tot ws ≤ 1000) (n lo hi L : Nat) (hn : n + hi ≤ 1000000) (W : World)
    (hx : Blk W x 9 (ws.map strVE).toArray) (hp : PSt w g n lo hi W) (hL : L ≤ tot ws) :
    Calls Tryz.prog 37 #[.pointer (some ⟨g, 0, none⟩), .bool inner, .slice (some ⟨x, 0, none⟩) m m] W fun e w' => e = .returned (.tuple #[]) ∧ PSt w g n (lo + L) (hi + 1100) w' ∧ KpT g W w' := by
  obtain ⟨⟨l, h1, h2, h3⟩, hk⟩ := hp
  refine (line_any g x inner ws m hm hm1 (by omega) l (by omega) W hx h3).mono ?_
  rintro e w' ⟨he, ⟨l', g1, g2, g3⟩, hK⟩
  exact ⟨he, ⟨⟨l', by omega, by omega, g3⟩, hk.trans hK⟩, hK⟩
set_option maxRecDepth 100000 in
set_option maxHeartbeats 8000000 in
theorem pguest_any (g : Nat) (l : List UInt8) (hl : l.length ≤ 100000) (nm : List UInt8) (hnm : nm.length ≤ 16) (cm pa nq cpu b1 b2 b3 : Nat) (hcm : cm < 4294967296) (hpa : pa < 18446744073709551616) (hnq : nq < 1000) (hcpu : cpu < 100) (w : World) (hp : PgT 128 g l w)
    (h1 : Blk w b1 165 (winC pa)) (h2 : Blk w b2 167 (irqC nq cpu)) (h3 : Blk w b3 51 #[.int .u32 (cpu : Int)]) :
    Calls Tryz.prog 39 #[.pointer (some ⟨g, 0, none⟩), .agg (gstC ⟨nm.toArray⟩ cm b1 b2 b3)] w fun e w' => e = .returned (.tuple #[]) ∧ (∃ l', l.length + 130 ≤ l'.length ∧ l'.length ≤ l.length + 20000 ∧ PgT 128 g l' w') ∧ KpT g w w' := by
  obtain ⟨gc, hgc⟩ : ∃ gc, gc = gstC ⟨nm.toArray⟩ cm b1 b2 b3 := ⟨_, rfl⟩
  rw [← hgc]
  have g0 : gc[0]? = some (.string ⟨nm.toArray⟩) := by rw [hgc]; kernel_rfl
  have g1 : gc[1]? = some (.bool false) := by rw [hgc]; kernel_rfl
  have g2 : gc[2]? = some (.int .u32 0) := by rw [hgc]; kernel_rfl
  have g3 : gc[3]? = some (.int .u32 0) := by rw [hgc]; kernel_rfl
  have g4 : gc[4]? = some (.int .u32 (cm : Int)) := by rw [hgc]; kernel_rfl
  have g5 : gc[5]? = some (.int .u64 4096) := by rw [hgc]; kernel_rfl
  have g6 : gc[6]? = some (.int .u64 0) := by rw [hgc]; kernel_rfl
  have g75 : gc[75]? = some (.slice (some ⟨b1, 0, none⟩) 1 1) := by rw [hgc]; kernel_rfl
  have g76 : gc[76]? = some (.slice none 0 0) := by rw [hgc]; kernel_rfl
  have g77 : gc[77]? = some (.slice (some ⟨b2, 0, none⟩) 1 1) := by rw [hgc]; kernel_rfl
  have g78 : gc[78]? = some (.slice (some ⟨b3, 0, none⟩) 1 1) := by rw [hgc]; kernel_rfl
  have gk : (gc.toList.drop 7).take (68 * 1) = bcells keyL := by rw [hgc]; kernel_rfl
  have gs : gc.size = 79 := by rw [hgc]; kernel_rfl
  clear hgc
  have hgw := hp.lt
  have hn : ∀ b t cs, t ≠ 128 → Blk w b t cs → b ≠ g := fun b t cs ht hb e => by
    obtain ⟨A, c, h, _⟩ := hp
    subst e
    unfold Blk at h hb
    rw [h] at hb
    injection hb with hb
    injection hb with _ hb
    exact ht hb.symm
  have hn1 : b1 ≠ g := hn _ _ _ (by decide) h1
  have hn2 : b2 ≠ g := hn _ _ _ (by decide) h2
  have hn3 : b3 ≠ g := hn _ _ _ (by decide) h3
  clear hn
  go_enter Tryz.func39, Tryz.ntmps39
  go_wp2_with (first
    | ((with_reducible refine at_box 121 ?_); refine wpList_boxO w rfl rfl gc rfl ?_; intro W0 B0 hE0 hB0 hb0; have cc0 := (hb0.cell 0).trans g0)
    | ((with_reducible refine at_buildSlice 178 ?_); refine wpList_bsO W0 rfl rfl #[(0, strVE [103, 117, 101, 115, 116]), (1, strVE nm)] _ (by simp [Act.eval, strVE]) (run_s2 W0 [103, 117, 101, 115, 116] nm) ?_; intro W1 x1 hE1 hx1 hbx1; have hb1 := hb0.ext hE1; have cc1 := (hb1.cell 1).trans g1))
  have hgB : B0 ≠ g := by omega
  have hps1 : PSt w g l.length 0 0 W1 := ⟨⟨l, by omega, by omega, hp.ext (hE0.trans hE1)⟩, KpT.of_ext (hE0.trans hE1) (Nat.le_of_lt hgw)⟩
  refine (line_ps w g x1 false [[103, 117, 101, 115, 116], nm] 2 (Lib.hid rfl) (by omega) (by simp [tot]; omega) l.length 0 0 0 (by omega) W1 hbx1 hps1 (Nat.zero_le _)).mono ?_
  rintro e W2 ⟨rfl, hps2, hK2⟩
  have hb2 := hK2.blk B0 _ _ (by decide) hgB hb1
  clear cc1 cc0 hE1 hb1 hbx1 hps1 hx1 hb0 hK2
  go_wp2_with fail
  refine Flow.wp_region_flow (g) [(10, fun b => g ≤ b)] [(2, fun W => Chg (fun _ => False) W2 W), (6, fun W => Chg (fun _ => False) W2 W), (10, fun W => Chg (fun _ => False) W2 W)] (by kernel_rfl) (by kernel_rfl) (Nat.le_of_lt hps2.lt) (Flow.nz_cons (fun b h => h) Flow.nz_nil) (Flow.facts_cons ((Chg.refl _ _).drew) (fun _ _ c h => h.trans c) (Flow.fz_cons (Flow.no_follow (by kernel_rfl)) Flow.fz_nil) (Flow.facts_cons ((Chg.refl _ _).drew) (fun _ _ c h => h.trans c) (Flow.fz_cons (Flow.no_follow (by kernel_rfl)) Flow.fz_nil) (Flow.facts_cons ((Chg.refl _ _).drew) (fun _ _ c h => h.trans c) (Flow.fz_cons (Flow.no_follow (by kernel_rfl)) Flow.fz_nil) Flow.facts_nil)))  ?_
  refine Flow.pass_old (X := .pointer (some ⟨g, 0, none⟩)) 0 (Flow.met_none rfl) (.inl rfl) (by kernel_rfl) (by kernel_rfl) rfl ?_
  refine Flow.pass_val (.pointer (some ⟨B0, 2, none⟩)) (Flow.met_none rfl) (fun a W hH => ?_) ?_
  · have e0 := Flow.see_old 3 hH.sees (by kernel_rfl) (by kernel_rfl) rfl
    go_simp; first | done | rfl
  refine Flow.pass_val (.int .u32 (0)) (Flow.met_none rfl) (fun a W hH => ?_) ?_
  · have e0 := Flow.see_new 26 1 hH.sees (by kernel_rfl) (by kernel_rfl) rfl rfl
    have fa0 : (fun W => Chg (fun _ => False) W2 W) W := hH.fact _ (List.mem_of_getElem? (i := 0) rfl) rfl
    have cc : World.cell? W ⟨B0, 2, none⟩ = some (.int .u32 (0)) := (((hb2).chg fa0 id).cell (2)).trans g2; go_simp; first | done | rfl
  refine Flow.pass_val (.int .u64 (0)) (Flow.met_none rfl) (fun a W hH => ?_) ?_
  · have e0 := Flow.see_new 27 2 hH.sees (by kernel_rfl) (by kernel_rfl) rfl rfl
    go_simp; first | done | rfl | omega | (rw [IntWalk.u64_in _ (by omega)]; first | done | rfl)
  refine Flow.pass_step (fun v _ => ∃ s : List UInt8, v = strVE s ∧ s.length ≤ 30) (Flow.kept_of (fun _ _ _ _ h => h) (Flow.kz_cons (fun _ => fun _ _ _ _ h => h) Flow.kz_nil)) (Flow.met_none rfl) (fun a W hH => ?_) ?_
  · have e0 := Flow.see_new 28 3 hH.sees (by kernel_rfl) (by kernel_rfl) rfl rfl
    refine Reg.wp_call rfl Tryz.func40 rfl (by kernel_rfl) (by simp [Act.eval, e0]) (wide_any (0) (by omega) W) ?_
    rintro e w' ⟨⟨_, rfl, s, rfl, hs⟩, hB⟩
    exact ⟨_, rfl, _, rfl, hB, s, rfl, hs⟩
  refine Flow.pass_val (.pointer (some ⟨B0, 3, none⟩)) (Flow.met_none rfl) (fun a W hH => ?_) ?_
  · have e0 := Flow.see_old 3 hH.sees (by kernel_rfl) (by kernel_rfl) rfl
    go_simp; first | done | rfl
  refine Flow.pass_val (.int .u32 (0)) (Flow.met_none rfl) (fun a W hH => ?_) ?_
  · have e0 := Flow.see_new 30 5 hH.sees (by kernel_rfl) (by kernel_rfl) rfl rfl
    have fa1 : (fun W => Chg (fun _ => False) W2 W) W := hH.fact _ (List.mem_of_getElem? (i := 1) rfl) rfl
    have cc : World.cell? W ⟨B0, 3, none⟩ = some (.int .u32 (0)) := (((hb2).chg fa1 id).cell (3)).trans g3; go_simp; first | done | rfl
  refine Flow.pass_val (.int .u64 (0)) (Flow.met_none rfl) (fun a W hH => ?_) ?_
  · have e0 := Flow.see_new 31 6 hH.sees (by kernel_rfl) (by kernel_rfl) rfl rfl
    go_simp; first | done | rfl | omega | (rw [IntWalk.u64_in _ (by omega)]; first | done | rfl)
  refine Flow.pass_step (fun v _ => ∃ s : List UInt8, v = strVE s ∧ s.length ≤ 30) (Flow.kept_of (fun _ _ _ _ h => h) (Flow.kz_cons (fun _ => fun _ _ _ _ h => h) Flow.kz_nil)) (Flow.met_none rfl) (fun a W hH => ?_) ?_
  · have e0 := Flow.see_new 32 7 hH.sees (by kernel_rfl) (by kernel_rfl) rfl rfl
    refine Reg.wp_call rfl Tryz.func40 rfl (by kernel_rfl) (by simp [Act.eval, e0]) (wide_any (0) (by omega) W) ?_
    rintro e w' ⟨⟨_, rfl, s, rfl, hs⟩, hB⟩
    exact ⟨_, rfl, _, rfl, hB, s, rfl, hs⟩
  refine Flow.pass_lin [10] (fun v W => ∃ (b : Nat) (ws : List (List UInt8)), v = .slice (some ⟨b, 0, none⟩) 3 3 ∧ (ws.length = 3 ∧ 0 ≤ tot ws ∧ tot ws ≤ 1000 ∧ Blk W b 9 (ws.map strVE).toArray)) (Flow.kept_lin [10] (fun _ _ _ c ⟨b, ws, h1, h2, h3, h4, h5⟩ => ⟨b, ws, h1, h2, h3, h4, h5.chg c id⟩) (Flow.lz_cons (fun _ => .inl rfl) Flow.lz_nil)) (Flow.met_none rfl) (fun a W hH => ?_) ?_
  · obtain ⟨s0, e0, q0⟩ := Flow.see_up 29 4 hH.sees (by kernel_rfl) (by kernel_rfl) rfl rfl
    obtain ⟨s1, e1, q1⟩ := Flow.see_up 33 8 hH.sees (by kernel_rfl) (by kernel_rfl) rfl rfl
    refine Flow.wp_run (Flow.reg_buildSlice _ rfl (by simp [Act.eval, strVE, e0, e1]) (run_s3 W ([105, 109, 97, 103, 101]) (s0) (s1))) ?_
    exact ⟨_, rfl, Chg.of_ext ((Ext.refl W).alloc _), W.heap.size, [[105, 109, 97, 103, 101], s0, s1], rfl, rfl, by simp [tot], by simp [tot]; omega, Blk.new _ _ _⟩
  refine Flow.pass_gen (fun v W => v = .tuple #[] ∧ (PSt w g l.length 0 2200 W ∧ KpT g W2 W)) (Flow.kept_of (fun _ _ _ c ⟨h1, h2, h3⟩ => ⟨h1, h2.ext c.ext, h3.trans (KpT.of_ext c.ext (Nat.le_of_lt h2.lt))⟩) (Flow.kz_cons (Flow.no_follow (by kernel_rfl)) Flow.kz_nil)) (Flow.met_none rfl) (fun a W hH => ?_) ?_
  · have e0 := Flow.see_new 25 0 hH.sees (by kernel_rfl) (by kernel_rfl) rfl rfl
    obtain ⟨b1, ws1, e1, q1⟩ := Flow.see_lin 34 9 hH.sees (by kernel_rfl) (by kernel_rfl) rfl rfl (by kernel_rfl)
    have fa2 : (fun W => Chg (fun _ => False) W2 W) W := hH.fact _ (List.mem_of_getElem? (i := 2) rfl) rfl
    refine Flow.wp_callZ rfl Tryz.func37 rfl (by kernel_rfl) (by simp [Act.eval, e0, e1]) (line_ps w g b1 true ws1 3 (Lib.hid q1.1) (by omega) q1.2.2.1 l.length 0 1100 0 (by omega) W q1.2.2.2 (PSt.ext hps2 fa2.ext) q1.2.1) ?_
    rintro e w' ⟨rfl, hp2, hK⟩
    exact ⟨_, rfl, Chg.of_below hK.below (fun _ h _ => h), rfl, hp2, (KpT.of_ext fa2.ext (Nat.le_of_lt hps2.lt)).trans hK⟩
  refine Flow.pass_end [none, none, none, none, none, none, none, none, none, none, none, none, none, none, none, none, none, none, none, none, none, none, none, none, none, some 25, some 26, some 27, some 28, some 29, some 30, some 31, some 32, some 33, some 34, some 35, none, none, none, none, none, none, none, none, none, none, none, none, none, none, none, none, none, none, none, none, none, none, none, none, none, none, none, none, none, none, none, none, none, none, none, none, none, none, none, none, none, none, none, none, none, none, none, none, none, none, none, none, none, none, none, none, none, none, none, none, none, none, none, none, none, none, none, none, none, none, none, none, none, none, none, none, none, none, none, none, none, none, none, none, none, none, none, none, none, none, none, none, none, none, none, none, none, none, none, none, none, none, none, none, none, none, none] (by kernel_rfl) ?_
  intro f gg w9 hB hfa hT hfg
  have h35 := hT 10 _ (by kernel_rfl) rfl
  rw [← hfg 35 10 (by kernel_rfl)] at h35
  obtain ⟨_, hps3, hK3⟩ := h35
  have hb3 := hK3.blk B0 _ _ (by decide) hgB hb2
  simp only [Reg.sel]
  clear hT hfg hfa hB hK3 hps2 hb2
  have cc3 := (hb3.cell 4).trans g4
  go_wp2_with fail
  refine (wide_any cm (by omega) _).mono ?_
  rintro e V3 ⟨⟨_, rfl, s3, rfl, hs3⟩, hB3⟩
  have hb3' := hb3.ext hB3
  have hps3' := hps3.ext hB3
  clear cc3 hb3 hps3 hB3
  go_wp2_with ((with_reducible refine at_buildSlice 178 ?_); refine wpList_bsO V3 rfl rfl #[(0, strVE [99, 112, 117, 115]), (1, strVE s3)] _ (by simp [Act.eval, strVE]) (run_s2 V3 [99, 112, 117, 115] s3) ?_; intro U3 x3 hE3 hx3 hbx3)
  have hb3'' := hb3'.ext hE3
  refine (line_ps w g x3 true [[99, 112, 117, 115], s3] 2 (Lib.hid rfl) (by omega) (by simp [tot]; omega) l.length 0 2200 0 (by omega) U3 hbx3 (hps3'.ext hE3) (Nat.zero_le _)).mono ?_
  rintro e W4 ⟨rfl, hps4, hK4⟩
  have hb4 := hK4.blk B0 _ _ (by decide) hgB hb3''
  clear hE3 hx3 hbx3 hb3' hps3' hK4 hb3'' hs3
  have cc4 := (hb4.cell 5).trans g5
  go_wp2_with fail
  refine (wide_any 4096 (by omega) _).mono ?_
  rintro e V4 ⟨⟨_, rfl, s4, rfl, hs4⟩, hB4⟩
  have hb4' := hb4.ext hB4
  have hps4' := hps4.ext hB4
  clear cc4 hb4 hps4 hB4
  go_wp2_with ((with_reducible refine at_buildSlice 178 ?_); refine wpList_bsO V4 rfl rfl #[(0, strVE [101, 110, 116, 114, 121]), (1, strVE s4)] _ (by simp [Act.eval, strVE]) (run_s2 V4 [101, 110, 116, 114, 121] s4) ?_; intro U4 x4 hE4 hx4 hbx4)
  have hb4'' := hb4'.ext hE4
  refine (line_ps w g x4 true [[101, 110, 116, 114, 121], s4] 2 (Lib.hid rfl) (by omega) (by simp [tot]; omega) l.length 0 3300 0 (by omega) U4 hbx4 (hps4'.ext hE4) (Nat.zero_le _)).mono ?_
  rintro e W5 ⟨rfl, hps5, hK5⟩
  have hb5 := hK5.blk B0 _ _ (by decide) hgB hb4''
  clear hE4 hx4 hbx4 hb4' hps4' hK5 hb4'' hs4
  have cc5 := (hb5.cell 6).trans g6
  go_wp2_with fail
  refine (wide_any 0 (by omega) _).mono ?_
  rintro e V5 ⟨⟨_, rfl, s5, rfl, hs5⟩, hB5⟩
  have hb5' := hb5.ext hB5
  have hps5' := hps5.ext hB5
  clear cc5 hb5 hps5 hB5
  go_wp2_with ((with_reducible refine at_buildSlice 178 ?_); refine wpList_bsO V5 rfl rfl #[(0, strVE [100, 116, 98]), (1, strVE s5)] _ (by simp [Act.eval, strVE]) (run_s2 V5 [100, 116, 98] s5) ?_; intro U5 x5 hE5 hx5 hbx5)
  have hb5'' := hb5'.ext hE5
  refine (line_ps w g x5 true [[100, 116, 98], s5] 2 (Lib.hid rfl) (by omega) (by simp [tot]; omega) l.length 0 4400 0 (by omega) U5 hbx5 (hps5'.ext hE5) (Nat.zero_le _)).mono ?_
  rintro e W6 ⟨rfl, hps6, hK6⟩
  have hb6 := hK6.blk B0 _ _ (by decide) hgB hb5''
  clear hE5 hx5 hbx5 hb5' hps5' hK6 hb5'' hs5
  have hrd6 := hb6.rdAt 1 7 68 (by rw [gs]; omega)
  rw [gk] at hrd6
  have hsl : ∀ W : World, (Instr.sliceAt 58 (.pointer (some ⟨B0, 7, none⟩)) none none none).run Tryz.prog W = .ok (.slice (some ⟨B0, 7, none⟩) 68 68) W := fun W => by kernel_rfl
  go_wp2_with fail
  refine (digits_any (some ⟨B0, 7, none⟩) 68 68 keyL (by omega) W6 hrd6).mono ?_
  rintro e V6 ⟨⟨s6, rfl, hs6⟩, hB6⟩
  have hb6' := hb6.ext hB6
  have hps6' := hps6.ext hB6
  have HS6 := Lib.hid hs6
  clear hb6 hps6 hB6 hrd6 hsl hs6
  go_wp2_with ((with_reducible refine at_buildSlice 178 ?_); refine wpList_bsO V6 rfl rfl #[(0, strVE [107, 101, 121]), (1, strVE s6)] _ (by simp [Act.eval, strVE]) (run_s2 V6 [107, 101, 121] s6) ?_; intro U6 x6 hE6 hx6 hbx6)
  have hb6'' := hb6'.ext hE6
  refine (line_ps w g x6 true [[107, 101, 121], s6] 2 (Lib.hid rfl) (by omega) (by simp [tot]; rw [HS6.out]; omega) l.length 0 5500 130 (by omega) U6 hbx6 (hps6'.ext hE6) (by simp [tot]; rw [HS6.out]; omega)).mono ?_
  rintro e W7 ⟨rfl, hps7, hK7⟩
  have hb7 := hK7.blk B0 _ _ (by decide) hgB hb6''
  clear hE6 hx6 hbx6 hb6' hps6' hK7 hb6'' HS6
  have cc7 := (hb7.cell 75).trans g75
  have hw7 := hps7.k.blk b1 _ _ (by decide) hn1 h1
  go_wp2_with fail
  refine wp_loop_rounds 2 ?_
  simp only [rounds_succ]
  go_wp2_with (first
    | ((with_reducible refine at_load 165 ?_); refine wpList_loadAll W7 rfl 165 _ rfl b1 165 (winC pa) hw7 _ rfl Tryz.underlying165 rfl (by kernel_rfl) ?_)
    | ((with_reducible refine at_alloc 165 ?_); refine wpList_allocO W7 rfl rfl (.agg #[.int .u64 0, .int .u64 0, .int .u64 0, .int .i64 0]) (fun W => by kernel_rfl) ?_; intro V7 BW hE7 hBW hz7; have hps7' := hps7.ext hE7; have hb7' := hb7.ext hE7)
    | ((with_reducible refine at_store 165 ?_); refine wpList_storeAll V7 rfl 165 _ _ rfl BW 165 _ (winC pa) hz7 rfl rfl rfl (by kernel_rfl) (by intro v hv; simp [winC] at hv; rcases hv with rfl | rfl | rfl | rfl <;> rfl) ?_; intro W8 hbw hg8 hs8))
  have hE8 : Ext W7 W8 := grown_below hE7 hg8 hE7.size hBW
  have hps8 := hps7.ext hE8
  have hb8 := hb7.ext hE8
  clear hz7 hps7' hb7' hg8 hs8 hE7 hps7 hw7 cc7
  simp only [Act.put, List.setIfInBounds_toArray, List.set_cons_succ, List.set_cons_zero]
  refine Flow.wp_region_flow (g) [(14, fun b => g ≤ b)] [(2, fun W => Chg (fun _ => False) W8 W), (5, fun W => Chg (fun _ => False) W8 W), (8, fun W => Chg (fun _ => False) W8 W), (11, fun W => Chg (fun _ => False) W8 W), (14, fun W => Chg (fun _ => False) W8 W)] (by kernel_rfl) (by kernel_rfl) (Nat.le_of_lt hps8.lt) (Flow.nz_cons (fun b h => h) Flow.nz_nil) (Flow.facts_cons ((Chg.refl _ _).drew) (fun _ _ c h => h.trans c) (Flow.fz_cons (Flow.no_follow (by kernel_rfl)) Flow.fz_nil) (Flow.facts_cons ((Chg.refl _ _).drew) (fun _ _ c h => h.trans c) (Flow.fz_cons (Flow.no_follow (by kernel_rfl)) Flow.fz_nil) (Flow.facts_cons ((Chg.refl _ _).drew) (fun _ _ c h => h.trans c) (Flow.fz_cons (Flow.no_follow (by kernel_rfl)) Flow.fz_nil) (Flow.facts_cons ((Chg.refl _ _).drew) (fun _ _ c h => h.trans c) (Flow.fz_cons (Flow.no_follow (by kernel_rfl)) Flow.fz_nil) (Flow.facts_cons ((Chg.refl _ _).drew) (fun _ _ c h => h.trans c) (Flow.fz_cons (Flow.no_follow (by kernel_rfl)) Flow.fz_nil) Flow.facts_nil)))))  ?_
  refine Flow.pass_old (X := .pointer (some ⟨g, 0, none⟩)) 0 (Flow.met_none rfl) (.inl rfl) (by kernel_rfl) (by kernel_rfl) rfl ?_
  refine Flow.pass_val (.pointer (some ⟨BW, 0, none⟩)) (Flow.met_none rfl) (fun a W hH => ?_) ?_
  · have e0 := Flow.see_old 6 hH.sees (by kernel_rfl) (by kernel_rfl) rfl
    go_simp; first | done | rfl
  refine Flow.pass_val (.int .u64 (0)) (Flow.met_none rfl) (fun a W hH => ?_) ?_
  · have e0 := Flow.see_new 69 1 hH.sees (by kernel_rfl) (by kernel_rfl) rfl rfl
    have fa0 : (fun W => Chg (fun _ => False) W8 W) W := hH.fact _ (List.mem_of_getElem? (i := 0) rfl) rfl
    have cc : World.cell? W ⟨BW, 0, none⟩ = some (.int .u64 (0)) := (((hbw).chg fa0 id).cell (0)).trans rfl; go_simp; first | done | rfl
  refine Flow.pass_step (fun v _ => ∃ s : List UInt8, v = strVE s ∧ s.length ≤ 30) (Flow.kept_of (fun _ _ _ _ h => h) (Flow.kz_cons (fun _ => fun _ _ _ _ h => h) Flow.kz_nil)) (Flow.met_none rfl) (fun a W hH => ?_) ?_
  · have e0 := Flow.see_new 70 2 hH.sees (by kernel_rfl) (by kernel_rfl) rfl rfl
    refine Reg.wp_call rfl Tryz.func40 rfl (by kernel_rfl) (by simp [Act.eval, e0]) (wide_any (0) (by omega) W) ?_
    rintro e w' ⟨⟨_, rfl, s, rfl, hs⟩, hB⟩
    exact ⟨_, rfl, _, rfl, hB, s, rfl, hs⟩
  refine Flow.pass_val (.pointer (some ⟨BW, 1, none⟩)) (Flow.met_none rfl) (fun a W hH => ?_) ?_
  · have e0 := Flow.see_old 6 hH.sees (by kernel_rfl) (by kernel_rfl) rfl
    go_simp; first | done | rfl
  refine Flow.pass_val (.int .u64 (pa : Int)) (Flow.met_none rfl) (fun a W hH => ?_) ?_
  · have e0 := Flow.see_new 72 4 hH.sees (by kernel_rfl) (by kernel_rfl) rfl rfl
    have fa1 : (fun W => Chg (fun _ => False) W8 W) W := hH.fact _ (List.mem_of_getElem? (i := 1) rfl) rfl
    have cc : World.cell? W ⟨BW, 1, none⟩ = some (.int .u64 (pa : Int)) := (((hbw).chg fa1 id).cell (1)).trans rfl; go_simp; first | done | rfl
  refine Flow.pass_step (fun v _ => ∃ s : List UInt8, v = strVE s ∧ s.length ≤ 30) (Flow.kept_of (fun _ _ _ _ h => h) (Flow.kz_cons (fun _ => fun _ _ _ _ h => h) Flow.kz_nil)) (Flow.met_none rfl) (fun a W hH => ?_) ?_
  · have e0 := Flow.see_new 73 5 hH.sees (by kernel_rfl) (by kernel_rfl) rfl rfl
    refine Reg.wp_call rfl Tryz.func40 rfl (by kernel_rfl) (by simp [Act.eval, e0]) (wide_any (pa) (by omega) W) ?_
    rintro e w' ⟨⟨_, rfl, s, rfl, hs⟩, hB⟩
    exact ⟨_, rfl, _, rfl, hB, s, rfl, hs⟩
  refine Flow.pass_val (.pointer (some ⟨BW, 2, none⟩)) (Flow.met_none rfl) (fun a W hH => ?_) ?_
  · have e0 := Flow.see_old 6 hH.sees (by kernel_rfl) (by kernel_rfl) rfl
    go_simp; first | done | rfl
  refine Flow.pass_val (.int .u64 (1048576)) (Flow.met_none rfl) (fun a W hH => ?_) ?_
  · have e0 := Flow.see_new 75 7 hH.sees (by kernel_rfl) (by kernel_rfl) rfl rfl
    have fa2 : (fun W => Chg (fun _ => False) W8 W) W := hH.fact _ (List.mem_of_getElem? (i := 2) rfl) rfl
    have cc : World.cell? W ⟨BW, 2, none⟩ = some (.int .u64 (1048576)) := (((hbw).chg fa2 id).cell (2)).trans rfl; go_simp; first | done | rfl
  refine Flow.pass_step (fun v _ => ∃ s : List UInt8, v = strVE s ∧ s.length ≤ 30) (Flow.kept_of (fun _ _ _ _ h => h) (Flow.kz_cons (fun _ => fun _ _ _ _ h => h) Flow.kz_nil)) (Flow.met_none rfl) (fun a W hH => ?_) ?_
  · have e0 := Flow.see_new 76 8 hH.sees (by kernel_rfl) (by kernel_rfl) rfl rfl
    refine Reg.wp_call rfl Tryz.func40 rfl (by kernel_rfl) (by simp [Act.eval, e0]) (wide_any (1048576) (by omega) W) ?_
    rintro e w' ⟨⟨_, rfl, s, rfl, hs⟩, hB⟩
    exact ⟨_, rfl, _, rfl, hB, s, rfl, hs⟩
  refine Flow.pass_val (.pointer (some ⟨BW, 3, none⟩)) (Flow.met_none rfl) (fun a W hH => ?_) ?_
  · have e0 := Flow.see_old 6 hH.sees (by kernel_rfl) (by kernel_rfl) rfl
    go_simp; first | done | rfl
  refine Flow.pass_val (.int .i64 (7)) (Flow.met_none rfl) (fun a W hH => ?_) ?_
  · have e0 := Flow.see_new 78 10 hH.sees (by kernel_rfl) (by kernel_rfl) rfl rfl
    have fa3 : (fun W => Chg (fun _ => False) W8 W) W := hH.fact _ (List.mem_of_getElem? (i := 3) rfl) rfl
    have cc : World.cell? W ⟨BW, 3, none⟩ = some (.int .i64 (7)) := (((hbw).chg fa3 id).cell (3)).trans rfl; go_simp; first | done | rfl
  refine Flow.pass_step (fun v _ => ∃ s : List UInt8, v = strVE s ∧ s.length ≤ 30) (Flow.kept_of (fun _ _ _ _ h => h) (Flow.kz_cons (fun _ => fun _ _ _ _ h => h) Flow.kz_nil)) (Flow.met_none rfl) (fun a W hH => ?_) ?_
  · have e0 := Flow.see_new 79 11 hH.sees (by kernel_rfl) (by kernel_rfl) rfl rfl
    refine Reg.wp_call rfl Tryz.func41 rfl (by kernel_rfl) (by simp [Act.eval, e0]) (perm_any 7 (.inl rfl) W) ?_
    rintro e w' ⟨⟨_, rfl, s, rfl, hs⟩, hB⟩
    exact ⟨_, rfl, _, rfl, hB, s, rfl, hs⟩
  refine Flow.pass_lin [14] (fun v W => ∃ (b : Nat) (ws : List (List UInt8)), v = .slice (some ⟨b, 0, none⟩) 5 5 ∧ (ws.length = 5 ∧ 0 ≤ tot ws ∧ tot ws ≤ 1000 ∧ Blk W b 9 (ws.map strVE).toArray)) (Flow.kept_lin [14] (fun _ _ _ c ⟨b, ws, h1, h2, h3, h4, h5⟩ => ⟨b, ws, h1, h2, h3, h4, h5.chg c id⟩) (Flow.lz_cons (fun _ => .inl rfl) Flow.lz_nil)) (Flow.met_none rfl) (fun a W hH => ?_) ?_
  · obtain ⟨s0, e0, q0⟩ := Flow.see_up 71 3 hH.sees (by kernel_rfl) (by kernel_rfl) rfl rfl
    obtain ⟨s1, e1, q1⟩ := Flow.see_up 74 6 hH.sees (by kernel_rfl) (by kernel_rfl) rfl rfl
    obtain ⟨s2, e2, q2⟩ := Flow.see_up 77 9 hH.sees (by kernel_rfl) (by kernel_rfl) rfl rfl
    obtain ⟨s3, e3, q3⟩ := Flow.see_up 80 12 hH.sees (by kernel_rfl) (by kernel_rfl) rfl rfl
    refine Flow.wp_run (Flow.reg_buildSlice _ rfl (by simp [Act.eval, strVE, e0, e1, e2, e3]) (run_s5 W ([119, 105, 110, 100, 111, 119]) (s0) (s1) (s2) (s3))) ?_
    exact ⟨_, rfl, Chg.of_ext ((Ext.refl W).alloc _), W.heap.size, [[119, 105, 110, 100, 111, 119], s0, s1, s2, s3], rfl, rfl, by simp [tot], by simp [tot]; omega, Blk.new _ _ _⟩
  refine Flow.pass_gen (fun v W => v = .tuple #[] ∧ (PSt w g l.length 130 7700 W ∧ KpT g W8 W)) (Flow.kept_of (fun _ _ _ c ⟨h1, h2, h3⟩ => ⟨h1, h2.ext c.ext, h3.trans (KpT.of_ext c.ext (Nat.le_of_lt h2.lt))⟩) (Flow.kz_cons (Flow.no_follow (by kernel_rfl)) Flow.kz_nil)) (Flow.met_none rfl) (fun a W hH => ?_) ?_
  · have e0 := Flow.see_new 68 0 hH.sees (by kernel_rfl) (by kernel_rfl) rfl rfl
    obtain ⟨b1, ws1, e1, q1⟩ := Flow.see_lin 81 13 hH.sees (by kernel_rfl) (by kernel_rfl) rfl rfl (by kernel_rfl)
    have fa4 : (fun W => Chg (fun _ => False) W8 W) W := hH.fact _ (List.mem_of_getElem? (i := 4) rfl) rfl
    refine Flow.wp_callZ rfl Tryz.func37 rfl (by kernel_rfl) (by simp [Act.eval, e0, e1]) (line_ps w g b1 true ws1 5 (Lib.hid q1.1) (by omega) q1.2.2.1 l.length 130 6600 0 (by omega) W q1.2.2.2 (PSt.ext hps8 fa4.ext) q1.2.1) ?_
    rintro e w' ⟨rfl, hp2, hK⟩
    exact ⟨_, rfl, Chg.of_below hK.below (fun _ h _ => h), rfl, hp2, (KpT.of_ext fa4.ext (Nat.le_of_lt hps8.lt)).trans hK⟩
  refine Flow.pass_end [none, none, none, none, none, none, none, none, none, none, none, none, none, none, none, none, none, none, none, none, none, none, none, none, none, none, none, none, none, none, none, none, none, none, none, none, none, none, none, none, none, none, none, none, none, none, none, none, none, none, none, none, none, none, none, none, none, none, none, none, none, none, none, none, none, none, none, none, some 68, some 69, some 70, some 71, some 72, some 73, some 74, some 75, some 76, some 77, some 78, some 79, some 80, some 81, some 82, none, none, none, none, none, none, none, none, none, none, none, none, none, none, none, none, none, none, none, none, none, none, none, none, none, none, none, none, none, none, none, none, none, none, none, none, none, none, none, none, none, none, none, none, none, none, none, none, none, none, none, none, none, none, none, none, none, none, none, none] (by kernel_rfl) ?_
  intro f gg w9 hB hfa hT hfg
  have h82 := hT 14 _ (by kernel_rfl) rfl
  rw [← hfg 82 14 (by kernel_rfl)] at h82
  obtain ⟨_, hps9, hK9⟩ := h82
  have hb9 := hK9.blk B0 _ _ (by decide) hgB hb8
  simp only [Reg.sel]
  clear hT hfg hfa hB hK9 hps8 hb8 hbw hE8 hb7
  have cc76 := (hb9.cell 76).trans g76
  have cc77 := (hb9.cell 77).trans g77
  have hi9 := hps9.k.blk b2 _ _ (by decide) hn2 h2
  go_wp2_with fail
  simp only [rounds_succ]
  go_wp2_with fail
  refine wp_loop_rounds 1 ?_
  simp only [rounds_succ]
  go_wp2_with fail
  refine wp_loop_rounds 2 ?_
  simp only [rounds_succ]
  go_wp2_with (first
    | ((with_reducible refine at_load 167 ?_); refine wpList_loadAll w9 rfl 167 _ rfl b2 167 (irqC nq cpu) hi9 _ rfl Tryz.underlying167 rfl (by kernel_rfl) ?_)
    | ((with_reducible refine at_alloc 167 ?_); refine wpList_allocO w9 rfl rfl (.agg #[.int .i64 0, .int .i64 0, .bool false]) (fun W => by kernel_rfl) ?_; intro V9 BI hE9 hBI hz9)
    | ((with_reducible refine at_store 167 ?_); refine wpList_storeAll V9 rfl 167 _ _ rfl BI 167 _ (irqC nq cpu) hz9 rfl rfl rfl (by kernel_rfl) (by intro v hv; simp [irqC] at hv; rcases hv with rfl | rfl | rfl <;> rfl) ?_; intro W10 hbi hg10 hs10; have cci := (hbi.cell 2).trans (show (irqC nq cpu)[2]? = some (.bool false) from rfl)))
  have hE10 : Ext w9 W10 := grown_below hE9 hg10 hE9.size hBI
  have hps10 := hps9.ext hE10
  have hb10 := hb9.ext hE10
  clear hz9 hg10 hs10 hE9 hps9 hi9 cc76 cc77 cci
  refine Flow.wp_region_flow (g) [(11, fun b => g ≤ b)] [(2, fun W => Chg (fun _ => False) W10 W), (6, fun W => Chg (fun _ => False) W10 W), (11, fun W => Chg (fun _ => False) W10 W)] (by kernel_rfl) (by kernel_rfl) (Nat.le_of_lt hps10.lt) (Flow.nz_cons (fun b h => h) Flow.nz_nil) (Flow.facts_cons ((Chg.refl _ _).drew) (fun _ _ c h => h.trans c) (Flow.fz_cons (Flow.no_follow (by kernel_rfl)) Flow.fz_nil) (Flow.facts_cons ((Chg.refl _ _).drew) (fun _ _ c h => h.trans c) (Flow.fz_cons (Flow.no_follow (by kernel_rfl)) Flow.fz_nil) (Flow.facts_cons ((Chg.refl _ _).drew) (fun _ _ c h => h.trans c) (Flow.fz_cons (Flow.no_follow (by kernel_rfl)) Flow.fz_nil) Flow.facts_nil)))  ?_
  refine Flow.pass_old (X := .pointer (some ⟨g, 0, none⟩)) 0 (Flow.met_none rfl) (.inl rfl) (by kernel_rfl) (by kernel_rfl) rfl ?_
  refine Flow.pass_val (.pointer (some ⟨BI, 0, none⟩)) (Flow.met_none rfl) (fun a W hH => ?_) ?_
  · have e0 := Flow.see_old 10 hH.sees (by kernel_rfl) (by kernel_rfl) rfl
    go_simp; first | done | rfl
  refine Flow.pass_val (.int .i64 (nq : Int)) (Flow.met_none rfl) (fun a W hH => ?_) ?_
  · have e0 := Flow.see_new 114 1 hH.sees (by kernel_rfl) (by kernel_rfl) rfl rfl
    have fa0 : (fun W => Chg (fun _ => False) W10 W) W := hH.fact _ (List.mem_of_getElem? (i := 0) rfl) rfl
    have cc : World.cell? W ⟨BI, 0, none⟩ = some (.int .i64 (nq : Int)) := (((hbi).chg fa0 id).cell (0)).trans rfl; go_simp; first | done | rfl
  refine Flow.pass_val (.int .u64 (nq : Int)) (Flow.met_none rfl) (fun a W hH => ?_) ?_
  · have e0 := Flow.see_new 115 2 hH.sees (by kernel_rfl) (by kernel_rfl) rfl rfl
    go_simp; first | done | rfl | omega | (rw [IntWalk.u64_in _ (by omega)]; first | done | rfl)
  refine Flow.pass_step (fun v _ => ∃ s : List UInt8, v = strVE s ∧ s.length ≤ 30) (Flow.kept_of (fun _ _ _ _ h => h) (Flow.kz_cons (fun _ => fun _ _ _ _ h => h) Flow.kz_nil)) (Flow.met_none rfl) (fun a W hH => ?_) ?_
  · have e0 := Flow.see_new 116 3 hH.sees (by kernel_rfl) (by kernel_rfl) rfl rfl
    refine Reg.wp_call rfl Tryz.func38 rfl (by kernel_rfl) (by simp [Act.eval, e0]) (decimal_any nq (by omega) W) ?_
    rintro e w' ⟨⟨_, rfl, s, rfl, hs⟩, hB⟩
    exact ⟨_, rfl, _, rfl, hB, s, rfl, hs⟩
  refine Flow.pass_val (.pointer (some ⟨BI, 1, none⟩)) (Flow.met_none rfl) (fun a W hH => ?_) ?_
  · have e0 := Flow.see_old 10 hH.sees (by kernel_rfl) (by kernel_rfl) rfl
    go_simp; first | done | rfl
  refine Flow.pass_val (.int .i64 (cpu : Int)) (Flow.met_none rfl) (fun a W hH => ?_) ?_
  · have e0 := Flow.see_new 118 5 hH.sees (by kernel_rfl) (by kernel_rfl) rfl rfl
    have fa1 : (fun W => Chg (fun _ => False) W10 W) W := hH.fact _ (List.mem_of_getElem? (i := 1) rfl) rfl
    have cc : World.cell? W ⟨BI, 1, none⟩ = some (.int .i64 (cpu : Int)) := (((hbi).chg fa1 id).cell (1)).trans rfl; go_simp; first | done | rfl
  refine Flow.pass_val (.int .u64 (cpu : Int)) (Flow.met_none rfl) (fun a W hH => ?_) ?_
  · have e0 := Flow.see_new 119 6 hH.sees (by kernel_rfl) (by kernel_rfl) rfl rfl
    go_simp; first | done | rfl | omega | (rw [IntWalk.u64_in _ (by omega)]; first | done | rfl)
  refine Flow.pass_step (fun v _ => ∃ s : List UInt8, v = strVE s ∧ s.length ≤ 30) (Flow.kept_of (fun _ _ _ _ h => h) (Flow.kz_cons (fun _ => fun _ _ _ _ h => h) Flow.kz_nil)) (Flow.met_none rfl) (fun a W hH => ?_) ?_
  · have e0 := Flow.see_new 120 7 hH.sees (by kernel_rfl) (by kernel_rfl) rfl rfl
    refine Reg.wp_call rfl Tryz.func38 rfl (by kernel_rfl) (by simp [Act.eval, e0]) (decimal_any cpu (by omega) W) ?_
    rintro e w' ⟨⟨_, rfl, s, rfl, hs⟩, hB⟩
    exact ⟨_, rfl, _, rfl, hB, s, rfl, hs⟩
  refine Flow.pass_old (X := strVE ([108, 101, 118, 101, 108])) 11 (Flow.met_none rfl) (.inl rfl) (by kernel_rfl) (by kernel_rfl) rfl ?_
  refine Flow.pass_lin [11] (fun v W => ∃ (b : Nat) (ws : List (List UInt8)), v = .slice (some ⟨b, 0, none⟩) 4 4 ∧ (ws.length = 4 ∧ 0 ≤ tot ws ∧ tot ws ≤ 1000 ∧ Blk W b 9 (ws.map strVE).toArray)) (Flow.kept_lin [11] (fun _ _ _ c ⟨b, ws, h1, h2, h3, h4, h5⟩ => ⟨b, ws, h1, h2, h3, h4, h5.chg c id⟩) (Flow.lz_cons (fun _ => .inl rfl) Flow.lz_nil)) (Flow.met_none rfl) (fun a W hH => ?_) ?_
  · obtain ⟨s0, e0, q0⟩ := Flow.see_up 117 4 hH.sees (by kernel_rfl) (by kernel_rfl) rfl rfl
    obtain ⟨s1, e1, q1⟩ := Flow.see_up 121 8 hH.sees (by kernel_rfl) (by kernel_rfl) rfl rfl
    have e2 := Flow.see_new 122 9 hH.sees (by kernel_rfl) (by kernel_rfl) rfl rfl
    refine Flow.wp_run (Flow.reg_buildSlice _ rfl (by simp [Act.eval, strVE, e0, e1, e2]) (run_s4 W ([105, 114, 113]) (s0) (s1) ([108, 101, 118, 101, 108]))) ?_
    exact ⟨_, rfl, Chg.of_ext ((Ext.refl W).alloc _), W.heap.size, [[105, 114, 113], s0, s1, [108, 101, 118, 101, 108]], rfl, rfl, by simp [tot], by simp [tot]; omega, Blk.new _ _ _⟩
  refine Flow.pass_gen (fun v W => v = .tuple #[] ∧ (PSt w g l.length 130 8800 W ∧ KpT g W10 W)) (Flow.kept_of (fun _ _ _ c ⟨h1, h2, h3⟩ => ⟨h1, h2.ext c.ext, h3.trans (KpT.of_ext c.ext (Nat.le_of_lt h2.lt))⟩) (Flow.kz_cons (Flow.no_follow (by kernel_rfl)) Flow.kz_nil)) (Flow.met_none rfl) (fun a W hH => ?_) ?_
  · have e0 := Flow.see_new 113 0 hH.sees (by kernel_rfl) (by kernel_rfl) rfl rfl
    obtain ⟨b1, ws1, e1, q1⟩ := Flow.see_lin 123 10 hH.sees (by kernel_rfl) (by kernel_rfl) rfl rfl (by kernel_rfl)
    have fa2 : (fun W => Chg (fun _ => False) W10 W) W := hH.fact _ (List.mem_of_getElem? (i := 2) rfl) rfl
    refine Flow.wp_callZ rfl Tryz.func37 rfl (by kernel_rfl) (by simp [Act.eval, e0, e1]) (line_ps w g b1 true ws1 4 (Lib.hid q1.1) (by omega) q1.2.2.1 l.length 130 7700 0 (by omega) W q1.2.2.2 (PSt.ext hps10 fa2.ext) q1.2.1) ?_
    rintro e w' ⟨rfl, hp2, hK⟩
    exact ⟨_, rfl, Chg.of_below hK.below (fun _ h _ => h), rfl, hp2, (KpT.of_ext fa2.ext (Nat.le_of_lt hps10.lt)).trans hK⟩
  refine Flow.pass_end [none, none, none, none, none, none, none, none, none, none, none, none, none, none, none, none, none, none, none, none, none, none, none, none, none, none, none, none, none, none, none, none, none, none, none, none, none, none, none, none, none, none, none, none, none, none, none, none, none, none, none, none, none, none, none, none, none, none, none, none, none, none, none, none, none, none, none, none, none, none, none, none, none, none, none, none, none, none, none, none, none, none, none, none, none, none, none, none, none, none, none, none, none, none, none, none, none, none, none, none, none, none, none, none, none, none, none, none, none, none, none, none, none, some 113, some 114, some 115, some 116, some 117, some 118, some 119, some 120, some 121, some 122, some 123, some 124, none, none, none, none, none, none, none, none, none, none, none, none, none, none, none, none, none, none] (by kernel_rfl) ?_
  intro f gg w9 hB hfa hT hfg
  have h124 := hT 11 _ (by kernel_rfl) rfl
  rw [← hfg 124 11 (by kernel_rfl)] at h124
  obtain ⟨_, hps11, hK11⟩ := h124
  have hb11 := hK11.blk B0 _ _ (by decide) hgB hb10
  simp only [Reg.sel]
  clear hT hfg hfa hB hK11 hps10 hb10 hbi hE10 hb9
  have cc78 := (hb11.cell 78).trans g78
  have ccs := ((hps11.k.blk b3 _ _ (by decide) hn3 h3).cell 0).trans (show (#[Value.int .u32 (cpu : Int)] : Array Value)[0]? = some (Value.int .u32 (cpu : Int)) from rfl)
  go_wp2_with fail
  simp only [rounds_succ]
  go_wp2_with fail
  refine wp_loop_rounds 2 ?_
  simp only [rounds_succ]
  go_wp2_with fail
  refine (decimal_any cpu (by omega) w9).mono ?_
  rintro e V12 ⟨⟨_, rfl, s12, rfl, hs12⟩, hB12⟩
  have hps12 := hps11.ext hB12
  clear cc78 ccs hb11 hps11 hB12
  go_wp2_with ((with_reducible refine at_buildSlice 178 ?_); refine wpList_bsO V12 rfl rfl #[(0, strVE [115, 116, 114, 101, 97, 109]), (1, strVE s12)] _ (by simp [Act.eval, strVE]) (run_s2 V12 [115, 116, 114, 101, 97, 109] s12) ?_; intro U12 x12 hE12 hx12 hbx12)
  refine (line_ps w g x12 true [[115, 116, 114, 101, 97, 109], s12] 2 (Lib.hid rfl) (by omega) (by simp [tot]; omega) l.length 130 8800 0 (by omega) U12 hbx12 (hps12.ext hE12) (Nat.zero_le _)).mono ?_
  rintro e W13 ⟨rfl, hps13, _⟩
  clear hE12 hx12 hbx12 hps12 hs12
  go_wp2_with fail
  simp only [rounds_succ]
  go_wp2_with ((with_reducible refine at_buildSlice 178 ?_); refine wpList_bsO W13 rfl rfl #[(0, strVE [101, 110, 100])] _ (by simp [Act.eval, strVE]) (run_s1 W13 [101, 110, 100]) ?_; intro U13 x13 hE13 hx13 hbx13)
  refine (line_ps w g x13 false [[101, 110, 100]] 1 (Lib.hid rfl) (by omega) (by simp [tot]) l.length 130 9900 0 (by omega) U13 hbx13 (hps13.ext hE13) (Nat.zero_le _)).mono ?_
  rintro e W14 ⟨rfl, hps14, _⟩
  go_wp2_with fail
  go_end0
  obtain ⟨⟨l', h1', h2', h3'⟩, hk⟩ := hps14
  exact ⟨rfl, ⟨l', by omega, by omega, h3'⟩, hk⟩
end Go.Proofs.YtpellkblaeeopaaGreatDoor
