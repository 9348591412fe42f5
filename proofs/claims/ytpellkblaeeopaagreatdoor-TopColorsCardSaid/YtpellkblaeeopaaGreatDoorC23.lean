/-
  Parts: GeL GeM GeN.
-/
import Derived.Test.YtpellkblaeeopaaGreatDoorC22
import Derived.Test.YtpellkblaeeopaaGreatDoorC10
import Derived.Test.YtpellkblaeeopaaGreatDoorC20
/-
  Walk for awake35: text.Print.
-/
namespace Go.Proofs.YtpellkblaeeopaaGreatDoor
open Go.RowKit

set_option maxRecDepth 100000 in
theorem pguest_ps (w : World) (g n lo hi : Nat) (hn : n + hi ≤ 100000) (nm : List UInt8) (hnm : nm.length ≤ 16) (cm pa nq cpu b1 b2 b3 : Nat) (hcm : cm < 4294967296) (hpa : pa < 18446744073709551616) (hnq : nq < 1000) (hcpu : cpu < 100) (W : World) (hp : PSt w g n lo hi W)
    (h1 : Blk W b1 165 (winC pa)) (h2 : Blk W b2 167 (irqC nq cpu)) (h3 : Blk W b3 51 #[.int .u32 (cpu : Int)]) :
    Calls Tryz.prog 39 #[.pointer (some ⟨g, 0, none⟩), .agg (gstC ⟨nm.toArray⟩ cm b1 b2 b3)] W fun e w' => e = .returned (.tuple #[]) ∧ PSt w g n (lo + 130) (hi + 20000) w' ∧ KpT g W w' := by
  obtain ⟨⟨l, q1, q2, q3⟩, hk⟩ := hp
  refine (pguest_any g l (by omega) nm hnm cm pa nq cpu b1 b2 b3 hcm hpa hnq hcpu W q3 h1 h2 h3).mono ?_
  rintro e w' ⟨he, ⟨l', g1, g2, g3⟩, hK⟩
  exact ⟨he, ⟨⟨l', by omega, by omega, g3⟩, hk.trans hK⟩, hK⟩
theorem GsB.ext {B : Nat} {W W' : World} {bs b1 b2 b3 b4 b5 b6 : Nat} (h : GsB B W bs b1 b2 b3 b4 b5 b6) (hE : Ext W W') : GsB B W' bs b1 b2 b3 b4 b5 b6 := h.chg (Chg.of_ext (Z := fun _ => False) hE) (fun _ h => h.elim)
theorem run_pg (w : World) : (Instr.build 128 #[]).run Tryz.prog w = .ok (.agg #[.slice none 0 0]) w := by kernel_rfl
set_option maxRecDepth 100000 in
set_option maxHeartbeats 8000000 in
theorem print_any (w : World) (B bs bc b1 b2 b3 b4 b5 b6 : Nat) (hgs : GsB B w bs b1 b2 b3 b4 b5 b6) (hch0 : Blk w bc 115 chC) :
    Calls Tryz.prog 14 #[.agg (cfgC bs bc)] w fun e w' => (∃ s : List UInt8, e = .returned (.tuple #[strVE s, .int .i64 0]) ∧ 100 < s.length ∧ s.length ≤ 1000000) ∧ Below w.heap.size w w' := by
  obtain ⟨cc, hcc⟩ : ∃ cc, cc = cfgC bs bc := ⟨_, rfl⟩
  rw [← hcc]
  have hci : (Tryz.prog.info? 55).map (·.size) = some cc.size := hcc ▸ infCf
  have HCC := Lib.hid hcc
  have hput : ∀ W, Ext w W → Calls Tryz.prog 35 #[.agg cc] W fun e w' => (∃ A n c, e = .returned (.tuple #[.slice A n c, .int .i64 0])) ∧ Below W.heap.size W w' := fun W hE => by rw [HCC.out]; exact put_any W B bs bc b1 b2 b3 b4 b5 b6 (hgs.ext hE) (hch0.ext hE)
  have hnam : ∀ W, Ext w W → Calls Tryz.prog 36 #[.agg cc] W fun e w' => e = .returned (.bool true) ∧ Below W.heap.size W w' := fun W hE => by rw [HCC.out]; exact named_any B bs bc b1 b2 b3 b4 b5 b6 W (hgs.ext hE) (hch0.ext hE)
  clear hcc
  go_enter Tryz.func14, Tryz.ntmps14
  go_wp2_with (first
    | ((with_reducible refine at_box 55 ?_); refine wpList_boxO w rfl rfl cc rfl ?_; intro W1 CB hE1 hl1 hb1)
    | ((with_reducible refine at_load 55 ?_); refine wpList_loadAll W1 rfl 55 _ rfl CB 55 cc hb1 _ rfl Tryz.underlying55 rfl hci ?_))
  refine (hput W1 hE1).mono ?_
  rintro e W2 ⟨⟨A0, n0, c0, rfl⟩, hB2⟩
  have hE2 : Ext w W2 := hE1.trans hB2
  have hb2 := hb1.ext hB2
  go_wp2_with ((with_reducible refine at_load 55 ?_); refine wpList_loadAll W2 rfl 55 _ rfl CB 55 cc hb2 _ rfl Tryz.underlying55 rfl hci ?_)
  refine (hnam W2 hE2).mono ?_
  rintro e W3 ⟨rfl, hB3⟩
  have hE3 : Ext w W3 := hE2.trans hB3
  have hb3 := hb2.ext hB3
  clear hput hnam hb1 hb2 hB2 hB3 hE1 hE2
  have cc0 : W3.cell? ⟨CB, 0, none⟩ = some (.int .u32 1) := (hb3.cell 0).trans (by rw [HCC.out]; rfl)
  go_wp2_with (first
    | ((with_reducible refine at_build 128 ?_); refine wpList_runV rfl (Flow.reg_build _ rfl rfl (run_pg _)) ?_)
    | ((with_reducible refine at_box 128 ?_); refine wpList_boxO W3 rfl rfl #[.slice none 0 0] rfl ?_; intro X g hEX hlX hbX; have cc0X : X.cell? ⟨CB, 0, none⟩ = some (.int .u32 1) := ((hb3.ext hEX).cell 0).trans (by rw [HCC.out]; rfl)))
  have hcb := hb3.ext hEX
  rw [HCC.out] at hcb
  have hwX := hE3.trans hEX
  have hgsX := hgs.ext hwX
  have hch := hch0.ext hwX
  have hps : PSt X g 0 0 0 X := ⟨⟨[], Nat.le_refl _, Nat.le_refl _, none, 0, hbX, World.ownsRow_nil _ _ _ _⟩, KpT.refl _ _⟩
  have hwg : w.heap.size ≤ g := by have := hE3.size; omega
  have hk0 : KpT g X X := KpT.refl _ _
  have hn : ∀ b t cs, t ≠ 128 → Blk X b t cs → b ≠ g := fun b t cs ht hb e => by
    subst e
    unfold Blk at hbX hb
    rw [hbX] at hb
    injection hb with hb
    injection hb with _ hb
    exact ht hb.symm
  have hcg : CB ≠ g := hn _ _ _ (by decide) hcb
  have hbg : bs ≠ g := hn _ _ _ (by decide) hgsX.hs
  have hbcg : bc ≠ g := hn _ _ _ (by decide) hch
  have hn1 : b1 ≠ g := hn _ _ _ (by decide) hgsX.h1
  have hn2 : b2 ≠ g := hn _ _ _ (by decide) hgsX.h2
  have hn3 : b3 ≠ g := hn _ _ _ (by decide) hgsX.h3
  have hn4 : b4 ≠ g := hn _ _ _ (by decide) hgsX.h4
  have hn5 : b5 ≠ g := hn _ _ _ (by decide) hgsX.h5
  have hn6 : b6 ≠ g := hn _ _ _ (by decide) hgsX.h6
  obtain ⟨gA, hgA⟩ : ∃ gA, gA = gstC ⟨#[111, 110, 101]⟩ 1 b1 b2 b3 := ⟨_, rfl⟩
  obtain ⟨gB, hgB⟩ : ∃ gB, gB = gstC ⟨#[116, 119, 111]⟩ 2 b4 b5 b6 := ⟨_, rfl⟩
  have hA : GC gA ⟨#[111, 110, 101]⟩ 1 b1 b2 b3 := hgA ▸ GC.of _ _ _ _ _
  have hB : GC gB ⟨#[116, 119, 111]⟩ 2 b4 b5 b6 := hgB ▸ GC.of _ _ _ _ _
  have hs := hgsX.hs
  rw [← hgA, ← hgB] at hs
  have HgA := Lib.hid hgA
  have HgB := Lib.hid hgB
  have hn0 : (gA ++ gB)[0]? = some (.string ⟨#[111, 110, 101]⟩) := by rw [Array.getElem?_append_left (by rw [hA.size]; omega)]; exact hA.c0
  have hn79 : (gA ++ gB)[79]? = some (.string ⟨#[116, 119, 111]⟩) := by rw [Array.getElem?_append_right (by rw [hA.size]; omega), hA.size]; exact hB.c0
  clear hgA hgB hn hb3 hbX hEX hE3 cc0
  refine (decimal_any 1 (by omega) X).mono ?_
  rintro e Y1 ⟨⟨_, rfl, s1, rfl, hs1⟩, hB1⟩
  have hkY : KpT g X Y1 := KpT.of_ext hB1 (Nat.le_of_lt hps.lt)
  replace hcb := hkY.blk CB _ _ (by decide) hcg hcb
  replace hs := hkY.blk bs _ _ (by decide) hbg hs
  replace hch := hkY.blk bc _ _ (by decide) hbcg hch
  replace hk0 := hk0.trans hkY
  replace hps := hps.ext hB1
  go_wp2_with ((with_reducible refine at_buildSlice 178 ?_); refine wpList_bsO Y1 rfl rfl #[(0, strVE [118, 101, 114, 115, 105, 111, 110]), (1, strVE s1)] _ (by simp [Act.eval, strVE]) (run_s2 Y1 [118, 101, 114, 115, 105, 111, 110] s1) ?_; intro U1 x1 hEU1 hx1 hbx1)
  refine (line_ps X g x1 false [[118, 101, 114, 115, 105, 111, 110], s1] 2 (Lib.hid rfl) (by omega) (by simp [tot]; omega) 0 0 0 0 (by omega) U1 hbx1 (hps.ext hEU1) (Nat.zero_le _)).mono ?_
  rintro e Y2 ⟨rfl, hpsY, hKY⟩
  have hkY2 := (KpT.of_ext hEU1 (Nat.le_of_lt hps.lt)).trans hKY
  replace hcb := hkY2.blk CB _ _ (by decide) hcg hcb
  replace hs := hkY2.blk bs _ _ (by decide) hbg hs
  replace hch := hkY2.blk bc _ _ (by decide) hbcg hch
  replace hk0 := hk0.trans hkY2
  replace hps : PSt X g 0 0 1100 Y2 := hpsY
  clear hkY hB1 hs1 hEU1 hx1 hbx1 hpsY hKY hkY2 cc0X
  have cc1 := (hcb.cell 1).trans (show (cfgC bs bc)[1]? = some (Value.slice (some ⟨bs, 0, none⟩) 2 2) from rfl)
  go_wp2_with fail
  refine wp_loop_rounds 3 ?_
  simp only [rounds_succ]
  have hr0 := rangeA hs
  go_wp2_with (first
    | ((with_reducible refine at_load 121 ?_); refine wpList_load_mid rfl 121 _ rfl bs 0 rfl gA.toList _ hr0 Tryz.underlying121 rfl hA.infl ?_)
    | ((with_reducible refine at_alloc 121 ?_); refine wpList_allocO Y2 rfl rfl (.agg Tryz.zeroCells121) zGst ?_; intro V4 G1 hEV4 hlV4 hzV4)
    | ((with_reducible refine at_store 121 ?_); refine wpList_storeAll V4 rfl 121 _ _ rfl G1 121 _ gA hzV4 rfl rfl hA.zs hA.inf hA.one ?_; intro W4 hbW4 hgW4 hsW4; have hEW4 : Ext Y2 W4 := grown_below hEV4 hgW4 hEV4.size hlV4)
    | ((with_reducible refine at_load 121 ?_); refine wpList_loadAll W4 rfl 121 _ rfl G1 121 gA hbW4 _ rfl Tryz.underlying121 rfl hA.inf ?_))
  have hxW5 : KpT g Y2 W4 := KpT.of_ext hEW4 (Nat.le_of_lt hps.lt)
  have hx0W5 := hk0.trans hxW5
  have hpgW5 := pguest_ps X g 0 0 1100 (by omega) [111, 110, 101] (by decide) 1 1074790400 32 0 b1 b2 b3 (by omega) (by omega) (by omega) (by omega) W4 (hps.ext hEW4) (hx0W5.blk b1 _ _ (by decide) hn1 hgsX.h1) (hx0W5.blk b2 _ _ (by decide) hn2 hgsX.h2) (hx0W5.blk b3 _ _ (by decide) hn3 hgsX.h3)
  rw [← HgA.out] at hpgW5
  refine hpgW5.mono ?_
  rintro e W5 ⟨rfl, hpsW5, hKW5⟩
  have hkW5 := hxW5.trans hKW5
  replace hcb := hkW5.blk CB _ _ (by decide) hcg hcb
  replace hs := hkW5.blk bs _ _ (by decide) hbg hs
  replace hch := hkW5.blk bc _ _ (by decide) hbcg hch
  replace hk0 := hk0.trans hkW5
  replace hps : PSt X g 0 130 21100 W5 := hpsW5
  clear hEV4 hlV4 hzV4 hbW4 hgW4 hsW4 hEW4 hxW5 hx0W5 hpsW5 hKW5 hkW5 hpgW5
  clear cc1 hr0
  go_wp2_with fail
  simp only [rounds_succ]
  have hr1 := rangeB hs hA.size
  go_wp2_with (first
    | ((with_reducible refine at_load 121 ?_); refine wpList_load_mid rfl 121 _ rfl bs 79 rfl gB.toList _ hr1 Tryz.underlying121 rfl hB.infl ?_)
    | ((with_reducible refine at_alloc 121 ?_); refine wpList_allocO W5 rfl rfl (.agg Tryz.zeroCells121) zGst ?_; intro V6 G2 hEV6 hlV6 hzV6)
    | ((with_reducible refine at_store 121 ?_); refine wpList_storeAll V6 rfl 121 _ _ rfl G2 121 _ gB hzV6 rfl rfl hB.zs hB.inf hB.one ?_; intro W6 hbW6 hgW6 hsW6; have hEW6 : Ext W5 W6 := grown_below hEV6 hgW6 hEV6.size hlV6)
    | ((with_reducible refine at_load 121 ?_); refine wpList_loadAll W6 rfl 121 _ rfl G2 121 gB hbW6 _ rfl Tryz.underlying121 rfl hB.inf ?_))
  have hxW7 : KpT g W5 W6 := KpT.of_ext hEW6 (Nat.le_of_lt hps.lt)
  have hx0W7 := hk0.trans hxW7
  have hpgW7 := pguest_ps X g 0 130 21100 (by omega) [116, 119, 111] (by decide) 2 1075838976 33 1 b4 b5 b6 (by omega) (by omega) (by omega) (by omega) W6 (hps.ext hEW6) (hx0W7.blk b4 _ _ (by decide) hn4 hgsX.h4) (hx0W7.blk b5 _ _ (by decide) hn5 hgsX.h5) (hx0W7.blk b6 _ _ (by decide) hn6 hgsX.h6)
  rw [← HgB.out] at hpgW7
  refine hpgW7.mono ?_
  rintro e W7 ⟨rfl, hpsW7, hKW7⟩
  have hkW7 := hxW7.trans hKW7
  replace hcb := hkW7.blk CB _ _ (by decide) hcg hcb
  replace hs := hkW7.blk bs _ _ (by decide) hbg hs
  replace hch := hkW7.blk bc _ _ (by decide) hbcg hch
  replace hk0 := hk0.trans hkW7
  replace hps : PSt X g 0 260 41100 W7 := hpsW7
  clear hEV6 hlV6 hzV6 hbW6 hgW6 hsW6 hEW6 hxW7 hx0W7 hpsW7 hKW7 hkW7 hpgW7
  clear hr1
  have cc2 := (hcb.cell 2).trans (show (cfgC bs bc)[2]? = some (Value.slice (some ⟨bc, 0, none⟩) 1 1) from rfl)
  go_wp2_with fail
  simp only [rounds_succ]
  go_wp2_with fail
  refine wp_loop_rounds 2 ?_
  simp only [rounds_succ]
  go_wp2_with (first
    | ((with_reducible refine at_load 115 ?_); refine wpList_loadAll W7 rfl 115 _ rfl bc 115 chC hch _ rfl Tryz.underlying115 rfl infCh ?_)
    | ((with_reducible refine at_alloc 115 ?_); refine wpList_allocO W7 rfl rfl _ zCh ?_; intro V8 BC hE8 hl8 hz8)
    | ((with_reducible refine at_store 115 ?_); refine wpList_storeAll V8 rfl 115 _ _ rfl BC 115 _ chC hz8 rfl rfl rfl infCh ch_one ?_; intro W8 hbC hg8 hs8))
  have hE8' : Ext W7 W8 := grown_below hE8 hg8 hE8.size hl8
  have hx8' : KpT g W7 W8 := KpT.of_ext hE8' (Nat.le_of_lt hps.lt)
  have hbCg : BC ≠ g := by have := hps.lt; omega
  have hpsx := hps.ext hE8'
  replace hcb := hx8'.blk CB _ _ (by decide) hcg hcb
  replace hs := hx8'.blk bs _ _ (by decide) hbg hs
  replace hch := hx8'.blk bc _ _ (by decide) hbcg hch
  replace hk0 := hk0.trans hx8'
  simp only [Act.put, List.setIfInBounds_toArray, List.set_cons_succ, List.set_cons_zero]
  refine Flow.wp_region_flow (g) [(8, fun b => g ≤ b)] [(2, fun W => Chg (fun _ => False) W8 W), (5, fun W => Chg (fun _ => False) W8 W), (8, fun W => Chg (fun _ => False) W8 W)] (by kernel_rfl) (by kernel_rfl) (Nat.le_of_lt hpsx.lt) (Flow.nz_cons (fun b h => h) Flow.nz_nil) (Flow.facts_cons ((Chg.refl _ _).drew) (fun _ _ c h => h.trans c) (Flow.fz_cons (Flow.no_follow (by kernel_rfl)) Flow.fz_nil) (Flow.facts_cons ((Chg.refl _ _).drew) (fun _ _ c h => h.trans c) (Flow.fz_cons (Flow.no_follow (by kernel_rfl)) Flow.fz_nil) (Flow.facts_cons ((Chg.refl _ _).drew) (fun _ _ c h => h.trans c) (Flow.fz_cons (Flow.no_follow (by kernel_rfl)) Flow.fz_nil) Flow.facts_nil)))  ?_
  refine Flow.pass_old (X := .pointer (some ⟨g, 0, none⟩)) 6 (Flow.met_none rfl) (.inl rfl) (by kernel_rfl) (by kernel_rfl) rfl ?_
  refine Flow.pass_val (.pointer (some ⟨BC, 0, none⟩)) (Flow.met_none rfl) (fun a W hH => ?_) ?_
  · have e0 := Flow.see_old 10 hH.sees (by kernel_rfl) (by kernel_rfl) rfl
    go_simp; first | done | rfl
  refine Flow.pass_val (.int .u64 (1107296256)) (Flow.met_none rfl) (fun a W hH => ?_) ?_
  · have e0 := Flow.see_new 52 1 hH.sees (by kernel_rfl) (by kernel_rfl) rfl rfl
    have fa0 : (fun W => Chg (fun _ => False) W8 W) W := hH.fact _ (List.mem_of_getElem? (i := 0) rfl) rfl
    have cc : World.cell? W ⟨BC, 0, none⟩ = some (.int .u64 (1107296256)) := (((hbC).chg fa0 id).cell (0)).trans rfl; go_simp; first | done | rfl
  refine Flow.pass_step (fun v _ => ∃ s : List UInt8, v = strVE s ∧ s.length ≤ 30) (Flow.kept_of (fun _ _ _ _ h => h) (Flow.kz_cons (fun _ => fun _ _ _ _ h => h) Flow.kz_nil)) (Flow.met_none rfl) (fun a W hH => ?_) ?_
  · have e0 := Flow.see_new 53 2 hH.sees (by kernel_rfl) (by kernel_rfl) rfl rfl
    refine Reg.wp_call rfl Tryz.func40 rfl (by kernel_rfl) (by simp [Act.eval, e0]) (wide_any (1107296256) (by omega) W) ?_
    rintro e w' ⟨⟨_, rfl, s, rfl, hs⟩, hB⟩
    exact ⟨_, rfl, _, rfl, hB, s, rfl, hs⟩
  refine Flow.pass_val (.pointer (some ⟨BC, 1, none⟩)) (Flow.met_none rfl) (fun a W hH => ?_) ?_
  · have e0 := Flow.see_old 10 hH.sees (by kernel_rfl) (by kernel_rfl) rfl
    go_simp; first | done | rfl
  refine Flow.pass_val (.int .u64 (4096)) (Flow.met_none rfl) (fun a W hH => ?_) ?_
  · have e0 := Flow.see_new 55 4 hH.sees (by kernel_rfl) (by kernel_rfl) rfl rfl
    have fa1 : (fun W => Chg (fun _ => False) W8 W) W := hH.fact _ (List.mem_of_getElem? (i := 1) rfl) rfl
    have cc : World.cell? W ⟨BC, 1, none⟩ = some (.int .u64 (4096)) := (((hbC).chg fa1 id).cell (1)).trans rfl; go_simp; first | done | rfl
  refine Flow.pass_step (fun v _ => ∃ s : List UInt8, v = strVE s ∧ s.length ≤ 30) (Flow.kept_of (fun _ _ _ _ h => h) (Flow.kz_cons (fun _ => fun _ _ _ _ h => h) Flow.kz_nil)) (Flow.met_none rfl) (fun a W hH => ?_) ?_
  · have e0 := Flow.see_new 56 5 hH.sees (by kernel_rfl) (by kernel_rfl) rfl rfl
    refine Reg.wp_call rfl Tryz.func40 rfl (by kernel_rfl) (by simp [Act.eval, e0]) (wide_any (4096) (by omega) W) ?_
    rintro e w' ⟨⟨_, rfl, s, rfl, hs⟩, hB⟩
    exact ⟨_, rfl, _, rfl, hB, s, rfl, hs⟩
  refine Flow.pass_lin [8] (fun v W => ∃ (b : Nat) (ws : List (List UInt8)), v = .slice (some ⟨b, 0, none⟩) 3 3 ∧ (ws.length = 3 ∧ 0 ≤ tot ws ∧ tot ws ≤ 1000 ∧ Blk W b 9 (ws.map strVE).toArray)) (Flow.kept_lin [8] (fun _ _ _ c ⟨b, ws, h1, h2, h3, h4, h5⟩ => ⟨b, ws, h1, h2, h3, h4, h5.chg c id⟩) (Flow.lz_cons (fun _ => .inl rfl) Flow.lz_nil)) (Flow.met_none rfl) (fun a W hH => ?_) ?_
  · obtain ⟨s0, e0, q0⟩ := Flow.see_up 54 3 hH.sees (by kernel_rfl) (by kernel_rfl) rfl rfl
    obtain ⟨s1, e1, q1⟩ := Flow.see_up 57 6 hH.sees (by kernel_rfl) (by kernel_rfl) rfl rfl
    refine Flow.wp_run (Flow.reg_buildSlice _ rfl (by simp [Act.eval, strVE, e0, e1]) (run_s3 W ([99, 104, 97, 110, 110, 101, 108]) (s0) (s1))) ?_
    exact ⟨_, rfl, Chg.of_ext ((Ext.refl W).alloc _), W.heap.size, [[99, 104, 97, 110, 110, 101, 108], s0, s1], rfl, rfl, by simp [tot], by simp [tot]; omega, Blk.new _ _ _⟩
  refine Flow.pass_gen (fun v W => v = .tuple #[] ∧ (PSt X g 0 260 42200 W ∧ KpT g W8 W)) (Flow.kept_of (fun _ _ _ c ⟨h1, h2, h3⟩ => ⟨h1, h2.ext c.ext, h3.trans (KpT.of_ext c.ext (Nat.le_of_lt h2.lt))⟩) (Flow.kz_cons (Flow.no_follow (by kernel_rfl)) Flow.kz_nil)) (Flow.met_none rfl) (fun a W hH => ?_) ?_
  · have e0 := Flow.see_new 51 0 hH.sees (by kernel_rfl) (by kernel_rfl) rfl rfl
    obtain ⟨b1, ws1, e1, q1⟩ := Flow.see_lin 58 7 hH.sees (by kernel_rfl) (by kernel_rfl) rfl rfl (by kernel_rfl)
    have fa2 : (fun W => Chg (fun _ => False) W8 W) W := hH.fact _ (List.mem_of_getElem? (i := 2) rfl) rfl
    refine Flow.wp_callZ rfl Tryz.func37 rfl (by kernel_rfl) (by simp [Act.eval, e0, e1]) (line_ps X g b1 false ws1 3 (Lib.hid q1.1) (by omega) q1.2.2.1 0 260 41100 0 (by omega) W q1.2.2.2 (PSt.ext hpsx fa2.ext) q1.2.1) ?_
    rintro e w' ⟨rfl, hp2, hK⟩
    exact ⟨_, rfl, Chg.of_below hK.below (fun _ h _ => h), rfl, hp2, (KpT.of_ext fa2.ext (Nat.le_of_lt hpsx.lt)).trans hK⟩
  refine Flow.pass_end [none, none, none, none, none, none, none, none, none, none, none, none, none, none, none, none, none, none, none, none, none, none, none, none, none, none, none, none, none, none, none, none, none, none, none, none, none, none, none, none, none, none, none, none, none, none, none, none, none, none, none, some 51, some 52, some 53, some 54, some 55, some 56, some 57, some 58, some 59, none, none, none, none, none, none, none, none, none, none, none, none, none, none, none, none, none, none, none, none, none, none, none, none, none, none, none, none, none, none, none] (by kernel_rfl) ?_
  intro f gg w9 hB hfa hT hfg
  have h59 := hT 8 _ (by kernel_rfl) rfl
  rw [← hfg 59 8 (by kernel_rfl)] at h59
  obtain ⟨_, hps9, hK9⟩ := h59
  replace hbC := hK9.blk BC _ _ (by decide) hbCg hbC
  replace hcb := hK9.blk CB _ _ (by decide) hcg hcb
  replace hs := hK9.blk bs _ _ (by decide) hbg hs
  replace hch := hK9.blk bc _ _ (by decide) hbcg hch
  replace hk0 := hk0.trans hK9
  simp only [Reg.sel]
  replace hps : PSt X g 0 260 42200 w9 := hps9
  clear hT hfg hfa hB hps9 hK9 hpsx hx8' hE8' hE8 hl8 hz8 hg8 hs8 cc2
  obtain ⟨W9, rfl⟩ : ∃ V, V = w9 := ⟨_, rfl⟩
  have hr7 := ch_ens hbC
  go_wp2_with ((with_reducible refine at_load 113 ?_); refine wpList_load_mid rfl 113 _ rfl BC 2 rfl ensC.toList _ hr7 Tryz.underlying113 rfl infEns ?_)
  refine wp_loop_rounds 3 ?_
  simp only [rounds_succ]
  go_wp2_with (first
    | ((with_reducible refine at_index 113 ?_); refine wpList_runV rfl (reg_index rfl rfl rfl (ix_en0 _)) ?_)
    | ((with_reducible refine at_alloc 112 ?_); refine wpList_allocO W9 rfl rfl _ zEn ?_; intro VA E1 hEVA hlVA hzVA)
    | ((with_reducible refine at_store 112 ?_); refine wpList_storeAll VA rfl 112 _ _ rfl E1 112 _ (chEn 0 3 268435456) hzVA rfl rfl rfl infEn (en_one _ _ _) ?_; intro X1 hbe hgX1 hsX1; have hEX1 : Ext W9 X1 := grown_below hEVA hgX1 hEVA.size hlVA))
  have hxX1 : KpT g W9 X1 := KpT.of_ext hEX1 (Nat.le_of_lt hps.lt)
  replace hcb := hxX1.blk CB _ _ (by decide) hcg hcb
  replace hs := hxX1.blk bs _ _ (by decide) hbg hs
  replace hch := hxX1.blk bc _ _ (by decide) hbcg hch
  replace hk0 := hk0.trans hxX1
  have hpsx := hps.ext hEX1
  simp only [Act.put, List.setIfInBounds_toArray, List.set_cons_succ, List.set_cons_zero]
  refine Flow.wp_region_flow (g) [(15, fun b => g ≤ b)] [(2, fun W => Chg (fun _ => False) X1 W), (4, fun W => Chg (fun _ => False) X1 W), (7, fun W => Chg (fun _ => False) X1 W), (9, fun W => Chg (fun _ => False) X1 W), (12, fun W => Chg (fun _ => False) X1 W), (15, fun W => Chg (fun _ => False) X1 W)] (by kernel_rfl) (by kernel_rfl) (Nat.le_of_lt hpsx.lt) (Flow.nz_cons (fun b h => h) Flow.nz_nil) (Flow.facts_cons ((Chg.refl _ _).drew) (fun _ _ c h => h.trans c) (Flow.fz_cons (Flow.no_follow (by kernel_rfl)) Flow.fz_nil) (Flow.facts_cons ((Chg.refl _ _).drew) (fun _ _ c h => h.trans c) (Flow.fz_cons (Flow.no_follow (by kernel_rfl)) Flow.fz_nil) (Flow.facts_cons ((Chg.refl _ _).drew) (fun _ _ c h => h.trans c) (Flow.fz_cons (Flow.no_follow (by kernel_rfl)) Flow.fz_nil) (Flow.facts_cons ((Chg.refl _ _).drew) (fun _ _ c h => h.trans c) (Flow.fz_cons (Flow.no_follow (by kernel_rfl)) Flow.fz_nil) (Flow.facts_cons ((Chg.refl _ _).drew) (fun _ _ c h => h.trans c) (Flow.fz_cons (Flow.no_follow (by kernel_rfl)) Flow.fz_nil) (Flow.facts_cons ((Chg.refl _ _).drew) (fun _ _ c h => h.trans c) (Flow.fz_cons (Flow.no_follow (by kernel_rfl)) Flow.fz_nil) Flow.facts_nil))))))  ?_
  refine Flow.pass_old (X := .pointer (some ⟨g, 0, none⟩)) 6 (Flow.met_none rfl) (.inl rfl) (by kernel_rfl) (by kernel_rfl) rfl ?_
  refine Flow.pass_val (.pointer (some ⟨CB, 1, none⟩)) (Flow.met_none rfl) (fun a W hH => ?_) ?_
  · have e0 := Flow.see_old 1 hH.sees (by kernel_rfl) (by kernel_rfl) rfl
    go_simp; first | done | rfl
  refine Flow.pass_val (.slice (some ⟨bs, 0, none⟩) 2 2) (Flow.met_none rfl) (fun a W hH => ?_) ?_
  · have e0 := Flow.see_new 66 1 hH.sees (by kernel_rfl) (by kernel_rfl) rfl rfl
    have fa0 : (fun W => Chg (fun _ => False) X1 W) W := hH.fact _ (List.mem_of_getElem? (i := 0) rfl) rfl
    have cc : World.cell? W ⟨CB, 1, none⟩ = some (.slice (some ⟨bs, 0, none⟩) 2 2) := ((hcb.chg fa0 id).cell 1).trans rfl; go_simp; first | done | rfl
  refine Flow.pass_val (.pointer (some ⟨E1, 0, none⟩)) (Flow.met_none rfl) (fun a W hH => ?_) ?_
  · have e0 := Flow.see_old 12 hH.sees (by kernel_rfl) (by kernel_rfl) rfl
    go_simp; first | done | rfl
  refine Flow.pass_val (.int .i64 (0)) (Flow.met_none rfl) (fun a W hH => ?_) ?_
  · have e0 := Flow.see_new 68 3 hH.sees (by kernel_rfl) (by kernel_rfl) rfl rfl
    have fa1 : (fun W => Chg (fun _ => False) X1 W) W := hH.fact _ (List.mem_of_getElem? (i := 1) rfl) rfl
    have cc : World.cell? W ⟨E1, 0, none⟩ = some (.int .i64 (0)) := (((hbe).chg fa1 id).cell (0)).trans rfl; go_simp; first | done | rfl
  refine Flow.pass_val (.pointer (some ⟨bs, 0, none⟩)) (Flow.met_none rfl) (fun a W hH => ?_) ?_
  · have e0 := Flow.see_new 67 2 hH.sees (by kernel_rfl) (by kernel_rfl) rfl rfl
    have e1 := Flow.see_new 69 4 hH.sees (by kernel_rfl) (by kernel_rfl) rfl rfl
    go_simp; first | done | rfl
  refine Flow.pass_val (.pointer (some ⟨bs, 0, none⟩)) (Flow.met_none rfl) (fun a W hH => ?_) ?_
  · have e0 := Flow.see_new 70 5 hH.sees (by kernel_rfl) (by kernel_rfl) rfl rfl
    go_simp; first | done | rfl
  refine Flow.pass_val (.string ⟨#[111, 110, 101]⟩) (Flow.met_none rfl) (fun a W hH => ?_) ?_
  · have e0 := Flow.see_new 71 6 hH.sees (by kernel_rfl) (by kernel_rfl) rfl rfl
    have fa2 : (fun W => Chg (fun _ => False) X1 W) W := hH.fact _ (List.mem_of_getElem? (i := 2) rfl) rfl
    have cc : World.cell? W ⟨bs, 0, none⟩ = some (.string ⟨#[111, 110, 101]⟩) := ((hs.chg fa2 id).cell 0).trans hn0; go_simp; first | done | rfl
  refine Flow.pass_val (.pointer (some ⟨E1, 1, none⟩)) (Flow.met_none rfl) (fun a W hH => ?_) ?_
  · have e0 := Flow.see_old 12 hH.sees (by kernel_rfl) (by kernel_rfl) rfl
    go_simp; first | done | rfl
  refine Flow.pass_val (.int .i64 (3)) (Flow.met_none rfl) (fun a W hH => ?_) ?_
  · have e0 := Flow.see_new 73 8 hH.sees (by kernel_rfl) (by kernel_rfl) rfl rfl
    have fa3 : (fun W => Chg (fun _ => False) X1 W) W := hH.fact _ (List.mem_of_getElem? (i := 3) rfl) rfl
    have cc : World.cell? W ⟨E1, 1, none⟩ = some (.int .i64 (3)) := (((hbe).chg fa3 id).cell (1)).trans rfl; go_simp; first | done | rfl
  refine Flow.pass_step (fun v _ => ∃ s : List UInt8, v = strVE s ∧ s.length ≤ 30) (Flow.kept_of (fun _ _ _ _ h => h) (Flow.kz_cons (fun _ => fun _ _ _ _ h => h) Flow.kz_nil)) (Flow.met_none rfl) (fun a W hH => ?_) ?_
  · have e0 := Flow.see_new 74 9 hH.sees (by kernel_rfl) (by kernel_rfl) rfl rfl
    refine Reg.wp_call rfl Tryz.func41 rfl (by kernel_rfl) (by simp [Act.eval, e0]) (perm_any 3 (by omega) W) ?_
    rintro e w' ⟨⟨_, rfl, s, rfl, hs⟩, hB⟩
    exact ⟨_, rfl, _, rfl, hB, s, rfl, hs⟩
  refine Flow.pass_val (.pointer (some ⟨E1, 2, none⟩)) (Flow.met_none rfl) (fun a W hH => ?_) ?_
  · have e0 := Flow.see_old 12 hH.sees (by kernel_rfl) (by kernel_rfl) rfl
    go_simp; first | done | rfl
  refine Flow.pass_val (.int .u64 (268435456)) (Flow.met_none rfl) (fun a W hH => ?_) ?_
  · have e0 := Flow.see_new 76 11 hH.sees (by kernel_rfl) (by kernel_rfl) rfl rfl
    have fa4 : (fun W => Chg (fun _ => False) X1 W) W := hH.fact _ (List.mem_of_getElem? (i := 4) rfl) rfl
    have cc : World.cell? W ⟨E1, 2, none⟩ = some (.int .u64 (268435456)) := (((hbe).chg fa4 id).cell (2)).trans rfl; go_simp; first | done | rfl
  refine Flow.pass_step (fun v _ => ∃ s : List UInt8, v = strVE s ∧ s.length ≤ 30) (Flow.kept_of (fun _ _ _ _ h => h) (Flow.kz_cons (fun _ => fun _ _ _ _ h => h) Flow.kz_nil)) (Flow.met_none rfl) (fun a W hH => ?_) ?_
  · have e0 := Flow.see_new 77 12 hH.sees (by kernel_rfl) (by kernel_rfl) rfl rfl
    refine Reg.wp_call rfl Tryz.func40 rfl (by kernel_rfl) (by simp [Act.eval, e0]) (wide_any (268435456) (by omega) W) ?_
    rintro e w' ⟨⟨_, rfl, s, rfl, hs⟩, hB⟩
    exact ⟨_, rfl, _, rfl, hB, s, rfl, hs⟩
  refine Flow.pass_lin [15] (fun v W => ∃ (b : Nat) (ws : List (List UInt8)), v = .slice (some ⟨b, 0, none⟩) 3 3 ∧ (ws.length = 3 ∧ 0 ≤ tot ws ∧ tot ws ≤ 1000 ∧ Blk W b 9 (ws.map strVE).toArray)) (Flow.kept_lin [15] (fun _ _ _ c ⟨b, ws, h1, h2, h3, h4, h5⟩ => ⟨b, ws, h1, h2, h3, h4, h5.chg c id⟩) (Flow.lz_cons (fun _ => .inl rfl) Flow.lz_nil)) (Flow.met_none rfl) (fun a W hH => ?_) ?_
  · have e0 := Flow.see_new 72 7 hH.sees (by kernel_rfl) (by kernel_rfl) rfl rfl
    obtain ⟨s1, e1, q1⟩ := Flow.see_up 75 10 hH.sees (by kernel_rfl) (by kernel_rfl) rfl rfl
    obtain ⟨s2, e2, q2⟩ := Flow.see_up 78 13 hH.sees (by kernel_rfl) (by kernel_rfl) rfl rfl
    refine Flow.wp_run (Flow.reg_buildSlice _ rfl (by simp [Act.eval, strVE, e0, e1, e2]) (run_s3 W ([111, 110, 101]) (s1) (s2))) ?_
    exact ⟨_, rfl, Chg.of_ext ((Ext.refl W).alloc _), W.heap.size, [[111, 110, 101], s1, s2], rfl, rfl, by simp [tot], by simp [tot]; omega, Blk.new _ _ _⟩
  refine Flow.pass_gen (fun v W => v = .tuple #[] ∧ (PSt X g 0 260 43300 W ∧ KpT g X1 W)) (Flow.kept_of (fun _ _ _ c ⟨h1, h2, h3⟩ => ⟨h1, h2.ext c.ext, h3.trans (KpT.of_ext c.ext (Nat.le_of_lt h2.lt))⟩) (Flow.kz_cons (Flow.no_follow (by kernel_rfl)) Flow.kz_nil)) (Flow.met_none rfl) (fun a W hH => ?_) ?_
  · have e0 := Flow.see_new 65 0 hH.sees (by kernel_rfl) (by kernel_rfl) rfl rfl
    obtain ⟨b1, ws1, e1, q1⟩ := Flow.see_lin 79 14 hH.sees (by kernel_rfl) (by kernel_rfl) rfl rfl (by kernel_rfl)
    have fa5 : (fun W => Chg (fun _ => False) X1 W) W := hH.fact _ (List.mem_of_getElem? (i := 5) rfl) rfl
    refine Flow.wp_callZ rfl Tryz.func37 rfl (by kernel_rfl) (by simp [Act.eval, e0, e1]) (line_ps X g b1 true ws1 3 (Lib.hid q1.1) (by omega) q1.2.2.1 0 260 42200 0 (by omega) W q1.2.2.2 (PSt.ext hpsx fa5.ext) q1.2.1) ?_
    rintro e w' ⟨rfl, hp2, hK⟩
    exact ⟨_, rfl, Chg.of_below hK.below (fun _ h _ => h), rfl, hp2, (KpT.of_ext fa5.ext (Nat.le_of_lt hpsx.lt)).trans hK⟩
  refine Flow.pass_end [none, none, none, none, none, none, none, none, none, none, none, none, none, none, none, none, none, none, none, none, none, none, none, none, none, none, none, none, none, none, none, none, none, none, none, none, none, none, none, none, none, none, none, none, none, none, none, none, none, none, none, none, none, none, none, none, none, none, none, none, none, none, none, none, none, some 65, some 66, some 67, some 68, some 69, some 70, some 71, some 72, some 73, some 74, some 75, some 76, some 77, some 78, some 79, some 80, none, none, none, none, none, none, none, none, none, none] (by kernel_rfl) ?_
  intro f gg w9 hB hfa hT hfg
  have h80 := hT 15 _ (by kernel_rfl) rfl
  rw [← hfg 80 15 (by kernel_rfl)] at h80
  obtain ⟨_, hpsZ1, hKZ1⟩ := h80
  replace hcb := hKZ1.blk CB _ _ (by decide) hcg hcb
  replace hs := hKZ1.blk bs _ _ (by decide) hbg hs
  replace hch := hKZ1.blk bc _ _ (by decide) hbcg hch
  replace hk0 := hk0.trans hKZ1
  simp only [Reg.sel]
  replace hps : PSt X g 0 260 43300 w9 := hpsZ1
  clear hT hfg hfa hB hpsZ1 hKZ1 hpsx hxX1 hEVA hlVA hzVA hgX1 hsX1 hEX1 hbe
  obtain ⟨Z1, rfl⟩ : ∃ V, V = w9 := ⟨_, rfl⟩
  go_wp2_with fail
  simp only [rounds_succ]
  go_wp2_with (first
    | ((with_reducible refine at_index 113 ?_); refine wpList_runV rfl (reg_index rfl rfl rfl (ix_en1 _)) ?_)
    | ((with_reducible refine at_alloc 112 ?_); refine wpList_allocO Z1 rfl rfl _ zEn ?_; intro VB E2 hEVB hlVB hzVB)
    | ((with_reducible refine at_store 112 ?_); refine wpList_storeAll VB rfl 112 _ _ rfl E2 112 _ (chEn 1 1 536870912) hzVB rfl rfl rfl infEn (en_one _ _ _) ?_; intro X2 hbe hgX2 hsX2; have hEX2 : Ext Z1 X2 := grown_below hEVB hgX2 hEVB.size hlVB))
  have hxX2 : KpT g Z1 X2 := KpT.of_ext hEX2 (Nat.le_of_lt hps.lt)
  replace hcb := hxX2.blk CB _ _ (by decide) hcg hcb
  replace hs := hxX2.blk bs _ _ (by decide) hbg hs
  replace hch := hxX2.blk bc _ _ (by decide) hbcg hch
  replace hk0 := hk0.trans hxX2
  have hpsx := hps.ext hEX2
  simp only [Act.put, List.setIfInBounds_toArray, List.set_cons_succ, List.set_cons_zero]
  refine Flow.wp_region_flow (g) [(15, fun b => g ≤ b)] [(2, fun W => Chg (fun _ => False) X2 W), (4, fun W => Chg (fun _ => False) X2 W), (7, fun W => Chg (fun _ => False) X2 W), (9, fun W => Chg (fun _ => False) X2 W), (12, fun W => Chg (fun _ => False) X2 W), (15, fun W => Chg (fun _ => False) X2 W)] (by kernel_rfl) (by kernel_rfl) (Nat.le_of_lt hpsx.lt) (Flow.nz_cons (fun b h => h) Flow.nz_nil) (Flow.facts_cons ((Chg.refl _ _).drew) (fun _ _ c h => h.trans c) (Flow.fz_cons (Flow.no_follow (by kernel_rfl)) Flow.fz_nil) (Flow.facts_cons ((Chg.refl _ _).drew) (fun _ _ c h => h.trans c) (Flow.fz_cons (Flow.no_follow (by kernel_rfl)) Flow.fz_nil) (Flow.facts_cons ((Chg.refl _ _).drew) (fun _ _ c h => h.trans c) (Flow.fz_cons (Flow.no_follow (by kernel_rfl)) Flow.fz_nil) (Flow.facts_cons ((Chg.refl _ _).drew) (fun _ _ c h => h.trans c) (Flow.fz_cons (Flow.no_follow (by kernel_rfl)) Flow.fz_nil) (Flow.facts_cons ((Chg.refl _ _).drew) (fun _ _ c h => h.trans c) (Flow.fz_cons (Flow.no_follow (by kernel_rfl)) Flow.fz_nil) (Flow.facts_cons ((Chg.refl _ _).drew) (fun _ _ c h => h.trans c) (Flow.fz_cons (Flow.no_follow (by kernel_rfl)) Flow.fz_nil) Flow.facts_nil))))))  ?_
  refine Flow.pass_old (X := .pointer (some ⟨g, 0, none⟩)) 6 (Flow.met_none rfl) (.inl rfl) (by kernel_rfl) (by kernel_rfl) rfl ?_
  refine Flow.pass_val (.pointer (some ⟨CB, 1, none⟩)) (Flow.met_none rfl) (fun a W hH => ?_) ?_
  · have e0 := Flow.see_old 1 hH.sees (by kernel_rfl) (by kernel_rfl) rfl
    go_simp; first | done | rfl
  refine Flow.pass_val (.slice (some ⟨bs, 0, none⟩) 2 2) (Flow.met_none rfl) (fun a W hH => ?_) ?_
  · have e0 := Flow.see_new 66 1 hH.sees (by kernel_rfl) (by kernel_rfl) rfl rfl
    have fa0 : (fun W => Chg (fun _ => False) X2 W) W := hH.fact _ (List.mem_of_getElem? (i := 0) rfl) rfl
    have cc : World.cell? W ⟨CB, 1, none⟩ = some (.slice (some ⟨bs, 0, none⟩) 2 2) := ((hcb.chg fa0 id).cell 1).trans rfl; go_simp; first | done | rfl
  refine Flow.pass_val (.pointer (some ⟨E2, 0, none⟩)) (Flow.met_none rfl) (fun a W hH => ?_) ?_
  · have e0 := Flow.see_old 12 hH.sees (by kernel_rfl) (by kernel_rfl) rfl
    go_simp; first | done | rfl
  refine Flow.pass_val (.int .i64 (1)) (Flow.met_none rfl) (fun a W hH => ?_) ?_
  · have e0 := Flow.see_new 68 3 hH.sees (by kernel_rfl) (by kernel_rfl) rfl rfl
    have fa1 : (fun W => Chg (fun _ => False) X2 W) W := hH.fact _ (List.mem_of_getElem? (i := 1) rfl) rfl
    have cc : World.cell? W ⟨E2, 0, none⟩ = some (.int .i64 (1)) := (((hbe).chg fa1 id).cell (0)).trans rfl; go_simp; first | done | rfl
  refine Flow.pass_val (.pointer (some ⟨bs, 79, none⟩)) (Flow.met_none rfl) (fun a W hH => ?_) ?_
  · have e0 := Flow.see_new 67 2 hH.sees (by kernel_rfl) (by kernel_rfl) rfl rfl
    have e1 := Flow.see_new 69 4 hH.sees (by kernel_rfl) (by kernel_rfl) rfl rfl
    go_simp; first | done | rfl
  refine Flow.pass_val (.pointer (some ⟨bs, 79, none⟩)) (Flow.met_none rfl) (fun a W hH => ?_) ?_
  · have e0 := Flow.see_new 70 5 hH.sees (by kernel_rfl) (by kernel_rfl) rfl rfl
    go_simp; first | done | rfl
  refine Flow.pass_val (.string ⟨#[116, 119, 111]⟩) (Flow.met_none rfl) (fun a W hH => ?_) ?_
  · have e0 := Flow.see_new 71 6 hH.sees (by kernel_rfl) (by kernel_rfl) rfl rfl
    have fa2 : (fun W => Chg (fun _ => False) X2 W) W := hH.fact _ (List.mem_of_getElem? (i := 2) rfl) rfl
    have cc : World.cell? W ⟨bs, 79, none⟩ = some (.string ⟨#[116, 119, 111]⟩) := ((hs.chg fa2 id).cell 79).trans hn79; go_simp; first | done | rfl
  refine Flow.pass_val (.pointer (some ⟨E2, 1, none⟩)) (Flow.met_none rfl) (fun a W hH => ?_) ?_
  · have e0 := Flow.see_old 12 hH.sees (by kernel_rfl) (by kernel_rfl) rfl
    go_simp; first | done | rfl
  refine Flow.pass_val (.int .i64 (1)) (Flow.met_none rfl) (fun a W hH => ?_) ?_
  · have e0 := Flow.see_new 73 8 hH.sees (by kernel_rfl) (by kernel_rfl) rfl rfl
    have fa3 : (fun W => Chg (fun _ => False) X2 W) W := hH.fact _ (List.mem_of_getElem? (i := 3) rfl) rfl
    have cc : World.cell? W ⟨E2, 1, none⟩ = some (.int .i64 (1)) := (((hbe).chg fa3 id).cell (1)).trans rfl; go_simp; first | done | rfl
  refine Flow.pass_step (fun v _ => ∃ s : List UInt8, v = strVE s ∧ s.length ≤ 30) (Flow.kept_of (fun _ _ _ _ h => h) (Flow.kz_cons (fun _ => fun _ _ _ _ h => h) Flow.kz_nil)) (Flow.met_none rfl) (fun a W hH => ?_) ?_
  · have e0 := Flow.see_new 74 9 hH.sees (by kernel_rfl) (by kernel_rfl) rfl rfl
    refine Reg.wp_call rfl Tryz.func41 rfl (by kernel_rfl) (by simp [Act.eval, e0]) (perm_any 1 (by omega) W) ?_
    rintro e w' ⟨⟨_, rfl, s, rfl, hs⟩, hB⟩
    exact ⟨_, rfl, _, rfl, hB, s, rfl, hs⟩
  refine Flow.pass_val (.pointer (some ⟨E2, 2, none⟩)) (Flow.met_none rfl) (fun a W hH => ?_) ?_
  · have e0 := Flow.see_old 12 hH.sees (by kernel_rfl) (by kernel_rfl) rfl
    go_simp; first | done | rfl
  refine Flow.pass_val (.int .u64 (536870912)) (Flow.met_none rfl) (fun a W hH => ?_) ?_
  · have e0 := Flow.see_new 76 11 hH.sees (by kernel_rfl) (by kernel_rfl) rfl rfl
    have fa4 : (fun W => Chg (fun _ => False) X2 W) W := hH.fact _ (List.mem_of_getElem? (i := 4) rfl) rfl
    have cc : World.cell? W ⟨E2, 2, none⟩ = some (.int .u64 (536870912)) := (((hbe).chg fa4 id).cell (2)).trans rfl; go_simp; first | done | rfl
  refine Flow.pass_step (fun v _ => ∃ s : List UInt8, v = strVE s ∧ s.length ≤ 30) (Flow.kept_of (fun _ _ _ _ h => h) (Flow.kz_cons (fun _ => fun _ _ _ _ h => h) Flow.kz_nil)) (Flow.met_none rfl) (fun a W hH => ?_) ?_
  · have e0 := Flow.see_new 77 12 hH.sees (by kernel_rfl) (by kernel_rfl) rfl rfl
    refine Reg.wp_call rfl Tryz.func40 rfl (by kernel_rfl) (by simp [Act.eval, e0]) (wide_any (536870912) (by omega) W) ?_
    rintro e w' ⟨⟨_, rfl, s, rfl, hs⟩, hB⟩
    exact ⟨_, rfl, _, rfl, hB, s, rfl, hs⟩
  refine Flow.pass_lin [15] (fun v W => ∃ (b : Nat) (ws : List (List UInt8)), v = .slice (some ⟨b, 0, none⟩) 3 3 ∧ (ws.length = 3 ∧ 0 ≤ tot ws ∧ tot ws ≤ 1000 ∧ Blk W b 9 (ws.map strVE).toArray)) (Flow.kept_lin [15] (fun _ _ _ c ⟨b, ws, h1, h2, h3, h4, h5⟩ => ⟨b, ws, h1, h2, h3, h4, h5.chg c id⟩) (Flow.lz_cons (fun _ => .inl rfl) Flow.lz_nil)) (Flow.met_none rfl) (fun a W hH => ?_) ?_
  · have e0 := Flow.see_new 72 7 hH.sees (by kernel_rfl) (by kernel_rfl) rfl rfl
    obtain ⟨s1, e1, q1⟩ := Flow.see_up 75 10 hH.sees (by kernel_rfl) (by kernel_rfl) rfl rfl
    obtain ⟨s2, e2, q2⟩ := Flow.see_up 78 13 hH.sees (by kernel_rfl) (by kernel_rfl) rfl rfl
    refine Flow.wp_run (Flow.reg_buildSlice _ rfl (by simp [Act.eval, strVE, e0, e1, e2]) (run_s3 W ([116, 119, 111]) (s1) (s2))) ?_
    exact ⟨_, rfl, Chg.of_ext ((Ext.refl W).alloc _), W.heap.size, [[116, 119, 111], s1, s2], rfl, rfl, by simp [tot], by simp [tot]; omega, Blk.new _ _ _⟩
  refine Flow.pass_gen (fun v W => v = .tuple #[] ∧ (PSt X g 0 260 44400 W ∧ KpT g X2 W)) (Flow.kept_of (fun _ _ _ c ⟨h1, h2, h3⟩ => ⟨h1, h2.ext c.ext, h3.trans (KpT.of_ext c.ext (Nat.le_of_lt h2.lt))⟩) (Flow.kz_cons (Flow.no_follow (by kernel_rfl)) Flow.kz_nil)) (Flow.met_none rfl) (fun a W hH => ?_) ?_
  · have e0 := Flow.see_new 65 0 hH.sees (by kernel_rfl) (by kernel_rfl) rfl rfl
    obtain ⟨b1, ws1, e1, q1⟩ := Flow.see_lin 79 14 hH.sees (by kernel_rfl) (by kernel_rfl) rfl rfl (by kernel_rfl)
    have fa5 : (fun W => Chg (fun _ => False) X2 W) W := hH.fact _ (List.mem_of_getElem? (i := 5) rfl) rfl
    refine Flow.wp_callZ rfl Tryz.func37 rfl (by kernel_rfl) (by simp [Act.eval, e0, e1]) (line_ps X g b1 true ws1 3 (Lib.hid q1.1) (by omega) q1.2.2.1 0 260 43300 0 (by omega) W q1.2.2.2 (PSt.ext hpsx fa5.ext) q1.2.1) ?_
    rintro e w' ⟨rfl, hp2, hK⟩
    exact ⟨_, rfl, Chg.of_below hK.below (fun _ h _ => h), rfl, hp2, (KpT.of_ext fa5.ext (Nat.le_of_lt hpsx.lt)).trans hK⟩
  refine Flow.pass_end [none, none, none, none, none, none, none, none, none, none, none, none, none, none, none, none, none, none, none, none, none, none, none, none, none, none, none, none, none, none, none, none, none, none, none, none, none, none, none, none, none, none, none, none, none, none, none, none, none, none, none, none, none, none, none, none, none, none, none, none, none, none, none, none, none, some 65, some 66, some 67, some 68, some 69, some 70, some 71, some 72, some 73, some 74, some 75, some 76, some 77, some 78, some 79, some 80, none, none, none, none, none, none, none, none, none, none] (by kernel_rfl) ?_
  intro f gg w9 hB hfa hT hfg
  have h80 := hT 15 _ (by kernel_rfl) rfl
  rw [← hfg 80 15 (by kernel_rfl)] at h80
  obtain ⟨_, hpsZ2, hKZ2⟩ := h80
  replace hcb := hKZ2.blk CB _ _ (by decide) hcg hcb
  replace hs := hKZ2.blk bs _ _ (by decide) hbg hs
  replace hch := hKZ2.blk bc _ _ (by decide) hbcg hch
  replace hk0 := hk0.trans hKZ2
  simp only [Reg.sel]
  replace hps : PSt X g 0 260 44400 w9 := hpsZ2
  clear hT hfg hfa hB hpsZ2 hKZ2 hpsx hxX2 hEVB hlVB hzVB hgX2 hsX2 hEX2 hbe
  obtain ⟨Z2, rfl⟩ : ∃ V, V = w9 := ⟨_, rfl⟩
  go_wp2_with fail
  simp only [rounds_succ]
  go_wp2_with ((with_reducible refine at_buildSlice 178 ?_); refine wpList_bsO Z2 rfl rfl #[(0, strVE [101, 110, 100])] _ (by simp [Act.eval, strVE]) (run_s1 Z2 [101, 110, 100]) ?_; intro U9 x9 hEU9 hx9 hbx9)
  refine (line_ps X g x9 false [[101, 110, 100]] 1 (Lib.hid rfl) (by omega) (by simp [tot]) 0 260 44400 0 (by omega) U9 hbx9 (hps.ext hEU9) (Nat.zero_le _)).mono ?_
  rintro e Z3 ⟨rfl, hpsZ, _⟩
  go_wp2_with fail
  simp only [rounds_succ]
  obtain ⟨⟨lz, hz1, hz2, ⟨Az, cz, hbz, hoz⟩⟩, hkz⟩ := hpsZ
  have cgz : Z3.cell? ⟨g, 0, none⟩ = some (.slice Az lz.length cz) := (hbz.cell 0).trans rfl
  have hrz := Rd.of_own hoz
  go_wp2_with ((with_reducible refine at_conv ?_); refine wpList_str Z3 Tryz.underlying73 Tryz.underlying5 Tryz.underlying9 rfl _ rfl Az lz.length cz lz rfl hrz ?_)
  refine bodyPost_ret (results_tmp2 rfl _ _ _) rfl ?_
  have hBX : Below w.heap.size w X := hwX
  exact ⟨⟨lz, rfl, by omega, by omega⟩, hBX.trans (hkz.below.mono hwg)⟩
end Go.Proofs.YtpellkblaeeopaaGreatDoor
/-
  Walks for awake35: host.node, four, eight, said, at, stretch, Tree.
-/
namespace Go.Proofs.YtpellkblaeeopaaGreatDoor
open Go.RowKit

def strK : Reg.Kd := fun v _ => ∃ s : List UInt8, v = strVE s ∧ s.length ≤ 100
def prpK : Reg.Kd := fun v _ => ∃ (s : List UInt8) (A : Option Addr) (n c : Nat), v = .agg #[strVE s, .slice A n c] ∧ True
def treK : Reg.Kd := fun v _ => ∃ (s : List UInt8) (A : Option Addr) (n c : Nat) (A2 : Option Addr) (n2 c2 : Nat), v = .agg #[strVE s, .slice A n c, .slice A2 n2 c2] ∧ True
def rowK (n : Nat) : Reg.Kd := fun v _ => ∃ b, v = .slice (some ⟨b, 0, none⟩) n n ∧ True
def intK (t : TypeId) (cs : Array Value) (n : Nat) : Reg.Kd := fun v W => ∃ b, v = .slice (some ⟨b, 0, none⟩) n n ∧ Blk W b t cs
def treR : Reg.Kd := fun v W => ∃ (s : List UInt8) (A : Option Addr) (n c : Nat) (A2 : Option Addr) (n2 c2 b : Nat), v = .slice (some ⟨b, 0, none⟩) 1 1 ∧ Blk W b 64 #[strVE s, .slice A n c, .slice A2 n2 c2]
theorem stable_str : Reg.Stable strK := fun _ _ _ h _ => h
theorem stable_prp : Reg.Stable prpK := fun _ _ _ h _ => h
theorem stable_tre : Reg.Stable treK := fun _ _ _ h _ => h
theorem stable_row (n : Nat) : Reg.Stable (rowK n) := fun _ _ _ h _ => h
theorem stable_int (t : TypeId) (cs : Array Value) (n : Nat) : Reg.Stable (intK t cs n) := fun _ _ _ ⟨b, h1, h2⟩ h => ⟨b, h1, h2.ext h⟩
theorem stable_treR : Reg.Stable treR := fun _ _ _ ⟨s, A, n, c, A2, n2, c2, b, h1, h2⟩ h => ⟨s, A, n, c, A2, n2, c2, b, h1, h2.ext h⟩
def zTr : Array Value := #[.string ⟨#[]⟩, .slice none 0 0, .slice none 0 0]
theorem zeroTree (w : World) : (zeroValue 64).run Tryz.prog w = .ok (.agg zTr) w := by kernel_rfl
theorem zeroProp (w : World) : (zeroValue 136).run Tryz.prog w = .ok (.agg #[.string ⟨#[]⟩, .slice none 0 0]) w := by kernel_rfl
theorem elPrp : Elem Tryz.prog 61 136 (.agg #[.string ⟨#[]⟩, .slice none 0 0]) 2 40 := Elem.of (by kernel_rfl) (by kernel_rfl) rfl (by omega)
theorem elTre : Elem Tryz.prog 62 64 (.agg zTr) 3 64 := Elem.of (by kernel_rfl) (by kernel_rfl) rfl (by omega)
theorem infTree {cs : Array Value} (h : cs.size = 3) : (Tryz.prog.info? 64).map (·.size) = some cs.size := by rw [h]; kernel_rfl
theorem infProp {cs : Array Value} (h : cs.size = 2) : (Tryz.prog.info? 136).map (·.size) = some cs.size := by rw [h]; kernel_rfl
def prpC (s : List UInt8) (A : Option Addr) (n c : Nat) : Array Value := #[strVE s, .slice A n c]
def treC (s : List UInt8) (A : Option Addr) (n c : Nat) (A2 : Option Addr) (n2 c2 : Nat) : Array Value := #[strVE s, .slice A n c, .slice A2 n2 c2]
theorem run_prp1 (w : World) (s : List UInt8) (A : Option Addr) (n c : Nat) : (Instr.buildSlice 61 1 #[(0, .agg #[strVE s, .slice A n c])]).run Tryz.prog w = .ok (.slice (some ⟨w.heap.size, 0, none⟩) 1 1) (w.alloc (.cells #[strVE s, .slice A n c] 136)) := by
  have := run_buildSlice_all (P := Tryz.prog) w elPrp 1 #[(0, .agg #[strVE s, .slice A n c])] [.agg #[strVE s, .slice A n c]] rfl rfl (by omega) (by omega) (by intro v hv; rw [List.mem_singleton.1 hv]; rfl)
  simpa [flat, Value.cells] using this
theorem run_prp3 (w : World) (s : List UInt8) (A : Option Addr) (n c : Nat) (s1 : List UInt8) (A1 : Option Addr) (n1 c1 : Nat) (s2 : List UInt8) (A2 : Option Addr) (n2 c2 : Nat) : (Instr.buildSlice 61 3 #[(0, .agg #[strVE s, .slice A n c]), (1, .agg #[strVE s1, .slice A1 n1 c1]), (2, .agg #[strVE s2, .slice A2 n2 c2])]).run Tryz.prog w =
    .ok (.slice (some ⟨w.heap.size, 0, none⟩) 3 3) (w.alloc (.cells #[strVE s, .slice A n c, strVE s1, .slice A1 n1 c1, strVE s2, .slice A2 n2 c2] 136)) := by
  have := run_buildSlice_all (P := Tryz.prog) w elPrp 3 #[(0, .agg #[strVE s, .slice A n c]), (1, .agg #[strVE s1, .slice A1 n1 c1]), (2, .agg #[strVE s2, .slice A2 n2 c2])] [.agg #[strVE s, .slice A n c], .agg #[strVE s1, .slice A1 n1 c1], .agg #[strVE s2, .slice A2 n2 c2]] rfl rfl (by omega) (by omega)
    (by intro v hv; simp only [List.mem_cons, List.not_mem_nil, or_false] at hv; rcases hv with rfl | rfl | rfl <;> rfl)
  simpa [flat, Value.cells] using this
theorem run_tre1 (w : World) (s : List UInt8) (A : Option Addr) (n c : Nat) (A2 : Option Addr) (n2 c2 : Nat) : (Instr.buildSlice 62 1 #[(0, .agg #[strVE s, .slice A n c, .slice A2 n2 c2])]).run Tryz.prog w = .ok (.slice (some ⟨w.heap.size, 0, none⟩) 1 1) (w.alloc (.cells #[strVE s, .slice A n c, .slice A2 n2 c2] 64)) := by
  have := run_buildSlice_all (P := Tryz.prog) w elTre 1 #[(0, .agg #[strVE s, .slice A n c, .slice A2 n2 c2])] [.agg #[strVE s, .slice A n c, .slice A2 n2 c2]] rfl rfl (by omega) (by omega) (by intro v hv; rw [List.mem_singleton.1 hv]; rfl)
  simpa [flat, Value.cells] using this
theorem run_tre3 (w : World) (tc : Array Value) (htc : tc.size = 3) (s : List UInt8) (A : Option Addr) (n c : Nat) (A2 : Option Addr) (n2 c2 : Nat) (t : List UInt8) (B : Option Addr) (m d : Nat) (B2 : Option Addr) (m2 d2 : Nat) :
    (Instr.buildSlice 62 3 #[(0, .agg tc), (1, .agg #[strVE s, .slice A n c, .slice A2 n2 c2]), (2, .agg #[strVE t, .slice B m d, .slice B2 m2 d2])]).run Tryz.prog w = .ok (.slice (some ⟨w.heap.size, 0, none⟩) 3 3) (w.alloc (.cells (tc.toList ++ [strVE s, .slice A n c, .slice A2 n2 c2, strVE t, .slice B m d, .slice B2 m2 d2]).toArray 64)) := by
  have := run_buildSlice_all (P := Tryz.prog) w elTre 3 #[(0, .agg tc), (1, .agg #[strVE s, .slice A n c, .slice A2 n2 c2]), (2, .agg #[strVE t, .slice B m d, .slice B2 m2 d2])] [.agg tc, .agg #[strVE s, .slice A n c, .slice A2 n2 c2], .agg #[strVE t, .slice B m d, .slice B2 m2 d2]] rfl rfl (by omega) (by omega)
    (by intro v hv; simp only [List.mem_cons, List.not_mem_nil, or_false] at hv; rcases hv with rfl | rfl | rfl; exact htc; rfl; rfl)
  simpa [flat, Value.cells] using this
theorem run_node (w : World) (s : List UInt8) (A : Option Addr) (n c : Nat) : (Instr.build 64 #[(0, strVE s), (1, .slice A n c)]).run Tryz.prog w = .ok (.agg (treC s A n c none 0 0)) w := by kernel_rfl
theorem run_prop (w : World) (s : List UInt8) (A : Option Addr) (n c : Nat) : (Instr.build 136 #[(0, strVE s), (1, .slice A n c)]).run Tryz.prog w = .ok (.agg (prpC s A n c)) w := by kernel_rfl
theorem tre_one (s : List UInt8) (A : Option Addr) (n c : Nat) (A2 : Option Addr) (n2 c2 : Nat) : ∀ v ∈ (treC s A n c A2 n2 c2).toList, v.oneCell' = true := by
  intro v hv
  simp only [treC, List.mem_cons, List.not_mem_nil, or_false] at hv
  rcases hv with rfl | rfl | rfl <;> rfl
theorem prp_one (s : List UInt8) (A : Option Addr) (n c : Nat) : ∀ v ∈ (prpC s A n c).toList, v.oneCell' = true := by
  intro v hv
  simp only [prpC, List.mem_cons, List.not_mem_nil, or_false] at hv
  rcases hv with rfl | rfl <;> rfl
def RetK (w : World) (T : Reg.Kd) (e : Ending) (w' : World) : Prop := (∃ v, e = .returned v ∧ T v w') ∧ Below w.heap.size w w'
set_option maxRecDepth 100000 in
theorem node_all (s : List UInt8) (A : Option Addr) (n c : Nat) (w : World) : Calls Tryz.prog 43 #[strVE s, .slice A n c] w fun e w' => e = .returned (.agg (treC s A n c none 0 0)) ∧ Below w.heap.size w w' := by
  go_enter Tryz.func43, Tryz.ntmps43
  go_wp2_with (first
    | ((with_reducible refine at_alloc 64 ?_); refine wpList_allocO w rfl rfl (.agg zTr) zeroTree ?_; intro W1 B1 hE1 hl1 hb1)
    | ((with_reducible refine at_build 64 ?_); refine wpList_runV rfl (Flow.reg_build #[(0, strVE s), (1, .slice A n c)] rfl (by simp [Act.eval]) (run_node _ s A n c)) ?_)
    | ((with_reducible refine at_store 64 ?_); refine wpList_storeAll W1 rfl 64 _ _ rfl B1 64 _ (treC s A n c none 0 0) hb1 rfl rfl rfl (infTree rfl) (tre_one _ _ _ _ _ _ _) ?_; intro W2 hb2 hg2 hs2))
  refine bodyPost_ret (results_cellS (cs := treC s A n c none 0 0) rfl _ _ B1 _ _ _ rfl hb2 Tryz.underlying64 rfl (infTree rfl)) rfl ?_
  exact ⟨rfl, grown_below hE1 hg2 hE1.size hl1⟩
theorem node_any (s : List UInt8) (A : Option Addr) (n c : Nat) (w : World) : Calls Tryz.prog 43 #[strVE s, .slice A n c] w (RetK w treK) :=
  (node_all s A n c w).mono fun _ _ ⟨h1, h2⟩ => ⟨⟨_, h1, s, A, n, c, none, 0, 0, rfl, trivial⟩, h2⟩
set_option maxRecDepth 100000 in
theorem hfour_any (s : List UInt8) (A2 : Option Addr) (m c2 : Nat) (xs : List Nat) (hm : m ≤ 1000) (w : World) (h2 : Rd w w.heap.size 1 A2 m (xs.map fun (x : Nat) => Value.int .u32 (x : Int))) : Calls Tryz.prog 45 #[strVE s, .slice A2 m c2] w (RetK w prpK) := by
  go_enter Tryz.func45, Tryz.ntmps45
  go_wp2_with ((with_reducible refine at_alloc 136 ?_); refine wpList_allocO w rfl rfl _ zeroProp ?_; intro W1 B1 hE1 hl1 hb1)
  refine (putBe32_any none 0 0 [] W1 A2 m c2 xs (Rd.nil _ _ _ _) (by omega) ((h2.below hE1).more hE1.size) (by omega)).mono ?_
  rintro e W2 ⟨A', c', rfl, hO, hB⟩
  have hb2 := hb1.ext hB
  generalize 0 + 4 * m = q at *
  go_wp2_with (first
    | ((with_reducible refine at_build 136 ?_); refine wpList_runV rfl (Flow.reg_build #[(0, strVE s), (1, .slice A' q c')] rfl (by simp [Act.eval]) (run_prop _ s A' q c')) ?_)
    | ((with_reducible refine at_store 136 ?_); refine wpList_storeAll W2 rfl 136 _ _ rfl B1 136 _ (prpC s A' q c') hb2 rfl rfl rfl (infProp rfl) (prp_one _ _ _ _) ?_; intro W3 hb3 hg3 hs3))
  refine bodyPost_ret (results_cellS (cs := prpC s A' q c') rfl _ _ B1 _ _ _ rfl hb3 Tryz.underlying136 rfl (infProp rfl)) rfl ?_
  exact ⟨⟨_, rfl, s, A', _, c', rfl, trivial⟩, grown_below (hE1.trans hB) hg3 (hE1.trans hB).size hl1⟩
set_option maxRecDepth 100000 in
theorem height_any (s : List UInt8) (A2 : Option Addr) (m c2 : Nat) (xs : List Nat) (hm : m ≤ 1000) (w : World) (h2 : Rd w w.heap.size 1 A2 m (xs.map fun (x : Nat) => Value.int .u64 (x : Int))) : Calls Tryz.prog 84 #[strVE s, .slice A2 m c2] w (RetK w prpK) := by
  go_enter Tryz.func84, Tryz.ntmps84
  go_wp2_with ((with_reducible refine at_alloc 136 ?_); refine wpList_allocO w rfl rfl _ zeroProp ?_; intro W1 B1 hE1 hl1 hb1)
  refine (putBe64_any none 0 0 [] W1 A2 m c2 xs (Rd.nil _ _ _ _) (by omega) ((h2.below hE1).more hE1.size) (by omega)).mono ?_
  rintro e W2 ⟨A', c', rfl, hO, hB⟩
  have hb2 := hb1.ext hB
  generalize 0 + 8 * m = q at *
  go_wp2_with (first
    | ((with_reducible refine at_build 136 ?_); refine wpList_runV rfl (Flow.reg_build #[(0, strVE s), (1, .slice A' q c')] rfl (by simp [Act.eval]) (run_prop _ s A' q c')) ?_)
    | ((with_reducible refine at_store 136 ?_); refine wpList_storeAll W2 rfl 136 _ _ rfl B1 136 _ (prpC s A' q c') hb2 rfl rfl rfl (infProp rfl) (prp_one _ _ _ _) ?_; intro W3 hb3 hg3 hs3))
  refine bodyPost_ret (results_cellS (cs := prpC s A' q c') rfl _ _ B1 _ _ _ rfl hb3 Tryz.underlying136 rfl (infProp rfl)) rfl ?_
  exact ⟨⟨_, rfl, s, A', _, c', rfl, trivial⟩, grown_below (hE1.trans hB) hg3 (hE1.trans hB).size hl1⟩
set_option maxRecDepth 100000 in
theorem at_any (s : List UInt8) (hs : s.length ≤ 20) (x : Nat) (hx : x < 18446744073709551616) (w : World) : Calls Tryz.prog 46 #[strVE s, .int .u64 (x : Int)] w (RetK w strK) := by
  unfold strVE
  go_enter Tryz.func46, Tryz.ntmps46
  go_wp2_with fail
  refine (hex_any x hx w).mono ?_
  rintro e w1 ⟨⟨J, hJ, rfl⟩, hB⟩
  have hl := hexLen_le hx hJ
  obtain ⟨S, HS⟩ : ∃ S, Hid (S = digs x J) := ⟨_, Lib.hid rfl⟩
  have hSl : S.length ≤ 16 := by rw [HS.out, digs_length]; exact hl
  rw [← HS.out]
  go_wp2_with fail
  go_ret
  exact ⟨⟨_, rfl, s ++ [64] ++ S, by simp [strVE, ByteArray.mk_append_mk], by simp; omega⟩, hB⟩
end Go.Proofs.YtpellkblaeeopaaGreatDoor
/-
  Walks for awake35: host.said, stretch.
-/
namespace Go.Proofs.YtpellkblaeeopaaGreatDoor
open Go.RowKit

section
variable {ops : Array Oper} {rest : List Oper} {o : Oper} {a : Act} {Q : Exit → Act → World → Prop}
theorem wpList_convO (W : World) (hgd : o.guard = none) (x : Operand) (ho : o.op = .convert 9 73 x) (l : List UInt8) (hx : a.eval x = .string ⟨l.toArray⟩)
    (h : ∀ W2 g cap (cs : Array Value), Ext W W2 → W.heap.size ≤ g → W2.heap[g]? = some (.cells cs 5 (cs.size, cs.size + 1)) → cs.size = cap → l.length ≤ cap → wpList Tryz.prog ops Q rest (a.put o.dst (.slice (some ⟨g, 0, none⟩) l.length cap)) W2) : wpList Tryz.prog ops Q (o :: rest) a W := by
  refine wpList_convV W hgd x ho _ _ _ hx (Lib.run_convert_string_bytes W 9 73 5 ⟨l.toArray⟩ Tryz.underlying9 Tryz.underlying73 Tryz.underlying5) ?_
  have hge : l.length ≤ grownCap W (⟨l.toArray⟩ : ByteArray).size 0 5 := grownCap_ge W _ 0 _
  refine h _ _ _ _ ⟨rfl, rfl, rfl, by rw [Lib.bytesWorld_size]; omega, fun j hj => Lib.bytesWorld_at_old W _ _ j hj⟩ (Nat.le_refl _) (Lib.bytesWorld_at_new W _ _) ?_ hge
  simp only [Lib.bytesCells, Array.size_append, Array.size_map, Array.size_replicate]
  show l.toArray.size + (grownCap W (⟨l.toArray⟩ : ByteArray).size 0 5 - (⟨l.toArray⟩ : ByteArray).size) = _
  have e : (⟨l.toArray⟩ : ByteArray).size = l.length := rfl
  rw [e] at hge ⊢
  simp only [List.size_toArray]
  omega
theorem wpList_appConv (W : World) (hgd : o.guard = none) (s x : Operand) (ho : o.op = .call { callee := .builtin .append, args := #[s, x], argTypes := #[73, 73] }) (g n cap : Nat) (cs : Array Value) (hg : W.heap[g]? = some (.cells cs 5 (cs.size, cs.size + 1)))
    (hc : cs.size = cap) (hn : n ≤ cap) (hn1 : n ≤ 1000) (hs : a.eval s = .slice (some ⟨g, 0, none⟩) n cap) (b : Nat) (u : Value) (hb : Blk W b 5 #[u]) (hu : u.oneCell' = true) (hx : a.eval x = .slice (some ⟨b, 0, none⟩) 1 1)
    (h : ∀ A' n' c' W2, W.grownBy W2 (some g) → wpList Tryz.prog ops Q rest (a.put o.dst (.slice A' n' c')) W2) : wpList Tryz.prog ops Q (o :: rest) a W := by
  obtain ⟨i, h2, h3, h4, h5⟩ := elB.info
  refine wpList_append_arg W hgd s x 73 ho 5 i (.int .u8 0) 1 1 elB.under h2 h3 h4 h5 rfl (by omega) g 0 n cap (cs.toList.take n) hs (by rw [List.length_take, Array.length_toList]; omega) (fun j v hj => ?_) ⟨b, 0, none⟩ 1 1 [u] hx rfl (fun j v hj => ?_) (by intro v hv; rw [List.mem_singleton.1 hv]; exact hu) (fun hr j hj => ?_) (by simp only [maxLen]; omega) (by omega) (fun _ => ?_) (fun _ v' w' h6 h7 => ?_)
  · rw [List.getElem?_take] at hj
    split at hj
    · rw [cell_of_row W g (0 + j) cs _ _ hg, Nat.zero_add]; simpa using hj
    · cases hj
  · rw [addr_lit0, hb.cell]; simpa using hj
  · simp only [List.length_singleton] at hj
    obtain rfl : j = 0 := by omega
    refine ⟨?_, ?_⟩
    · rw [cell_of_row W g _ cs _ _ hg, Array.getElem?_eq_getElem (by omega)]; rfl
    · simp only [World.frozen?, hg, Bool.and_eq_false_iff, decide_eq_false_iff_not]
      left; omega
  · refine h _ _ _ _ ?_
    simp only [World.setCells]
    exact grown_setE W g _ u
  · have hex : ∃ A' n' c', v' = .slice A' n' c' := by
      rcases h6.2 with ⟨e1, _⟩ | ⟨_, _, _, e1, _⟩
      · exact ⟨_, _, _, e1⟩
      · exact ⟨_, _, _, e1⟩
    obtain ⟨A', n', c', rfl⟩ := hex
    exact h A' n' c' w' ⟨h7.os, h7.tape, h7.output, h7.size, fun k hk hne => h7.block k hk (by simp)⟩
end
set_option maxRecDepth 100000 in
set_option maxHeartbeats 2000000 in
theorem said_any (s t : List UInt8) (ht : t.length ≤ 1000) (w : World) : Calls Tryz.prog 44 #[strVE s, strVE t] w (RetK w prpK) := by
  show Calls Tryz.prog 44 #[.string ⟨s.toArray⟩, .string ⟨t.toArray⟩] w (RetK w prpK)
  go_enter Tryz.func44, Tryz.ntmps44
  go_wp2_with (first
    | ((with_reducible refine at_alloc 136 ?_); refine wpList_allocO w rfl rfl _ zeroProp ?_; intro W1 B1 hE1 hl1 hb1)
    | ((with_reducible refine at_conv ?_); refine wpList_convO W1 rfl _ rfl t rfl ?_; intro W2 g cap cs hE2 hl2 hg2 hcs hcap; have hb2 := hb1.ext hE2)
    | ((with_reducible refine at_buildSlice 73 ?_); refine wpList_bsO W2 rfl rfl #[(0, .int .u8 0)] _ (by simp [Act.eval]) (run_n1 elB W2 0) ?_; intro W3 b3 hE3 hl3 hb3; have hg3 := (hE3.block g (Array.getElem?_eq_some_iff.1 hg2).1).trans hg2)
    | ((with_reducible refine at_append ?_); refine wpList_appConv W3 rfl _ _ rfl g t.length cap cs hg3 hcs hcap ht rfl b3 _ hb3 rfl rfl ?_; intro A4 n4 c4 W4 hg4; have hB1g : B1 < g := (by have := hb1.lt; omega); have hE4 : Ext W1 W4 := grown_below (hE2.trans hE3) hg4 (hE2.trans hE3).size hl2; have hb4 := hb1.ext hE4)
    | ((with_reducible refine at_build 136 ?_); refine wpList_runV rfl (Flow.reg_build #[(0, strVE s), (1, .slice A4 n4 c4)] rfl (by simp [Act.eval, Act.put, strVE]) (run_prop _ s A4 n4 c4)) ?_)
    | ((with_reducible refine at_store 136 ?_); refine wpList_storeAll W4 rfl 136 _ _ rfl B1 136 _ (prpC s A4 n4 c4) hb4 rfl rfl rfl (infProp rfl) (prp_one _ _ _ _) ?_; intro W5 hb5 hg5 hs5))
  refine bodyPost_ret (results_cellS (cs := prpC s A4 n4 c4) rfl _ _ B1 _ _ _ rfl hb5 Tryz.underlying136 rfl (infProp rfl)) rfl ?_
  exact ⟨⟨_, rfl, s, A4, n4, c4, rfl, trivial⟩, grown_below (hE1.trans hE4) hg5 (hE1.trans hE4).size hl1⟩
set_option maxRecDepth 100000 in
set_option maxHeartbeats 2000000 in
theorem stretch_any (nm : List UInt8) (hnm : nm.length ≤ 20) (sp : Sp) (hsp : sp.base < 18446744073709551616 ∧ sp.size < 18446744073709551616) (w : World) : Calls Tryz.prog 47 #[strVE nm, .agg sp.cells] w (RetK w treK) := by
  have hb := hsp.1
  go_enter Tryz.func47, Tryz.ntmps47
  go_wp2_with (first
    | ((with_reducible refine at_box 25 ?_); refine wpList_boxO w rfl rfl sp.cells rfl ?_; intro W1 BS hE1 hl1 hbS1)
    | ((with_reducible refine at_alloc 64 ?_); refine wpList_allocO W1 rfl rfl (.agg zTr) zeroTree ?_; intro W2 B2 hE2 hl2 hb2))
  have hbS := hbS1.ext hE2
  have hsz := hE1.size
  simp only [Act.put, List.setIfInBounds_toArray, List.set_cons_succ, List.set_cons_zero]
  refine Reg.wp_region_tail 12 [] (by kernel_rfl) (by kernel_rfl) (by kernel_rfl) (by kernel_rfl) (by kernel_rfl) ?_
  refine Reg.pass_old (X := strVE nm) 0 (Reg.met_none rfl) (.inl rfl) (by kernel_rfl) (by kernel_rfl) rfl ?_
  refine Reg.pass_val (.pointer (some ⟨BS, 0, none⟩)) (Reg.met_none rfl) (fun a W hE hS => ?_) ?_
  · have e0 := Reg.see_old 3 hS (by kernel_rfl) (by kernel_rfl) rfl
    go_simp; first | done | rfl
  refine Reg.pass_val (.int .u64 (sp.base : Int)) (Reg.met_none rfl) (fun a W hE hS => ?_) ?_
  · have e0 := Reg.see_new 6 1 hS (by kernel_rfl) (by kernel_rfl) rfl rfl
    have cc : World.cell? W ⟨BS, 0, none⟩ = some (.int .u64 (sp.base : Int)) := ((hbS.drew.ext hE).cell 0).trans rfl; go_simp; first | done | rfl
  refine Reg.pass_step (strK) (stable_str) (Reg.met_none rfl) (fun a W hE hS => ?_) ?_
  · have e0 := Reg.see_new 5 0 hS (by kernel_rfl) (by kernel_rfl) rfl rfl
    have e1 := Reg.see_new 7 2 hS (by kernel_rfl) (by kernel_rfl) rfl rfl
    refine Reg.wp_call rfl Tryz.func46 rfl (by kernel_rfl) (by simp [Act.eval, strVE, e0, e1]) (at_any nm hnm sp.base hb W) ?_
    rintro e w' ⟨⟨v, rfl, hv⟩, hB⟩
    exact ⟨_, rfl, _, rfl, hB, hv⟩
  refine Reg.pass_val (.pointer (some ⟨BS, 0, none⟩)) (Reg.met_none rfl) (fun a W hE hS => ?_) ?_
  · have e0 := Reg.see_old 3 hS (by kernel_rfl) (by kernel_rfl) rfl
    go_simp; first | done | rfl
  refine Reg.pass_val (.int .u64 (sp.base : Int)) (Reg.met_none rfl) (fun a W hE hS => ?_) ?_
  · have e0 := Reg.see_new 9 4 hS (by kernel_rfl) (by kernel_rfl) rfl rfl
    have cc : World.cell? W ⟨BS, 0, none⟩ = some (.int .u64 (sp.base : Int)) := ((hbS.drew.ext hE).cell 0).trans rfl; go_simp; first | done | rfl
  refine Reg.pass_val (.pointer (some ⟨BS, 1, none⟩)) (Reg.met_none rfl) (fun a W hE hS => ?_) ?_
  · have e0 := Reg.see_old 3 hS (by kernel_rfl) (by kernel_rfl) rfl
    go_simp; first | done | rfl
  refine Reg.pass_val (.int .u64 (sp.size : Int)) (Reg.met_none rfl) (fun a W hE hS => ?_) ?_
  · have e0 := Reg.see_new 11 6 hS (by kernel_rfl) (by kernel_rfl) rfl rfl
    have cc : World.cell? W ⟨BS, 1, none⟩ = some (.int .u64 (sp.size : Int)) := ((hbS.drew.ext hE).cell 1).trans rfl; go_simp; first | done | rfl
  refine Reg.pass_step (intK 22 #[.int .u64 (sp.base : Int), .int .u64 (sp.size : Int)] 2) (stable_int _ _ _) (Reg.met_none rfl) (fun a W hE hS => ?_) ?_
  · have e0 := Reg.see_new 10 5 hS (by kernel_rfl) (by kernel_rfl) rfl rfl
    have e1 := Reg.see_new 12 7 hS (by kernel_rfl) (by kernel_rfl) rfl rfl
    refine wp_runR (Flow.reg_buildSlice _ rfl (by simp [Act.eval, e0, e1]) (run_n2 elU64e W sp.base sp.size)) ?_
    exact ⟨_, rfl, (Ext.refl W).alloc _, W.heap.size, rfl, Blk.new _ _ _⟩
  refine Reg.pass_step (prpK) (stable_prp) (Reg.met_none rfl) (fun a W hE hS => ?_) ?_
  · obtain ⟨b0, e0, q0⟩ := Reg.see_kind 13 8 hS (by kernel_rfl) (by kernel_rfl) rfl rfl
    refine Reg.wp_call rfl Tryz.func84 rfl (by kernel_rfl) (by simp [Act.eval, strVE, e0]) (height_any [114, 101, 103] (some ⟨b0, 0, none⟩) 2 2 [sp.base, sp.size] (by omega) W (by have := q0.rd (size := 1) (n := 2) rfl; simpa using this)) ?_
    rintro e w' ⟨⟨v, rfl, hv⟩, hB⟩
    exact ⟨_, rfl, _, rfl, hB, hv⟩
  refine Reg.pass_step (rowK 1) (stable_row _) (Reg.met_none rfl) (fun a W hE hS => ?_) ?_
  · obtain ⟨s0, A0, n0, c0, e0, q0⟩ := Reg.see_kind 14 9 hS (by kernel_rfl) (by kernel_rfl) rfl rfl
    refine wp_runR (Flow.reg_buildSlice _ rfl (by simp [Act.eval, e0]) (run_prp1 W s0 A0 n0 c0)) ?_
    exact ⟨_, rfl, (Ext.refl W).alloc _, W.heap.size, rfl, trivial⟩
  refine Reg.pass_step (treK) (stable_tre) (Reg.met_none rfl) (fun a W hE hS => ?_) ?_
  · obtain ⟨s0, e0, q0⟩ := Reg.see_kind 8 3 hS (by kernel_rfl) (by kernel_rfl) rfl rfl
    obtain ⟨b1, e1, q1⟩ := Reg.see_kind 15 10 hS (by kernel_rfl) (by kernel_rfl) rfl rfl
    refine Reg.wp_call rfl Tryz.func43 rfl (by kernel_rfl) (by simp [Act.eval, strVE, e0, e1]) (node_any s0 (some ⟨b1, 0, none⟩) 1 1 W) ?_
    rintro e w' ⟨⟨v, rfl, hv⟩, hB⟩
    exact ⟨_, rfl, _, rfl, hB, hv⟩
  refine ⟨(fun i hi => by cases hi), ?_⟩
  refine Reg.tail_end [none, none, none, none, none, some 5, some 6, some 7, some 8, some 9, some 10, some 11, some 12, some 13, some 14, some 15, some 16] (by kernel_rfl) ?_
  intro ff w9 hE hf hfr
  have h5 : ff 5 = _ := hf 5 0 _ (by kernel_rfl) (by decide) rfl
  have h6 : ff 6 = _ := hf 6 1 _ (by kernel_rfl) (by decide) rfl
  have h7 : ff 7 = _ := hf 7 2 _ (by kernel_rfl) (by decide) rfl
  have h9 : ff 9 = _ := hf 9 4 _ (by kernel_rfl) (by decide) rfl
  have h10 : ff 10 = _ := hf 10 5 _ (by kernel_rfl) (by decide) rfl
  have h11 : ff 11 = _ := hf 11 6 _ (by kernel_rfl) (by decide) rfl
  have h12 : ff 12 = _ := hf 12 7 _ (by kernel_rfl) (by decide) rfl
  obtain ⟨s16, A16, n16, c16, B16, m16, d16, h16, q16⟩ : (treK) (ff 16) w9 := hf 16 11 _ (by kernel_rfl) (by decide) rfl
  clear hf hfr 
  have hb9 := (hb2.drew).ext hE
  have hE9 : Ext w w9 := (hE1.trans hE2).trans ((Ext.refl W2).drew.trans hE)
  simp only [Reg.sel, h16, List.drop_succ_cons, List.drop_zero]
  go_wp2_with ((with_reducible refine at_store 64 ?_); refine wpList_storeAll w9 rfl 64 _ _ rfl B2 64 _ (treC s16 A16 n16 c16 B16 m16 d16) hb9 rfl rfl rfl (infTree rfl) (tre_one _ _ _ _ _ _ _) ?_; intro W3 hb3 hg3 hs3)
  refine bodyPost_ret (results_cellS (cs := treC s16 A16 n16 c16 B16 m16 d16) rfl _ _ B2 _ _ _ rfl hb3 Tryz.underlying64 rfl (infTree rfl)) rfl ?_
  exact ⟨⟨_, rfl, s16, A16, n16, c16, B16, m16, d16, rfl, trivial⟩, grown_below hE9 hg3 hE9.size (by omega)⟩
end Go.Proofs.YtpellkblaeeopaaGreatDoor
