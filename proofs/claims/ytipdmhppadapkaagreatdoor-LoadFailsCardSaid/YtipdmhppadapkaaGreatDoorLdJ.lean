/-
  Walk: the reference's Check.
-/
import Derived.Test.YtipdmhppadapkaaGreatDoorLdI
namespace Go.Proofs.YtipdmhppadapkaaGreatDoor
open Go.RowKit Sha

theorem blk3a (w : World) (o1 o2 : Obj) (t : TypeId) (cs : Array Value) : Blk (((w.alloc (.cells cs t)).alloc o1).alloc o2) w.heap.size t cs := ((Blk.new w t cs).alloc o1).alloc o2
theorem blk3b (w : World) (o0 o2 : Obj) (t : TypeId) (cs : Array Value) : Blk (((w.alloc o0).alloc (.cells cs t)).alloc o2) (w.heap.size + 1) t cs := by
  have h := ((Blk.new (w.alloc o0) t cs).alloc o2)
  rwa [World.size_alloc] at h
theorem blk3c (w : World) (o0 o1 : Obj) (t : TypeId) (cs : Array Value) : Blk (((w.alloc o0).alloc o1).alloc (.cells cs t)) (w.heap.size + 2) t cs := by
  have h := (Blk.new ((w.alloc o0).alloc o1) t cs)
  rwa [World.size_alloc, World.size_alloc] at h

theorem hd_digR {W : World} {b : Nat} {t : TypeId} {h : Hd} (H : Blk W b t (hdCells h).toArray) : W.rangeAt b 3 (bcells h.dig) := by
  have e : hdCells h = [.int .u32 (h.ver : Int), .int .u32 (h.size : Int), .string ⟨h.name.toArray⟩] ++ bcells h.dig ++ [] := by simp [hdCells]
  have H2 := H
  rw [e] at H2
  exact range_of (n := 3) H2 rfl
theorem gu_win {W : World} {b : Nat} {g : Gu} (H : Blk W b 31 g.cells.toArray) (hk : g.key.length = 68) : W.cell? ⟨b, 75, none⟩ = some (.slice g.wA g.wn g.wc) := by
  rw [H.cell, List.getElem?_toArray, Gu.cells]
  exact get_app (n := 75) (by simp [bcells_length, hk]) 0
theorem gu_key {W : World} {b : Nat} {g : Gu} (H : Blk W b 31 g.cells.toArray) (hk : g.key.length = 68) : Rd W W.heap.size 1 (some ⟨b, 7, none⟩) 68 (bcells g.key) := by
  have e : g.cells = [.string ⟨g.name.toArray⟩, .bool g.mand, .int .u32 (g.off : Int), .int .u32 (g.len : Int), .int .u32 (g.cpus : Int), .int .u64 (g.entry : Int), .int .u64 (g.dtb : Int)] ++ bcells g.key ++ [.slice g.wA g.wn g.wc, g.dev, g.irq, g.stm] := by simp [Gu.cells]
  have H2 := H
  rw [e] at H2
  have := rd_of_range (range_of (n := 7) H2 rfl) H.lt
  rwa [bcells_length, hk] at this

set_option maxRecDepth 100000 in
set_option maxHeartbeats 2000000 in
theorem rlcheck_any (w : World) (A : Option Addr) (n k : Nat) (l : List UInt8) (hR : Rd w w.heap.size 1 A n (bcells l)) (hnk : n ≤ k) (hn5 : n ≤ 1000000) (g : Gu) (c : Ctr) (ok : g.ok w w.heap.size) :
    Calls Tryz.prog 12 #[.slice A n k, .agg g.cells.toArray, .agg c.cells] w (CkRet w l g c) := by
  have hz := zeroVd
  have hA := blk3a w (.cells c.cells 34) (.cells vdz 41) 31 g.cells.toArray
  have hB := blk3b w (.cells g.cells.toArray 31) (.cells vdz 41) 34 c.cells
  have hC := blk3c w (.cells g.cells.toArray 31) (.cells c.cells 34) 41 vdz
  have B1 : Below w.heap.size w (((w.alloc (.cells g.cells.toArray 31)).alloc (.cells c.cells 34)).alloc (.cells vdz 41)) := (((Below.refl _ _).alloc (Nat.le_refl _) _).alloc (by simp) _).alloc (by simp; omega) _
  have co : World.cell? (((w.alloc (.cells g.cells.toArray 31)).alloc (.cells c.cells 34)).alloc (.cells vdz 41)) ⟨w.heap.size, 2, none⟩ = some (.int .u32 (g.off : Int)) := (hA.cell 2).trans rfl
  have cl : World.cell? (((w.alloc (.cells g.cells.toArray 31)).alloc (.cells c.cells 34)).alloc (.cells vdz 41)) ⟨w.heap.size, 3, none⟩ = some (.int .u32 (g.len : Int)) := (hA.cell 3).trans rfl
  go_enter Tryz.func12, Tryz.ntmps12
  go_wp2_with fail
  generalize ((w.alloc (.cells g.cells.toArray 31)).alloc (.cells c.cells 34)).alloc (.cells vdz 41) = W1 at *
  obtain ⟨RG, hRG⟩ : ∃ RG, getV l g.off g.len = RG := ⟨_, rfl⟩
  obtain ⟨E0, hE0⟩ : ∃ E, getE l g.off g.len = E := ⟨_, rfl⟩
  obtain ⟨RL, hRL⟩ : ∃ RL, RG.length = RL := ⟨_, rfl⟩
  have hget := rget_bs A n k l hn5 hnk g.off g.len ok.off ok.len W1 w.heap.size (hR.below B1)
  rw [hRG, hE0] at hget
  unfold BErrB at hget
  rw [hRL] at hget
  have hRL6 : RL ≤ 1000000 := by
    have h1 := getV_le l g.off g.len
    have h2 := hR.len
    rw [bcells_length] at h2
    rw [hRG, hRL] at h1; omega
  have HRG := Lib.hid hRG
  have HE0 := Lib.hid hE0
  have HRL := Lib.hid hRL
  clear hRG hE0 hRL co cl hz
  refine Calls.mono hget ?_
  rintro e W2 ⟨A5, c5, rfl, g5, r5, hB2⟩
  have hA2 := hA.below hB2 hA.lt
  have hb2 := hB.below hB2 hB.lt
  have hC2 := hC.below hB2 hC.lt
  have B2 := B1.trans (hB2.mono B1.size)
  clear hget hA hB hC B1 hB2
  by_cases h0 : E0 = 0
  · have hkey := gu_key hA2 ok.key
    have hnum := number_any (some ⟨w.heap.size, 7, none⟩) 68 68 0 false g.key W2 4 hkey (by omega) (by omega) (by omega)
    obtain ⟨OI, hOI⟩ : ∃ o, gOid g = o := ⟨_, rfl⟩
    have hOI2 : rdNum g.key 0 4 false = OI := hOI
    rw [hOI2] at hnum
    have hOI4 : OI < 4294967296 := by rw [← hOI2]; exact rdNum_lt g.key 0 4 false
    have hcv : IntKind.u32.wrap (OI : Int) = (OI : Int) := IntWalk.u32_in _ (by omega)
    have hsp := fun W hs h => rSplit_cap A5 RL c5 g5 hRL6 RG OI W w.heap.size hs h
    obtain ⟨p1, p2, p3⟩ := spl_le RG OI
    have hHD32 : (splHd RG OI).dig.length = 32 := by
      unfold splHd
      split
      · exact (hdVal_ok _).dig
      · rfl
    obtain ⟨HD, hHD⟩ : ∃ H, splHd RG OI = H := ⟨_, rfl⟩
    obtain ⟨SA, hSA⟩ : ∃ H, splA RG OI = H := ⟨_, rfl⟩
    obtain ⟨SB, hSB⟩ : ∃ H, splB RG OI = H := ⟨_, rfl⟩
    obtain ⟨SC, hSC⟩ : ∃ H, splC RG OI = H := ⟨_, rfl⟩
    obtain ⟨SE, hSE⟩ : ∃ H, splErr RG OI = H := ⟨_, rfl⟩
    unfold SplRetC at hsp
    rw [hHD, hSA, hSB, hSC, hSE] at hsp
    rw [hSA] at p1
    rw [hSB] at p2
    rw [hSC] at p3
    rw [hHD] at hHD32
    have HHD := Lib.hid hHD
    have HSA := Lib.hid hSA
    have HSB := Lib.hid hSB
    have HSC := Lib.hid hSC
    have HSE := Lib.hid hSE
    have HH := Lib.hid hHD32
    have HOI := Lib.hid hOI
    have hzh := zeroHd
    subst h0
    clear hOI hOI2 hHD hSA hSB hSC hSE hHD32 hkey
    go_wp2_with fail
    refine Calls.mono hnum ?_
    rintro e W9 ⟨rfl, rfl⟩
    go_wp2_with fail
    refine Calls.mono (hsp _ B2.size r5) ?_
    rintro e W3 ⟨A1, k1, A2, k2, A3, k3, rfl, r1, r2, r3, hB3, m1, m2, m3⟩
    have hA3 := hA2.below hB3 hA2.lt
    have hb3 := hb2.below hB3 hb2.lt
    have hC3 := hC2.below hB3 hC2.lt
    have B3 := B2.trans (hB3.mono B2.size)
    clear hnum hsp r5 hA2 hb2 hC2 B2 hB3
    have hq3 := Blk.new W3 51 (hdCells zhd).toArray
    by_cases h0 : SE = 0
    · have BW := fun w' (hg : (W3.alloc (.cells (hdCells zhd).toArray 51)).grownBy w' (some W3.heap.size)) => grown_below ((Below.refl W3.heap.size W3).alloc (Nat.le_refl _) (.cells (hdCells zhd).toArray 51)) hg (by simp) (Nat.le_refl _)
      have hz0 : Hid (errAt l g c 0 = 0) := Lib.hid (by show e0 l g = 0; rw [e0, HE0.out, if_neg (by simp), gReg, HRG.out, HOI.out, HSE.out, h0])
      subst h0
      go_wp2_with ((with_reducible refine at_store 51 ?_); refine wpList_storeAll _ rfl 51 _ _ rfl W3.heap.size 51 _ (hdCells HD).toArray hq3 rfl rfl (by rw [List.size_toArray, hdCells_length HD HH.out]; rfl) (by rw [List.size_toArray, hdCells_length HD HH.out]; exact inf_hd) (hdCells_one HD) ?_; intro W4 hb4 hg4 hs4; have BW4 := BW W4 hg4; clear BW hg4 hs4)
      have hA4 := hA3.below BW4 hA3.lt
      have hcb4 := hb3.below BW4 hb3.lt
      have hC4 := hC3.below BW4 hC3.lt
      have B4 := B3.trans (BW4.mono B3.size)
      have r14 := (r1.belowm BW4 B3.size).more B4.size
      have r24 := (r2.belowm BW4 B3.size).more B4.size
      have r34 := r3.belowm BW4 B3.size
      have hver := rVerify_all (some ⟨w.heap.size, 7, none⟩) 68 68 g.key (by omega) (by omega) A1 SA.length k1 SA p1 A2 SB.length k2 SB p2 m2 W4 (gu_key hA4 ok.key) r14 r24
      obtain ⟨VE, hVE⟩ : ∃ V, verErr g.key SA SB = V := ⟨_, rfl⟩
      rw [hVE] at hver
      have HVE := Lib.hid hVE
      clear hVE hA3 hb3 hC3 B3 r1 r2 r3 hq3 BW4
      refine Calls.mono hver ?_
      rintro e W5 ⟨rfl, hB5⟩
      have hA5 := hA4.below hB5 hA4.lt
      have hcb5 := hcb4.below hB5 hcb4.lt
      have hC5 := hC4.below hB5 hC4.lt
      have hb5 := hb4.below hB5 hb4.lt
      have r35 := r34.belowm hB5 B4.size
      have B5 := B4.trans (hB5.mono B4.size)
      clear hver hA4 hcb4 hC4 hb4 r14 r24 r34 B4 hB5
      by_cases h1 : VE = 0
      · have hz1 : Hid (errAt l g c 1 = 0) := Lib.hid (by show e1 l g = 0; rw [e1, gReg, HRG.out, HOI.out, HSA.out, HSB.out, HVE.out, h1])
        have hp3 : SC.length ≤ 1000000 := by have h3 := HRL.out; omega
        subst h1
        generalize W3.heap.size = hb at *
        go_wp2_with fail
        refine Flow.wp_region_flow (W5.heap.size) [] [] (by kernel_rfl) (by kernel_rfl) (Nat.le_refl _) (fun _ h => by cases h) Flow.facts_nil ?_
        refine Flow.pass_old (X := .slice A3 SC.length k3) 14 (Flow.met_none rfl) (.inl rfl) (by kernel_rfl) (by kernel_rfl) rfl ?_
        refine Flow.pass_step (Reg.eqs (.agg (bcells (Sha.sum SC)).toArray)) (fun _ _ => Flow.kept_eqs _ _) (Flow.met_none rfl) (fun a W hH => ?_) ?_
        · have e0 := Flow.see_new 59 0 hH.sees (by kernel_rfl) (by kernel_rfl) rfl rfl
          refine Reg.wp_call rfl Tryz.func16 rfl (by kernel_rfl) (by simp [Act.eval, e0]) (rsum_any A3 SC.length k3 SC W ((r35.drew.belowm hH.below B5.size).more (Nat.le_trans B5.size hH.below.size)) hp3) ?_
          rintro e w' ⟨rfl, hB⟩
          exact ⟨_, rfl, _, rfl, hB, rfl⟩
        refine Flow.pass_val (.pointer (some ⟨hb, 3, none⟩)) (Flow.met_none rfl) (fun a W hH => ?_) ?_
        · have e0 := Flow.see_old 11 hH.sees (by kernel_rfl) (by kernel_rfl) rfl
          go_simp; first | done | rfl
        refine Flow.pass_val (.agg (bcells HD.dig).toArray) (Flow.met_none rfl) (fun a W hH => ?_) ?_
        · have e0 := Flow.see_new 61 2 hH.sees (by kernel_rfl) (by kernel_rfl) rfl rfl
          exact reg_loadRng 39 _ rfl e0 (hd_digR (hb5.drew.below hH.below hb5.lt)) Tryz.underlying39 rfl (by rw [bcells_length, HH.out]; exact infNode)
        refine Flow.pass_val (.bool (!(Sha.sum SC == HD.dig))) (Flow.met_none rfl) (fun a W hH => ?_) ?_
        · have e0 := Flow.see_new 60 1 hH.sees (by kernel_rfl) (by kernel_rfl) rfl rfl
          have e1 := Flow.see_new 62 3 hH.sees (by kernel_rfl) (by kernel_rfl) rfl rfl
          exact reg_neqT rfl (by simpa [Act.eval] using e0) (by simpa [Act.eval] using e1) nodeGuard (nodeNe _ _ (Sha.sum_length _) HH.out W)
        refine Flow.pass_copy 63 4 (Flow.met_none rfl) (.inr rfl) (by kernel_rfl) (by kernel_rfl) rfl rfl (fun _ _ => Flow.kept_eqs _ _) ?_
        refine Flow.pass_end [none, none, none, none, none, none, none, none, none, none, none, none, none, none, none, none, none, none, none, none, none, none, none, none, none, none, none, none, none, none, none, none, none, none, none, none, none, none, none, none, none, none, none, none, none, none, none, none, none, none, none, none, none, none, none, none, none, none, some 58, some 59, some 60, some 61, some 62, some 63, none, none, none, none, none, none, none, none, none, none, none, none, none, none, none, none, none, none, none, none, none, none, none, none, none, none, none, none, none, none, none, none, none, none, none, none, none, none, none, none, none, none, none] (by kernel_rfl) ?_
        intro f gg w9 hB hfa hT hfg
        have h58 : f 58 = _ := (hfg 58 5 (by kernel_rfl)).trans (hT 5 _ (by kernel_rfl) rfl)
        have hA6 := hA5.drew.below hB hA5.lt
        have hcb6 := hcb5.drew.below hB hcb5.lt
        have hC6 := hC5.drew.below hB hC5.lt
        have hb6 := hb5.drew.below hB hb5.lt
        have r36 := r35.drew.belowm hB B5.size
        have B6 := B5.trans ((Below.refl W5.heap.size W5).drew.trans hB |>.mono B5.size)
        obtain ⟨Q, hQ⟩ : ∃ Q, (Sha.sum SC == HD.dig) = Q := ⟨_, rfl⟩
        rw [hQ] at h58
        have HQ := Lib.hid hQ
        simp only [Reg.sel, h58]
        clear hT hfg hfa hB hA5 hcb5 hC5 hb5 r35 B5 hQ h58
        cases Q with
        | true =>
          have hQ2 : Sha.sum SC = HD.dig := by simpa using HQ.out
          have q1 : Hid (gHd l g = HD) := Lib.hid (by rw [gHd, gReg, HRG.out, HOI.out, HHD.out])
          have q4 : Hid (gPay l g = SC) := Lib.hid (by rw [gPay, gReg, HRG.out, HOI.out, HSC.out])
          have hz2 : Hid (errAt l g c 2 = 0) := Lib.hid (by show e2 l g = 0; rw [e2, q1.out, q4.out, if_pos hQ2])
          have cn1 : w9.cell? ⟨hb, 2, none⟩ = some (.string ⟨HD.name.toArray⟩) := (hb6.cell 2).trans rfl
          have cn2 : w9.cell? ⟨w.heap.size, 0, none⟩ = some (.string ⟨g.name.toArray⟩) := (hA6.cell 0).trans rfl
          clear hQ2
          by_cases hn : HD.name = g.name
          · have hz3 : Hid (errAt l g c 3 = 0) := Lib.hid (by show e3 l g = 0; rw [e3, q1.out, if_pos hn])
            have hsn : (HD.name == g.name) = true := by simpa using hn
            have HN := Lib.hid hn
            clear hn
            have hoks : HD.size < 4294967296 := by have h3 := (gHd_ok l g).2.1; rw [q1.out] at h3; exact h3
            have hw1 : IntKind.u64.wrap (HD.size : Int) = (HD.size : Int) := IntWalk.u64_in _ (by omega)
            by_cases h0 : 0 < g.wn
            · obtain ⟨wb, wo, hwA, hwlt, hwc⟩ := ok.win h0
              have hwA := Lib.hid hwA
              have hwl9 : wb < w9.heap.size := Nat.lt_of_lt_of_le hwlt B6.size
              have hwc9 : w9.cell? ⟨wb, wo + 2, none⟩ = some (.int .u64 (g.wsz : Int)) := (World.cell?_of_block (B6.block wb hwlt)).trans hwc
              clear hwlt hwc
              go_wp2_with fail
              obtain ⟨W9, hW9⟩ : ∃ W, W = w9 := ⟨_, rfl⟩
              subst hW9
              clear cn1 cn2
              refine Flow.wp_region_flow (W9.heap.size) [] [] (by kernel_rfl) (by kernel_rfl) (Nat.le_refl _) (fun _ h => by cases h) Flow.facts_nil ?_
              refine Flow.pass_val (.pointer (some ⟨w.heap.size, 75, none⟩)) (Flow.met_none rfl) (fun a W hH => ?_) ?_
              · have e0 := Flow.see_old 4 hH.sees (by kernel_rfl) (by kernel_rfl) rfl
                go_simp; first | done | rfl
              refine Flow.pass_val (.slice (some ⟨wb, wo, none⟩) g.wn g.wc) (Flow.met_none rfl) (fun a W hH => ?_) ?_
              · have e0 := Flow.see_new 73 0 hH.sees (by kernel_rfl) (by kernel_rfl) rfl rfl
                have cc := gu_win (hA6.drew.below hH.below hA6.lt) ok.key; rw [hwA.out] at cc; go_simp; first | done | rfl
              refine Flow.pass_val (.int .i64 (g.wn : Int)) (Flow.met_none rfl) (fun a W hH => ?_) ?_
              · have e0 := Flow.see_new 74 1 hH.sees (by kernel_rfl) (by kernel_rfl) rfl rfl
                go_simp; first | done | rfl
              refine Flow.pass_val (.bool false) (Flow.met_none rfl) (fun a W hH => ?_) ?_
              · have e0 := Flow.see_new 75 2 hH.sees (by kernel_rfl) (by kernel_rfl) rfl rfl
                have hw0 : ((g.wn : Int) == 0) = false := by simp; omega
                go_simp; first | done | rfl | omega | (simp [hw0])
              refine Flow.pass_copy 76 3 (Flow.met_none rfl) (.inl rfl) (by kernel_rfl) (by kernel_rfl) rfl rfl (fun _ _ => Flow.kept_eqs _ _) ?_
              refine Flow.pass_val (.pointer (some ⟨hb, 1, none⟩)) (Flow.met_some 4 false 77 rfl rfl (by kernel_rfl) (by kernel_rfl) rfl rfl) (fun a W hH => ?_) ?_
              · have e0 := Flow.see_old 11 hH.sees (by kernel_rfl) (by kernel_rfl) rfl
                go_simp; first | done | rfl
              refine Flow.pass_val (.int .u32 (HD.size : Int)) (Flow.met_some 4 false 77 rfl rfl (by kernel_rfl) (by kernel_rfl) rfl rfl) (fun a W hH => ?_) ?_
              · have e0 := Flow.see_new 78 5 hH.sees (by kernel_rfl) (by kernel_rfl) rfl rfl
                have cc : World.cell? W ⟨hb, 1, none⟩ = some (.int .u32 (HD.size : Int)) := ((hb6.drew.below hH.below hb6.lt).cell 1).trans rfl; go_simp; first | done | rfl
              refine Flow.pass_val (.int .u64 (HD.size : Int)) (Flow.met_some 4 false 77 rfl rfl (by kernel_rfl) (by kernel_rfl) rfl rfl) (fun a W hH => ?_) ?_
              · have e0 := Flow.see_new 79 6 hH.sees (by kernel_rfl) (by kernel_rfl) rfl rfl
                have hw := hw1; go_simp; first | done | rfl
              refine Flow.pass_val (.pointer (some ⟨w.heap.size, 75, none⟩)) (Flow.met_some 4 false 77 rfl rfl (by kernel_rfl) (by kernel_rfl) rfl rfl) (fun a W hH => ?_) ?_
              · have e0 := Flow.see_old 4 hH.sees (by kernel_rfl) (by kernel_rfl) rfl
                go_simp; first | done | rfl
              refine Flow.pass_val (.slice (some ⟨wb, wo, none⟩) g.wn g.wc) (Flow.met_some 4 false 77 rfl rfl (by kernel_rfl) (by kernel_rfl) rfl rfl) (fun a W hH => ?_) ?_
              · have e0 := Flow.see_new 81 8 hH.sees (by kernel_rfl) (by kernel_rfl) rfl rfl
                have cc := gu_win (hA6.drew.below hH.below hA6.lt) ok.key; rw [hwA.out] at cc; go_simp; first | done | rfl
              refine Flow.pass_val (.pointer (some ⟨wb, wo, none⟩)) (Flow.met_some 4 false 77 rfl rfl (by kernel_rfl) (by kernel_rfl) rfl rfl) (fun a W hH => ?_) ?_
              · have e0 := Flow.see_new 82 9 hH.sees (by kernel_rfl) (by kernel_rfl) rfl rfl
                exact reg_ixS (s := 4) 0 wo rfl Tryz.underlying26 (by kernel_rfl) (by simpa [Act.eval] using e0) (by simp [Act.eval]; rfl) rfl (by omega) (by omega)
              refine Flow.pass_val (.pointer (some ⟨wb, wo + 2, none⟩)) (Flow.met_some 4 false 77 rfl rfl (by kernel_rfl) (by kernel_rfl) rfl rfl) (fun a W hH => ?_) ?_
              · have e0 := Flow.see_new 83 10 hH.sees (by kernel_rfl) (by kernel_rfl) rfl rfl
                go_simp; first | done | rfl
              refine Flow.pass_val (.int .u64 (g.wsz : Int)) (Flow.met_some 4 false 77 rfl rfl (by kernel_rfl) (by kernel_rfl) rfl rfl) (fun a W hH => ?_) ?_
              · have e0 := Flow.see_new 84 11 hH.sees (by kernel_rfl) (by kernel_rfl) rfl rfl
                have cc : World.cell? W ⟨wb, wo + 2, none⟩ = some (.int .u64 (g.wsz : Int)) := (World.cell?_of_block (hH.below.block wb hwl9)).trans hwc9; go_simp; first | done | rfl
              refine Flow.pass_val (.bool (decide ((g.wsz : Int) < (HD.size : Int)))) (Flow.met_some 4 false 77 rfl rfl (by kernel_rfl) (by kernel_rfl) rfl rfl) (fun a W hH => ?_) ?_
              · have e0 := Flow.see_new 80 7 hH.sees (by kernel_rfl) (by kernel_rfl) rfl rfl
                have e1 := Flow.see_new 85 12 hH.sees (by kernel_rfl) (by kernel_rfl) rfl rfl
                go_simp; first | done | rfl
              refine Flow.pass_val (.bool (decide ((g.wsz : Int) < (HD.size : Int)))) (Flow.met_none rfl) (fun a W hH => ?_) ?_
              · have e0 := Flow.see_new 77 4 hH.sees (by kernel_rfl) (by kernel_rfl) rfl rfl
                have e1 := Flow.see_new 86 13 hH.sees (by kernel_rfl) (by kernel_rfl) rfl rfl
                go_simp; first | done | rfl
              refine Flow.pass_copy 87 14 (Flow.met_none rfl) (.inr rfl) (by kernel_rfl) (by kernel_rfl) rfl rfl (fun _ _ => Flow.kept_eqs _ _) ?_
              refine Flow.pass_end [none, none, none, none, none, none, none, none, none, none, none, none, none, none, none, none, none, none, none, none, none, none, none, none, none, none, none, none, none, none, none, none, none, none, none, none, none, none, none, none, none, none, none, none, none, none, none, none, none, none, none, none, none, none, none, none, none, none, none, none, none, none, none, none, none, none, none, none, none, none, none, none, some 72, some 73, some 74, some 75, some 76, some 77, some 78, some 79, some 80, some 81, some 82, some 83, some 84, some 85, some 86, some 87, none, none, none, none, none, none, none, none, none, none, none, none, none, none, none, none, none, none, none] (by kernel_rfl) ?_
              intro f gg w9 hB hfa hT hfg
              have h72 : f 72 = _ := (hfg 72 15 (by kernel_rfl)).trans (hT 15 _ (by kernel_rfl) rfl)
              have hcb7 := hcb6.drew.below hB hcb6.lt
              have hC7 := hC6.drew.below hB hC6.lt
              have hb7 := hb6.drew.below hB hb6.lt
              have r37 := r36.drew.belowm hB B6.size
              have B7 := B6.trans ((Below.refl W9.heap.size W9).drew.trans hB |>.mono B6.size)
              simp only [Reg.sel, h72]
              clear hT hfg hfa hB hA6 hcb6 hC6 hb6 r36 B6 h72
              by_cases hsz : g.wsz < HD.size
              · have hdc : decide ((g.wsz : Int) < (HD.size : Int)) = true := decide_eq_true (by omega)
                have h4 : errAt l g c 4 = 261 := by show e4 l g = 261; rw [e4, q1.out, if_neg (fun h => by omega)]
                have hv : Hid (vErr l g c = 261) := Lib.hid (by
                  rw [vErr_at 4 (by omega) (fun i hi => by
                    match i, hi with
                    | 0, _ => exact hz0.out
                    | 1, _ => exact hz1.out
                    | 2, _ => exact hz2.out
                    | 3, _ => exact hz3.out) (by rw [h4]; decide), h4])
                clear h4
                go_wp2_with (first
                  | ((with_reducible refine at_build 41 ?_); refine wpList_buildV _ rfl #[(0, .int .i64 261)] rfl (by simp [Act.eval]) (run_vdE _ 261) ?_)
                  | ((with_reducible refine at_store 41 ?_); refine wpList_storeAll w9 rfl 41 _ _ rfl (w.heap.size + 2) 41 vdz (vdCells 261 0 z32 none 0 0).toArray hC7 rfl rfl rfl inf_vd (vd_one _ _ _ _ _ _) ?_; intro W8 hb8 hg8 hs8))
                refine bodyPost_ret (results_cell1 rfl _ _ (w.heap.size + 2) _ _ _ _ rfl hb8 Tryz.underlying41 rfl inf_vd) rfl ?_
                exact CkRet.bad hv.out (by decide) (grown_below B7 hg8 B7.size (by omega))
              · have hdc : decide ((g.wsz : Int) < (HD.size : Int)) = false := decide_eq_false (by omega)
                have hz4 : Hid (errAt l g c 4 = 0) := Lib.hid (by show e4 l g = 0; rw [e4, q1.out, if_pos ⟨h0, by omega⟩])
                have cv7 : w9.cell? ⟨w.heap.size + 1, 1, none⟩ = some (.int .i64 c.err) := (hcb7.cell 1).trans rfl
                have cv0 : w9.cell? ⟨w.heap.size + 1, 0, none⟩ = some (.int .u32 (c.val : Int)) := (hcb7.cell 0).trans rfl
                have ch0 : w9.cell? ⟨hb, 0, none⟩ = some (.int .u32 (HD.ver : Int)) := (hb7.cell 0).trans rfl
                by_cases hce : c.err = 0
                · have hz5 : Hid (errAt l g c 5 = 0) := Lib.hid (by show e5 c = 0; rw [e5, if_pos hce])
                  rw [hce] at cv7
                  clear hce
                  by_cases hcv : HD.ver < c.val
                  · have h4 : errAt l g c 6 = 260 := by show e6 l g c = 260; rw [e6, q1.out, if_neg (by omega)]
                    have hv : Hid (vErr l g c = 260) := Lib.hid (by
                      rw [vErr_at 6 (by omega) (fun i hi => by
                        match i, hi with
                        | 0, _ => exact hz0.out
                        | 1, _ => exact hz1.out
                        | 2, _ => exact hz2.out
                        | 3, _ => exact hz3.out
                        | 4, _ => exact hz4.out
                        | 5, _ => exact hz5.out) (by rw [h4]; decide), h4])
                    clear h4
                    go_wp2_with (first
                      | ((with_reducible refine at_build 41 ?_); refine wpList_buildV _ rfl #[(0, .int .i64 260)] rfl (by simp [Act.eval]) (run_vdE _ 260) ?_)
                      | ((with_reducible refine at_store 41 ?_); refine wpList_storeAll w9 rfl 41 _ _ rfl (w.heap.size + 2) 41 vdz (vdCells 260 0 z32 none 0 0).toArray hC7 rfl rfl rfl inf_vd (vd_one _ _ _ _ _ _) ?_; intro W8 hb8 hg8 hs8))
                    refine bodyPost_ret (results_cell1 rfl _ _ (w.heap.size + 2) _ _ _ _ rfl hb8 Tryz.underlying41 rfl inf_vd) rfl ?_
                    exact CkRet.bad hv.out (by decide) (grown_below B7 hg8 B7.size (by omega))
                  · have hV : Hid (vErr l g c = 0) := Lib.hid (vErr_ok (fun i hi => by
                      match i, hi with
                      | 0, _ => exact hz0.out
                      | 1, _ => exact hz1.out
                      | 2, _ => exact hz2.out
                      | 3, _ => exact hz3.out
                      | 4, _ => exact hz4.out
                      | 5, _ => exact hz5.out
                      | 6, _ => show e6 l g c = 0; rw [e6, q1.out, if_pos (by omega)]))
                    go_wp2_with (first
                      | ((with_reducible refine at_load 39 ?_); refine wpList_load_mid rfl 39 _ rfl hb 3 rfl (bcells HD.dig) _ (hd_digR hb7) Tryz.underlying39 rfl (by rw [bcells_length, HH.out]; exact infNode) ?_)
                      | ((with_reducible refine at_build 41 ?_); refine wpList_buildV _ rfl #[(1, .int .u32 (HD.ver : Int)), (2, .agg (bcells HD.dig).toArray), (3, .slice A3 SC.length k3)] rfl (by simp [Act.eval]) (run_vdO _ _ _ _ _ _ HH.out) ?_)
                      | ((with_reducible refine at_store 41 ?_); refine wpList_storeAll w9 rfl 41 _ _ rfl (w.heap.size + 2) 41 vdz (vdCells 0 HD.ver HD.dig A3 SC.length k3).toArray hC7 rfl rfl (by rw [List.size_toArray, vd_length _ _ _ _ _ _ HH.out]; rfl) (by rw [List.size_toArray, vd_length _ _ _ _ _ _ HH.out]; exact inf_vd) (vd_one _ _ _ _ _ _) ?_; intro W8 hb8 hg8 hs8))
                    refine bodyPost_ret (results_cell1 rfl _ _ (w.heap.size + 2) _ _ _ _ rfl hb8 Tryz.underlying41 rfl (by rw [List.size_toArray, vd_length _ _ _ _ _ _ HH.out]; exact inf_vd)) rfl ?_
                    have f1 : vVer l g c = HD.ver := by rw [vVer, if_pos hV.out, q1.out]
                    have f2 : vDig l g c = HD.dig := by rw [vDig, if_pos hV.out, q1.out]
                    have f3 : vPay l g c = SC := by rw [vPay, if_pos hV.out, q4.out]
                    unfold CkRet
                    rw [f1, f2, f3, hV.out]
                    exact ⟨A3, k3, rfl, m3, (r37.below (grown_below (Below.refl _ _) hg8 B7.size (by omega))).more (grown_below B7 hg8 B7.size (by omega)).size, grown_below B7 hg8 B7.size (by omega)⟩
                · have h4 : errAt l g c 5 = 263 := by show e5 c = 263; rw [e5, if_neg hce]
                  have hcn : (c.err != 0) = true := by simpa using hce
                  clear hce
                  have hv : Hid (vErr l g c = 263) := Lib.hid (by
                    rw [vErr_at 5 (by omega) (fun i hi => by
                      match i, hi with
                      | 0, _ => exact hz0.out
                      | 1, _ => exact hz1.out
                      | 2, _ => exact hz2.out
                      | 3, _ => exact hz3.out
                      | 4, _ => exact hz4.out) (by rw [h4]; decide), h4])
                  clear h4
                  go_wp2_with (first
                    | ((with_reducible refine at_build 41 ?_); refine wpList_buildV _ rfl #[(0, .int .i64 263)] rfl (by simp [Act.eval]) (run_vdE _ 263) ?_)
                    | ((with_reducible refine at_store 41 ?_); refine wpList_storeAll w9 rfl 41 _ _ rfl (w.heap.size + 2) 41 vdz (vdCells 263 0 z32 none 0 0).toArray hC7 rfl rfl rfl inf_vd (vd_one _ _ _ _ _ _) ?_; intro W8 hb8 hg8 hs8))
                  refine bodyPost_ret (results_cell1 rfl _ _ (w.heap.size + 2) _ _ _ _ rfl hb8 Tryz.underlying41 rfl inf_vd) rfl ?_
                  exact CkRet.bad hv.out (by decide) (grown_below B7 hg8 B7.size (by omega))
            · have h4 : errAt l g c 4 = 261 := by show e4 l g = 261; rw [e4, if_neg (fun h => h0 h.1)]
              go_wp2_with fail
              obtain ⟨W9, hW9⟩ : ∃ W, W = w9 := ⟨_, rfl⟩
              subst hW9
              clear cn1 cn2
              refine Flow.wp_region_flow (W9.heap.size) [] [] (by kernel_rfl) (by kernel_rfl) (Nat.le_refl _) (fun _ h => by cases h) Flow.facts_nil ?_
              refine Flow.pass_val (.pointer (some ⟨w.heap.size, 75, none⟩)) (Flow.met_none rfl) (fun a W hH => ?_) ?_
              · have e0 := Flow.see_old 4 hH.sees (by kernel_rfl) (by kernel_rfl) rfl
                go_simp; first | done | rfl
              refine Flow.pass_val (.slice g.wA g.wn g.wc) (Flow.met_none rfl) (fun a W hH => ?_) ?_
              · have e0 := Flow.see_new 73 0 hH.sees (by kernel_rfl) (by kernel_rfl) rfl rfl
                have cc := gu_win (hA6.drew.below hH.below hA6.lt) ok.key; go_simp; first | done | rfl
              refine Flow.pass_val (.int .i64 (g.wn : Int)) (Flow.met_none rfl) (fun a W hH => ?_) ?_
              · have e0 := Flow.see_new 74 1 hH.sees (by kernel_rfl) (by kernel_rfl) rfl rfl
                go_simp; first | done | rfl
              refine Flow.pass_val (.bool true) (Flow.met_none rfl) (fun a W hH => ?_) ?_
              · have e0 := Flow.see_new 75 2 hH.sees (by kernel_rfl) (by kernel_rfl) rfl rfl
                have hw0 : ((g.wn : Int) == 0) = true := by simp; omega
                go_simp; first | done | rfl | omega | (simp [hw0])
              refine Flow.pass_copy 76 3 (Flow.met_none rfl) (.inl rfl) (by kernel_rfl) (by kernel_rfl) rfl rfl (fun _ _ => Flow.kept_eqs _ _) ?_
              refine Flow.pass_skip (fun a W hH => Flow.not_wanted 4 false 77 hH rfl rfl (by kernel_rfl) (by kernel_rfl) rfl rfl) ?_
              refine Flow.pass_skip (fun a W hH => Flow.not_wanted 4 false 77 hH rfl rfl (by kernel_rfl) (by kernel_rfl) rfl rfl) ?_
              refine Flow.pass_skip (fun a W hH => Flow.not_wanted 4 false 77 hH rfl rfl (by kernel_rfl) (by kernel_rfl) rfl rfl) ?_
              refine Flow.pass_skip (fun a W hH => Flow.not_wanted 4 false 77 hH rfl rfl (by kernel_rfl) (by kernel_rfl) rfl rfl) ?_
              refine Flow.pass_skip (fun a W hH => Flow.not_wanted 4 false 77 hH rfl rfl (by kernel_rfl) (by kernel_rfl) rfl rfl) ?_
              refine Flow.pass_skip (fun a W hH => Flow.not_wanted 4 false 77 hH rfl rfl (by kernel_rfl) (by kernel_rfl) rfl rfl) ?_
              refine Flow.pass_skip (fun a W hH => Flow.not_wanted 4 false 77 hH rfl rfl (by kernel_rfl) (by kernel_rfl) rfl rfl) ?_
              refine Flow.pass_skip (fun a W hH => Flow.not_wanted 4 false 77 hH rfl rfl (by kernel_rfl) (by kernel_rfl) rfl rfl) ?_
              refine Flow.pass_skip (fun a W hH => Flow.not_wanted 4 false 77 hH rfl rfl (by kernel_rfl) (by kernel_rfl) rfl rfl) ?_
              refine Flow.pass_val (.bool true) (Flow.met_none rfl) (fun a W hH => ?_) ?_
              · have e0 := Flow.see_new 77 4 hH.sees (by kernel_rfl) (by kernel_rfl) rfl rfl
                have e1 := Flow.see_new 86 13 hH.sees (by kernel_rfl) (by kernel_rfl) rfl rfl
                go_simp; first | done | rfl
              refine Flow.pass_copy 87 14 (Flow.met_none rfl) (.inr rfl) (by kernel_rfl) (by kernel_rfl) rfl rfl (fun _ _ => Flow.kept_eqs _ _) ?_
              refine Flow.pass_end [none, none, none, none, none, none, none, none, none, none, none, none, none, none, none, none, none, none, none, none, none, none, none, none, none, none, none, none, none, none, none, none, none, none, none, none, none, none, none, none, none, none, none, none, none, none, none, none, none, none, none, none, none, none, none, none, none, none, none, none, none, none, none, none, none, none, none, none, none, none, none, none, some 72, some 73, some 74, some 75, some 76, some 77, some 78, some 79, some 80, some 81, some 82, some 83, some 84, some 85, some 86, some 87, none, none, none, none, none, none, none, none, none, none, none, none, none, none, none, none, none, none, none] (by kernel_rfl) ?_
              intro f gg w9 hB hfa hT hfg
              have h72 : f 72 = _ := (hfg 72 15 (by kernel_rfl)).trans (hT 15 _ (by kernel_rfl) rfl)
              have hC7 := hC6.drew.below hB hC6.lt
              have B7 := B6.trans ((Below.refl W9.heap.size W9).drew.trans hB |>.mono B6.size)
              simp only [Reg.sel, h72]
              clear hT hfg hfa hB hA6 hcb6 hC6 hb6 r36 B6 h72
              have hv : Hid (vErr l g c = 261) := Lib.hid (by
                rw [vErr_at 4 (by omega) (fun i hi => by
                  match i, hi with
                  | 0, _ => exact hz0.out
                  | 1, _ => exact hz1.out
                  | 2, _ => exact hz2.out
                  | 3, _ => exact hz3.out) (by rw [h4]; decide), h4])
              clear h4
              go_wp2_with (first
                | ((with_reducible refine at_build 41 ?_); refine wpList_buildV _ rfl #[(0, .int .i64 261)] rfl (by simp [Act.eval]) (run_vdE _ 261) ?_)
                | ((with_reducible refine at_store 41 ?_); refine wpList_storeAll w9 rfl 41 _ _ rfl (w.heap.size + 2) 41 vdz (vdCells 261 0 z32 none 0 0).toArray hC7 rfl rfl rfl inf_vd (vd_one _ _ _ _ _ _) ?_; intro W8 hb8 hg8 hs8))
              refine bodyPost_ret (results_cell1 rfl _ _ (w.heap.size + 2) _ _ _ _ rfl hb8 Tryz.underlying41 rfl inf_vd) rfl ?_
              exact CkRet.bad hv.out (by decide) (grown_below B7 hg8 B7.size (by omega))
          · have hsn : (HD.name == g.name) = false := by simpa using hn
            have hv : Hid (vErr l g c = 262) := Lib.hid (by
              have h2 : errAt l g c 3 = 262 := by show e3 l g = 262; rw [e3, q1.out, if_neg hn]
              rw [vErr_at 3 (by omega) (fun i hi => by
                match i, hi with
                | 0, _ => exact hz0.out
                | 1, _ => exact hz1.out
                | 2, _ => exact hz2.out) (by rw [h2]; decide), h2])
            clear hn
            go_wp2_with (first
              | ((with_reducible refine at_build 41 ?_); refine wpList_buildV _ rfl #[(0, .int .i64 262)] rfl (by simp [Act.eval]) (run_vdE _ 262) ?_)
              | ((with_reducible refine at_store 41 ?_); refine wpList_storeAll w9 rfl 41 _ _ rfl (w.heap.size + 2) 41 vdz (vdCells 262 0 z32 none 0 0).toArray hC6 rfl rfl rfl inf_vd (vd_one _ _ _ _ _ _) ?_; intro W8 hb8 hg8 hs8))
            refine bodyPost_ret (results_cell1 rfl _ _ (w.heap.size + 2) _ _ _ _ rfl hb8 Tryz.underlying41 rfl inf_vd) rfl ?_
            exact CkRet.bad hv.out (by decide) (grown_below B6 hg8 B6.size (by omega))
        | false =>
          have hv : Hid (vErr l g c = 150) := Lib.hid (by
            have h2 : errAt l g c 2 = 150 := by
              show e2 l g = 150
              have q1 : gHd l g = HD := by rw [gHd, gReg, HRG.out, HOI.out, HHD.out]
              have q4 : gPay l g = SC := by rw [gPay, gReg, HRG.out, HOI.out, HSC.out]
              rw [e2, q1, q4, if_neg (fun h => by have := HQ.out; rw [h] at this; simp at this)]
            rw [vErr_at 2 (by omega) (fun i hi => by
              match i, hi with
              | 0, _ => exact hz0.out
              | 1, _ => exact hz1.out) (by rw [h2]; decide), h2])
          go_wp2_with (first
            | ((with_reducible refine at_build 41 ?_); refine wpList_buildV _ rfl #[(0, .int .i64 150)] rfl (by simp [Act.eval]) (run_vdE _ 150) ?_)
            | ((with_reducible refine at_store 41 ?_); refine wpList_storeAll w9 rfl 41 _ _ rfl (w.heap.size + 2) 41 vdz (vdCells 150 0 z32 none 0 0).toArray hC6 rfl rfl rfl inf_vd (vd_one _ _ _ _ _ _) ?_; intro W8 hb8 hg8 hs8))
          refine bodyPost_ret (results_cell1 rfl _ _ (w.heap.size + 2) _ _ _ _ rfl hb8 Tryz.underlying41 rfl inf_vd) rfl ?_
          exact CkRet.bad hv.out (by decide) (grown_below B6 hg8 B6.size (by omega))
      · have hv : Hid (vErr l g c = VE) := Lib.hid (by
          have h2 : errAt l g c 1 = VE := by show e1 l g = VE; rw [e1, gReg, HRG.out, HOI.out, HSA.out, HSB.out, HVE.out]
          rw [vErr_at 1 (by omega) (fun i hi => by have h3 : i = 0 := (by omega); rw [h3]; exact hz0.out) (by rw [h2]; exact h1), h2])
        have hne : (VE != 0) = true := by simpa using h1
        have H0 := Lib.hid h1
        clear h1
        go_wp2_with (first
          | ((with_reducible refine at_build 41 ?_); refine wpList_buildV _ rfl #[(0, .int .i64 VE)] rfl (by simp [Act.eval]) (run_vdE _ VE) ?_)
          | ((with_reducible refine at_store 41 ?_); refine wpList_storeAll W5 rfl 41 _ _ rfl (w.heap.size + 2) 41 vdz (vdCells VE 0 z32 none 0 0).toArray hC5 rfl rfl rfl inf_vd (vd_one _ _ _ _ _ _) ?_; intro W8 hb8 hg8 hs8))
        refine bodyPost_ret (results_cell1 rfl _ _ (w.heap.size + 2) _ _ _ _ rfl hb8 Tryz.underlying41 rfl inf_vd) rfl ?_
        exact CkRet.bad hv.out H0.out (grown_below B5 hg8 B5.size (by omega))
    · have hv : Hid (vErr l g c = SE) := Lib.hid (by
        have h1 : errAt l g c 0 = SE := by show e0 l g = SE; rw [e0, HE0.out, if_neg (by simp), gReg, HRG.out, HOI.out, HSE.out]
        rw [vErr_at 0 (by omega) (fun i hi => by omega) (by rw [h1]; exact h0), h1])
      have hne : (SE != 0) = true := by simpa using h0
      have H0 := Lib.hid h0
      have hC4 := fun w' (hg : (W3.alloc (.cells (hdCells zhd).toArray 51)).grownBy w' (some W3.heap.size)) => (hC3.alloc (.cells (hdCells zhd).toArray 51)).grown hg (fun e => by have := hC3.lt; have e2 := Option.some.inj e; omega)
      have B4 := fun w' (hg : (W3.alloc (.cells (hdCells zhd).toArray 51)).grownBy w' (some W3.heap.size)) => grown_below (B3.alloc B3.size (.cells (hdCells zhd).toArray 51)) hg (by simp; have := B3.size; omega) B3.size
      clear h0
      go_wp2_with (first
        | ((with_reducible refine at_store 51 ?_); refine wpList_storeAll _ rfl 51 _ _ rfl W3.heap.size 51 _ (hdCells HD).toArray hq3 rfl rfl (by rw [List.size_toArray, hdCells_length HD HH.out]; rfl) (by rw [List.size_toArray, hdCells_length HD HH.out]; exact inf_hd) (hdCells_one HD) ?_; intro W4 hb4 hg4 hs4; have hC5 := hC4 W4 hg4; have B5 := B4 W4 hg4; clear hC4 B4 hg4 hs4)
        | ((with_reducible refine at_build 41 ?_); refine wpList_buildV _ rfl #[(0, .int .i64 SE)] rfl (by simp [Act.eval]) (run_vdE _ SE) ?_)
        | ((with_reducible refine at_store 41 ?_); refine wpList_storeAll W4 rfl 41 _ _ rfl (w.heap.size + 2) 41 vdz (vdCells SE 0 z32 none 0 0).toArray hC5 rfl rfl rfl inf_vd (vd_one _ _ _ _ _ _) ?_; intro W8 hb8 hg8 hs8))
      refine bodyPost_ret (results_cell1 rfl _ _ (w.heap.size + 2) _ _ _ _ rfl hb8 Tryz.underlying41 rfl inf_vd) rfl ?_
      exact CkRet.bad hv.out H0.out (grown_below B5 hg8 B5.size (by omega))
  · have hv : Hid (vErr l g c = E0) := Lib.hid (by
      have h1 : errAt l g c 0 = E0 := by show e0 l g = E0; rw [e0, HE0.out, if_pos (by simpa using h0)]
      rw [vErr_at 0 (by omega) (fun i hi => by omega) (by rw [h1]; exact h0), h1])
    have hne : (E0 != 0) = true := by simpa using h0
    have H0 := Lib.hid h0
    clear h0 hA2 hb2 r5
    go_wp2_with (first
      | ((with_reducible refine at_build 41 ?_); refine wpList_buildV _ rfl #[(0, .int .i64 E0)] rfl (by simp [Act.eval]) (run_vdE _ E0) ?_)
      | ((with_reducible refine at_store 41 ?_); refine wpList_storeAll W2 rfl 41 _ _ rfl (w.heap.size + 2) 41 vdz (vdCells E0 0 z32 none 0 0).toArray hC2 rfl rfl rfl inf_vd (vd_one _ _ _ _ _ _) ?_; intro W8 hb8 hg8 hs8))
    refine bodyPost_ret (results_cell1 rfl _ _ (w.heap.size + 2) _ _ _ _ rfl hb8 Tryz.underlying41 rfl inf_vd) rfl ?_
    exact CkRet.bad hv.out H0.out (grown_below B2 hg8 B2.size (by omega))
end Go.Proofs.YtipdmhppadapkaaGreatDoor
