/-
  Walk: portreeveref04.Verify.
-/
import Derived.Test.YtipdmhppadapkaaGreatDoorXmA
namespace Go.Proofs.YtipdmhppadapkaaGreatDoor
open Go.RowKit Sha

set_option maxRecDepth 100000 in
set_option maxHeartbeats 4000000 in
theorem rVerify_all (Ak : Option Addr) (nk ck : Nat) (kb : List UInt8) (hnk : nk ≤ 200) (hck : nk ≤ ck) (Am : Option Addr) (nm cm : Nat) (m : List UInt8) (hm500 : nm ≤ 500) (As : Option Addr) (n_s cs : Nat) (sg : List UInt8) (_hns : n_s ≤ 3000) (hcs : n_s ≤ cs) (w : World)
    (hRk : Rd w w.heap.size 1 Ak nk (bcells kb)) (hRm : Rd w w.heap.size 1 Am nm (bcells m)) (hRs : Rd w w.heap.size 1 As n_s (bcells sg)) :
    Calls Tryz.prog 15 #[.slice Ak nk ck, .slice Am nm cm, .slice As n_s cs] w fun e w' => e = .returned (.int .i64 (verErr kb m sg)) ∧ Below w.heap.size w w' := by
  have hlk : nk = kb.length := by have := hRk.len; rw [bcells_length] at this; omega
  have hls : n_s = sg.length := by have := hRs.len; rw [bcells_length] at this; omega
  cases hk : keyOk kb with
  | false =>
    have hve : verErr kb m sg = 80 := by unfold verErr; rw [if_pos hk]
    have hke : keyErr kb = 80 := by unfold keyErr; rw [hk]; rfl
    have hv65 : Hid ((keyVal kb).toArray.size = 65) := Lib.hid (by rw [List.size_toArray, keyVal_length])
    rw [hve]
    clear hve hk hlk hls
    go_enter Tryz.func15, Tryz.ntmps15
    go_wp2_with fail
    refine (rKeyOf_any Ak nk ck kb w hRk (by omega) hck).mono ?_
    rintro e W2 ⟨rfl, hB2⟩
    rw [hke]
    have hz2 := Blk.new W2 97 Tryz.zeroCells97
    go_wp2_with ((with_reducible refine at_store 97 ?_); refine wpList_storeAll _ rfl 97 _ _ rfl W2.heap.size 97 _ (keyVal kb).toArray hz2 rfl rfl (by rw [hv65.out, zero65]) (by rw [hv65.out]; exact key65) (keyVal_one kb) ?_; intro W3 hb3 hg3 hs3)
    have B3 := grown_below (hB2.alloc hB2.size _) hg3 (by simp; have := hB2.size; omega) hB2.size
    go_ret
    exact ⟨rfl, B3⟩
  | true =>
    obtain ⟨o, ho⟩ : ∃ o, o = kOid kb := ⟨_, rfl⟩
    obtain ⟨ro, hro⟩ : ∃ r, r = kRoot kb := ⟨_, rfl⟩
    obtain ⟨sd, hsd⟩ : ∃ r, r = kSeed kb := ⟨_, rfl⟩
    have hke : keyErr kb = 0 := by unfold keyErr; rw [hk]; rfl
    have hkv : keyVal kb = keyCells o ro sd := by unfold keyVal; rw [hk, ho, hro, hsd]; rfl
    have hk2 := hk
    simp only [keyOk, Bool.and_eq_true, beq_iff_eq] at hk2
    have hoid : isKind o = true := by rw [ho]; exact hk2.2
    have roL : Hid (ro.length = 32) := Lib.hid (by rw [hro]; unfold kRoot; simp; omega)
    have sdL : Hid (sd.length = 32) := Lib.hid (by rw [hsd]; unfold kSeed; simp; omega)
    have hv65 : Hid ((keyCells o ro sd).toArray.size = 65) := Lib.hid (by simp [keyCells, bcells_length, roL.out, sdL.out])
    have hve : Hid (verErr kb m sg = if sigOk sg o = false then 81 else if sigTop ro sd m (sigVal sg o) == ro then 0 else 82) := Lib.hid (by unfold verErr; rw [if_neg (by simp [hk]), ← ho, ← hro, ← hsd])
    have ok := sigVal_ok sg o
    have lens := sigVal_len sg o
    have hse : sigErr sg o = if sigOk sg o then 0 else 81 := by unfold sigErr; rw [if_neg (by simp [hoid])]
    rw [hve.out]
    obtain ⟨V, hV⟩ : ∃ V : Int, V = (if sigOk sg o = false then 81 else if sigTop ro sd m (sigVal sg o) == ro then 0 else 82) := ⟨_, rfl⟩
    rw [← hV]
    have HV := Lib.hid hV
    clear hV
    clear hk hk2 ho hro hsd hve hlk hls hoid
    go_enter Tryz.func15, Tryz.ntmps15
    go_wp2_with fail
    refine (rKeyOf_any Ak nk ck kb w hRk (by omega) hck).mono ?_
    rintro e W2 ⟨rfl, hB2⟩
    rw [hke, hkv]
    have hz2 := Blk.new W2 97 Tryz.zeroCells97
    clear hke hkv
    go_wp2_with ((with_reducible refine at_store 97 ?_); refine wpList_storeAll _ rfl 97 _ _ rfl W2.heap.size 97 _ (keyCells o ro sd).toArray hz2 rfl rfl (by rw [hv65.out, zero65]) (by rw [hv65.out]; exact key65) (keyCells_one o ro sd) ?_; intro W3 hb3 hg3 hs3; have hc3 := key_cell hb3)
    have hB23 := grown_below ((Below.refl W2.heap.size W2).alloc (Nat.le_refl _) (.cells Tryz.zeroCells97 97)) hg3 (by simp) (Nat.le_refl _)
    have B3 := hB2.trans (hB23.mono hB2.size)
    obtain ⟨gK, hgK⟩ : ∃ g, g = W2.heap.size := ⟨_, rfl⟩
    rw [← hgK] at hb3 ⊢
    have hRm3 := (hRm.below B3).more B3.size
    clear hgK hB23 hg3 hs3 hc3 hz2 hB2 hRk hRm
    refine (rSigOf_any As n_s cs sg o W3 ((hRs.below B3).more B3.size) (by omega) hcs).mono ?_
    rw [hse]
    clear hse hRs
    rintro e W4 ⟨O1, oc, H1, hc, rfl, hoc, hhc, hRo, hRh, hB4⟩
    obtain ⟨G, hG⟩ : ∃ G, G = sigVal sg o := ⟨_, rfl⟩
    rw [← hG] at hoc hhc hRo hRh ok lens ⊢
    have HG := Lib.hid hG
    clear hG
    obtain ⟨q, r, os, au⟩ := G
    obtain ⟨hq, hr, hos, has⟩ := ok
    simp only at hoc hhc hRo hRh hq hr hos has lens ⊢
    have rL := Lib.hid hr
    have Hos := Lib.hid hos
    have Has := Lib.hid has
    have Hlens := Lib.hid lens
    have hbK := hb3.below hB4 hb3.lt
    have hRm4 := (hRm3.below hB4).more hB4.size
    have B4 := B3.trans (hB4.mono B3.size)
    have hv35 : Hid ((sigCells q r (.slice O1 os.length oc) (.slice H1 au.length hc)).toArray.size = 35) := Lib.hid (sg35 _ _ _ _ hr)
    have hzz : Hid (zsig.size = 35) := Lib.hid (by kernel_rfl)
    have hz4 := Blk.new W4 102 zsig
    clear hr hos has lens hb3 hRm3 hB4 B3 hv65
    cases hs : sigOk sg o with
    | false =>
      go_wp2_with ((with_reducible refine at_store 102 ?_); refine wpList_storeAll _ rfl 102 _ _ rfl W4.heap.size 102 _ (sigCells q r (.slice O1 os.length oc) (.slice H1 au.length hc)).toArray hz4 rfl rfl (by rw [hv35.out, hzz.out]) (by rw [hv35.out]; exact inf35) (sg35_one _ _ _ _ rfl rfl) ?_; intro W5 hb5 hg5 hs5)
      have B5 := grown_below (B4.alloc B4.size _) hg5 (by simp; have := B4.size; omega) B4.size
      go_ret
      exact ⟨by rw [HV.out, if_pos hs]; rfl, B5⟩
    | true =>
      have hz := zeroNode
      obtain ⟨M, hM⟩ : ∃ M, M = msgH r ro q m := ⟨_, rfl⟩
      obtain ⟨PS, hPS⟩ : ∃ P, P = pubsV os M sd q := ⟨_, rfl⟩
      have HM := Lib.hid hM
      have HPS := Lib.hid hPS
      have HMl : Hid (M.length = 32) := Lib.hid (by rw [hM]; exact keyed_length _ _)
      have hzn32 : Hid (zn.size = 32) := Lib.hid (by kernel_rfl)
      clear hM hPS
      go_wp2_with (first
        | ((with_reducible refine at_store 102 ?_); refine wpList_storeAll _ rfl 102 _ _ rfl W4.heap.size 102 _ (sigCells q r (.slice O1 os.length oc) (.slice H1 au.length hc)).toArray hz4 rfl rfl (by rw [hv35.out, hzz.out]) (by rw [hv35.out]; exact inf35) (sg35_one _ _ _ _ rfl rfl) ?_; intro W5 hbS hg5 hs5;
            have hB45 := grown_below ((Below.refl W4.heap.size W4).alloc (Nat.le_refl _) (.cells zsig 102)) hg5 (by simp) (Nat.le_refl _); have hbK5 := hbK.below hB45 hbK.lt; have hxr := sig_root hbS; have hxo := key_left hbK5; have hcS := (sig_cell35 rL.out hbS).1)
        | ((with_reducible refine at_load 39 ?_); refine wpList_runV rfl (reg_loadRange 39 29 rfl rfl hxr Tryz.underlying39 rfl (by rw [List.size_toArray, bcells_length, rL.out]; exact infNode)) ?_)
        | ((with_reducible refine at_load 39 ?_); refine wpList_runV rfl (reg_loadRange 39 31 rfl rfl hxo Tryz.underlying39 rfl (by rw [List.size_toArray, bcells_length, roL.out]; exact infNode)) ?_))
      have B5 := B4.trans (hB45.mono B4.size)
      have hRm5 := (hRm4.below hB45).more hB45.size
      have hRo5 := (hRo.below hB45).more hB45.size
      have hRh5 := (hRh.below hB45).more hB45.size
      obtain ⟨gS, hgS⟩ : ∃ g, g = W4.heap.size := ⟨_, rfl⟩
      rw [← hgS] at hbS hcS hxr ⊢
      clear hgS hB45 hg5 hs5 hz4 hRm4 B4 hRh hRo hv35 hbK
      refine (rmsg_any r ro rL.out roL.out q hq Am nm cm m W5 hRm5 hm500).mono ?_
      rintro e W6 ⟨rfl, hB6⟩
      rw [← HM.out]
      have hbK6 := hbK5.below hB6 hbK5.lt
      have hbS6 := hbS.below hB6 hbS.lt
      have B6 := B5.trans (hB6.mono B5.size)
      have hRo6 := (hRo5.below hB6).more hB6.size
      have hRh6 := (hRh5.below hB6).more hB6.size
      clear hcS hxr hxo hbK5 hbS hRm5 hRo5 hRh5 hB6 B5
      go_wp2_with ((with_reducible refine at_store 39 ?_); refine wpList_storeAll _ rfl 39 _ _ rfl W6.heap.size 39 zn (bcells M).toArray (Blk.new W6 39 zn) rfl rfl (by rw [List.size_toArray, bcells_length, HMl.out, hzn32.out]) (by rw [List.size_toArray, bcells_length, HMl.out]; exact infNode) (fun v hv => bcells_one _ v (by simpa using hv)) ?_; intro W7 hbM hg7 hs7)
      have hB67 := grown_below ((Below.refl W6.heap.size W6).alloc (Nat.le_refl _) (.cells zn 39)) hg7 (by simp) (Nat.le_refl _)
      have B7 := B6.trans (hB67.mono B6.size)
      have hbK := hbK6.below hB67 hbK6.lt
      have hbS := hbS6.below hB67 hbS6.lt
      have hRo := ((hRo6.below hB67).more hB67.size).drew
      have hRh := ((hRh6.below hB67).more hB67.size).drew
      obtain ⟨gM, hgM⟩ : ∃ g, g = W6.heap.size := ⟨_, rfl⟩
      rw [← hgM] at hbM ⊢
      clear hgM hB67 hg7 hs7 hbK6 hbS6 hRo6 hRh6 B6
      obtain ⟨L, hL⟩ : ∃ L, L = ltLeaf sd q PS := ⟨_, rfl⟩
      obtain ⟨T, hTt⟩ : ∃ T, T = rootV sd L q au := ⟨_, rfl⟩
      have HPS32 : Hid (All32 PS) := Lib.hid (by rw [HPS.out]; exact (pubsV_all Hos.out M sd q).1)
      have HLl : Hid (L.length = 32) := Lib.hid (by rw [hL]; exact ltLeaf_length _ _ _ HPS32.out)
      have HTl : Hid (T.length = 32) := Lib.hid (by rw [hTt]; exact rootV_length _ _ _ _ HLl.out)
      have hst : Hid (sigTop ro sd m ⟨q, r, os, au⟩ = T) := Lib.hid (by rw [hTt, hL, HPS.out, HM.out]; rfl)
      have HL := Lib.hid hL
      have HT := Lib.hid hTt
      clear hL hTt
      simp only [Act.put]
      refine Flow.wp_region_flow (W7.drew.heap.size) [] [] (by kernel_rfl) (by kernel_rfl) (Nat.le_refl _) (fun _ h => by cases h) Flow.facts_nil ?_
      refine Flow.pass_val (.pointer (some ⟨gS, 33, none⟩)) (Flow.met_none rfl) (fun a W hH => ?_) ?_
      · have e0 := Flow.see_old 9 hH.sees (by kernel_rfl) (by kernel_rfl) rfl
        go_simp; first | done | rfl
      refine Flow.pass_val (.slice O1 os.length oc) (Flow.met_none rfl) (fun a W hH => ?_) ?_
      · have e0 := Flow.see_new 37 0 hH.sees (by kernel_rfl) (by kernel_rfl) rfl rfl
        have cc : World.cell? W ⟨gS, 33, none⟩ = some (.slice O1 os.length oc) := (sig_cell35 rL.out (hbS.drew.below hH.below hbS.lt)).2.1; go_simp
      refine Flow.pass_val (.agg (bcells M).toArray) (Flow.met_none rfl) (fun a W hH => ?_) ?_
      · have e0 := Flow.see_old 10 hH.sees (by kernel_rfl) (by kernel_rfl) rfl
        exact reg_load 39 _ rfl e0 (hbM.drew.below hH.below hbM.lt) Tryz.underlying39 rfl (by rw [List.size_toArray, bcells_length, HMl.out]; exact infNode)
      refine Flow.pass_val (.pointer (some ⟨gK, 33, none⟩)) (Flow.met_none rfl) (fun a W hH => ?_) ?_
      · have e0 := Flow.see_old 7 hH.sees (by kernel_rfl) (by kernel_rfl) rfl
        go_simp; first | done | rfl
      refine Flow.pass_val (.agg (bcells sd).toArray) (Flow.met_none rfl) (fun a W hH => ?_) ?_
      · have e0 := Flow.see_new 40 3 hH.sees (by kernel_rfl) (by kernel_rfl) rfl rfl
        exact reg_loadRange 39 _ rfl e0 (key_right roL.out (hbK.drew.below hH.below hbK.lt)) Tryz.underlying39 rfl (by rw [List.size_toArray, bcells_length, sdL.out]; exact infNode)
      refine Flow.pass_val (.pointer (some ⟨gS, 0, none⟩)) (Flow.met_none rfl) (fun a W hH => ?_) ?_
      · have e0 := Flow.see_old 9 hH.sees (by kernel_rfl) (by kernel_rfl) rfl
        go_simp; first | done | rfl
      refine Flow.pass_val (.int .u32 (q : Int)) (Flow.met_none rfl) (fun a W hH => ?_) ?_
      · have e0 := Flow.see_new 42 5 hH.sees (by kernel_rfl) (by kernel_rfl) rfl rfl
        have cc : World.cell? W ⟨gS, 0, none⟩ = some (.int .u32 (q : Int)) := (sig_cell35 rL.out (hbS.drew.below hH.below hbS.lt)).1; go_simp
      refine Flow.pass_step (nodesKc (PS)) (Flow.kept_of (kept_nodesc _) Flow.kz_nil) (Flow.met_none rfl) (fun a W hH => ?_) ?_
      · have e0 := Flow.see_new 38 1 hH.sees (by kernel_rfl) (by kernel_rfl) rfl rfl
        have e1 := Flow.see_new 39 2 hH.sees (by kernel_rfl) (by kernel_rfl) rfl rfl
        have e2 := Flow.see_new 41 4 hH.sees (by kernel_rfl) (by kernel_rfl) rfl rfl
        have e3 := Flow.see_new 43 6 hH.sees (by kernel_rfl) (by kernel_rfl) rfl rfl
        refine Reg.wp_call rfl Tryz.func48 rfl (by kernel_rfl) (by simp [Act.eval, e0, e1, e2, e3]) (rpublic_any O1 os.length oc os rfl Hos.out M HMl.out sd sdL.out q hq W ((hRo.below hH.below).more hH.below.size)) ?_
        rintro e w' ⟨A, c, rfl, h1, h2, hB⟩
        rw [← HPS.out] at h1 h2 ⊢
        exact ⟨_, rfl, _, rfl, hB, A, c, rfl, h1, h2⟩
      refine Flow.pass_val (.pointer (some ⟨gK, 33, none⟩)) (Flow.met_none rfl) (fun a W hH => ?_) ?_
      · have e0 := Flow.see_old 7 hH.sees (by kernel_rfl) (by kernel_rfl) rfl
        go_simp; first | done | rfl
      refine Flow.pass_val (.agg (bcells sd).toArray) (Flow.met_none rfl) (fun a W hH => ?_) ?_
      · have e0 := Flow.see_new 45 8 hH.sees (by kernel_rfl) (by kernel_rfl) rfl rfl
        exact reg_loadRange 39 _ rfl e0 (key_right roL.out (hbK.drew.below hH.below hbK.lt)) Tryz.underlying39 rfl (by rw [List.size_toArray, bcells_length, sdL.out]; exact infNode)
      refine Flow.pass_val (.pointer (some ⟨gS, 0, none⟩)) (Flow.met_none rfl) (fun a W hH => ?_) ?_
      · have e0 := Flow.see_old 9 hH.sees (by kernel_rfl) (by kernel_rfl) rfl
        go_simp; first | done | rfl
      refine Flow.pass_val (.int .u32 (q : Int)) (Flow.met_none rfl) (fun a W hH => ?_) ?_
      · have e0 := Flow.see_new 47 10 hH.sees (by kernel_rfl) (by kernel_rfl) rfl rfl
        have cc : World.cell? W ⟨gS, 0, none⟩ = some (.int .u32 (q : Int)) := (sig_cell35 rL.out (hbS.drew.below hH.below hbS.lt)).1; go_simp
      refine Flow.pass_step (Reg.eqs (.agg (bcells L).toArray)) (fun _ _ => Flow.kept_eqs _ _) (Flow.met_none rfl) (fun a W hH => ?_) ?_
      · obtain ⟨A0, c0, e0, q0⟩ := Flow.see_up 44 7 hH.sees (by kernel_rfl) (by kernel_rfl) rfl rfl
        have e1 := Flow.see_new 46 9 hH.sees (by kernel_rfl) (by kernel_rfl) rfl rfl
        have e2 := Flow.see_new 48 11 hH.sees (by kernel_rfl) (by kernel_rfl) rfl rfl
        refine Reg.wp_call rfl Tryz.func47 rfl (by kernel_rfl) (by simp [Act.eval, e0, e1, e2]) (rleaf_any sd sdL.out q hq A0 PS.length c0 PS rfl HPS32.out W q0.2) ?_
        rintro e w' ⟨rfl, hB⟩
        rw [← HL.out]
        exact ⟨_, rfl, _, rfl, hB, rfl⟩
      refine Flow.pass_val (.pointer (some ⟨gS, 0, none⟩)) (Flow.met_none rfl) (fun a W hH => ?_) ?_
      · have e0 := Flow.see_old 9 hH.sees (by kernel_rfl) (by kernel_rfl) rfl
        go_simp; first | done | rfl
      refine Flow.pass_val (.int .u32 (q : Int)) (Flow.met_none rfl) (fun a W hH => ?_) ?_
      · have e0 := Flow.see_new 50 13 hH.sees (by kernel_rfl) (by kernel_rfl) rfl rfl
        have cc : World.cell? W ⟨gS, 0, none⟩ = some (.int .u32 (q : Int)) := (sig_cell35 rL.out (hbS.drew.below hH.below hbS.lt)).1; go_simp
      refine Flow.pass_val (.pointer (some ⟨gS, 34, none⟩)) (Flow.met_none rfl) (fun a W hH => ?_) ?_
      · have e0 := Flow.see_old 9 hH.sees (by kernel_rfl) (by kernel_rfl) rfl
        go_simp; first | done | rfl
      refine Flow.pass_val (.slice H1 au.length hc) (Flow.met_none rfl) (fun a W hH => ?_) ?_
      · have e0 := Flow.see_new 52 15 hH.sees (by kernel_rfl) (by kernel_rfl) rfl rfl
        have cc : World.cell? W ⟨gS, 34, none⟩ = some (.slice H1 au.length hc) := (sig_cell35 rL.out (hbS.drew.below hH.below hbS.lt)).2.2; go_simp
      refine Flow.pass_val (.pointer (some ⟨gK, 33, none⟩)) (Flow.met_none rfl) (fun a W hH => ?_) ?_
      · have e0 := Flow.see_old 7 hH.sees (by kernel_rfl) (by kernel_rfl) rfl
        go_simp; first | done | rfl
      refine Flow.pass_val (.agg (bcells sd).toArray) (Flow.met_none rfl) (fun a W hH => ?_) ?_
      · have e0 := Flow.see_new 54 17 hH.sees (by kernel_rfl) (by kernel_rfl) rfl rfl
        exact reg_loadRange 39 _ rfl e0 (key_right roL.out (hbK.drew.below hH.below hbK.lt)) Tryz.underlying39 rfl (by rw [List.size_toArray, bcells_length, sdL.out]; exact infNode)
      refine Flow.pass_step (Reg.eqs (.agg (bcells T).toArray)) (fun _ _ => Flow.kept_eqs _ _) (Flow.met_none rfl) (fun a W hH => ?_) ?_
      · have e0 := Flow.see_new 49 12 hH.sees (by kernel_rfl) (by kernel_rfl) rfl rfl
        have e1 := Flow.see_new 51 14 hH.sees (by kernel_rfl) (by kernel_rfl) rfl rfl
        have e2 := Flow.see_new 53 16 hH.sees (by kernel_rfl) (by kernel_rfl) rfl rfl
        have e3 := Flow.see_new 55 18 hH.sees (by kernel_rfl) (by kernel_rfl) rfl rfl
        refine Reg.wp_call rfl Tryz.func46 rfl (by kernel_rfl) (by simp [Act.eval, e0, e1, e2, e3]) (rroot_any L HLl.out q hq H1 au.length hc au rfl Has.out sd sdL.out W ((hRh.below hH.below).more hH.below.size)) ?_
        rintro e w' ⟨rfl, hB⟩
        rw [← HT.out]
        exact ⟨_, rfl, _, rfl, hB, rfl⟩
      refine Flow.pass_val (.pointer (some ⟨gK, 1, none⟩)) (Flow.met_none rfl) (fun a W hH => ?_) ?_
      · have e0 := Flow.see_old 7 hH.sees (by kernel_rfl) (by kernel_rfl) rfl
        go_simp; first | done | rfl
      refine Flow.pass_val (.agg (bcells ro).toArray) (Flow.met_none rfl) (fun a W hH => ?_) ?_
      · have e0 := Flow.see_new 57 20 hH.sees (by kernel_rfl) (by kernel_rfl) rfl rfl
        exact reg_loadRange 39 _ rfl e0 (key_left (hbK.drew.below hH.below hbK.lt)) Tryz.underlying39 rfl (by rw [List.size_toArray, bcells_length, roL.out]; exact infNode)
      refine Flow.pass_val ((.bool (!(T == ro)))) (Flow.met_none rfl) (fun a W hH => ?_) ?_
      · have e0 := Flow.see_new 56 19 hH.sees (by kernel_rfl) (by kernel_rfl) rfl rfl
        have e1 := Flow.see_new 58 21 hH.sees (by kernel_rfl) (by kernel_rfl) rfl rfl
        exact reg_neqT rfl (by simpa [Act.eval] using e0) (by simpa [Act.eval] using e1) nodeGuard (nodeNe T ro HTl.out roL.out W)
      refine Flow.pass_end [none, none, none, none, none, none, none, none, none, none, none, none, none, none, none, none, none, none, none, none, none, none, none, none, none, none, none, none, none, none, none, none, none, none, none, none, none, some 37, some 38, some 39, some 40, some 41, some 42, some 43, some 44, some 45, some 46, some 47, some 48, some 49, some 50, some 51, some 52, some 53, some 54, some 55, some 56, some 57, some 58, some 59] (by kernel_rfl) ?_
      intro f gg w9 hB hfa hT hfg
      have h59 : f 59 = _ := (hfg 59 22 (by kernel_rfl)).trans (hT 22 _ (by kernel_rfl) rfl)
      have B9 := B7.drew.trans (hB.mono B7.drew.size)
      clear hfa hT hfg hB
      simp only [Reg.sel, h59]
      cases he : (T == ro) with
      | true =>
        go_wp2
        go_ret
        exact ⟨by rw [HV.out, if_neg (by simp [hs]), ← HG.out, hst.out, he]; rfl, B9⟩
      | false =>
        go_wp2
        go_ret
        exact ⟨by rw [HV.out, if_neg (by simp [hs]), ← HG.out, hst.out, he]; rfl, B9⟩
end Go.Proofs.YtipdmhppadapkaaGreatDoor
