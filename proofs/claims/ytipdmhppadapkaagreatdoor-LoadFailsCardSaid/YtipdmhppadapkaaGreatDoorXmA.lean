/-
  Walk: xmss.Verify.
-/
import Derived.Test.YtipdmhppadapkaaGreatDoorBH
import Derived.Test.YtipdmhppadapkaaGreatDoorPrfL
import Derived.Test.YtipdmhppadapkaaGreatDoorBX
namespace Go.Proofs.YtipdmhppadapkaaGreatDoor
open Go.RowKit Sha

def kOid (kb : List UInt8) : Nat := rdNum kb 0 4 false
def kRoot (kb : List UInt8) : Nd := (kb.drop 4).take 32
def kSeed (kb : List UInt8) : Nd := kb.drop 36
/-- the root that a signature leads to -/
def sigTop (ro sd : Nd) (m : List UInt8) (g : Sg) : Nd := rootV sd (ltLeaf sd g.i (pubsV g.ots (msgH g.r ro g.i m) sd g.i)) g.i g.auth
def verErr (kb m sg : List UInt8) : Int :=
  if keyOk kb = false then 80 else if sigOk sg (kOid kb) = false then 81 else if sigTop (kRoot kb) (kSeed kb) m (sigVal sg (kOid kb)) == kRoot kb then 0 else 82
def nodesKc (ns : List Nd) : Reg.Kd := fun v W => ∃ A c, v = .slice A ns.length c ∧ (ns.length ≤ c ∧ Rd W W.heap.size 32 A ns.length (ncells ns))
theorem kept_nodesc (ns : List Nd) : Flow.KeptK (fun _ => False) (nodesKc ns) := fun _ _ _ c ⟨A, k, h1, h0, h2⟩ => ⟨A, k, h1, h0, h2.ext c.ext⟩
theorem reg_neqT {P : Program} {o : Oper} {a : Act} {w : World} {t t' : TypeId} {x y : Operand} {xs ys : Array Value} {r : Bool} (ho : o.op = .binOp .neq t x y t') (hx : a.eval x = .agg xs) (hy : a.eval y = .agg ys)
    (hm : P.eqGuardType P.depth t = false) (hr : (binOp .neq t (.agg xs) (.agg ys)).run P w = .ok (.bool r) w) : (execOp a.eval o).run P w = .ok (.value (.bool r)) w := by
  unfold execOp
  simp only [ho, hx, hy, Sem.run_bind, run_eqGuard_agg w .neq t x y xs ys hm, Result.andThen_ok, hr]
  rfl
theorem key_left {w : World} {g o : Nat} {t : TypeId} {r s : List UInt8} (h : Blk w g t (keyCells o r s).toArray) : w.rangeAt g 1 (bcells r) := fun j v hv => by
  rw [h.cell, Nat.add_comm 1 j]
  simp only [keyCells, List.getElem?_toArray, List.getElem?_cons_succ]
  rw [List.getElem?_append_left (List.getElem?_eq_some_iff.1 hv).1]; exact hv
theorem key_right {w : World} {g o : Nat} {t : TypeId} {r s : List UInt8} (hr : r.length = 32) (h : Blk w g t (keyCells o r s).toArray) : w.rangeAt g 33 (bcells s) := fun j v hv => by
  rw [h.cell, show 33 + j = (32 + j) + 1 by omega]
  simp only [keyCells, List.getElem?_toArray, List.getElem?_cons_succ]
  rw [List.getElem?_append_right (by rw [bcells_length, hr]; omega), bcells_length, hr, show 32 + j - 32 = j by omega]; exact hv
theorem key_cell {w : World} {g o : Nat} {t : TypeId} {r s : List UInt8} (h : Blk w g t (keyCells o r s).toArray) : w.cell? ⟨g, 0, none⟩ = some (.int .u32 o) := by rw [h.cell]; rfl

set_option maxRecDepth 100000 in
set_option maxHeartbeats 4000000 in
theorem mVerify_any (Ak : Option Addr) (nk ck : Nat) (kb : List UInt8) (hnk : nk ≤ 200) (hck : nk ≤ ck) (Am : Option Addr) (nm cm : Nat) (m : List UInt8) (hm500 : nm ≤ 500) (hmc : nm ≤ cm ∧ cm ≤ 9223372036854775807) (As : Option Addr) (n_s cs : Nat) (sg : List UInt8) (_hns : n_s ≤ 3000) (hcs : n_s ≤ cs) (w : World)
    (hRk : Rd w w.heap.size 1 Ak nk (bcells kb)) (hRm : Rd w w.heap.size 1 Am nm (bcells m)) (hRs : Rd w w.heap.size 1 As n_s (bcells sg)) (hT : Tabs w) :
    Calls Tryz.prog 31 #[.slice Ak nk ck, .slice Am nm cm, .slice As n_s cs] w fun e w' => e = .returned (.int .i64 (verErr kb m sg)) ∧ Below w.heap.size w w' := by
  have hlk : nk = kb.length := by have := hRk.len; rw [bcells_length] at this; omega
  have hls : n_s = sg.length := by have := hRs.len; rw [bcells_length] at this; omega
  cases hk : keyOk kb with
  | false =>
    have hve : verErr kb m sg = 80 := by unfold verErr; rw [if_pos hk]
    have hke : keyErr kb = 80 := by unfold keyErr; rw [hk]; rfl
    have hv65 : Hid ((keyVal kb).toArray.size = 65) := Lib.hid (by rw [List.size_toArray, keyVal_length])
    rw [hve]
    clear hve hk hlk hls
    go_enter Tryz.func31, Tryz.ntmps31
    go_wp2_with fail
    refine (mKeyOf_any Ak nk ck kb w hRk (by omega) hck).mono ?_
    rintro e W2 ⟨rfl, hB2⟩
    rw [hke]
    have hz2 := Blk.new W2 97 Tryz.zeroCells97
    go_wp2_with ((with_reducible refine at_store 97 ?_); refine wpList_storeAll _ rfl 97 _ _ rfl W2.heap.size 97 _ (keyVal kb).toArray hz2 rfl rfl (by rw [hv65.out, zero65]) (by rw [hv65.out]; exact key65) (keyVal_one kb) ?_; intro W3 hb3 hg3 hs3)
    have B3 := grown_below (hB2.alloc hB2.size _) hg3 (by simp; have := hB2.size; omega) hB2.size
    go_ret
    exact ⟨rfl, B3⟩
  | true =>
    obtain ⟨o, ho⟩ : ∃ o, o = kOid kb := ⟨_, rfl⟩
    obtain ⟨ro, hro⟩ : ∃ r, r = kRoot kb := ⟨_, rfl⟩
    obtain ⟨sd, hsd⟩ : ∃ r, r = kSeed kb := ⟨_, rfl⟩
    have hke : keyErr kb = 0 := by unfold keyErr; rw [hk]; rfl
    have hkv : keyVal kb = keyCells o ro sd := by unfold keyVal; rw [hk, ho, hro, hsd]; rfl
    have hk2 := hk
    simp only [keyOk, Bool.and_eq_true, beq_iff_eq] at hk2
    have hoid : isKind o = true := by rw [ho]; exact hk2.2
    have roL : Hid (ro.length = 32) := Lib.hid (by rw [hro]; unfold kRoot; simp; omega)
    have sdL : Hid (sd.length = 32) := Lib.hid (by rw [hsd]; unfold kSeed; simp; omega)
    have hv65 : Hid ((keyCells o ro sd).toArray.size = 65) := Lib.hid (by simp [keyCells, bcells_length, roL.out, sdL.out])
    have hve : Hid (verErr kb m sg = if sigOk sg o = false then 81 else if sigTop ro sd m (sigVal sg o) == ro then 0 else 82) := Lib.hid (by unfold verErr; rw [if_neg (by simp [hk]), ← ho, ← hro, ← hsd])
    have ok := sigVal_ok sg o
    have lens := sigVal_len sg o
    have hse : sigErr sg o = if sigOk sg o then 0 else 81 := by unfold sigErr; rw [if_neg (by simp [hoid])]
    rw [hve.out]
    obtain ⟨V, hV⟩ : ∃ V : Int, V = (if sigOk sg o = false then 81 else if sigTop ro sd m (sigVal sg o) == ro then 0 else 82) := ⟨_, rfl⟩
    rw [← hV]
    have HV := Lib.hid hV
    clear hV
    clear hk hk2 ho hro hsd hve hlk hls hoid
    go_enter Tryz.func31, Tryz.ntmps31
    go_wp2_with fail
    refine (mKeyOf_any Ak nk ck kb w hRk (by omega) hck).mono ?_
    rintro e W2 ⟨rfl, hB2⟩
    rw [hke, hkv]
    have hz2 := Blk.new W2 97 Tryz.zeroCells97
    clear hke hkv
    go_wp2_with ((with_reducible refine at_store 97 ?_); refine wpList_storeAll _ rfl 97 _ _ rfl W2.heap.size 97 _ (keyCells o ro sd).toArray hz2 rfl rfl (by rw [hv65.out, zero65]) (by rw [hv65.out]; exact key65) (keyCells_one o ro sd) ?_; intro W3 hb3 hg3 hs3; have hc3 := key_cell hb3)
    have hB23 := grown_below ((Below.refl W2.heap.size W2).alloc (Nat.le_refl _) (.cells Tryz.zeroCells97 97)) hg3 (by simp) (Nat.le_refl _)
    have B3 := hB2.trans (hB23.mono hB2.size)
    obtain ⟨gK, hgK⟩ : ∃ g, g = W2.heap.size := ⟨_, rfl⟩
    rw [← hgK] at hb3 ⊢
    have hRm3 := (hRm.below B3).more B3.size
    have hT3 := hT.below B3
    clear hgK hB23 hg3 hs3 hc3 hz2 hB2 hRk hRm hT
    refine (mSigOf_any As n_s cs sg o W3 ((hRs.below B3).more B3.size) hcs).mono ?_
    rw [hse]
    clear hse hRs
    rintro e W4 ⟨O1, oc, H1, hc, rfl, hoc, hhc, hRo, hRh, hB4⟩
    obtain ⟨G, hG⟩ : ∃ G, G = sigVal sg o := ⟨_, rfl⟩
    rw [← hG] at hoc hhc hRo hRh ok lens ⊢
    have HG := Lib.hid hG
    clear hG
    obtain ⟨q, r, os, au⟩ := G
    obtain ⟨hq, hr, hos, has⟩ := ok
    simp only at hoc hhc hRo hRh hq hr hos has lens ⊢
    have rL := Lib.hid hr
    have Hos := Lib.hid hos
    have Has := Lib.hid has
    have Hlens := Lib.hid lens
    have hbK := hb3.below hB4 hb3.lt
    have hRm4 := (hRm3.below hB4).more hB4.size
    have hT4 := hT3.below hB4
    have B4 := B3.trans (hB4.mono B3.size)
    have hv35 : Hid ((sigCells q r (.slice O1 os.length oc) (.slice H1 au.length hc)).toArray.size = 35) := Lib.hid (sg35 _ _ _ _ hr)
    have hzz : Hid (zsig.size = 35) := Lib.hid (by kernel_rfl)
    have hz4 := Blk.new W4 102 zsig
    clear hr hos has lens hb3 hRm3 hT3 hB4 B3 hv65
    cases hs : sigOk sg o with
    | false =>
      go_wp2_with ((with_reducible refine at_store 102 ?_); refine wpList_storeAll _ rfl 102 _ _ rfl W4.heap.size 102 _ (sigCells q r (.slice O1 os.length oc) (.slice H1 au.length hc)).toArray hz4 rfl rfl (by rw [hv35.out, hzz.out]) (by rw [hv35.out]; exact inf35) (sg35_one _ _ _ _ rfl rfl) ?_; intro W5 hb5 hg5 hs5)
      have B5 := grown_below (B4.alloc B4.size _) hg5 (by simp; have := B4.size; omega) B4.size
      go_ret
      exact ⟨by rw [HV.out, if_pos hs]; rfl, B5⟩
    | true =>
      go_wp2_with ((with_reducible refine at_store 102 ?_); refine wpList_storeAll _ rfl 102 _ _ rfl W4.heap.size 102 _ (sigCells q r (.slice O1 os.length oc) (.slice H1 au.length hc)).toArray hz4 rfl rfl (by rw [hv35.out, hzz.out]) (by rw [hv35.out]; exact inf35) (sg35_one _ _ _ _ rfl rfl) ?_; intro W5 hbS hg5 hs5)
      have hB45 := grown_below ((Below.refl W4.heap.size W4).alloc (Nat.le_refl _) (.cells zsig 102)) hg5 (by simp) (Nat.le_refl _)
      have B5 := B4.trans (hB45.mono B4.size)
      have hbK := hbK.below hB45 hbK.lt
      have hRm := ((hRm4.below hB45).more hB45.size).drew
      have hRo := ((hRo.below hB45).more hB45.size).drew
      have hRh5 := (hRh.below hB45).more hB45.size
      have hT5 := hT4.below hB45
      obtain ⟨gS, hgS⟩ : ∃ g, g = W4.heap.size := ⟨_, rfl⟩
      rw [← hgS] at hbS ⊢
      clear hgS hB45 hg5 hs5 hz4 hRm4 hT4 B4 hRh hv35
      obtain ⟨M, hM⟩ : ∃ M, M = msgH r ro q m := ⟨_, rfl⟩
      obtain ⟨PS, hPS⟩ : ∃ P, P = pubsV os M sd q := ⟨_, rfl⟩
      have HM := Lib.hid hM
      have HPS := Lib.hid hPS
      have HMl : Hid (M.length = 32) := Lib.hid (by rw [hM]; exact keyed_length _ _)
      clear hM hPS
      go_wp2_with fail
      refine Flow.wp_region_flow (W5.drew.heap.size) [] [] (by kernel_rfl) (by kernel_rfl) (Nat.le_refl _) (fun _ h => by cases h) Flow.facts_nil ?_
      refine Flow.pass_val (.pointer (some ⟨gS, 33, none⟩)) (Flow.met_none rfl) (fun a W hH => ?_) ?_
      · have e0 := Flow.see_old 9 hH.sees (by kernel_rfl) (by kernel_rfl) rfl
        go_simp; first | done | rfl
      refine Flow.pass_val (.slice O1 os.length oc) (Flow.met_none rfl) (fun a W hH => ?_) ?_
      · have e0 := Flow.see_new 29 0 hH.sees (by kernel_rfl) (by kernel_rfl) rfl rfl
        have cc : World.cell? W ⟨gS, 33, none⟩ = some (.slice O1 os.length oc) := (sig_cell35 rL.out (hbS.drew.below hH.below hbS.lt)).2.1; go_simp
      refine Flow.pass_val (.pointer (some ⟨gS, 1, none⟩)) (Flow.met_none rfl) (fun a W hH => ?_) ?_
      · have e0 := Flow.see_old 9 hH.sees (by kernel_rfl) (by kernel_rfl) rfl
        go_simp; first | done | rfl
      refine Flow.pass_val (.agg (bcells r).toArray) (Flow.met_none rfl) (fun a W hH => ?_) ?_
      · have e0 := Flow.see_new 31 2 hH.sees (by kernel_rfl) (by kernel_rfl) rfl rfl
        exact reg_loadRange 39 _ rfl e0 (sig_root (hbS.drew.below hH.below hbS.lt)) Tryz.underlying39 rfl (by rw [List.size_toArray, bcells_length, rL.out]; exact infNode)
      refine Flow.pass_val (.pointer (some ⟨gK, 1, none⟩)) (Flow.met_none rfl) (fun a W hH => ?_) ?_
      · have e0 := Flow.see_old 7 hH.sees (by kernel_rfl) (by kernel_rfl) rfl
        go_simp; first | done | rfl
      refine Flow.pass_val (.agg (bcells ro).toArray) (Flow.met_none rfl) (fun a W hH => ?_) ?_
      · have e0 := Flow.see_new 33 4 hH.sees (by kernel_rfl) (by kernel_rfl) rfl rfl
        exact reg_loadRange 39 _ rfl e0 (key_left (hbK.drew.below hH.below hbK.lt)) Tryz.underlying39 rfl (by rw [List.size_toArray, bcells_length, roL.out]; exact infNode)
      refine Flow.pass_val (.pointer (some ⟨gS, 0, none⟩)) (Flow.met_none rfl) (fun a W hH => ?_) ?_
      · have e0 := Flow.see_old 9 hH.sees (by kernel_rfl) (by kernel_rfl) rfl
        go_simp; first | done | rfl
      refine Flow.pass_val (.int .u32 (q : Int)) (Flow.met_none rfl) (fun a W hH => ?_) ?_
      · have e0 := Flow.see_new 35 6 hH.sees (by kernel_rfl) (by kernel_rfl) rfl rfl
        have cc : World.cell? W ⟨gS, 0, none⟩ = some (.int .u32 (q : Int)) := (sig_cell35 rL.out (hbS.drew.below hH.below hbS.lt)).1; go_simp
      refine Flow.pass_old (X := .slice Am nm cm) 1 (Flow.met_none rfl) (.inl rfl) (by kernel_rfl) (by kernel_rfl) rfl ?_
      refine Flow.pass_step (Reg.eqs (.agg (bcells M).toArray)) (fun _ _ => Flow.kept_eqs _ _) (Flow.met_none rfl) (fun a W hH => ?_) ?_
      · have e0 := Flow.see_new 32 3 hH.sees (by kernel_rfl) (by kernel_rfl) rfl rfl
        have e1 := Flow.see_new 34 5 hH.sees (by kernel_rfl) (by kernel_rfl) rfl rfl
        have e2 := Flow.see_new 36 7 hH.sees (by kernel_rfl) (by kernel_rfl) rfl rfl
        have e3 := Flow.see_new 37 8 hH.sees (by kernel_rfl) (by kernel_rfl) rfl rfl
        refine Reg.wp_call rfl Tryz.func79 rfl (by kernel_rfl) (by simp [Act.eval, e0, e1, e2, e3]) (mmsg_any r ro rL.out roL.out q Am nm cm m W ((hRm.below hH.below).more hH.below.size) hm500 hmc (hT5.drew.under hH.below hT5.rounds.lt hT5.first.lt)) ?_
        rintro e w' ⟨rfl, hB⟩
        rw [← HM.out]
        exact ⟨_, rfl, _, rfl, hB, rfl⟩
      refine Flow.pass_val (.pointer (some ⟨gK, 33, none⟩)) (Flow.met_none rfl) (fun a W hH => ?_) ?_
      · have e0 := Flow.see_old 7 hH.sees (by kernel_rfl) (by kernel_rfl) rfl
        go_simp; first | done | rfl
      refine Flow.pass_val (.agg (bcells sd).toArray) (Flow.met_none rfl) (fun a W hH => ?_) ?_
      · have e0 := Flow.see_new 39 10 hH.sees (by kernel_rfl) (by kernel_rfl) rfl rfl
        exact reg_loadRange 39 _ rfl e0 (key_right roL.out (hbK.drew.below hH.below hbK.lt)) Tryz.underlying39 rfl (by rw [List.size_toArray, bcells_length, sdL.out]; exact infNode)
      refine Flow.pass_val (.pointer (some ⟨gS, 0, none⟩)) (Flow.met_none rfl) (fun a W hH => ?_) ?_
      · have e0 := Flow.see_old 9 hH.sees (by kernel_rfl) (by kernel_rfl) rfl
        go_simp; first | done | rfl
      refine Flow.pass_val (.int .u32 (q : Int)) (Flow.met_none rfl) (fun a W hH => ?_) ?_
      · have e0 := Flow.see_new 41 12 hH.sees (by kernel_rfl) (by kernel_rfl) rfl rfl
        have cc : World.cell? W ⟨gS, 0, none⟩ = some (.int .u32 (q : Int)) := (sig_cell35 rL.out (hbS.drew.below hH.below hbS.lt)).1; go_simp
      refine Flow.pass_step (nodesKc (PS)) (Flow.kept_of (kept_nodesc _) Flow.kz_nil) (Flow.met_none rfl) (fun a W hH => ?_) ?_
      · have e0 := Flow.see_new 30 1 hH.sees (by kernel_rfl) (by kernel_rfl) rfl rfl
        have e1 := Flow.see_new 38 9 hH.sees (by kernel_rfl) (by kernel_rfl) rfl rfl
        have e2 := Flow.see_new 40 11 hH.sees (by kernel_rfl) (by kernel_rfl) rfl rfl
        have e3 := Flow.see_new 42 13 hH.sees (by kernel_rfl) (by kernel_rfl) rfl rfl
        refine Reg.wp_call rfl Tryz.func78 rfl (by kernel_rfl) (by simp [Act.eval, e0, e1, e2, e3]) (mpublic_any O1 os.length oc os rfl Hos.out M HMl.out sd sdL.out q W ((hRo.below hH.below).more hH.below.size) (hT5.drew.under hH.below hT5.rounds.lt hT5.first.lt)) ?_
        rintro e w' ⟨A, c, rfl, h1, h2, hB⟩
        rw [← HPS.out] at h1 h2 ⊢
        exact ⟨_, rfl, _, rfl, hB, A, c, rfl, h1, h2⟩
      refine Flow.pass_copy 43 14 (Flow.met_none rfl) (.inr rfl) (by kernel_rfl) (by kernel_rfl) rfl rfl (Flow.kept_of (kept_nodesc _) Flow.kz_nil) ?_
      refine Flow.pass_end [none, none, none, none, none, none, none, none, none, none, some 10, none, none, none, none, none, none, none, none, none, none, none, none, none, none, none, none, none, none, some 29, some 30, some 31, some 32, some 33, some 34, some 35, some 36, some 37, some 38, some 39, some 40, some 41, some 42, some 43, none, none, none, none, none, none, none, none, none, none, none, none, none, none, none, none] (by kernel_rfl) ?_
      intro f gg w9 hB hfa hT hfg
      obtain ⟨A10, c10, h10, g10⟩ := hT 15 _ (by kernel_rfl) rfl
      rw [← hfg 10 15 (by kernel_rfl)] at h10
      have B6 := B5.drew.trans (hB.mono B5.drew.size)
      have hT6 := hT5.drew.below hB
      have hbK := hbK.drew.below hB hbK.lt
      have hbS := hbS.drew.below hB hbS.lt
      have hRh := ((hRh5.drew.below hB).more hB.size).drew
      obtain ⟨hpc, hRp⟩ := g10
      have hRp := hRp.drew
      simp only [Reg.sel, h10]
      clear hfa hT hfg hB B5 hT5 hRh5 hRm hRo
      generalize w9 = W6 at *
      generalize A10 = P1 at *
      generalize c10 = pc at *
      obtain ⟨L, hL⟩ : ∃ L, L = ltLeaf sd q PS := ⟨_, rfl⟩
      obtain ⟨T, hTt⟩ : ∃ T, T = rootV sd L q au := ⟨_, rfl⟩
      have HPS32 : Hid (All32 PS) := Lib.hid (by rw [HPS.out]; exact (pubsV_all Hos.out M sd q).1)
      have HLl : Hid (L.length = 32) := Lib.hid (by rw [hL]; exact ltLeaf_length _ _ _ HPS32.out)
      have HTl : Hid (T.length = 32) := Lib.hid (by rw [hTt]; exact rootV_length _ _ _ _ HLl.out)
      have hst : Hid (sigTop ro sd m ⟨q, r, os, au⟩ = T) := Lib.hid (by rw [hTt, hL, HPS.out, HM.out]; rfl)
      have HL := Lib.hid hL
      have HT := Lib.hid hTt
      clear hL hTt
      go_wp2_with fail
      refine Flow.wp_region_flow (W6.drew.heap.size) [] [] (by kernel_rfl) (by kernel_rfl) (Nat.le_refl _) (fun _ h => by cases h) Flow.facts_nil ?_
      refine Flow.pass_old (X := .slice P1 PS.length pc) 10 (Flow.met_none rfl) (.inl rfl) (by kernel_rfl) (by kernel_rfl) rfl ?_
      refine Flow.pass_val (.pointer (some ⟨gK, 33, none⟩)) (Flow.met_none rfl) (fun a W hH => ?_) ?_
      · have e0 := Flow.see_old 7 hH.sees (by kernel_rfl) (by kernel_rfl) rfl
        go_simp; first | done | rfl
      refine Flow.pass_val (.agg (bcells sd).toArray) (Flow.met_none rfl) (fun a W hH => ?_) ?_
      · have e0 := Flow.see_new 45 1 hH.sees (by kernel_rfl) (by kernel_rfl) rfl rfl
        exact reg_loadRange 39 _ rfl e0 (key_right roL.out (hbK.drew.below hH.below hbK.lt)) Tryz.underlying39 rfl (by rw [List.size_toArray, bcells_length, sdL.out]; exact infNode)
      refine Flow.pass_val (.pointer (some ⟨gS, 0, none⟩)) (Flow.met_none rfl) (fun a W hH => ?_) ?_
      · have e0 := Flow.see_old 9 hH.sees (by kernel_rfl) (by kernel_rfl) rfl
        go_simp; first | done | rfl
      refine Flow.pass_val (.int .u32 (q : Int)) (Flow.met_none rfl) (fun a W hH => ?_) ?_
      · have e0 := Flow.see_new 47 3 hH.sees (by kernel_rfl) (by kernel_rfl) rfl rfl
        have cc : World.cell? W ⟨gS, 0, none⟩ = some (.int .u32 (q : Int)) := (sig_cell35 rL.out (hbS.drew.below hH.below hbS.lt)).1; go_simp
      refine Flow.pass_step (Reg.eqs (.agg (bcells L).toArray)) (fun _ _ => Flow.kept_eqs _ _) (Flow.met_none rfl) (fun a W hH => ?_) ?_
      · have e0 := Flow.see_new 44 0 hH.sees (by kernel_rfl) (by kernel_rfl) rfl rfl
        have e1 := Flow.see_new 46 2 hH.sees (by kernel_rfl) (by kernel_rfl) rfl rfl
        have e2 := Flow.see_new 48 4 hH.sees (by kernel_rfl) (by kernel_rfl) rfl rfl
        refine Reg.wp_call rfl Tryz.func81 rfl (by kernel_rfl) (by simp [Act.eval, e0, e1, e2]) (mleaf_any sd sdL.out q P1 PS.length pc PS rfl HPS32.out hpc W ((hRp.below hH.below).more hH.below.size) (hT6.drew.under hH.below hT6.rounds.lt hT6.first.lt)) ?_
        rintro e w' ⟨rfl, hB⟩
        rw [← HL.out]
        exact ⟨_, rfl, _, rfl, hB, rfl⟩
      refine Flow.pass_val (.pointer (some ⟨gS, 0, none⟩)) (Flow.met_none rfl) (fun a W hH => ?_) ?_
      · have e0 := Flow.see_old 9 hH.sees (by kernel_rfl) (by kernel_rfl) rfl
        go_simp; first | done | rfl
      refine Flow.pass_val (.int .u32 (q : Int)) (Flow.met_none rfl) (fun a W hH => ?_) ?_
      · have e0 := Flow.see_new 50 6 hH.sees (by kernel_rfl) (by kernel_rfl) rfl rfl
        have cc : World.cell? W ⟨gS, 0, none⟩ = some (.int .u32 (q : Int)) := (sig_cell35 rL.out (hbS.drew.below hH.below hbS.lt)).1; go_simp
      refine Flow.pass_val (.pointer (some ⟨gS, 34, none⟩)) (Flow.met_none rfl) (fun a W hH => ?_) ?_
      · have e0 := Flow.see_old 9 hH.sees (by kernel_rfl) (by kernel_rfl) rfl
        go_simp; first | done | rfl
      refine Flow.pass_val (.slice H1 au.length hc) (Flow.met_none rfl) (fun a W hH => ?_) ?_
      · have e0 := Flow.see_new 52 8 hH.sees (by kernel_rfl) (by kernel_rfl) rfl rfl
        have cc : World.cell? W ⟨gS, 34, none⟩ = some (.slice H1 au.length hc) := (sig_cell35 rL.out (hbS.drew.below hH.below hbS.lt)).2.2; go_simp
      refine Flow.pass_val (.pointer (some ⟨gK, 33, none⟩)) (Flow.met_none rfl) (fun a W hH => ?_) ?_
      · have e0 := Flow.see_old 7 hH.sees (by kernel_rfl) (by kernel_rfl) rfl
        go_simp; first | done | rfl
      refine Flow.pass_val (.agg (bcells sd).toArray) (Flow.met_none rfl) (fun a W hH => ?_) ?_
      · have e0 := Flow.see_new 54 10 hH.sees (by kernel_rfl) (by kernel_rfl) rfl rfl
        exact reg_loadRange 39 _ rfl e0 (key_right roL.out (hbK.drew.below hH.below hbK.lt)) Tryz.underlying39 rfl (by rw [List.size_toArray, bcells_length, sdL.out]; exact infNode)
      refine Flow.pass_step (Reg.eqs (.agg (bcells T).toArray)) (fun _ _ => Flow.kept_eqs _ _) (Flow.met_none rfl) (fun a W hH => ?_) ?_
      · have e0 := Flow.see_new 49 5 hH.sees (by kernel_rfl) (by kernel_rfl) rfl rfl
        have e1 := Flow.see_new 51 7 hH.sees (by kernel_rfl) (by kernel_rfl) rfl rfl
        have e2 := Flow.see_new 53 9 hH.sees (by kernel_rfl) (by kernel_rfl) rfl rfl
        have e3 := Flow.see_new 55 11 hH.sees (by kernel_rfl) (by kernel_rfl) rfl rfl
        refine Reg.wp_call rfl Tryz.func80 rfl (by kernel_rfl) (by simp [Act.eval, e0, e1, e2, e3]) (mroot_any L HLl.out q hq H1 au.length hc au rfl Has.out sd sdL.out W ((hRh.below hH.below).more hH.below.size) (hT6.drew.under hH.below hT6.rounds.lt hT6.first.lt)) ?_
        rintro e w' ⟨rfl, hB⟩
        rw [← HT.out]
        exact ⟨_, rfl, _, rfl, hB, rfl⟩
      refine Flow.pass_val (.pointer (some ⟨gK, 1, none⟩)) (Flow.met_none rfl) (fun a W hH => ?_) ?_
      · have e0 := Flow.see_old 7 hH.sees (by kernel_rfl) (by kernel_rfl) rfl
        go_simp; first | done | rfl
      refine Flow.pass_val (.agg (bcells ro).toArray) (Flow.met_none rfl) (fun a W hH => ?_) ?_
      · have e0 := Flow.see_new 57 13 hH.sees (by kernel_rfl) (by kernel_rfl) rfl rfl
        exact reg_loadRange 39 _ rfl e0 (key_left (hbK.drew.below hH.below hbK.lt)) Tryz.underlying39 rfl (by rw [List.size_toArray, bcells_length, roL.out]; exact infNode)
      refine Flow.pass_val ((.bool (!(T == ro)))) (Flow.met_none rfl) (fun a W hH => ?_) ?_
      · have e0 := Flow.see_new 56 12 hH.sees (by kernel_rfl) (by kernel_rfl) rfl rfl
        have e1 := Flow.see_new 58 14 hH.sees (by kernel_rfl) (by kernel_rfl) rfl rfl
        exact reg_neqT rfl (by simpa [Act.eval] using e0) (by simpa [Act.eval] using e1) nodeGuard (nodeNe T ro HTl.out roL.out W)
      refine Flow.pass_end [none, none, none, none, none, none, none, none, none, none, none, none, none, none, none, none, none, none, none, none, none, none, none, none, none, none, none, none, none, none, none, none, none, none, none, none, none, none, none, none, none, none, none, none, some 44, some 45, some 46, some 47, some 48, some 49, some 50, some 51, some 52, some 53, some 54, some 55, some 56, some 57, some 58, some 59] (by kernel_rfl) ?_
      intro f gg w9 hB hfa hT hfg
      have h59 : f 59 = _ := (hfg 59 15 (by kernel_rfl)).trans (hT 15 _ (by kernel_rfl) rfl)
      have B7 := B6.drew.trans (hB.mono B6.drew.size)
      clear hfa hT hfg hB
      simp only [Reg.sel, h59]
      cases he : (T == ro) with
      | true =>
        go_wp2
        go_ret
        exact ⟨by rw [HV.out, if_neg (by simp [hs]), ← HG.out, hst.out, he]; rfl, B7⟩
      | false =>
        go_wp2
        go_ret
        exact ⟨by rw [HV.out, if_neg (by simp [hs]), ← HG.out, hst.out, he]; rfl, B7⟩
end Go.Proofs.YtipdmhppadapkaaGreatDoor
