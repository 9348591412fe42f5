/-
  Walk: portreeveref04.Sign.
-/
import Derived.Test.YtgfdjfglfipjfaaDoorXmE
namespace Go.Proofs.YtgfdjfglfipjfaaDoor
open Go.RowKit Sha

theorem blk_range2 {w : World} {g : Nat} {t : TypeId} {cs : List Value} (h : Blk w g t cs.toArray) : w.rangeAt g 0 cs := fun j v hv => by
  rw [Nat.zero_add, h.cell]; simpa using hv

set_option maxRecDepth 100000 in
set_option maxHeartbeats 4000000 in
theorem rSign_any (o : Nat) (ro sd sec r : Nd) (hro : ro.length = 32) (hsd : sd.length = 32) (hsec : sec.length = 32) (hr : r.length = 32) (q : Nat) (hq : q < 4294967296) (Au : Option Addr) (na ca : Nat) (au : List Nd) (hna : na = au.length) (ha32 : All32 au)
    (Am : Option Addr) (nm cm : Nat) (m : List UInt8) (hm500 : nm ≤ 500) (_hmc : nm ≤ cm ∧ cm ≤ 9223372036854775807) (w : World) (hRa : Rd w w.heap.size 32 Au na (ncells au)) (hRm : Rd w w.heap.size 1 Am nm (bcells m)) :
    Calls Tryd.prog 22 #[.agg (keyCells o ro sd).toArray, .agg (bcells sec).toArray, .int .u32 (q : Int), .slice Au na ca, .agg (bcells r).toArray, .slice Am nm cm] w (BytesErr w (signVal o sec r ro sd q au m) (signErr o sec r ro sd q au m)) := by
  subst hna
  have roL := Lib.hid hro
  have sdL := Lib.hid hsd
  have secL := Lib.hid hsec
  have rL := Lib.hid hr
  have Ha := Lib.hid ha32
  obtain ⟨M, hM⟩ : ∃ M, M = msgH r ro q m := ⟨_, rfl⟩
  obtain ⟨PS, hPS⟩ : ∃ P, P = upto (endN sec sd q (digAll M)) 67 := ⟨_, rfl⟩
  have HMl : Hid (M.length = 32) := Lib.hid (by rw [hM]; exact keyed_length _ _)
  have HPS32 : Hid (All32 PS) := Lib.hid (by rw [hPS]; exact all32_upto (endN_length sec sd q _) _)
  have HG : Hid (signG sec r ro sd q au m = ⟨q, r, PS, au⟩) := Lib.hid (by unfold signG; rw [hPS, hM])
  have HM := Lib.hid hM
  have HPS := Lib.hid hPS
  obtain ⟨E, hE⟩ : ∃ E, E = ableErr o q au.length := ⟨_, rfl⟩
  have hVal : Hid (signVal o sec r ro sd q au m = if E = 0 then putSigVal ⟨q, r, PS, au⟩ o else []) := Lib.hid (by unfold signVal; rw [HG.out, hE])
  have hErr : Hid (signErr o sec r ro sd q au m = if E = 0 then putSigErr ⟨q, r, PS, au⟩ o else E) := Lib.hid (by unfold signErr; rw [HG.out, hE])
  have HE := Lib.hid hE
  obtain ⟨VB, hVB⟩ : ∃ x, x = signVal o sec r ro sd q au m := ⟨_, rfl⟩
  obtain ⟨VE, hVE⟩ : ∃ x, x = signErr o sec r ro sd q au m := ⟨_, rfl⟩
  rw [← hVB, ← hVE]
  have HVB := Lib.hid (hVB.trans hVal.out)
  have HVE := Lib.hid (hVE.trans hErr.out)
  clear hVB hVE
  have hbK := ((Blk.new w 42 (keyCells o ro sd).toArray).alloc (.cells (bcells sec).toArray 24)).alloc (.cells (bcells r).toArray 24)
  have hbA := (blk_new1 w (.cells (keyCells o ro sd).toArray 42) 24 (bcells sec).toArray).alloc (.cells (bcells r).toArray 24)
  have hbR := blk_new2 w (.cells (keyCells o ro sd).toArray 42) (.cells (bcells sec).toArray 24) 24 (bcells r).toArray
  have B1 : Below w.heap.size w (((w.alloc (.cells (keyCells o ro sd).toArray 42)).alloc (.cells (bcells sec).toArray 24)).alloc (.cells (bcells r).toArray 24)) := (((Below.refl _ _).alloc (Nat.le_refl _) _).alloc (by simp) _).alloc (by simp; omega) _
  clear hro hsd hsec hr ha32 hM hPS hE hVal hErr HG
  go_enter Tryd.func22, Tryd.ntmps22
  have hh : hgt o ≤ 20 := by unfold hgt; split <;> (try split) <;> (try split) <;> omega
  have hc := key_cell hbK
  go_wp2_with fail
  generalize ((w.alloc (.cells (keyCells o ro sd).toArray 42)).alloc (.cells (bcells sec).toArray 24)).alloc (.cells (bcells r).toArray 24) = W1 at *
  refine (rHeight_any o W1).mono ?_
  rintro e w' ⟨rfl, hw⟩
  subst hw
  cases hk : isKind o with
  | false =>
    have hE : E = 80 := by rw [HE.out]; unfold ableErr; rw [if_pos hk]
    have hVB : Hid (VB = []) := Lib.hid (by rw [HVB.out, if_neg (by omega)])
    have hVE : Hid (VE = 80) := Lib.hid (by rw [HVE.out, if_neg (by omega), hE])
    clear HVB HVE hc hE HE
    go_wp2
    go_ret2
    rw [hVB.out, hVE.out]
    exact bytesErr_none rfl B1
  | true =>
    have hE : Hid (E = if au.length = hgt o ∧ q < 2 ^ hgt o then 0 else 81) := Lib.hid (by rw [HE.out]; unfold ableErr; rw [if_neg (by simp [hk])])
    clear HE
    obtain ⟨p, hp⟩ : ∃ p, p = 2 ^ hgt o := ⟨_, rfl⟩
    have hp20 : 2 ^ hgt o ≤ 2 ^ 20 := Nat.pow_le_pow_right (by omega) hh
    have hsh : IntKind.u32.wrap (2 ^ hgt o) = (p : Int) := by
      have e : ((2 : Int) ^ hgt o) = ((2 ^ hgt o : Nat) : Int) := by simp
      rw [e, ← hp]
      exact IntWalk.u32_in _ (by omega)
    rw [← hp] at hE
    have Hp := Lib.hid hp
    clear hp hp20
    generalize hgt o = h at *
    by_cases e1 : au.length = h
    · subst e1
      by_cases e2 : q < p
      · have hE0 : E = 0 := by rw [hE.out, if_pos ⟨rfl, e2⟩]
        have hVB : Hid (VB = putSigVal ⟨q, r, PS, au⟩ o) := Lib.hid (by rw [HVB.out, if_pos hE0])
        have hVE : Hid (VE = putSigErr ⟨q, r, PS, au⟩ o) := Lib.hid (by rw [HVE.out, if_pos hE0])
        have hqp : ¬ (p : Int) ≤ (q : Int) := by omega
        have ok : (Sg.mk q r PS au).ok := ⟨hq, rL.out, HPS32.out, Ha.out⟩
        have hxo := key_left hbK
        have hRm1 := (hRm.below B1).more B1.size
        have hRa1 := (hRa.below B1).more B1.size
        have hz := zero67
        clear HVB HVE hE hE0 hRm hRa
        go_wp2_with (first
          | ((with_reducible refine at_load 24 ?_); refine wpList_runV rfl (reg_load 24 10 rfl rfl hbR Tryd.underlying24 rfl (by rw [List.size_toArray, bcells_length, rL.out]; exact infNode)) ?_)
          | ((with_reducible refine at_load 24 ?_); refine wpList_runV rfl (reg_loadRange 24 36 rfl rfl hxo Tryd.underlying24 rfl (by rw [List.size_toArray, bcells_length, roL.out]; exact infNode)) ?_))
        refine (rmsg_any r ro rL.out roL.out q hq Am nm cm m _ hRm1 hm500).mono ?_
        rintro e W2 ⟨rfl, hB2⟩
        rw [← HM.out]
        have hbK2 := hbK.below hB2 hbK.lt
        have hbA2 := hbA.below hB2 hbA.lt
        have hbR2 := hbR.below hB2 hbR.lt
        have hRa2 := (hRa1.below hB2).more hB2.size
        have B2 := B1.trans (hB2.mono B1.size)
        clear hbK hbA hbR hRm1 hRa1 hB2 B1 hxo hc
        go_wp2_with fail
        refine (rDigits_any M HMl.out W2).mono ?_
        rintro e W3 ⟨rfl, hB3⟩
        have hbK3 := hbK2.below hB3 hbK2.lt
        have hbA3 := hbA2.below hB3 hbA2.lt
        have hbR3 := hbR2.below hB3 hbR2.lt
        have hRa3 := (hRa2.below hB3).more hB3.size
        have B3 := B2.trans (hB3.mono B2.size)
        clear hbK2 hbA2 hbR2 hRa2 hB3 B2
        go_wp2_with ((with_reducible refine at_store 77 ?_); refine wpList_storeAll _ rfl 77 _ _ rfl W3.heap.size 77 (icells zeros67).toArray (icells (wdigs M)).toArray (Blk.new W3 _ _) rfl rfl (by rw [digs_size, z67_size]) (by rw [digs_size]; exact inf67) (digs_one M) ?_; intro W5 hbD hg4 hs4)
        have hB35 := grown_below ((Below.refl W3.heap.size W3).alloc (Nat.le_refl _) (.cells (icells zeros67).toArray 77)) hg4 (by simp) (Nat.le_refl _)
        have B5 := B3.trans (hB35.mono B3.size)
        have hbK := hbK3.below hB35 hbK3.lt
        have hbA := hbA3.below hB35 hbA3.lt
        have hbR := hbR3.below hB35 hbR3.lt
        have hRa := ((hRa3.below hB35).more hB35.size).drew
        obtain ⟨gd, hgd⟩ : ∃ g, g = W3.heap.size := ⟨_, rfl⟩
        rw [← hgd] at hbD ⊢
        clear hbK3 hbA3 hbR3 hRa3 hB35 B3 hg4 hs4 hgd
        simp only [Act.put]
        refine Flow.wp_region_flow (W5.drew.heap.size) [] [] (by kernel_rfl) (by kernel_rfl) (Nat.le_refl _) (fun _ h => by cases h) Flow.facts_nil ?_
        refine Flow.pass_old (X := .int .u32 (q : Int)) 2 (Flow.met_none rfl) (.inl rfl) (by kernel_rfl) (by kernel_rfl) rfl ?_
        refine Flow.pass_val (.agg (bcells r).toArray) (Flow.met_none rfl) (fun a W hH => ?_) ?_
        · have e0 := Flow.see_old 10 hH.sees (by kernel_rfl) (by kernel_rfl) rfl
          exact reg_load 24 _ rfl e0 (hbR.drew.below hH.below hbR.lt) Tryd.underlying24 rfl (by rw [List.size_toArray, bcells_length, rL.out]; exact infNode)
        refine Flow.pass_val (.agg (bcells sec).toArray) (Flow.met_none rfl) (fun a W hH => ?_) ?_
        · have e0 := Flow.see_old 7 hH.sees (by kernel_rfl) (by kernel_rfl) rfl
          exact reg_load 24 _ rfl e0 (hbA.drew.below hH.below hbA.lt) Tryd.underlying24 rfl (by rw [List.size_toArray, bcells_length, secL.out]; exact infNode)
        refine Flow.pass_val (.pointer (some ⟨w.heap.size, 33, none⟩)) (Flow.met_none rfl) (fun a W hH => ?_) ?_
        · have e0 := Flow.see_old 6 hH.sees (by kernel_rfl) (by kernel_rfl) rfl
          go_simp; first | done | rfl
        refine Flow.pass_val (.agg (bcells sd).toArray) (Flow.met_none rfl) (fun a W hH => ?_) ?_
        · have e0 := Flow.see_new 45 3 hH.sees (by kernel_rfl) (by kernel_rfl) rfl rfl
          exact reg_loadRange 24 _ rfl e0 (key_right roL.out (hbK.drew.below hH.below hbK.lt)) Tryd.underlying24 rfl (by rw [List.size_toArray, bcells_length, sdL.out]; exact infNode)
        refine Flow.pass_old (X := .int .u32 (q : Int)) 2 (Flow.met_none rfl) (.inl rfl) (by kernel_rfl) (by kernel_rfl) rfl ?_
        refine Flow.pass_val (.slice (some ⟨gd, 0, none⟩) 67 67) (Flow.met_none rfl) (fun a W hH => ?_) ?_
        · have e0 := Flow.see_old 16 hH.sees (by kernel_rfl) (by kernel_rfl) rfl
          go_simp; first | done | rfl
        refine Flow.pass_step (nodesKc (PS)) (Flow.kept_of (kept_nodesc _) Flow.kz_nil) (Flow.met_none rfl) (fun a W hH => ?_) ?_
        · have e0 := Flow.see_new 44 2 hH.sees (by kernel_rfl) (by kernel_rfl) rfl rfl
          have e1 := Flow.see_new 46 4 hH.sees (by kernel_rfl) (by kernel_rfl) rfl rfl
          have e2 := Flow.see_new 47 5 hH.sees (by kernel_rfl) (by kernel_rfl) rfl rfl
          have e3 := Flow.see_new 48 6 hH.sees (by kernel_rfl) (by kernel_rfl) rfl rfl
          refine Reg.wp_call rfl Tryd.func48 rfl (by kernel_rfl) (by simp [Act.eval, e0, e1, e2, e3]) (rends_dig sec sd secL.out sdL.out q hq W M gd 0 67 (hbD.drew.below hH.below hbD.lt).lt (blk_range2 (hbD.drew.below hH.below hbD.lt))) ?_
          rintro e w' ⟨A, c, rfl, h1, h2, hB⟩
          rw [← HPS.out] at h1 h2 ⊢
          exact ⟨_, rfl, _, rfl, hB, A, c, rfl, h1, h2⟩
        refine Flow.pass_old (X := .slice Au au.length ca) 3 (Flow.met_none rfl) (.inl rfl) (by kernel_rfl) (by kernel_rfl) rfl ?_
        refine Flow.pass_gen (fun v W => ∃ A c, v = .agg (sigCells q r (.slice A PS.length c) (.slice Au au.length ca)).toArray ∧ (PS.length ≤ c ∧ Rd W W.heap.size 32 A PS.length (ncells PS))) (Flow.kept_of (fun _ _ _ ch ⟨A, c, h1, h0, h2⟩ => ⟨A, c, h1, h0, h2.ext ch.ext⟩) Flow.kz_nil) (Flow.met_none rfl) (fun a W hH => ?_) ?_
        · have e0 := Flow.see_new 42 0 hH.sees (by kernel_rfl) (by kernel_rfl) rfl rfl
          have e1 := Flow.see_new 43 1 hH.sees (by kernel_rfl) (by kernel_rfl) rfl rfl
          obtain ⟨A2, c2, e2, q2⟩ := Flow.see_up 49 7 hH.sees (by kernel_rfl) (by kernel_rfl) rfl rfl
          have e3 := Flow.see_new 50 8 hH.sees (by kernel_rfl) (by kernel_rfl) rfl rfl
          refine Flow.wp_run (Flow.reg_build _ rfl (by simp [Act.eval, e0, e1, e2, e3]) (run_sigV q r A2 Au PS.length c2 au.length ca W rL.out)) ?_
          exact ⟨_, rfl, Chg.of_ext (Ext.refl W), A2, c2, rfl, q2⟩
        refine Flow.pass_val (.pointer (some ⟨w.heap.size, 0, none⟩)) (Flow.met_none rfl) (fun a W hH => ?_) ?_
        · have e0 := Flow.see_old 6 hH.sees (by kernel_rfl) (by kernel_rfl) rfl
          go_simp; first | done | rfl
        refine Flow.pass_val (.int .u32 (o : Int)) (Flow.met_none rfl) (fun a W hH => ?_) ?_
        · have e0 := Flow.see_new 52 10 hH.sees (by kernel_rfl) (by kernel_rfl) rfl rfl
          have cc : World.cell? W ⟨w.heap.size, 0, none⟩ = some (.int .u32 (o : Int)) := key_cell (hbK.drew.below hH.below hbK.lt); go_simp
        refine Flow.pass_step (fun v W => ∃ A c, v = .tuple #[.slice A VB.length c, .int .i64 VE] ∧ (VB.length ≤ c ∧ Rd W W.heap.size 1 A VB.length (bcells VB))) (Flow.kept_of (fun _ _ _ ch ⟨A, c, h1, h0, h2⟩ => ⟨A, c, h1, h0, h2.ext ch.ext⟩) Flow.kz_nil) (Flow.met_none rfl) (fun a W hH => ?_) ?_
        · obtain ⟨A0, c0, e0, q0⟩ := Flow.see_up 51 9 hH.sees (by kernel_rfl) (by kernel_rfl) rfl rfl
          have e1 := Flow.see_new 53 11 hH.sees (by kernel_rfl) (by kernel_rfl) rfl rfl
          refine Reg.wp_call rfl Tryd.func47 rfl (by kernel_rfl) (by simp [Act.eval, e0, e1]) (rPutSig_any ⟨q, r, PS, au⟩ ok o A0 Au c0 ca W q0.2 ((hRa.below hH.below).more hH.below.size)) ?_
          rintro e w' ⟨A, c, rfl, h1, h2, hB⟩
          rw [← hVB.out] at h1 h2 ⊢
          rw [← hVE.out]
          exact ⟨_, rfl, _, rfl, hB, A, c, rfl, h1, h2⟩
        refine Flow.pass_gen (fun v W => ∃ A c, v = .slice A VB.length c ∧ (VB.length ≤ c ∧ Rd W W.heap.size 1 A VB.length (bcells VB))) (Flow.kept_of (fun _ _ _ ch ⟨A, c, h1, h0, h2⟩ => ⟨A, c, h1, h0, h2.ext ch.ext⟩) Flow.kz_nil) (Flow.met_none rfl) (fun a W hH => ?_) ?_
        · obtain ⟨A0, c0, e0, q0⟩ := Flow.see_up 54 12 hH.sees (by kernel_rfl) (by kernel_rfl) rfl rfl
          refine Flow.wp_run (by simp [execOp, Act.eval, e0]; rfl) ?_
          exact ⟨_, rfl, Chg.of_ext (Ext.refl W), A0, c0, rfl, q0⟩
        refine Flow.pass_val (.int .i64 VE) (Flow.met_none rfl) (fun a W hH => ?_) ?_
        · obtain ⟨A0, c0, e0, q0⟩ := Flow.see_up 54 12 hH.sees (by kernel_rfl) (by kernel_rfl) rfl rfl
          go_simp; first | done | rfl
        refine Flow.pass_copy 55 13 (Flow.met_none rfl) (.inr rfl) (by kernel_rfl) (by kernel_rfl) rfl rfl (Flow.kept_of (fun _ _ _ ch ⟨A, c, h1, h0, h2⟩ => ⟨A, c, h1, h0, h2.ext ch.ext⟩) Flow.kz_nil) ?_
        refine Flow.pass_copy 56 14 (Flow.met_none rfl) (.inr rfl) (by kernel_rfl) (by kernel_rfl) rfl rfl (fun _ _ => Flow.kept_eqs _ _) ?_
        refine Flow.pass_end [none, none, none, none, none, none, none, none, none, none, none, none, some 12, some 13, none, none, none, none, none, none, none, none, none, none, none, none, none, none, none, none, none, none, none, none, none, none, none, none, none, none, none, none, some 42, some 43, some 44, some 45, some 46, some 47, some 48, some 49, some 50, some 51, some 52, some 53, some 54, some 55, some 56] (by kernel_rfl) ?_
        intro f gg w9 hB hfa hT hfg
        obtain ⟨A12, c12, h12, g12⟩ := hT 15 _ (by kernel_rfl) rfl
        rw [← hfg 12 15 (by kernel_rfl)] at h12
        have h13 : f 13 = _ := (hfg 13 16 (by kernel_rfl)).trans (hT 16 _ (by kernel_rfl) rfl)
        have B9 := B5.drew.trans (hB.mono B5.drew.size)
        obtain ⟨h9, hR9⟩ := g12
        clear hfa hT hfg hB
        simp only [Reg.sel, h12, h13]
        go_wp2
        go_ret2
        exact ⟨A12, c12, rfl, h9, hR9, B9⟩
      · have hE0 : E = 81 := by rw [hE.out, if_neg (fun h => e2 h.2)]
        have hVB : Hid (VB = []) := Lib.hid (by rw [HVB.out, if_neg (by omega)])
        have hVE : Hid (VE = 81) := Lib.hid (by rw [HVE.out, if_neg (by omega), hE0])
        have hqp : (p : Int) ≤ (q : Int) := by omega
        clear HVB HVE hE hE0
        go_wp2
        all_goals
          go_ret2
          rw [hVB.out, hVE.out]
          exact bytesErr_none rfl B1
    · have hE0 : E = 81 := by rw [hE.out, if_neg (fun h => e1 h.1)]
      have hVB : Hid (VB = []) := Lib.hid (by rw [HVB.out, if_neg (by omega)])
      have hVE : Hid (VE = 81) := Lib.hid (by rw [HVE.out, if_neg (by omega), hE0])
      have hne : ¬ (au.length : Int) = (h : Int) := by omega
      clear HVB HVE hE hE0
      go_wp2
      all_goals
        go_ret2
        rw [hVB.out, hVE.out]
        exact bytesErr_none rfl B1
end Go.Proofs.YtgfdjfglfipjfaaDoor
