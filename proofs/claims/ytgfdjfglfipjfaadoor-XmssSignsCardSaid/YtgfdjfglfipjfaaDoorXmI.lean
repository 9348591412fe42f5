/-
  Walks: xmss.Make, portreeveref04.Make.
-/
import Derived.Test.YtgfdjfglfipjfaaDoorXmH
import Derived.Test.YtgfdjfglfipjfaaDoorXmF
namespace Go.Proofs.YtgfdjfglfipjfaaDoor
open Go.RowKit Sha

theorem stable_nodesc (ns : List Nd) : Reg.Stable (nodesKc ns) := fun _ _ _ ⟨A, k, h1, h0, h2⟩ h => ⟨A, k, h1, h0, h2.ext h⟩
/-- the key of one leaf, or none -/
def makeKey (o : Nat) (sec sd : Nd) (q : Nat) (au : List Nd) : List Value := if ableErr o q au.length = 0 then keyCells o (madeRoot sec sd q au) sd else keyCells 0 zeroNode0 zeroNode0

set_option maxRecDepth 100000 in
set_option maxHeartbeats 4000000 in
theorem mMake_any (o : Nat) (sec sd : Nd) (hsec : sec.length = 32) (hsd : sd.length = 32) (q : Nat) (hq : q < 4294967296) (Au : Option Addr) (na ca : Nat) (au : List Nd) (hna : na = au.length) (ha32 : All32 au) (w : World) (hRa : Rd w w.heap.size 32 Au na (ncells au)) (hT : Tabs w) :
    Calls Tryd.prog 25 #[.int .u32 (o : Int), .agg (bcells sec).toArray, .agg (bcells sd).toArray, .int .u32 (q : Int), .slice Au na ca] w fun e w' => e = .returned (.tuple #[.agg (makeKey o sec sd q au).toArray, .int .i64 (ableErr o q au.length)]) ∧ Below w.heap.size w w' := by
  subst hna
  have sdL := Lib.hid hsd
  have secL := Lib.hid hsec
  have Ha := Lib.hid ha32
  obtain ⟨PS, hPS⟩ : ∃ P, P = upto (endN sec sd q (fun _ => 15)) 67 := ⟨_, rfl⟩
  have HPS32 : Hid (All32 PS) := Lib.hid (by rw [hPS]; exact all32_upto (endN_length sec sd q _) _)
  obtain ⟨L, hL⟩ : ∃ L, L = ltLeaf sd q PS := ⟨_, rfl⟩
  have HLl : Hid (L.length = 32) := Lib.hid (by rw [hL]; exact ltLeaf_length _ _ _ HPS32.out)
  obtain ⟨T, hTT⟩ : ∃ T, T = rootV sd L q au := ⟨_, rfl⟩
  have HTl : Hid (T.length = 32) := Lib.hid (by rw [hTT]; exact rootV_length _ _ _ _ HLl.out)
  have HTm : Hid (madeRoot sec sd q au = T) := Lib.hid (by rw [hTT, hL, hPS]; rfl)
  have HPS := Lib.hid hPS
  have HL := Lib.hid hL
  have HT := Lib.hid hTT
  obtain ⟨E, hE⟩ : ∃ E, E = ableErr o q au.length := ⟨_, rfl⟩
  have hKey : Hid (makeKey o sec sd q au = if E = 0 then keyCells o T sd else keyCells 0 zeroNode0 zeroNode0) := Lib.hid (by unfold makeKey; rw [HTm.out, hE])
  have HE := Lib.hid hE
  rw [← hE]
  obtain ⟨K, hK⟩ : ∃ x, x = makeKey o sec sd q au := ⟨_, rfl⟩
  rw [← hK]
  have HK := Lib.hid (hK.trans hKey.out)
  clear hK
  have hbA := ((Blk.new w 24 (bcells sec).toArray).alloc (.cells (bcells sd).toArray 24)).alloc (.cells Tryd.zeroCells42 42)
  have hbS := (blk_new1 w (.cells (bcells sec).toArray 24) 24 (bcells sd).toArray).alloc (.cells Tryd.zeroCells42 42)
  have hbZ := blk_new2 w (.cells (bcells sec).toArray 24) (.cells (bcells sd).toArray 24) 42 Tryd.zeroCells42
  have B1 : Below w.heap.size w (((w.alloc (.cells (bcells sec).toArray 24)).alloc (.cells (bcells sd).toArray 24)).alloc (.cells Tryd.zeroCells42 42)) := (((Below.refl _ _).alloc (Nat.le_refl _) _).alloc (by simp) _).alloc (by simp; omega) _
  clear hsec hsd ha32 hPS hL hTT hE hKey HTm
  go_enter Tryd.func25, Tryd.ntmps25
  go_wp2_with fail
  generalize ((w.alloc (.cells (bcells sec).toArray 24)).alloc (.cells (bcells sd).toArray 24)).alloc (.cells Tryd.zeroCells42 42) = W1 at *
  refine (able_any o q Au au.length ca W1).mono ?_
  rintro e w' ⟨rfl, hw⟩
  have hw := hw.symm
  subst hw
  rw [← HE.out]
  have hzl : Hid (Tryd.zeroCells42.size = 65) := Lib.hid (by kernel_rfl)
  have hT1 := hT.below B1
  by_cases e0 : E = 0
  · have HK : Hid (K = keyCells o T sd) := Lib.hid (by rw [HK.out, if_pos e0])
    have hk65 : Hid ((keyCells o T sd).toArray.size = 65) := Lib.hid (by simp [keyCells, bcells_length, HTl.out, sdL.out])
    subst e0
    have hRa1 := (hRa.below B1).more B1.size
    clear HE
    go_wp2_with fail
    refine Reg.wp_region_tail 8 [7] (by kernel_rfl) (by kernel_rfl) (by kernel_rfl) (by kernel_rfl) (by kernel_rfl) ?_
    refine Reg.pass_val (.agg (bcells sec).toArray) (Reg.met_none rfl) (fun a W hE hS => ?_) ?_
    · have e0 := Reg.see_old 6 hS (by kernel_rfl) (by kernel_rfl) rfl
      exact reg_load 24 _ rfl e0 (hbA.drew.ext hE) Tryd.underlying24 rfl (by rw [List.size_toArray, bcells_length, secL.out]; exact infNode)
    refine Reg.pass_val (.agg (bcells sd).toArray) (Reg.met_none rfl) (fun a W hE hS => ?_) ?_
    · have e0 := Reg.see_old 7 hS (by kernel_rfl) (by kernel_rfl) rfl
      exact reg_load 24 _ rfl e0 (hbS.drew.ext hE) Tryd.underlying24 rfl (by rw [List.size_toArray, bcells_length, sdL.out]; exact infNode)
    refine Reg.pass_old (X := .int .u32 (q : Int)) 3 (Reg.met_none rfl) (.inl rfl) (by kernel_rfl) (by kernel_rfl) rfl ?_
    refine Reg.pass_step (nodesKc (PS)) (stable_nodesc _) (Reg.met_none rfl) (fun a W hE hS => ?_) ?_
    · have e0 := Reg.see_new 22 0 hS (by kernel_rfl) (by kernel_rfl) rfl rfl
      have e1 := Reg.see_new 23 1 hS (by kernel_rfl) (by kernel_rfl) rfl rfl
      have e2 := Reg.see_new 24 2 hS (by kernel_rfl) (by kernel_rfl) rfl rfl
      refine Reg.wp_call rfl Tryd.func54 rfl (by kernel_rfl) (by simp [Act.eval, e0, e1, e2]) (mkey_any sec sd secL.out sdL.out q W ((hT1.drew.under (hE.below (Nat.le_refl _)) hT1.rounds.lt hT1.first.lt))) ?_
      rintro e w' ⟨A, c, rfl, h1, h2, hB⟩
      rw [← HPS.out] at h1 h2 ⊢
      exact ⟨_, rfl, _, rfl, hB, A, c, rfl, h1, h2⟩
    refine Reg.pass_val (.agg (bcells sd).toArray) (Reg.met_none rfl) (fun a W hE hS => ?_) ?_
    · have e0 := Reg.see_old 7 hS (by kernel_rfl) (by kernel_rfl) rfl
      exact reg_load 24 _ rfl e0 (hbS.drew.ext hE) Tryd.underlying24 rfl (by rw [List.size_toArray, bcells_length, sdL.out]; exact infNode)
    refine Reg.pass_old (X := .int .u32 (q : Int)) 3 (Reg.met_none rfl) (.inl rfl) (by kernel_rfl) (by kernel_rfl) rfl ?_
    refine Reg.pass_step (Reg.eqs (.agg (bcells L).toArray)) (Reg.stable_eqs _) (Reg.met_none rfl) (fun a W hE hS => ?_) ?_
    · obtain ⟨A0, c0, e0, q0⟩ := Reg.see_kind 25 3 hS (by kernel_rfl) (by kernel_rfl) rfl rfl
      have e1 := Reg.see_new 26 4 hS (by kernel_rfl) (by kernel_rfl) rfl rfl
      have e2 := Reg.see_new 27 5 hS (by kernel_rfl) (by kernel_rfl) rfl rfl
      refine Reg.wp_call rfl Tryd.func12 rfl (by kernel_rfl) (by simp [Act.eval, e0, e1, e2]) (mleaf_any sd sdL.out q A0 PS.length c0 PS rfl HPS32.out q0.1 W q0.2 ((hT1.drew.under (hE.below (Nat.le_refl _)) hT1.rounds.lt hT1.first.lt))) ?_
      rintro e w' ⟨rfl, hB⟩
      rw [← HL.out]
      exact ⟨_, rfl, _, rfl, hB, rfl⟩
    refine Reg.pass_new 24 zn rfl rfl zeroNode ?_
    refine ⟨fun i hi o ho => ?_, ?_⟩
    · simp only [List.mem_cons, List.not_mem_nil, or_false] at hi
      rcases hi with rfl
      · cases ho; exact ⟨_, _, rfl, rfl, zeroNode, rfl⟩
    refine Reg.tail_end [none, none, none, none, none, none, none, none, none, none, none, none, none, some 13, none, none, none, none, none, none, none, none, some 22, some 23, some 24, some 25, some 26, some 27, some 28, none, none, none, none, none, none, none, none] (by kernel_rfl) ?_
    intro ff w9 hE hf hfr
    obtain ⟨b13, h13, hz13⟩ : Reg.newK 24 zn (ff 13) w9 := hf 13 7 _ (by kernel_rfl) (by decide) rfl
    obtain ⟨b13', e13', hl13, hd13⟩ := hfr 7 (by simp) 13 (by kernel_rfl)
    have h22 : ff 22 = _ := hf 22 0 _ (by kernel_rfl) (by decide) rfl
    have h23 : ff 23 = _ := hf 23 1 _ (by kernel_rfl) (by decide) rfl
    have h24 : ff 24 = _ := hf 24 2 _ (by kernel_rfl) (by decide) rfl
    have h26 : ff 26 = _ := hf 26 4 _ (by kernel_rfl) (by decide) rfl
    have h27 : ff 27 = _ := hf 27 5 _ (by kernel_rfl) (by decide) rfl
    have h28 : ff 28 = _ := hf 28 6 _ (by kernel_rfl) (by decide) rfl
    have g13 : (W1.heap.size) ≤ b13 := by
      rw [h13] at e13'
      simp only [Reg.ptr, Value.pointer.injEq, Option.some.injEq, Addr.mk.injEq, and_true] at e13'
      rw [e13']; exact hl13.1
    have l13 : b13 < w9.heap.size := hz13.lt
    clear hf hfr e13' hl13 hd13
    simp only [Reg.sel, h13, h28]
    have hbA9 := hbA.drew.ext hE
    have hbS9 := hbS.drew.ext hE
    have hbZ9 := hbZ.drew.ext hE
    have hT9 := hT1.drew.under (hE.below (Nat.le_refl _)) hT1.rounds.lt hT1.first.lt
    have hRa9 := hRa1.drew.below (hE.below (Nat.le_refl _))
    have hszW : w.heap.size + 2 < W1.heap.size := hbZ.lt
    have hB9 := B1.drew.trans (hE.below B1.drew.size)
    clear h22 h23 h24 h26 h27
    refine at_store 24 ?_
    (refine wpList_storeAll _ rfl 24 _ _ rfl b13 24 zn (bcells L).toArray hz13 rfl rfl (by rw [List.size_toArray, bcells_length, HLl.out]; kernel_rfl) (by rw [List.size_toArray, bcells_length, HLl.out]; exact infNode) (fun v hv => bcells_one _ v (by simpa using hv)) ?_; intro W2 hbL hg2 hs2)
    have hbS2 := hbS9.grown hg2 (by intro e; cases e; omega)
    have hbZ2 := hbZ9.grown hg2 (by intro e; cases e; omega)
    have B2 := grown_below hB9 hg2 hB9.size (by omega)
    have hB29 := grown_below (Below.refl W1.heap.size w9) hg2 (by have := hE.size; simpa using this) (by omega)
    have hT2 := hT9.under hB29 hT1.rounds.lt hT1.first.lt
    have hRa2 := (hRa.below B2).drew
    have hne : ¬ b13 = w.heap.size + 2 := by omega
    have hN0 : w.heap.size + 2 ≤ W2.drew.heap.size := Nat.le_of_lt hbZ2.lt
    have hws : w.heap.size ≤ W2.drew.heap.size := B2.size
    clear hbA hbS hbZ hbA9 hbS9 hbZ9 hT9 hRa1 hRa9 hB9 hB29 hE hz13 h13 h28 g13 l13 hg2 hs2 B1 hT1
    generalize b13 = bL at *
    have hbS := hbS2
    have hbZ := hbZ2
    clear hbS2 hbZ2
    simp only [Act.put]
    go_wp2_with fail
    refine Flow.wp_region_flow (w.heap.size + 2) [(8, fun b => b = w.heap.size + 2)] [(8, fun W => Blk W (w.heap.size + 2) 42 Tryd.zeroCells42), (1, fun W => Blk W bL 24 (bcells L).toArray)] (by kernel_rfl) (by kernel_rfl) hN0 (Flow.nz_cons (by rintro b rfl; exact Nat.le_refl _) Flow.nz_nil) (Flow.facts_cons (hbZ.drew) (Flow.kept_blk id) (Flow.fz_cons (Flow.no_follow (by kernel_rfl)) Flow.fz_nil) (Flow.facts_cons (hbL.drew) (Flow.kept_blk id) (Flow.fz_cons (Flow.no_follow (by kernel_rfl)) Flow.fz_nil) Flow.facts_nil)) ?_
    refine Flow.pass_old (X := .int .u32 (o : Int)) 0 (Flow.met_none rfl) (.inl rfl) (by kernel_rfl) (by kernel_rfl) rfl ?_
    refine Flow.pass_val (.agg (bcells L).toArray) (Flow.met_none rfl) (fun a W hH => ?_) ?_
    · have e0 := Flow.see_old 13 hH.sees (by kernel_rfl) (by kernel_rfl) rfl
      have fa1 : (fun W => Blk W bL 24 (bcells L).toArray) W := hH.fact _ (List.mem_of_getElem? (i := 1) rfl) rfl
      exact reg_load 24 _ rfl e0 fa1 Tryd.underlying24 rfl (by rw [List.size_toArray, bcells_length, HLl.out]; exact infNode)
    refine Flow.pass_old (X := .int .u32 (q : Int)) 3 (Flow.met_none rfl) (.inl rfl) (by kernel_rfl) (by kernel_rfl) rfl ?_
    refine Flow.pass_old (X := .slice Au au.length ca) 4 (Flow.met_none rfl) (.inl rfl) (by kernel_rfl) (by kernel_rfl) rfl ?_
    refine Flow.pass_val (.agg (bcells sd).toArray) (Flow.met_none rfl) (fun a W hH => ?_) ?_
    · have e0 := Flow.see_old 7 hH.sees (by kernel_rfl) (by kernel_rfl) rfl
      exact reg_load 24 _ rfl e0 (hbS.drew.below hH.below (by omega)) Tryd.underlying24 rfl (by rw [List.size_toArray, bcells_length, sdL.out]; exact infNode)
    refine Flow.pass_step (Reg.eqs (.agg (bcells T).toArray)) (fun _ _ => Flow.kept_eqs _ _) (Flow.met_none rfl) (fun a W hH => ?_) ?_
    · have e0 := Flow.see_new 30 1 hH.sees (by kernel_rfl) (by kernel_rfl) rfl rfl
      have e1 := Flow.see_new 31 2 hH.sees (by kernel_rfl) (by kernel_rfl) rfl rfl
      have e2 := Flow.see_new 32 3 hH.sees (by kernel_rfl) (by kernel_rfl) rfl rfl
      have e3 := Flow.see_new 33 4 hH.sees (by kernel_rfl) (by kernel_rfl) rfl rfl
      refine Reg.wp_call rfl Tryd.func14 rfl (by kernel_rfl) (by simp [Act.eval, e0, e1, e2, e3]) (mroot_any L HLl.out q hq Au au.length ca au rfl Ha.out sd sdL.out W ((hRa2.belowm hH.below (by omega)).more (by have := hH.below.size; omega)) (hT2.drew.under hH.below (by have := hT.rounds.lt; omega) (by have := hT.first.lt; omega))) ?_
      rintro e w' ⟨rfl, hB⟩
      rw [← HT.out]
      exact ⟨_, rfl, _, rfl, hB, rfl⟩
    refine Flow.pass_val (.agg (bcells sd).toArray) (Flow.met_none rfl) (fun a W hH => ?_) ?_
    · have e0 := Flow.see_old 7 hH.sees (by kernel_rfl) (by kernel_rfl) rfl
      exact reg_load 24 _ rfl e0 (hbS.drew.below hH.below (by omega)) Tryd.underlying24 rfl (by rw [List.size_toArray, bcells_length, sdL.out]; exact infNode)
    refine Flow.pass_val (.agg (keyCells o T sd).toArray) (Flow.met_none rfl) (fun a W hH => ?_) ?_
    · have e0 := Flow.see_new 29 0 hH.sees (by kernel_rfl) (by kernel_rfl) rfl rfl
      have e1 := Flow.see_new 34 5 hH.sees (by kernel_rfl) (by kernel_rfl) rfl rfl
      have e2 := Flow.see_new 35 6 hH.sees (by kernel_rfl) (by kernel_rfl) rfl rfl
      exact Flow.reg_build _ rfl (by simp [Act.eval, e0, e1, e2]) (run_key o T sd _ HTl.out sdL.out)
    refine Flow.pass_list (fun _ W => Blk W (w.heap.size + 2) 42 (keyCells o T sd).toArray) (Flow.kept_of (fun _ _ _ c h => h.chg c id) (Flow.kz_cons (Flow.no_follow (by kernel_rfl)) Flow.kz_nil)) (Flow.met_none rfl) (fun a W hH => ?_) ?_
    · have e0 := Flow.see_old 10 hH.sees (by kernel_rfl) (by kernel_rfl) rfl
      have e1 := Flow.see_new 36 7 hH.sees (by kernel_rfl) (by kernel_rfl) rfl rfl
      have fa0 : (fun W => Blk W (w.heap.size + 2) 42 Tryd.zeroCells42) W := hH.fact _ (List.mem_of_getElem? (i := 0) rfl) rfl
      refine wpList_storeAll W rfl 42 _ _ rfl (w.heap.size + 2) 42 _ (keyCells o T sd).toArray fa0 (by simpa [Act.eval] using e0) (by simpa [Act.eval] using e1) (by rw [hk65.out, zero65]) (by rw [hk65.out]; exact key65) (keyCells_one _ T sd) ?_
      intro W2 h2 hg _
      exact Flow.qq_nil ⟨_, rfl, Chg.grown hg (by rintro k h; cases h; rfl), h2⟩
    apply Flow.pass_val (hm := (Flow.met_none rfl))
    · intro a W hH
      go_simp; first | done | rfl
    refine Flow.pass_end [none, none, none, none, none, none, none, none, none, none, none, some 11, none, none, none, none, none, none, none, none, none, none, none, none, none, none, none, none, none, some 29, some 30, some 31, some 32, some 33, some 34, some 35, some 36] (by kernel_rfl) ?_
    intro f gg w9 hB hfa hT hfg
    have h11 : f 11 = _ := (hfg 11 9 (by kernel_rfl)).trans (hT 9 _ (by kernel_rfl) rfl)
    have hb9 := hT 8 _ (by kernel_rfl) rfl
    have B9 := B2.drew.trans (hB.mono (by omega))
    simp only [Reg.sel, h11]
    clear hT hfg hfa hB
    go_wp2
    refine bodyPost_ret (results_cell_tmp rfl _ _ (w.heap.size + 2) _ _ _ _ rfl hb9 Tryd.underlying42 rfl (by rw [hk65.out]; kernel_rfl)) rfl ⟨by rw [HK.out]; rfl, B9⟩
  · have HK : Hid (K = keyCells 0 zeroNode0 zeroNode0) := Lib.hid (by rw [HK.out, if_neg e0])
    clear hT hT1 HE
    go_wp2_with ((with_reducible refine at_store 42 ?_); refine wpList_storeAll W1 rfl 42 _ _ rfl (w.heap.size + 2) 42 _ Tryd.zeroCells42 hbZ rfl rfl rfl (by rw [hzl.out]; kernel_rfl) (fun v hv => Array.all_eq_true_iff_forall_mem.1 keyOne v (by simpa using hv)) ?_; intro w3 hb3 hg3 hs3)
    refine bodyPost_ret (results_cell_tmp rfl _ _ (w.heap.size + 2) _ _ _ _ rfl hb3 Tryd.underlying42 rfl (by rw [hzl.out]; kernel_rfl)) rfl ⟨?_, ?_⟩
    · rw [HK.out, keyZero]; rfl
    · exact grown_below B1 hg3 B1.size (by omega)
set_option maxRecDepth 100000 in
set_option maxHeartbeats 4000000 in
theorem rMake_any (o : Nat) (sec sd : Nd) (hsec : sec.length = 32) (hsd : sd.length = 32) (q : Nat) (hq : q < 4294967296) (Au : Option Addr) (na ca : Nat) (au : List Nd) (hna : na = au.length) (ha32 : All32 au) (w : World) (hRa : Rd w w.heap.size 32 Au na (ncells au)) :
    Calls Tryd.prog 26 #[.int .u32 (o : Int), .agg (bcells sec).toArray, .agg (bcells sd).toArray, .int .u32 (q : Int), .slice Au na ca] w fun e w' => e = .returned (.tuple #[.agg (makeKey o sec sd q au).toArray, .int .i64 (ableErr o q au.length)]) ∧ Below w.heap.size w w' := by
  subst hna
  have sdL := Lib.hid hsd
  have secL := Lib.hid hsec
  have Ha := Lib.hid ha32
  obtain ⟨PS, hPS⟩ : ∃ P, P = upto (endN sec sd q (fun _ => 15)) 67 := ⟨_, rfl⟩
  have HPS32 : Hid (All32 PS) := Lib.hid (by rw [hPS]; exact all32_upto (endN_length sec sd q _) _)
  obtain ⟨L, hL⟩ : ∃ L, L = ltLeaf sd q PS := ⟨_, rfl⟩
  have HLl : Hid (L.length = 32) := Lib.hid (by rw [hL]; exact ltLeaf_length _ _ _ HPS32.out)
  obtain ⟨T, hTT⟩ : ∃ T, T = rootV sd L q au := ⟨_, rfl⟩
  have HTl : Hid (T.length = 32) := Lib.hid (by rw [hTT]; exact rootV_length _ _ _ _ HLl.out)
  have HTm : Hid (madeRoot sec sd q au = T) := Lib.hid (by rw [hTT, hL, hPS]; rfl)
  have HPS := Lib.hid hPS
  have HL := Lib.hid hL
  have HT := Lib.hid hTT
  obtain ⟨E, hE⟩ : ∃ E, E = ableErr o q au.length := ⟨_, rfl⟩
  have hKey : Hid (makeKey o sec sd q au = if E = 0 then keyCells o T sd else keyCells 0 zeroNode0 zeroNode0) := Lib.hid (by unfold makeKey; rw [HTm.out, hE])
  have HE := Lib.hid hE
  rw [← hE]
  obtain ⟨K, hK⟩ : ∃ x, x = makeKey o sec sd q au := ⟨_, rfl⟩
  rw [← hK]
  have HK := Lib.hid (hK.trans hKey.out)
  clear hK
  have hbA := ((Blk.new w 24 (bcells sec).toArray).alloc (.cells (bcells sd).toArray 24)).alloc (.cells Tryd.zeroCells42 42)
  have hbS := (blk_new1 w (.cells (bcells sec).toArray 24) 24 (bcells sd).toArray).alloc (.cells Tryd.zeroCells42 42)
  have hbZ := blk_new2 w (.cells (bcells sec).toArray 24) (.cells (bcells sd).toArray 24) 42 Tryd.zeroCells42
  have B1 : Below w.heap.size w (((w.alloc (.cells (bcells sec).toArray 24)).alloc (.cells (bcells sd).toArray 24)).alloc (.cells Tryd.zeroCells42 42)) := (((Below.refl _ _).alloc (Nat.le_refl _) _).alloc (by simp) _).alloc (by simp; omega) _
  clear hsec hsd ha32 hPS hL hTT hE hKey HTm
  go_enter Tryd.func26, Tryd.ntmps26
  go_wp2_with fail
  generalize ((w.alloc (.cells (bcells sec).toArray 24)).alloc (.cells (bcells sd).toArray 24)).alloc (.cells Tryd.zeroCells42 42) = W1 at *
  refine (rHeight_any o W1).mono ?_
  rintro e w' ⟨rfl, hw⟩
  subst hw
  have hzl : Hid (Tryd.zeroCells42.size = 65) := Lib.hid (by kernel_rfl)
  have hh : hgt o ≤ 20 := by unfold hgt; split <;> (try split) <;> (try split) <;> omega
  cases hk : isKind o with
  | false =>
    have hE0 : E = 80 := by rw [HE.out]; unfold ableErr; rw [if_pos hk]
    have HK : Hid (K = keyCells 0 zeroNode0 zeroNode0) := Lib.hid (by rw [HK.out, if_neg (by omega)])
    have hE0 := Lib.hid hE0
    clear HE
    go_wp2_with ((with_reducible refine at_store 42 ?_); refine wpList_storeAll W1 rfl 42 _ _ rfl (w.heap.size + 2) 42 _ Tryd.zeroCells42 hbZ rfl rfl rfl (by rw [hzl.out]; kernel_rfl) (fun v hv => Array.all_eq_true_iff_forall_mem.1 keyOne v (by simpa using hv)) ?_; intro w3 hb3 hg3 hs3)
    all_goals
      refine bodyPost_ret (results_cell_tmp rfl _ _ (w.heap.size + 2) _ _ _ _ rfl hb3 Tryd.underlying42 rfl (by rw [hzl.out]; kernel_rfl)) rfl ⟨?_, ?_⟩
      · rw [HK.out, hE0.out, keyZero]; rfl
      · exact grown_below B1 hg3 B1.size (by omega)
  | true =>
    have hE : Hid (E = if au.length = hgt o ∧ q < 2 ^ hgt o then 0 else 81) := Lib.hid (by rw [HE.out]; unfold ableErr; rw [if_neg (by simp [hk])])
    clear HE
    obtain ⟨p, hp⟩ : ∃ p, p = 2 ^ hgt o := ⟨_, rfl⟩
    have hp20 : 2 ^ hgt o ≤ 2 ^ 20 := Nat.pow_le_pow_right (by omega) hh
    have hsh : IntKind.u32.wrap (2 ^ hgt o) = (p : Int) := by
      have e : ((2 : Int) ^ hgt o) = ((2 ^ hgt o : Nat) : Int) := by simp
      rw [e, ← hp]
      exact IntWalk.u32_in _ (by omega)
    rw [← hp] at hE
    have Hp := Lib.hid hp
    clear hp hp20
    generalize hgt o = h at *
    by_cases e1 : au.length = h
    · subst e1
      by_cases e2 : q < p
      · have hE0 : E = 0 := by rw [hE.out, if_pos ⟨rfl, e2⟩]
        have HK : Hid (K = keyCells o T sd) := Lib.hid (by rw [HK.out, if_pos hE0])
        have hk65 : Hid ((keyCells o T sd).toArray.size = 65) := Lib.hid (by simp [keyCells, bcells_length, HTl.out, sdL.out])
        have hqp : ¬ (p : Int) ≤ (q : Int) := by omega
        subst hE0
        have hRa1 := (hRa.below B1).more B1.size
        clear hE
        go_wp2_with fail
        refine Reg.wp_region_tail 8 [7] (by kernel_rfl) (by kernel_rfl) (by kernel_rfl) (by kernel_rfl) (by kernel_rfl) ?_
        refine Reg.pass_val (.agg (bcells sec).toArray) (Reg.met_none rfl) (fun a W hE hS => ?_) ?_
        · have e0 := Reg.see_old 6 hS (by kernel_rfl) (by kernel_rfl) rfl
          exact reg_load 24 _ rfl e0 (hbA.drew.ext hE) Tryd.underlying24 rfl (by rw [List.size_toArray, bcells_length, secL.out]; exact infNode)
        refine Reg.pass_val (.agg (bcells sd).toArray) (Reg.met_none rfl) (fun a W hE hS => ?_) ?_
        · have e0 := Reg.see_old 7 hS (by kernel_rfl) (by kernel_rfl) rfl
          exact reg_load 24 _ rfl e0 (hbS.drew.ext hE) Tryd.underlying24 rfl (by rw [List.size_toArray, bcells_length, sdL.out]; exact infNode)
        refine Reg.pass_old (X := .int .u32 (q : Int)) 3 (Reg.met_none rfl) (.inl rfl) (by kernel_rfl) (by kernel_rfl) rfl ?_
        refine Reg.pass_step (nodesKc (PS)) (stable_nodesc _) (Reg.met_none rfl) (fun a W hE hS => ?_) ?_
        · have e0 := Reg.see_new 34 0 hS (by kernel_rfl) (by kernel_rfl) rfl rfl
          have e1 := Reg.see_new 35 1 hS (by kernel_rfl) (by kernel_rfl) rfl rfl
          have e2 := Reg.see_new 36 2 hS (by kernel_rfl) (by kernel_rfl) rfl rfl
          refine Reg.wp_call rfl Tryd.func48 rfl (by kernel_rfl) (by simp [Act.eval, e0, e1, e2]) (rends_nil sec sd secL.out sdL.out q hq W) ?_
          rintro e w' ⟨A, c, rfl, h1, h2, hB⟩
          rw [← HPS.out] at h1 h2 ⊢
          exact ⟨_, rfl, _, rfl, hB, A, c, rfl, h1, h2⟩
        refine Reg.pass_val (.agg (bcells sd).toArray) (Reg.met_none rfl) (fun a W hE hS => ?_) ?_
        · have e0 := Reg.see_old 7 hS (by kernel_rfl) (by kernel_rfl) rfl
          exact reg_load 24 _ rfl e0 (hbS.drew.ext hE) Tryd.underlying24 rfl (by rw [List.size_toArray, bcells_length, sdL.out]; exact infNode)
        refine Reg.pass_old (X := .int .u32 (q : Int)) 3 (Reg.met_none rfl) (.inl rfl) (by kernel_rfl) (by kernel_rfl) rfl ?_
        refine Reg.pass_step (Reg.eqs (.agg (bcells L).toArray)) (Reg.stable_eqs _) (Reg.met_none rfl) (fun a W hE hS => ?_) ?_
        · obtain ⟨A0, c0, e0, q0⟩ := Reg.see_kind 37 3 hS (by kernel_rfl) (by kernel_rfl) rfl rfl
          have e1 := Reg.see_new 38 4 hS (by kernel_rfl) (by kernel_rfl) rfl rfl
          have e2 := Reg.see_new 39 5 hS (by kernel_rfl) (by kernel_rfl) rfl rfl
          refine Reg.wp_call rfl Tryd.func13 rfl (by kernel_rfl) (by simp [Act.eval, e0, e1, e2]) (rleaf_any sd sdL.out q hq A0 PS.length c0 PS rfl HPS32.out W q0.2) ?_
          rintro e w' ⟨rfl, hB⟩
          rw [← HL.out]
          exact ⟨_, rfl, _, rfl, hB, rfl⟩
        refine Reg.pass_new 24 zn rfl rfl zeroNode ?_
        refine ⟨fun i hi o ho => ?_, ?_⟩
        · simp only [List.mem_cons, List.not_mem_nil, or_false] at hi
          rcases hi with rfl
          · cases ho; exact ⟨_, _, rfl, rfl, zeroNode, rfl⟩
        refine Reg.tail_end [none, none, none, none, none, none, none, none, none, none, none, none, none, none, some 14, none, none, none, none, none, none, none, none, none, none, none, none, none, none, none, none, none, none, none, some 34, some 35, some 36, some 37, some 38, some 39, some 40, none, none, none, none, none, none, none, none] (by kernel_rfl) ?_
        intro ff w9 hE hf hfr
        obtain ⟨b14, h14, hz14⟩ : Reg.newK 24 zn (ff 14) w9 := hf 14 7 _ (by kernel_rfl) (by decide) rfl
        obtain ⟨b14', e14', hl14, hd14⟩ := hfr 7 (by simp) 14 (by kernel_rfl)
        have h34 : ff 34 = _ := hf 34 0 _ (by kernel_rfl) (by decide) rfl
        have h35 : ff 35 = _ := hf 35 1 _ (by kernel_rfl) (by decide) rfl
        have h36 : ff 36 = _ := hf 36 2 _ (by kernel_rfl) (by decide) rfl
        have h38 : ff 38 = _ := hf 38 4 _ (by kernel_rfl) (by decide) rfl
        have h39 : ff 39 = _ := hf 39 5 _ (by kernel_rfl) (by decide) rfl
        have h40 : ff 40 = _ := hf 40 6 _ (by kernel_rfl) (by decide) rfl
        have g14 : (W1.heap.size) ≤ b14 := by
          rw [h14] at e14'
          simp only [Reg.ptr, Value.pointer.injEq, Option.some.injEq, Addr.mk.injEq, and_true] at e14'
          rw [e14']; exact hl14.1
        have l14 : b14 < w9.heap.size := hz14.lt
        clear hf hfr e14' hl14 hd14
        simp only [Reg.sel, h14, h40]
        have hbA9 := hbA.drew.ext hE
        have hbS9 := hbS.drew.ext hE
        have hbZ9 := hbZ.drew.ext hE
        have hRa9 := hRa1.drew.below (hE.below (Nat.le_refl _))
        have hszW : w.heap.size + 2 < W1.heap.size := hbZ.lt
        have hB9 := B1.drew.trans (hE.below B1.drew.size)
        clear h34 h35 h36 h38 h39
        refine at_store 24 ?_
        (refine wpList_storeAll _ rfl 24 _ _ rfl b14 24 zn (bcells L).toArray hz14 rfl rfl (by rw [List.size_toArray, bcells_length, HLl.out]; kernel_rfl) (by rw [List.size_toArray, bcells_length, HLl.out]; exact infNode) (fun v hv => bcells_one _ v (by simpa using hv)) ?_; intro W2 hbL hg2 hs2)
        have hbS2 := hbS9.grown hg2 (by intro e; cases e; omega)
        have hbZ2 := hbZ9.grown hg2 (by intro e; cases e; omega)
        have B2 := grown_below hB9 hg2 hB9.size (by omega)
        have hB29 := grown_below (Below.refl W1.heap.size w9) hg2 (by have := hE.size; simpa using this) (by omega)
        have hRa2 := (hRa.below B2).drew
        have hne : ¬ b14 = w.heap.size + 2 := by omega
        have hN0 : w.heap.size + 2 ≤ W2.drew.heap.size := Nat.le_of_lt hbZ2.lt
        have hws : w.heap.size ≤ W2.drew.heap.size := B2.size
        clear hbA hbS hbZ hbA9 hbS9 hbZ9 hRa1 hRa9 hB9 hB29 hE hz14 h14 h40 g14 l14 hg2 hs2 B1
        generalize b14 = bL at *
        have hbS := hbS2
        have hbZ := hbZ2
        clear hbS2 hbZ2
        simp only [Act.put]
        go_wp2_with fail
        refine Flow.wp_region_flow (w.heap.size + 2) [(8, fun b => b = w.heap.size + 2)] [(8, fun W => Blk W (w.heap.size + 2) 42 Tryd.zeroCells42), (1, fun W => Blk W bL 24 (bcells L).toArray)] (by kernel_rfl) (by kernel_rfl) hN0 (Flow.nz_cons (by rintro b rfl; exact Nat.le_refl _) Flow.nz_nil) (Flow.facts_cons (hbZ.drew) (Flow.kept_blk id) (Flow.fz_cons (Flow.no_follow (by kernel_rfl)) Flow.fz_nil) (Flow.facts_cons (hbL.drew) (Flow.kept_blk id) (Flow.fz_cons (Flow.no_follow (by kernel_rfl)) Flow.fz_nil) Flow.facts_nil)) ?_
        refine Flow.pass_old (X := .int .u32 (o : Int)) 0 (Flow.met_none rfl) (.inl rfl) (by kernel_rfl) (by kernel_rfl) rfl ?_
        refine Flow.pass_val (.agg (bcells L).toArray) (Flow.met_none rfl) (fun a W hH => ?_) ?_
        · have e0 := Flow.see_old 14 hH.sees (by kernel_rfl) (by kernel_rfl) rfl
          have fa1 : (fun W => Blk W bL 24 (bcells L).toArray) W := hH.fact _ (List.mem_of_getElem? (i := 1) rfl) rfl
          exact reg_load 24 _ rfl e0 fa1 Tryd.underlying24 rfl (by rw [List.size_toArray, bcells_length, HLl.out]; exact infNode)
        refine Flow.pass_old (X := .int .u32 (q : Int)) 3 (Flow.met_none rfl) (.inl rfl) (by kernel_rfl) (by kernel_rfl) rfl ?_
        refine Flow.pass_old (X := .slice Au au.length ca) 4 (Flow.met_none rfl) (.inl rfl) (by kernel_rfl) (by kernel_rfl) rfl ?_
        refine Flow.pass_val (.agg (bcells sd).toArray) (Flow.met_none rfl) (fun a W hH => ?_) ?_
        · have e0 := Flow.see_old 7 hH.sees (by kernel_rfl) (by kernel_rfl) rfl
          exact reg_load 24 _ rfl e0 (hbS.drew.below hH.below (by omega)) Tryd.underlying24 rfl (by rw [List.size_toArray, bcells_length, sdL.out]; exact infNode)
        refine Flow.pass_step (Reg.eqs (.agg (bcells T).toArray)) (fun _ _ => Flow.kept_eqs _ _) (Flow.met_none rfl) (fun a W hH => ?_) ?_
        · have e0 := Flow.see_new 42 1 hH.sees (by kernel_rfl) (by kernel_rfl) rfl rfl
          have e1 := Flow.see_new 43 2 hH.sees (by kernel_rfl) (by kernel_rfl) rfl rfl
          have e2 := Flow.see_new 44 3 hH.sees (by kernel_rfl) (by kernel_rfl) rfl rfl
          have e3 := Flow.see_new 45 4 hH.sees (by kernel_rfl) (by kernel_rfl) rfl rfl
          refine Reg.wp_call rfl Tryd.func15 rfl (by kernel_rfl) (by simp [Act.eval, e0, e1, e2, e3]) (rroot_any L HLl.out q hq Au au.length ca au rfl Ha.out sd sdL.out W ((hRa2.belowm hH.below (by omega)).more (by have := hH.below.size; omega))) ?_
          rintro e w' ⟨rfl, hB⟩
          rw [← HT.out]
          exact ⟨_, rfl, _, rfl, hB, rfl⟩
        refine Flow.pass_val (.agg (bcells sd).toArray) (Flow.met_none rfl) (fun a W hH => ?_) ?_
        · have e0 := Flow.see_old 7 hH.sees (by kernel_rfl) (by kernel_rfl) rfl
          exact reg_load 24 _ rfl e0 (hbS.drew.below hH.below (by omega)) Tryd.underlying24 rfl (by rw [List.size_toArray, bcells_length, sdL.out]; exact infNode)
        refine Flow.pass_val (.agg (keyCells o T sd).toArray) (Flow.met_none rfl) (fun a W hH => ?_) ?_
        · have e0 := Flow.see_new 41 0 hH.sees (by kernel_rfl) (by kernel_rfl) rfl rfl
          have e1 := Flow.see_new 46 5 hH.sees (by kernel_rfl) (by kernel_rfl) rfl rfl
          have e2 := Flow.see_new 47 6 hH.sees (by kernel_rfl) (by kernel_rfl) rfl rfl
          exact Flow.reg_build _ rfl (by simp [Act.eval, e0, e1, e2]) (run_key o T sd _ HTl.out sdL.out)
        refine Flow.pass_list (fun _ W => Blk W (w.heap.size + 2) 42 (keyCells o T sd).toArray) (Flow.kept_of (fun _ _ _ c h => h.chg c id) (Flow.kz_cons (Flow.no_follow (by kernel_rfl)) Flow.kz_nil)) (Flow.met_none rfl) (fun a W hH => ?_) ?_
        · have e0 := Flow.see_old 10 hH.sees (by kernel_rfl) (by kernel_rfl) rfl
          have e1 := Flow.see_new 48 7 hH.sees (by kernel_rfl) (by kernel_rfl) rfl rfl
          have fa0 : (fun W => Blk W (w.heap.size + 2) 42 Tryd.zeroCells42) W := hH.fact _ (List.mem_of_getElem? (i := 0) rfl) rfl
          refine wpList_storeAll W rfl 42 _ _ rfl (w.heap.size + 2) 42 _ (keyCells o T sd).toArray fa0 (by simpa [Act.eval] using e0) (by simpa [Act.eval] using e1) (by rw [hk65.out, zero65]) (by rw [hk65.out]; exact key65) (keyCells_one _ T sd) ?_
          intro W2 h2 hg _
          exact Flow.qq_nil ⟨_, rfl, Chg.grown hg (by rintro k h; cases h; rfl), h2⟩
        apply Flow.pass_val (hm := (Flow.met_none rfl))
        · intro a W hH
          go_simp; first | done | rfl
        refine Flow.pass_end [none, none, none, none, none, none, none, none, none, none, none, some 11, none, none, none, none, none, none, none, none, none, none, none, none, none, none, none, none, none, none, none, none, none, none, none, none, none, none, none, none, none, some 41, some 42, some 43, some 44, some 45, some 46, some 47, some 48] (by kernel_rfl) ?_
        intro f gg w9 hB hfa hT hfg
        have h11 : f 11 = _ := (hfg 11 9 (by kernel_rfl)).trans (hT 9 _ (by kernel_rfl) rfl)
        have hb9 := hT 8 _ (by kernel_rfl) rfl
        have B9 := B2.drew.trans (hB.mono (by omega))
        simp only [Reg.sel, h11]
        clear hT hfg hfa hB
        go_wp2
        refine bodyPost_ret (results_cell_tmp rfl _ _ (w.heap.size + 2) _ _ _ _ rfl hb9 Tryd.underlying42 rfl (by rw [hk65.out]; kernel_rfl)) rfl ⟨by rw [HK.out]; rfl, B9⟩
      · have hE0 : Hid (E = 81) := Lib.hid (by rw [hE.out, if_neg (fun h => e2 h.2)])
        have HK : Hid (K = keyCells 0 zeroNode0 zeroNode0) := Lib.hid (by rw [HK.out, if_neg (by rw [hE0.out]; omega)])
        have hqp : (p : Int) ≤ (q : Int) := by omega
        clear hE
        go_wp2_with ((with_reducible refine at_store 42 ?_); refine wpList_storeAll W1 rfl 42 _ _ rfl (w.heap.size + 2) 42 _ Tryd.zeroCells42 hbZ rfl rfl rfl (by rw [hzl.out]; kernel_rfl) (fun v hv => Array.all_eq_true_iff_forall_mem.1 keyOne v (by simpa using hv)) ?_; intro w3 hb3 hg3 hs3)
        all_goals
          refine bodyPost_ret (results_cell_tmp rfl _ _ (w.heap.size + 2) _ _ _ _ rfl hb3 Tryd.underlying42 rfl (by rw [hzl.out]; kernel_rfl)) rfl ⟨?_, ?_⟩
          · rw [HK.out, hE0.out, keyZero]; rfl
          · exact grown_below B1 hg3 B1.size (by omega)
    · have hE0 : Hid (E = 81) := Lib.hid (by rw [hE.out, if_neg (fun h => e1 h.1)])
      have HK : Hid (K = keyCells 0 zeroNode0 zeroNode0) := Lib.hid (by rw [HK.out, if_neg (by rw [hE0.out]; omega)])
      have hne : ¬ (au.length : Int) = (h : Int) := by omega
      clear hE
      go_wp2_with ((with_reducible refine at_store 42 ?_); refine wpList_storeAll W1 rfl 42 _ _ rfl (w.heap.size + 2) 42 _ Tryd.zeroCells42 hbZ rfl rfl rfl (by rw [hzl.out]; kernel_rfl) (fun v hv => Array.all_eq_true_iff_forall_mem.1 keyOne v (by simpa using hv)) ?_; intro w3 hb3 hg3 hs3)
      all_goals
        refine bodyPost_ret (results_cell_tmp rfl _ _ (w.heap.size + 2) _ _ _ _ rfl hb3 Tryd.underlying42 rfl (by rw [hzl.out]; kernel_rfl)) rfl ⟨?_, ?_⟩
        · rw [HK.out, hE0.out, keyZero]; rfl
        · exact grown_below B1 hg3 B1.size (by omega)
end Go.Proofs.YtgfdjfglfipjfaaDoor
