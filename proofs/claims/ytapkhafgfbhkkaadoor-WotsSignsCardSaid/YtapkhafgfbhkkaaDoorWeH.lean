/-
  Walks: the laws WotsKeys and WotsSigns.
-/
import Derived.Test.YtapkhafgfbhkkaaDoorBF
namespace Go.Proofs.YtapkhafgfbhkkaaDoor
open Go.RowKit Sha

theorem blk_range {w : World} {g : Nat} {t : TypeId} {cs : List Value} (h : Blk w g t cs.toArray) : w.rangeAt g 0 cs := fun j v hv => by
  rw [Nat.zero_add, h.cell]; simpa using hv

set_option maxRecDepth 100000 in
set_option maxHeartbeats 2000000 in
theorem keys_core (w : World) (hT : Tabs w) (sec : List UInt8) (hsec : sec.length = 32) (sd : List UInt8) (hsd : sd.length = 32) (leaf : Nat) (hleaf : leaf < 4294967296) (c : Int) (S : List UInt8) (HSl : Hid (S.length = 32))
    (hms : ∀ W, Tabs W → Calls Tryd.prog 35 #[.agg (bcells sec).toArray, .int .u32 (leaf : Int), .int .i64 c] W fun e w' => e = .returned (.agg (bcells S).toArray) ∧ Below W.heap.size W w')
    (hrs : ∀ W, Calls Tryd.prog 36 #[.agg (bcells sec).toArray, .int .u32 (leaf : Int), .int .i64 c] W fun e w' => e = .returned (.agg (bcells S).toArray) ∧ Below W.heap.size W w') :
    Calls Tryd.prog 11 #[.agg (bcells sec).toArray, .agg (bcells sd).toArray, .int .u32 (leaf : Int), .int .i64 c] w fun e w' => e = .returned (.bool true) ∧ Below w.heap.size w w' := by
  obtain ⟨NS, hNS⟩ : ∃ NS, upto (endN sec sd leaf (fun _ => 15)) 67 = NS := ⟨_, rfl⟩
  have HNS32 : Hid (All32 NS) := Lib.hid (by rw [← hNS]; exact all32_upto (endN_length sec sd leaf _) _)
  have HNSn : Hid (NS.length ≤ 67) := Lib.hid (by rw [← hNS, upto_length]; exact Nat.le_refl _)
  have HNS := Lib.hid hNS
  have secL := Lib.hid hsec
  have sdL := Lib.hid hsd
  clear hsec hsd hNS
  have hb_sec := (Blk.new w 27 (bcells sec).toArray).alloc (.cells (bcells sd).toArray 27)
  have hb_sd := blk_new1 w (.cells (bcells sec).toArray 27) 27 (bcells sd).toArray
  have B0 : Below w.heap.size w ((w.alloc (.cells (bcells sec).toArray 27)).alloc (.cells (bcells sd).toArray 27)) := ((Below.refl _ _).alloc (Nat.le_refl _) _).alloc (by simp) _
  have hT0 := (hT.alloc (.cells (bcells sec).toArray 27)).alloc (.cells (bcells sd).toArray 27)
  go_enter Tryd.func11, Tryd.ntmps11
  go_wp2_with fail
  generalize (w.alloc (.cells (bcells sec).toArray 27)).alloc (.cells (bcells sd).toArray 27) = W0 at *
  refine (awake06 W0).mono ?_
  rintro e W1 ⟨rfl, hB1⟩
  have hb_sec := hb_sec.below hB1 hb_sec.lt
  have hb_sd := hb_sd.below hB1 hb_sd.lt
  have hT1 := hT0.below hB1
  have B1 := B0.trans (hB1.mono B0.size)
  clear B0 hB1 hT hT0
  go_wp2_with fail
  refine Flow.wp_region_flow (W1.drew.heap.size) [] [] (by kernel_rfl) (by kernel_rfl) (Nat.le_refl _) (fun _ h => by cases h) Flow.facts_nil ?_
  refine Flow.pass_val (.agg (bcells sec).toArray) (Flow.met_none rfl) (fun a W hH => ?_) ?_
  · have e0 := Flow.see_old 4 hH.sees (by kernel_rfl) (by kernel_rfl) rfl
    exact reg_load 27 _ rfl e0 (hb_sec.drew.below hH.below hb_sec.lt) Tryd.underlying27 rfl (by rw [List.size_toArray, bcells_length, secL.out]; exact infNode)
  refine Flow.pass_old 2 (Flow.met_none rfl) (.inl rfl) (by kernel_rfl) (by kernel_rfl) rfl ?_
  refine Flow.pass_old 3 (Flow.met_none rfl) (.inl rfl) (by kernel_rfl) (by kernel_rfl) rfl ?_
  refine Flow.pass_step (Reg.eqs (.agg (bcells S).toArray)) (fun _ _ => Flow.kept_eqs _ _) (Flow.met_none rfl) (fun a W hH => ?_) ?_
  · have e0 := Flow.see_new 11 0 hH.sees (by kernel_rfl) (by kernel_rfl) rfl rfl
    have e1 := Flow.see_new 12 1 hH.sees (by kernel_rfl) (by kernel_rfl) rfl rfl
    have e2 := Flow.see_new 13 2 hH.sees (by kernel_rfl) (by kernel_rfl) rfl rfl
    refine Reg.wp_call rfl Tryd.func35 rfl (by kernel_rfl) (by simp [Act.eval, e0, e1, e2]) (hms W (hT1.drew.under hH.below hT1.rounds.lt hT1.first.lt)) ?_
    rintro e w' ⟨rfl, hB⟩
    exact ⟨_, rfl, _, rfl, hB, rfl⟩
  refine Flow.pass_val (.agg (bcells sec).toArray) (Flow.met_none rfl) (fun a W hH => ?_) ?_
  · have e0 := Flow.see_old 4 hH.sees (by kernel_rfl) (by kernel_rfl) rfl
    exact reg_load 27 _ rfl e0 (hb_sec.drew.below hH.below hb_sec.lt) Tryd.underlying27 rfl (by rw [List.size_toArray, bcells_length, secL.out]; exact infNode)
  refine Flow.pass_old 2 (Flow.met_none rfl) (.inl rfl) (by kernel_rfl) (by kernel_rfl) rfl ?_
  refine Flow.pass_old 3 (Flow.met_none rfl) (.inl rfl) (by kernel_rfl) (by kernel_rfl) rfl ?_
  refine Flow.pass_step (Reg.eqs (.agg (bcells S).toArray)) (fun _ _ => Flow.kept_eqs _ _) (Flow.met_none rfl) (fun a W hH => ?_) ?_
  · have e0 := Flow.see_new 15 4 hH.sees (by kernel_rfl) (by kernel_rfl) rfl rfl
    have e1 := Flow.see_new 16 5 hH.sees (by kernel_rfl) (by kernel_rfl) rfl rfl
    have e2 := Flow.see_new 17 6 hH.sees (by kernel_rfl) (by kernel_rfl) rfl rfl
    refine Reg.wp_call rfl Tryd.func36 rfl (by kernel_rfl) (by simp [Act.eval, e0, e1, e2]) (hrs W) ?_
    rintro e w' ⟨rfl, hB⟩
    exact ⟨_, rfl, _, rfl, hB, rfl⟩
  refine Flow.pass_val ((.bool true)) (Flow.met_none rfl) (fun a W hH => ?_) ?_
  · have e0 := Flow.see_new 14 3 hH.sees (by kernel_rfl) (by kernel_rfl) rfl rfl
    have e1 := Flow.see_new 18 7 hH.sees (by kernel_rfl) (by kernel_rfl) rfl rfl
    exact reg_eqlT rfl (by simpa [Act.eval] using e0) (by simpa [Act.eval] using e1) nodeGuard (by have hne := nodeEq S S HSl.out HSl.out W; rw [beq_self_eq_true] at hne; exact hne)
  refine Flow.pass_copy 19 8 (Flow.met_none rfl) (.inl rfl) (by kernel_rfl) (by kernel_rfl) rfl rfl (fun _ _ => Flow.kept_eqs _ _) ?_
  refine Flow.pass_val (.agg (bcells sec).toArray) (Flow.met_some 9 true 20 rfl rfl (by kernel_rfl) (by kernel_rfl) rfl rfl) (fun a W hH => ?_) ?_
  · have e0 := Flow.see_old 4 hH.sees (by kernel_rfl) (by kernel_rfl) rfl
    exact reg_load 27 _ rfl e0 (hb_sec.drew.below hH.below hb_sec.lt) Tryd.underlying27 rfl (by rw [List.size_toArray, bcells_length, secL.out]; exact infNode)
  refine Flow.pass_val (.agg (bcells sd).toArray) (Flow.met_some 9 true 20 rfl rfl (by kernel_rfl) (by kernel_rfl) rfl rfl) (fun a W hH => ?_) ?_
  · have e0 := Flow.see_old 5 hH.sees (by kernel_rfl) (by kernel_rfl) rfl
    exact reg_load 27 _ rfl e0 (hb_sd.drew.below hH.below hb_sd.lt) Tryd.underlying27 rfl (by rw [List.size_toArray, bcells_length, sdL.out]; exact infNode)
  refine Flow.pass_old 2 (Flow.met_some 9 true 20 rfl rfl (by kernel_rfl) (by kernel_rfl) rfl rfl) (.inl rfl) (by kernel_rfl) (by kernel_rfl) rfl ?_
  refine Flow.pass_step (nodesK (NS)) (Flow.kept_of (kept_nodes _) Flow.kz_nil) (Flow.met_some 9 true 20 rfl rfl (by kernel_rfl) (by kernel_rfl) rfl rfl) (fun a W hH => ?_) ?_
  · have e0 := Flow.see_new 21 10 hH.sees (by kernel_rfl) (by kernel_rfl) rfl rfl
    have e1 := Flow.see_new 22 11 hH.sees (by kernel_rfl) (by kernel_rfl) rfl rfl
    have e2 := Flow.see_new 23 12 hH.sees (by kernel_rfl) (by kernel_rfl) rfl rfl
    refine Reg.wp_call rfl Tryd.func37 rfl (by kernel_rfl) (by simp [Act.eval, e0, e1, e2]) (mkey_any sec sd secL.out sdL.out leaf W (hT1.drew.under hH.below hT1.rounds.lt hT1.first.lt)) ?_
    rintro e w' ⟨A, c, rfl, h1, h2, hB⟩
    rw [HNS.out] at h1 h2 ⊢
    exact ⟨_, rfl, _, rfl, hB, A, c, rfl, h2⟩
  refine Flow.pass_val (.agg (bcells sec).toArray) (Flow.met_some 9 true 20 rfl rfl (by kernel_rfl) (by kernel_rfl) rfl rfl) (fun a W hH => ?_) ?_
  · have e0 := Flow.see_old 4 hH.sees (by kernel_rfl) (by kernel_rfl) rfl
    exact reg_load 27 _ rfl e0 (hb_sec.drew.below hH.below hb_sec.lt) Tryd.underlying27 rfl (by rw [List.size_toArray, bcells_length, secL.out]; exact infNode)
  refine Flow.pass_val (.agg (bcells sd).toArray) (Flow.met_some 9 true 20 rfl rfl (by kernel_rfl) (by kernel_rfl) rfl rfl) (fun a W hH => ?_) ?_
  · have e0 := Flow.see_old 5 hH.sees (by kernel_rfl) (by kernel_rfl) rfl
    exact reg_load 27 _ rfl e0 (hb_sd.drew.below hH.below hb_sd.lt) Tryd.underlying27 rfl (by rw [List.size_toArray, bcells_length, sdL.out]; exact infNode)
  refine Flow.pass_old 2 (Flow.met_some 9 true 20 rfl rfl (by kernel_rfl) (by kernel_rfl) rfl rfl) (.inl rfl) (by kernel_rfl) (by kernel_rfl) rfl ?_
  refine Flow.pass_step (nodesK (NS)) (Flow.kept_of (kept_nodes _) Flow.kz_nil) (Flow.met_some 9 true 20 rfl rfl (by kernel_rfl) (by kernel_rfl) rfl rfl) (fun a W hH => ?_) ?_
  · have e0 := Flow.see_new 25 14 hH.sees (by kernel_rfl) (by kernel_rfl) rfl rfl
    have e1 := Flow.see_new 26 15 hH.sees (by kernel_rfl) (by kernel_rfl) rfl rfl
    have e2 := Flow.see_new 27 16 hH.sees (by kernel_rfl) (by kernel_rfl) rfl rfl
    refine Reg.wp_call rfl Tryd.func38 rfl (by kernel_rfl) (by simp [Act.eval, e0, e1, e2]) (rends_nil sec sd secL.out sdL.out leaf hleaf W) ?_
    rintro e w' ⟨A, c, rfl, h1, h2, hB⟩
    rw [HNS.out] at h1 h2 ⊢
    exact ⟨_, rfl, _, rfl, hB, A, c, rfl, h2⟩
  refine Flow.pass_step (Reg.eqs (.bool true)) (fun _ _ => Flow.kept_eqs _ _) (Flow.met_some 9 true 20 rfl rfl (by kernel_rfl) (by kernel_rfl) rfl rfl) (fun a W hH => ?_) ?_
  · obtain ⟨A0, c0, e0, q0⟩ := Flow.see_up 24 13 hH.sees (by kernel_rfl) (by kernel_rfl) rfl rfl
    obtain ⟨A1, c1, e1, q1⟩ := Flow.see_up 28 17 hH.sees (by kernel_rfl) (by kernel_rfl) rfl rfl
    refine Reg.wp_call rfl Tryd.func32 rfl (by kernel_rfl) (by simp [Act.eval, e0, e1]) (sameNodes_any A0 A1 NS.length c0 NS.length c1 NS NS HNS32.out HNS32.out W q0 q1 (by have := HNSn.out; omega) (by have := HNSn.out; omega)) ?_
    rintro e w' ⟨rfl, hB⟩
    rw [show (NS == NS) = true by simp]
    exact ⟨_, rfl, _, rfl, hB, rfl⟩
  refine Flow.pass_val ((.bool true)) (Flow.met_none rfl) (fun a W hH => ?_) ?_
  · have e0 := Flow.see_new 20 9 hH.sees (by kernel_rfl) (by kernel_rfl) rfl rfl
    have e1 := Flow.see_new 29 18 hH.sees (by kernel_rfl) (by kernel_rfl) rfl rfl
    go_simp; first | done | rfl
  refine Flow.pass_copy 30 19 (Flow.met_none rfl) (.inr rfl) (by kernel_rfl) (by kernel_rfl) rfl rfl (fun _ _ => Flow.kept_eqs _ _) ?_
  refine Flow.pass_end [none, none, none, none, none, none, none, none, some 8, none, none, some 11, some 12, some 13, some 14, some 15, some 16, some 17, some 18, some 19, some 20, some 21, some 22, some 23, some 24, some 25, some 26, some 27, some 28, some 29, some 30] (by kernel_rfl) ?_
  intro f gg w9 hB hfa hT hfg
  have h8 : f 8 = _ := (hfg 8 20 (by kernel_rfl)).trans (hT 20 _ (by kernel_rfl) rfl)
  have B9 := B1.drew.trans (hB.mono B1.drew.size)
  clear hfa hT hfg hB
  simp only [Reg.sel, h8]
  go_wp2
  go_ret
  exact ⟨rfl, B9⟩

theorem wotsKeys_walk (w : World) (hT : Tabs w) (sec : List UInt8) (hsec : sec.length = 32) (sd : List UInt8) (hsd : sd.length = 32) (leaf : Int) (wl : (Lit.int .u32 leaf).wf = true) (c : Int) (_wc : (Lit.int .i64 c).wf = true) :
    Calls Tryd.prog 11 #[.agg (bcells sec).toArray, .agg (bcells sd).toArray, .int .u32 leaf, .int .i64 c] w fun e w' => e = .returned (.bool true) ∧ Below w.heap.size w w' := by
  obtain ⟨lf, hlf, rfl⟩ := u32_nat wl
  by_cases hb : c < 0 ∨ 66 < c
  · exact keys_core w hT sec hsec sd hsd lf hlf c znode (Lib.hid (by simp [znode])) (fun W _ => (secrets_bad sec lf c hb W).1) (fun W => (secrets_bad sec lf c hb W).2)
  · obtain ⟨c', rfl⟩ : ∃ n : Nat, c = n := ⟨c.toNat, by omega⟩
    exact keys_core w hT sec hsec sd hsd lf hlf c' (secN sec lf c') (Lib.hid (secN_length _ _ _)) (fun W hW => msecret_any sec hsec lf c' (by omega) W hW) (fun W => rsecret_any sec hsec lf hlf c' (by omega) W)

set_option maxRecDepth 100000 in
set_option maxHeartbeats 2000000 in
theorem wotsSigns_walk (w : World) (hT : Tabs w) (sec : List UInt8) (hsec : sec.length = 32) (m : List UInt8) (hm : m.length = 32) (sd : List UInt8) (hsd : sd.length = 32) (leaf : Int) (wl : (Lit.int .u32 leaf).wf = true) :
    Calls Tryd.prog 12 #[.agg (bcells sec).toArray, .agg (bcells m).toArray, .agg (bcells sd).toArray, .int .u32 leaf] w fun e w' => e = .returned (.bool true) ∧ Below w.heap.size w w' := by
  obtain ⟨leaf, hleaf, rfl⟩ := u32_nat wl
  clear wl
  obtain ⟨NS, hNS⟩ : ∃ NS, upto (endN sec sd leaf (digAll m)) 67 = NS := ⟨_, rfl⟩
  obtain ⟨KS, hKS⟩ : ∃ KS, upto (endN sec sd leaf (fun _ => 15)) 67 = KS := ⟨_, rfl⟩
  have HNS32 : Hid (All32 NS) := Lib.hid (by rw [← hNS]; exact all32_upto (endN_length sec sd leaf _) _)
  have HNSe : Hid (NS.length = 67) := Lib.hid (by rw [← hNS, upto_length])
  have HNSn : Hid (NS.length ≤ 67) := Lib.hid (by rw [HNSe.out]; exact Nat.le_refl _)
  have HKS32 : Hid (All32 KS) := Lib.hid (by rw [← hKS]; exact all32_upto (endN_length sec sd leaf _) _)
  have HKSn : Hid (KS.length ≤ 67) := Lib.hid (by rw [← hKS, upto_length]; exact Nat.le_refl _)
  have HKP : Hid (pubsV NS m sd leaf = KS) := Lib.hid (by
    unfold pubsV
    rw [if_pos HNSe.out, ← hNS, pubs_sign, hKS])
  have HNS := Lib.hid hNS
  have HKS := Lib.hid hKS
  have secL := Lib.hid hsec
  have mL := Lib.hid hm
  have sdL := Lib.hid hsd
  clear hsec hsd hm hNS hKS
  have hb_sec := ((Blk.new w 27 (bcells sec).toArray).alloc (.cells (bcells m).toArray 27)).alloc (.cells (bcells sd).toArray 27)
  have hb_m := (blk_new1 w (.cells (bcells sec).toArray 27) 27 (bcells m).toArray).alloc (.cells (bcells sd).toArray 27)
  have hb_sd := blk_new2 w (.cells (bcells sec).toArray 27) (.cells (bcells m).toArray 27) 27 (bcells sd).toArray
  have B0 : Below w.heap.size w (((w.alloc (.cells (bcells sec).toArray 27)).alloc (.cells (bcells m).toArray 27)).alloc (.cells (bcells sd).toArray 27)) := (((Below.refl _ _).alloc (Nat.le_refl _) _).alloc (by simp) _).alloc (by simp; omega) _
  have hT0 := ((hT.alloc (.cells (bcells sec).toArray 27)).alloc (.cells (bcells m).toArray 27)).alloc (.cells (bcells sd).toArray 27)
  go_enter Tryd.func12, Tryd.ntmps12
  go_wp2_with fail
  generalize ((w.alloc (.cells (bcells sec).toArray 27)).alloc (.cells (bcells m).toArray 27)).alloc (.cells (bcells sd).toArray 27) = W0 at *
  refine (awake06 W0).mono ?_
  rintro e W2 ⟨rfl, hB1⟩
  have hb_sec := hb_sec.below hB1 hb_sec.lt
  have hb_m := hb_m.below hB1 hb_m.lt
  have hb_sd := hb_sd.below hB1 hb_sd.lt
  have hT1 := hT0.below hB1
  have B1 := B0.trans (hB1.mono B0.size)
  clear B0 hB1 hT hT0
  go_wp2_with ((with_reducible refine at_load 27 ?_); refine wpList_loadAll _ rfl 27 _ rfl (w.heap.size + 1) 27 (bcells m).toArray hb_m _ rfl Tryd.underlying27 rfl (by rw [List.size_toArray, bcells_length, mL.out]; exact infNode) ?_)
  refine (rDigits_any m mL.out W2).mono ?_
  rintro e W3 ⟨rfl, hB3⟩
  have hb_sec := hb_sec.below hB3 hb_sec.lt
  have hb_m := hb_m.below hB3 hb_m.lt
  have hb_sd := hb_sd.below hB3 hb_sd.lt
  have hT3 := hT1.below hB3
  have B3 := B1.trans (hB3.mono B1.size)
  have hlt : w.heap.size + 2 < W3.heap.size := hb_sd.lt
  clear B1 hB3 hT1
  go_wp2_with (first
    | ((with_reducible refine at_store 54 ?_); refine wpList_storeAll _ rfl 54 _ _ rfl W3.heap.size 54 (icells zeros67).toArray (icells (wdigs m)).toArray (Blk.new W3 _ _) rfl rfl (by rw [digs_size, z67_size]) (by rw [digs_size]; exact inf67) (digs_one m) ?_; intro W4 hb_d hg4 hs4; have hC4 : Chg (fun b => b = W3.heap.size) W3 W4 := ((Chg.refl _ W3).alloc _).trans (Chg.grown hg4 (by rintro j h; cases h; rfl)); have hb_sec := hb_sec.chg hC4 (show ¬ _ = W3.heap.size by omega); have hb_m := hb_m.chg hC4 (show ¬ _ = W3.heap.size by omega); have hb_sd := hb_sd.chg hC4 (show ¬ _ = W3.heap.size by omega))
    | ((with_reducible refine at_load 27 ?_); first
      | refine wpList_loadAll _ rfl 27 _ rfl w.heap.size 27 (bcells sec).toArray hb_sec _ rfl Tryd.underlying27 rfl (by rw [List.size_toArray, bcells_length, secL.out]; exact infNode) ?_
      | refine wpList_loadAll _ rfl 27 _ rfl (w.heap.size + 1) 27 (bcells m).toArray hb_m _ rfl Tryd.underlying27 rfl (by rw [List.size_toArray, bcells_length, mL.out]; exact infNode) ?_
      | refine wpList_loadAll _ rfl 27 _ rfl (w.heap.size + 2) 27 (bcells sd).toArray hb_sd _ rfl Tryd.underlying27 rfl (by rw [List.size_toArray, bcells_length, sdL.out]; exact infNode) ?_))
  have B4 := B3.trans (hC4.below (n := w.heap.size) (fun b hb => by have hb : b = W3.heap.size := hb; omega) (by omega))
  have hl1 := hT3.rounds.lt
  have hl2 := hT3.first.lt
  have hT4 : Tabs W4 := ⟨hT3.first.chg hC4 (show ¬ _ = W3.heap.size by omega), hT3.rounds.chg hC4 (show ¬ _ = W3.heap.size by omega)⟩
  clear B3 hC4 hg4 hs4 hT3
  generalize W3.heap.size = gd at *
  refine (msign_any sec m sd secL.out mL.out sdL.out leaf W4 hT4).mono ?_
  rw [HNS.out]
  rintro e W1 ⟨SA, sc, rfl, hsc, hR1, hB5⟩
  have hb_sec := hb_sec.below hB5 hb_sec.lt
  have hb_m := hb_m.below hB5 hb_m.lt
  have hb_sd := hb_sd.below hB5 hb_sd.lt
  have hb_d := hb_d.below hB5 hb_d.lt
  have hT1 := hT4.below hB5
  have B1 := B4.trans (hB5.mono B4.size)
  clear B4 hB5 hT4
  go_wp2_with fail
  refine Flow.wp_region_flow (W1.drew.heap.size) [] [] (by kernel_rfl) (by kernel_rfl) (Nat.le_refl _) (fun _ h => by cases h) Flow.facts_nil ?_
  refine Flow.pass_old (X := .slice SA NS.length sc) 10 (Flow.met_none rfl) (.inl rfl) (by kernel_rfl) (by kernel_rfl) rfl ?_
  refine Flow.pass_val (.agg (bcells sec).toArray) (Flow.met_none rfl) (fun a W hH => ?_) ?_
  · have e0 := Flow.see_old 4 hH.sees (by kernel_rfl) (by kernel_rfl) rfl
    exact reg_load 27 _ rfl e0 (hb_sec.drew.below hH.below hb_sec.lt) Tryd.underlying27 rfl (by rw [List.size_toArray, bcells_length, secL.out]; exact infNode)
  refine Flow.pass_val (.agg (bcells sd).toArray) (Flow.met_none rfl) (fun a W hH => ?_) ?_
  · have e0 := Flow.see_old 6 hH.sees (by kernel_rfl) (by kernel_rfl) rfl
    exact reg_load 27 _ rfl e0 (hb_sd.drew.below hH.below hb_sd.lt) Tryd.underlying27 rfl (by rw [List.size_toArray, bcells_length, sdL.out]; exact infNode)
  refine Flow.pass_old 3 (Flow.met_none rfl) (.inl rfl) (by kernel_rfl) (by kernel_rfl) rfl ?_
  refine Flow.pass_val (.slice (some ⟨gd, 0, none⟩) 67 67) (Flow.met_none rfl) (fun a W hH => ?_) ?_
  · have e0 := Flow.see_old 9 hH.sees (by kernel_rfl) (by kernel_rfl) rfl
    go_simp; first | done | rfl
  refine Flow.pass_step (nodesK (NS)) (Flow.kept_of (kept_nodes _) Flow.kz_nil) (Flow.met_none rfl) (fun a W hH => ?_) ?_
  · have e0 := Flow.see_new 21 1 hH.sees (by kernel_rfl) (by kernel_rfl) rfl rfl
    have e1 := Flow.see_new 22 2 hH.sees (by kernel_rfl) (by kernel_rfl) rfl rfl
    have e2 := Flow.see_new 23 3 hH.sees (by kernel_rfl) (by kernel_rfl) rfl rfl
    have e3 := Flow.see_new 24 4 hH.sees (by kernel_rfl) (by kernel_rfl) rfl rfl
    refine Reg.wp_call rfl Tryd.func38 rfl (by kernel_rfl) (by simp [Act.eval, e0, e1, e2, e3]) (rends_dig sec sd secL.out sdL.out leaf hleaf W m gd 0 67 (hb_d.drew.below hH.below hb_d.lt).lt (blk_range (hb_d.drew.below hH.below hb_d.lt))) ?_
    rintro e w' ⟨A, c, rfl, h1, h2, hB⟩
    rw [HNS.out] at h1 h2 ⊢
    exact ⟨_, rfl, _, rfl, hB, A, c, rfl, h2⟩
  refine Flow.pass_step (Reg.eqs (.bool true)) (fun _ _ => Flow.kept_eqs _ _) (Flow.met_none rfl) (fun a W hH => ?_) ?_
  · have e0 := Flow.see_new 20 0 hH.sees (by kernel_rfl) (by kernel_rfl) rfl rfl
    obtain ⟨A1, c1, e1, q1⟩ := Flow.see_up 25 5 hH.sees (by kernel_rfl) (by kernel_rfl) rfl rfl
    refine Reg.wp_call rfl Tryd.func32 rfl (by kernel_rfl) (by simp [Act.eval, e0, e1]) (sameNodes_any SA A1 NS.length sc NS.length c1 NS NS HNS32.out HNS32.out W ((hR1.drew.below hH.below).more hH.below.size) q1 (by have := HNSn.out; omega) (by have := HNSn.out; omega)) ?_
    rintro e w' ⟨rfl, hB⟩
    rw [show (NS == NS) = true by simp]
    exact ⟨_, rfl, _, rfl, hB, rfl⟩
  refine Flow.pass_copy 26 6 (Flow.met_none rfl) (.inl rfl) (by kernel_rfl) (by kernel_rfl) rfl rfl (fun _ _ => Flow.kept_eqs _ _) ?_
  refine Flow.pass_old (X := .slice SA NS.length sc) 10 (Flow.met_some 7 true 27 rfl rfl (by kernel_rfl) (by kernel_rfl) rfl rfl) (.inl rfl) (by kernel_rfl) (by kernel_rfl) rfl ?_
  refine Flow.pass_val (.agg (bcells m).toArray) (Flow.met_some 7 true 27 rfl rfl (by kernel_rfl) (by kernel_rfl) rfl rfl) (fun a W hH => ?_) ?_
  · have e0 := Flow.see_old 5 hH.sees (by kernel_rfl) (by kernel_rfl) rfl
    exact reg_load 27 _ rfl e0 (hb_m.drew.below hH.below hb_m.lt) Tryd.underlying27 rfl (by rw [List.size_toArray, bcells_length, mL.out]; exact infNode)
  refine Flow.pass_val (.agg (bcells sd).toArray) (Flow.met_some 7 true 27 rfl rfl (by kernel_rfl) (by kernel_rfl) rfl rfl) (fun a W hH => ?_) ?_
  · have e0 := Flow.see_old 6 hH.sees (by kernel_rfl) (by kernel_rfl) rfl
    exact reg_load 27 _ rfl e0 (hb_sd.drew.below hH.below hb_sd.lt) Tryd.underlying27 rfl (by rw [List.size_toArray, bcells_length, sdL.out]; exact infNode)
  refine Flow.pass_old 3 (Flow.met_some 7 true 27 rfl rfl (by kernel_rfl) (by kernel_rfl) rfl rfl) (.inl rfl) (by kernel_rfl) (by kernel_rfl) rfl ?_
  refine Flow.pass_step (nodesK (KS)) (Flow.kept_of (kept_nodes _) Flow.kz_nil) (Flow.met_some 7 true 27 rfl rfl (by kernel_rfl) (by kernel_rfl) rfl rfl) (fun a W hH => ?_) ?_
  · have e0 := Flow.see_new 28 8 hH.sees (by kernel_rfl) (by kernel_rfl) rfl rfl
    have e1 := Flow.see_new 29 9 hH.sees (by kernel_rfl) (by kernel_rfl) rfl rfl
    have e2 := Flow.see_new 30 10 hH.sees (by kernel_rfl) (by kernel_rfl) rfl rfl
    have e3 := Flow.see_new 31 11 hH.sees (by kernel_rfl) (by kernel_rfl) rfl rfl
    refine Reg.wp_call rfl Tryd.func33 rfl (by kernel_rfl) (by simp [Act.eval, e0, e1, e2, e3]) (mpublic_any SA NS.length sc NS rfl HNS32.out m mL.out sd sdL.out leaf W ((hR1.drew.below hH.below).more hH.below.size) (hT1.drew.under hH.below hT1.rounds.lt hT1.first.lt)) ?_
    rintro e w' ⟨A, c, rfl, h1, h2, hB⟩
    rw [HKP.out] at h1 h2 ⊢
    exact ⟨_, rfl, _, rfl, hB, A, c, rfl, h2⟩
  refine Flow.pass_val (.agg (bcells sec).toArray) (Flow.met_some 7 true 27 rfl rfl (by kernel_rfl) (by kernel_rfl) rfl rfl) (fun a W hH => ?_) ?_
  · have e0 := Flow.see_old 4 hH.sees (by kernel_rfl) (by kernel_rfl) rfl
    exact reg_load 27 _ rfl e0 (hb_sec.drew.below hH.below hb_sec.lt) Tryd.underlying27 rfl (by rw [List.size_toArray, bcells_length, secL.out]; exact infNode)
  refine Flow.pass_val (.agg (bcells sd).toArray) (Flow.met_some 7 true 27 rfl rfl (by kernel_rfl) (by kernel_rfl) rfl rfl) (fun a W hH => ?_) ?_
  · have e0 := Flow.see_old 6 hH.sees (by kernel_rfl) (by kernel_rfl) rfl
    exact reg_load 27 _ rfl e0 (hb_sd.drew.below hH.below hb_sd.lt) Tryd.underlying27 rfl (by rw [List.size_toArray, bcells_length, sdL.out]; exact infNode)
  refine Flow.pass_old 3 (Flow.met_some 7 true 27 rfl rfl (by kernel_rfl) (by kernel_rfl) rfl rfl) (.inl rfl) (by kernel_rfl) (by kernel_rfl) rfl ?_
  refine Flow.pass_step (nodesK (KS)) (Flow.kept_of (kept_nodes _) Flow.kz_nil) (Flow.met_some 7 true 27 rfl rfl (by kernel_rfl) (by kernel_rfl) rfl rfl) (fun a W hH => ?_) ?_
  · have e0 := Flow.see_new 33 13 hH.sees (by kernel_rfl) (by kernel_rfl) rfl rfl
    have e1 := Flow.see_new 34 14 hH.sees (by kernel_rfl) (by kernel_rfl) rfl rfl
    have e2 := Flow.see_new 35 15 hH.sees (by kernel_rfl) (by kernel_rfl) rfl rfl
    refine Reg.wp_call rfl Tryd.func37 rfl (by kernel_rfl) (by simp [Act.eval, e0, e1, e2]) (mkey_any sec sd secL.out sdL.out leaf W (hT1.drew.under hH.below hT1.rounds.lt hT1.first.lt)) ?_
    rintro e w' ⟨A, c, rfl, h1, h2, hB⟩
    rw [HKS.out] at h1 h2 ⊢
    exact ⟨_, rfl, _, rfl, hB, A, c, rfl, h2⟩
  refine Flow.pass_step (Reg.eqs (.bool true)) (fun _ _ => Flow.kept_eqs _ _) (Flow.met_some 7 true 27 rfl rfl (by kernel_rfl) (by kernel_rfl) rfl rfl) (fun a W hH => ?_) ?_
  · obtain ⟨A0, c0, e0, q0⟩ := Flow.see_up 32 12 hH.sees (by kernel_rfl) (by kernel_rfl) rfl rfl
    obtain ⟨A1, c1, e1, q1⟩ := Flow.see_up 36 16 hH.sees (by kernel_rfl) (by kernel_rfl) rfl rfl
    refine Reg.wp_call rfl Tryd.func32 rfl (by kernel_rfl) (by simp [Act.eval, e0, e1]) (sameNodes_any A0 A1 KS.length c0 KS.length c1 KS KS HKS32.out HKS32.out W q0 q1 (by have := HKSn.out; omega) (by have := HKSn.out; omega)) ?_
    rintro e w' ⟨rfl, hB⟩
    rw [show (KS == KS) = true by simp]
    exact ⟨_, rfl, _, rfl, hB, rfl⟩
  refine Flow.pass_val ((.bool true)) (Flow.met_none rfl) (fun a W hH => ?_) ?_
  · have e0 := Flow.see_new 27 7 hH.sees (by kernel_rfl) (by kernel_rfl) rfl rfl
    have e1 := Flow.see_new 37 17 hH.sees (by kernel_rfl) (by kernel_rfl) rfl rfl
    go_simp; first | done | rfl
  refine Flow.pass_copy 38 18 (Flow.met_none rfl) (.inr rfl) (by kernel_rfl) (by kernel_rfl) rfl rfl (fun _ _ => Flow.kept_eqs _ _) ?_
  refine Flow.pass_end [none, none, none, none, none, none, none, none, some 8, none, none, none, none, none, none, none, none, none, none, none, some 20, some 21, some 22, some 23, some 24, some 25, some 26, some 27, some 28, some 29, some 30, some 31, some 32, some 33, some 34, some 35, some 36, some 37, some 38] (by kernel_rfl) ?_
  intro f gg w9 hB hfa hT hfg
  have h8 : f 8 = _ := (hfg 8 19 (by kernel_rfl)).trans (hT 19 _ (by kernel_rfl) rfl)
  have B9 := B1.drew.trans (hB.mono B1.drew.size)
  clear hfa hT hfg hB
  simp only [Reg.sel, h8]
  go_wp2
  go_ret
  exact ⟨rfl, B9⟩
end Go.Proofs.YtapkhafgfbhkkaaDoor
