/-
  Walk: the law XmssSigns.
-/
import Derived.Test.YtgfdjfglfipjfaaDoorXmI
namespace Go.Proofs.YtgfdjfglfipjfaaDoor
open Go.RowKit Sha

theorem keyNe (o : Nat) (r s : List UInt8) (ho : o < 4294967296) (hr : r.length = 32) (hs : s.length = 32) (w : World) : (binOp .neq 42 (.agg (keyCells o r s).toArray) (.agg (keyCells o r s).toArray)).run Tryd.prog w = .ok (.bool false) w := by
  have h65 : Tryd.prog.cellsOf 42 = 65 := by kernel_rfl
  have c1 : Tryd.prog.cellsOf 25 = 1 := by kernel_rfl
  have c32 : Tryd.prog.cellsOf 24 = 32 := by kernel_rfl
  have c8 : Tryd.prog.cellsOf 5 = 1 := by kernel_rfl
  have hlen : (keyCells o r s).length = 65 := by simp [keyCells, bcells_length, hr, hs]
  have wfo : (Lit.int .u32 (o : Int)).wf = true := by simp [Lit.wf, IntKind.min, IntKind.max, IntKind.bits, IntKind.signed]; omega
  have e : keyCells o r s = [[.int .u32 (o : Int)], bcells r, bcells s].flatten := by simp [keyCells]
  have k0 := keyLits_int (P := Tryd.prog) (d := 1) Tryd.underlying25 (o : Int) wfo
  have k1 := keyLits_bytes (P := Tryd.prog) (d := 0) Tryd.underlying24 Tryd.underlying5 c8 c32 r hr
  have k2 := keyLits_bytes (P := Tryd.prog) (d := 0) Tryd.underlying24 Tryd.underlying5 c8 c32 s hs
  have hk := keyLits_struct (P := Tryd.prog) (d := 2) Tryd.underlying42 (by kernel_rfl) [[.int .u32 (o : Int)], bcells r, bcells s] _ (by rw [← e, hlen, h65])
    (fits_cons rfl c1 k0 (fits_cons rfl (by rw [bcells_length, hr]; exact c32) k1 (fits_cons (by rw [bcells_length, hr]; rfl) (by rw [bcells_length, hs]; exact c32) k2 fits_nil)))
  have fx : (Value.agg (keyCells o r s).toArray).formed Tryd.prog 42 = true := formed_agg Tryd.underlying42 rfl (by rw [h65]; simp [hlen])
  obtain ⟨b, hb, hiff⟩ := run_equalIn_deep (P := Tryd.prog) (10000 - 4) 4 42 (by kernel_rfl) w 3 3 (.agg (keyCells o r s).toArray) (.agg (keyCells o r s).toArray) _ _ fx fx (by simp only [Value.cells, List.toList_toArray]; rw [e]; exact hk) (by simp only [Value.cells, List.toList_toArray]; rw [e]; exact hk)
  rw [run_neq_struct, hb, hiff.2 rfl]; rfl

set_option maxRecDepth 100000 in
set_option maxHeartbeats 8000000 in
theorem xmssSigns_walk (w : World) (hT : Tabs w) (oid : Int) (wo : (Lit.int .u32 oid).wf = true) (sec : List UInt8) (hsec : sec.length = 32) (sd : List UInt8) (hsd : sd.length = 32) (idx : Int) (wi : (Lit.int .u32 idx).wf = true)
    (A : Option Addr) (n c : Nat) (au : List (List UInt8)) (hn : n = au.length) (_hnc : n ≤ c) (hR : Rd w w.heap.size 32 A n (ncells au)) (h32 : ∀ x ∈ au, x.length = 32)
    (r : List UInt8) (hr : r.length = 32) (Am : Option Addr) (nm cm : Nat) (m : List UInt8) (hm : Rd w w.heap.size 1 Am nm (bcells m)) (hnm : nm ≤ cm) (hcm : cm ≤ 9223372036854775807) :
    Calls Tryd.prog 10 #[.int .u32 oid, .agg (bcells sec).toArray, .agg (bcells sd).toArray, .int .u32 idx, .slice A n c, .agg (bcells r).toArray, .slice Am nm cm] w fun e w' => e = .returned (.bool true) ∧ Below w.heap.size w w' := by
  obtain ⟨q, hq, rfl⟩ := u32_nat wi
  obtain ⟨o, ho, rfl⟩ := u32_nat wo
  clear wi wo
  have sdL := Lib.hid hsd
  have secL := Lib.hid hsec
  have rL := Lib.hid hr
  have Ha := Lib.hid h32
  have Hn := Lib.hid hn
  obtain ⟨K, hK⟩ : ∃ K, K = makeKey o sec sd q au := ⟨_, rfl⟩
  obtain ⟨E, hE⟩ : ∃ E, E = ableErr o q au.length := ⟨_, rfl⟩
  have hform : ∃ o2 r2 s2, K = keyCells o2 r2 s2 ∧ o2 < 4294967296 ∧ r2.length = 32 ∧ s2.length = 32 ∧ (E = 0 → o2 = o ∧ r2 = madeRoot sec sd q au ∧ s2 = sd) ∧ (E ≠ 0 → o2 = 0) := by
    rw [hK, hE]; unfold makeKey
    by_cases e0 : ableErr o q au.length = 0
    · rw [if_pos e0]; exact ⟨_, _, _, rfl, ho, madeRoot_length _ _ _ _, hsd, fun _ => ⟨rfl, rfl, rfl⟩, fun h => absurd e0 h⟩
    · rw [if_neg e0]; exact ⟨_, _, _, rfl, by omega, rfl, rfl, fun h => absurd h e0, fun _ => rfl⟩
  obtain ⟨o2, r2, s2, hKf, ho2, hr2, hs2, hyes, hno⟩ := hform
  have HK := Lib.hid hK
  have HE := Lib.hid hE
  have HKf := Lib.hid hKf
  have r2L := Lib.hid hr2
  have s2L := Lib.hid hs2
  have Hyes := Lib.hid hyes
  have Hno := Lib.hid hno
  have hk65 : Hid ((keyCells o2 r2 s2).toArray.size = 65) := Lib.hid (by simp [keyCells, bcells_length, hr2, hs2])
  have hbA := ((Blk.new w 24 (bcells sec).toArray).alloc (.cells (bcells sd).toArray 24)).alloc (.cells (bcells r).toArray 24)
  have hbS := (blk_new1 w (.cells (bcells sec).toArray 24) 24 (bcells sd).toArray).alloc (.cells (bcells r).toArray 24)
  have hbR := blk_new2 w (.cells (bcells sec).toArray 24) (.cells (bcells sd).toArray 24) 24 (bcells r).toArray
  have B0 : Below w.heap.size w (((w.alloc (.cells (bcells sec).toArray 24)).alloc (.cells (bcells sd).toArray 24)).alloc (.cells (bcells r).toArray 24)) := (((Below.refl _ _).alloc (Nat.le_refl _) _).alloc (by simp) _).alloc (by simp; omega) _
  clear hsd hsec hr h32 hn hK hE hKf hr2 hs2 hyes hno
  go_enter Tryd.func10, Tryd.ntmps10
  go_wp2_with fail
  generalize ((w.alloc (.cells (bcells sec).toArray 24)).alloc (.cells (bcells sd).toArray 24)).alloc (.cells (bcells r).toArray 24) = W0 at *
  refine (awake08 W0).mono ?_
  rintro e W1 ⟨rfl, hB1⟩
  have hbA1 := hbA.below hB1 hbA.lt
  have hbS1 := hbS.below hB1 hbS.lt
  have hbR1 := hbR.below hB1 hbR.lt
  have B1 := B0.trans (hB1.mono B0.size)
  clear hbA hbS hbR B0 hB1
  go_wp2_with (first
    | ((with_reducible refine at_load 24 ?_); refine wpList_loadAll _ rfl 24 (.tmp 8) rfl w.heap.size 24 (bcells sec).toArray hbA1 _ rfl Tryd.underlying24 rfl (by rw [List.size_toArray, bcells_length, secL.out]; exact infNode) ?_)
    | ((with_reducible refine at_load 24 ?_); refine wpList_loadAll _ rfl 24 (.tmp 9) rfl (w.heap.size + 1) 24 (bcells sd).toArray hbS1 _ rfl Tryd.underlying24 rfl (by rw [List.size_toArray, bcells_length, sdL.out]; exact infNode) ?_))
  all_goals (try (go_ret; exact ⟨rfl, B1⟩))
  have k1 : nm ≤ 500 := by omega
  refine (mMake_any o sec sd secL.out sdL.out q hq A n c au Hn.out Ha.out W1 ((hR.below B1).more B1.size) (hT.below B1)).mono ?_
  rintro e W2 ⟨rfl, hB2⟩
  rw [← HK.out, ← HE.out, HKf.out]
  have B2 := B1.trans (hB2.mono B1.size)
  have hbA2 := hbA1.below hB2 hbA1.lt
  have hbS2 := hbS1.below hB2 hbS1.lt
  have hbR2 := hbR1.below hB2 hbR1.lt
  clear hbA1 hbS1 hbR1 B1
  have hzz : Hid (Tryd.zeroCells42.size = 65) := Lib.hid zero65
  have hz2 := Blk.new W2 42 Tryd.zeroCells42
  go_wp2_with (first
    | ((with_reducible refine at_load 24 ?_); refine wpList_loadAll _ rfl 24 (.tmp 8) rfl w.heap.size 24 (bcells sec).toArray hbA3 _ rfl Tryd.underlying24 rfl (by rw [List.size_toArray, bcells_length, secL.out]; exact infNode) ?_)
    | ((with_reducible refine at_load 24 ?_); refine wpList_loadAll _ rfl 24 (.tmp 9) rfl (w.heap.size + 1) 24 (bcells sd).toArray hbS3 _ rfl Tryd.underlying24 rfl (by rw [List.size_toArray, bcells_length, sdL.out]; exact infNode) ?_)
    | ((with_reducible refine at_store 42 ?_); refine wpList_storeAll _ rfl 42 _ _ rfl W2.heap.size 42 _ (keyCells o2 r2 s2).toArray hz2 rfl rfl (by rw [hk65.out, hzz.out]) (by rw [hk65.out]; exact key65) (keyCells_one o2 r2 s2) ?_; intro W3 hbK3 hg3 hs3;
        have hB23 := grown_below ((Below.refl W2.heap.size W2).alloc (Nat.le_refl _) (.cells Tryd.zeroCells42 42)) hg3 (by simp) (Nat.le_refl _); have hbA3 := hbA2.below hB23 hbA2.lt; have hbS3 := hbS2.below hB23 hbS2.lt; have hbR3 := hbR2.below hB23 hbR2.lt))
  have B3 := B2.trans (hB23.mono B2.size)
  obtain ⟨gK, hgK⟩ : ∃ g, g = W2.heap.size := ⟨_, rfl⟩
  rw [← hgK] at hbK3 ⊢
  clear hz2 hg3 hs3 hB23 hbA2 hbS2 hbR2 hgK B2
  have hcall := rMake_any o sec sd secL.out sdL.out q hq A n c au Hn.out Ha.out W3 ((hR.below B3).more B3.size)
  refine hcall.mono ?_
  rintro e W4 ⟨rfl, hB4⟩
  rw [← HK.out, ← HE.out, HKf.out]
  have B4 := B3.trans (hB4.mono B3.size)
  have hbA4 := hbA3.below hB4 hbA3.lt
  have hbS4 := hbS3.below hB4 hbS3.lt
  have hbR4 := hbR3.below hB4 hbR3.lt
  have hbK4 := hbK3.below hB4 hbK3.lt
  clear hcall hbA3 hbS3 hbR3 hbK3 B3 hB4
  have hz4 := Blk.new W4 42 Tryd.zeroCells42
  have hneq := fun W => keyNe o2 r2 s2 ho2 r2L.out s2L.out W
  go_wp2_with (first
    | ((with_reducible refine at_store 42 ?_); refine wpList_storeAll _ rfl 42 _ _ rfl W4.heap.size 42 _ (keyCells o2 r2 s2).toArray hz4 rfl rfl (by rw [hk65.out, hzz.out]) (by rw [hk65.out]; exact key65) (keyCells_one o2 r2 s2) ?_; intro W5 hbL hg5 hs5;
        have hB45 := grown_below ((Below.refl W4.heap.size W4).alloc (Nat.le_refl _) (.cells Tryd.zeroCells42 42)) hg5 (by simp) (Nat.le_refl _); have hbA5 := hbA4.below hB45 hbA4.lt; have hbS5 := hbS4.below hB45 hbS4.lt; have hbR5 := hbR4.below hB45 hbR4.lt; have hbK5 := hbK4.below hB45 hbK4.lt)
    | ((with_reducible refine at_load 42 ?_); refine wpList_loadAllW _ rfl 42 (.tmp 15) rfl gK 42 (keyCells o2 r2 s2).toArray hbK5 _ rfl Tryd.underlying42 rfl (by rw [hk65.out]; exact key65) ?_)
    | ((with_reducible refine at_load 42 ?_); refine wpList_loadAllW _ rfl 42 (.tmp 17) rfl W4.heap.size 42 (keyCells o2 r2 s2).toArray hbL _ rfl Tryd.underlying42 rfl (by rw [hk65.out]; exact key65) ?_)
    | ((with_reducible refine at_binT 42 ?_); refine wpList_neq _ rfl rfl rfl rfl keyGuard (hneq _) ?_)
    | ((with_reducible refine at_load 24 ?_); refine wpList_loadAll _ rfl 24 (.tmp 8) rfl w.heap.size 24 (bcells sec).toArray hbA5 _ rfl Tryd.underlying24 rfl (by rw [List.size_toArray, bcells_length, secL.out]; exact infNode) ?_)
    | ((with_reducible refine at_load 24 ?_); refine wpList_loadAll _ rfl 24 (.tmp 12) rfl (w.heap.size + 2) 24 (bcells r).toArray hbR5 _ rfl Tryd.underlying24 rfl (by rw [List.size_toArray, bcells_length, rL.out]; exact infNode) ?_))
  have B5 := B4.trans (hB45.mono B4.size)
  clear hz4 hg5 hs5 hB45 hbA4 hbS4 hbR4 hbK4 hbL hbS5 hneq B4
  refine (mSign_any o2 r2 s2 sec r r2L.out s2L.out secL.out rL.out q hq A n c au Hn.out Ha.out Am nm cm m k1 ⟨hnm, hcm⟩ W5 ((hR.below B5).more B5.size) ((hm.below B5).more B5.size) (hT.below B5)).mono ?_
  rintro e W6 ⟨A6, c6, rfl, h6, hR6, hB6⟩
  have B6 := B5.trans (hB6.mono B5.size)
  have hbK6 := hbK5.below hB6 hbK5.lt
  clear hbA5 hbR5 hbK5 B5 hB6
  by_cases e0 : E = 0
  · obtain ⟨e1, e2, e3⟩ := Hyes.out e0
    obtain ⟨p1, p2, p3, p4, p5⟩ := signs_plain o ho sec sd sdL.out q hq au Ha.out r rL.out m (by rw [← HE.out]; exact e0)
    rw [← e2, ← e3, ← e1] at p2 p3 p4
    rw [← e2, ← e3, ← e1] at p5
    rw [← e1] at p1
    subst e0
    rw [p2]
    generalize signVal o2 sec r r2 s2 q au m = VB at *
    obtain ⟨PV, hPV⟩ : ∃ x, x = putVal o2 r2 s2 := ⟨_, rfl⟩
    have hput := putKey_any o2 r2 s2 r2L.out s2L.out
    rw [p1, ← hPV] at hput
    rw [← hPV] at p3 p5
    have P5 := Lib.hid p5
    have P3 := Lib.hid p3
    clear e1 e2 e3 p1 p2 p3 p5 hPV
    go_wp2_with ((with_reducible refine at_load 42 ?_); refine wpList_loadAll _ rfl 42 (.tmp 15) rfl gK 42 (keyCells o2 r2 s2).toArray hbK6 _ rfl Tryd.underlying42 rfl (by rw [hk65.out]; exact key65) ?_)
    refine (hput W6).mono ?_
    rintro e W7 ⟨A7, c7, rfl, h7, hR7, hB7⟩
    have B7 := B6.trans (hB7.mono B6.size)
    have hv := mVerify_any A7 PV.length c7 PV (by rw [P5.out]; omega) h7 Am nm cm m k1 ⟨hnm, hcm⟩ A6 VB.length c6 VB p4 h6 W7 hR7 ((hm.below B7).more B7.size) ((hR6.below hB7).more hB7.size) (hT.below B7)
    rw [P3.out] at hv
    clear hput hbK6
    go_wp2_with fail
    refine hv.mono ?_
    rintro e W8 ⟨rfl, hB8⟩
    have B8 := B7.trans (hB8.mono B7.size)
    clear hv
    go_wp2
    go_ret
    exact ⟨rfl, B8⟩
  · have hz := Hno.out e0
    subst hz
    have hv : signVal 0 sec r r2 s2 q au m = [] := by rw [signVal, if_neg (by simp [ableErr, isKind])]
    have he : signErr 0 sec r r2 s2 q au m = 80 := by rw [signErr, if_neg (by simp [ableErr, isKind])]; simp [ableErr, isKind]
    rw [hv, he] at *
    go_wp2
    go_ret
    exact ⟨rfl, B6⟩
end Go.Proofs.YtgfdjfglfipjfaaDoor
