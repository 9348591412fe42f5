/-
  Walk: xmss.Sign.
-/
import Derived.Test.YtgfdjfglfipjfaaDoorXmD
import Derived.Test.YtgfdjfglfipjfaaDoorBX
namespace Go.Proofs.YtgfdjfglfipjfaaDoor
open Go.RowKit Sha

/-- the signature that a key makes -/
def signG (sec r ro sd : Nd) (q : Nat) (au : List Nd) (m : List UInt8) : Sg := ⟨q, r, upto (endN sec sd q (digAll (msgH r ro q m))) 67, au⟩
def signVal (o : Nat) (sec r ro sd : Nd) (q : Nat) (au : List Nd) (m : List UInt8) : List UInt8 := if ableErr o q au.length = 0 then putSigVal (signG sec r ro sd q au m) o else []
def signErr (o : Nat) (sec r ro sd : Nd) (q : Nat) (au : List Nd) (m : List UInt8) : Int := if ableErr o q au.length = 0 then putSigErr (signG sec r ro sd q au m) o else ableErr o q au.length
theorem run_sigV (idx : Nat) (r : List UInt8) (A1 A2 : Option Addr) (n1 c1 n2 c2 : Nat) (w : World) (hr : r.length = 32) : (Instr.build 76 #[(0, .int .u32 idx), (1, .agg (bcells r).toArray), (2, .slice A1 n1 c1), (3, .slice A2 n2 c2)]).run Tryd.prog w = .ok (.agg (sigCells idx r (.slice A1 n1 c1) (.slice A2 n2 c2)).toArray) w := by
  have hl : (flat [.int .u32 idx, .agg (bcells r).toArray, .slice A1 n1 c1, .slice A2 n2 c2]) = sigCells idx r (.slice A1 n1 c1) (.slice A2 n2 c2) := by simp [flat, Value.cells, sigCells]
  have hn : (sigCells idx r (.slice A1 n1 c1) (.slice A2 n2 c2)).length = 35 := by simp [sigCells, bcells_length, hr]
  have := run_build_rows (P := Tryd.prog) w (t := 76) (z := zsig) #[(0, .int .u32 idx), (1, .agg (bcells r).toArray), (2, .slice A1 n1 c1), (3, .slice A2 n2 c2)] [.int .u32 idx, .agg (bcells r).toArray, .slice A1 n1 c1, .slice A2 n2 c2] [(0, 1), (1, 32), (33, 1), (34, 1)]
    Tryd.underlying76 (by kernel_rfl) (by kernel_rfl) rfl (by simp [Rows1, Value.cells, bcells_length, hr]) (by rw [hl, hn]; exact of_decide_eq_true (by kernel_rfl))
  rw [hl, hn] at this
  rw [this]
  have e : zsig.toList.drop 35 = [] := by kernel_rfl
  rw [e, List.append_nil]

set_option maxRecDepth 100000 in
set_option maxHeartbeats 4000000 in
theorem mSign_any (o : Nat) (ro sd sec r : Nd) (hro : ro.length = 32) (hsd : sd.length = 32) (hsec : sec.length = 32) (hr : r.length = 32) (q : Nat) (hq : q < 4294967296) (Au : Option Addr) (na ca : Nat) (au : List Nd) (hna : na = au.length) (ha32 : All32 au)
    (Am : Option Addr) (nm cm : Nat) (m : List UInt8) (hm500 : nm ≤ 500) (hmc : nm ≤ cm ∧ cm ≤ 9223372036854775807) (w : World) (hRa : Rd w w.heap.size 32 Au na (ncells au)) (hRm : Rd w w.heap.size 1 Am nm (bcells m)) (hT : Tabs w) :
    Calls Tryd.prog 21 #[.agg (keyCells o ro sd).toArray, .agg (bcells sec).toArray, .int .u32 (q : Int), .slice Au na ca, .agg (bcells r).toArray, .slice Am nm cm] w (BytesErr w (signVal o sec r ro sd q au m) (signErr o sec r ro sd q au m)) := by
  subst hna
  have roL := Lib.hid hro
  have sdL := Lib.hid hsd
  have secL := Lib.hid hsec
  have rL := Lib.hid hr
  have Ha := Lib.hid ha32
  obtain ⟨M, hM⟩ : ∃ M, M = msgH r ro q m := ⟨_, rfl⟩
  obtain ⟨PS, hPS⟩ : ∃ P, P = upto (endN sec sd q (digAll M)) 67 := ⟨_, rfl⟩
  have HMl : Hid (M.length = 32) := Lib.hid (by rw [hM]; exact keyed_length _ _)
  have HPS32 : Hid (All32 PS) := Lib.hid (by rw [hPS]; exact all32_upto (endN_length sec sd q _) _)
  have HG : Hid (signG sec r ro sd q au m = ⟨q, r, PS, au⟩) := Lib.hid (by unfold signG; rw [hPS, hM])
  have HM := Lib.hid hM
  have HPS := Lib.hid hPS
  obtain ⟨E, hE⟩ : ∃ E, E = ableErr o q au.length := ⟨_, rfl⟩
  have hVal : Hid (signVal o sec r ro sd q au m = if E = 0 then putSigVal ⟨q, r, PS, au⟩ o else []) := Lib.hid (by unfold signVal; rw [HG.out, hE])
  have hErr : Hid (signErr o sec r ro sd q au m = if E = 0 then putSigErr ⟨q, r, PS, au⟩ o else E) := Lib.hid (by unfold signErr; rw [HG.out, hE])
  have HE := Lib.hid hE
  obtain ⟨VB, hVB⟩ : ∃ x, x = signVal o sec r ro sd q au m := ⟨_, rfl⟩
  obtain ⟨VE, hVE⟩ : ∃ x, x = signErr o sec r ro sd q au m := ⟨_, rfl⟩
  rw [← hVB, ← hVE]
  have HVB := Lib.hid (hVB.trans hVal.out)
  have HVE := Lib.hid (hVE.trans hErr.out)
  clear hVB hVE
  have hbK := ((Blk.new w 42 (keyCells o ro sd).toArray).alloc (.cells (bcells sec).toArray 24)).alloc (.cells (bcells r).toArray 24)
  have hbA := (blk_new1 w (.cells (keyCells o ro sd).toArray 42) 24 (bcells sec).toArray).alloc (.cells (bcells r).toArray 24)
  have hbR := blk_new2 w (.cells (keyCells o ro sd).toArray 42) (.cells (bcells sec).toArray 24) 24 (bcells r).toArray
  have B1 : Below w.heap.size w (((w.alloc (.cells (keyCells o ro sd).toArray 42)).alloc (.cells (bcells sec).toArray 24)).alloc (.cells (bcells r).toArray 24)) := (((Below.refl _ _).alloc (Nat.le_refl _) _).alloc (by simp) _).alloc (by simp; omega) _
  clear hro hsd hsec hr ha32 hM hPS hE hVal hErr HG
  go_enter Tryd.func21, Tryd.ntmps21
  have hc := key_cell hbK
  go_wp2_with fail
  generalize ((w.alloc (.cells (keyCells o ro sd).toArray 42)).alloc (.cells (bcells sec).toArray 24)).alloc (.cells (bcells r).toArray 24) = W1 at *
  refine (able_any o q Au au.length ca W1).mono ?_
  rintro e w' ⟨rfl, hw⟩
  have hw := hw.symm
  subst hw
  rw [← HE.out]
  by_cases e0 : E = 0
  · have hVB : Hid (VB = putSigVal ⟨q, r, PS, au⟩ o) := Lib.hid (by rw [HVB.out, if_pos e0])
    have hVE : Hid (VE = putSigErr ⟨q, r, PS, au⟩ o) := Lib.hid (by rw [HVE.out, if_pos e0])
    subst e0
    have hRm1 := ((hRm.below B1).more B1.size).drew
    have hRa1 := (hRa.below B1).more B1.size
    have hT1 := hT.below B1
    have hRm := hRm1
    clear HVB HVE hc hRm1 hT
    go_wp2_with fail
    refine Flow.wp_region_flow (W1.drew.heap.size) [] [] (by kernel_rfl) (by kernel_rfl) (Nat.le_refl _) (fun _ h => by cases h) Flow.facts_nil ?_
    refine Flow.pass_val (.agg (bcells sec).toArray) (Flow.met_none rfl) (fun a W hH => ?_) ?_
    · have e0 := Flow.see_old 7 hH.sees (by kernel_rfl) (by kernel_rfl) rfl
      exact reg_load 24 _ rfl e0 (hbA.drew.below hH.below hbA.lt) Tryd.underlying24 rfl (by rw [List.size_toArray, bcells_length, secL.out]; exact infNode)
    refine Flow.pass_val (.agg (bcells r).toArray) (Flow.met_none rfl) (fun a W hH => ?_) ?_
    · have e0 := Flow.see_old 10 hH.sees (by kernel_rfl) (by kernel_rfl) rfl
      exact reg_load 24 _ rfl e0 (hbR.drew.below hH.below hbR.lt) Tryd.underlying24 rfl (by rw [List.size_toArray, bcells_length, rL.out]; exact infNode)
    refine Flow.pass_val (.pointer (some ⟨w.heap.size, 1, none⟩)) (Flow.met_none rfl) (fun a W hH => ?_) ?_
    · have e0 := Flow.see_old 6 hH.sees (by kernel_rfl) (by kernel_rfl) rfl
      go_simp; first | done | rfl
    refine Flow.pass_val (.agg (bcells ro).toArray) (Flow.met_none rfl) (fun a W hH => ?_) ?_
    · have e0 := Flow.see_new 26 2 hH.sees (by kernel_rfl) (by kernel_rfl) rfl rfl
      exact reg_loadRange 24 _ rfl e0 (key_left (hbK.drew.below hH.below hbK.lt)) Tryd.underlying24 rfl (by rw [List.size_toArray, bcells_length, roL.out]; exact infNode)
    refine Flow.pass_old (X := .int .u32 (q : Int)) 2 (Flow.met_none rfl) (.inl rfl) (by kernel_rfl) (by kernel_rfl) rfl ?_
    refine Flow.pass_old (X := .slice Am nm cm) 5 (Flow.met_none rfl) (.inl rfl) (by kernel_rfl) (by kernel_rfl) rfl ?_
    refine Flow.pass_step (Reg.eqs (.agg (bcells M).toArray)) (fun _ _ => Flow.kept_eqs _ _) (Flow.met_none rfl) (fun a W hH => ?_) ?_
    · have e0 := Flow.see_new 25 1 hH.sees (by kernel_rfl) (by kernel_rfl) rfl rfl
      have e1 := Flow.see_new 27 3 hH.sees (by kernel_rfl) (by kernel_rfl) rfl rfl
      have e2 := Flow.see_new 28 4 hH.sees (by kernel_rfl) (by kernel_rfl) rfl rfl
      have e3 := Flow.see_new 29 5 hH.sees (by kernel_rfl) (by kernel_rfl) rfl rfl
      refine Reg.wp_call rfl Tryd.func42 rfl (by kernel_rfl) (by simp [Act.eval, e0, e1, e2, e3]) (mmsg_any r ro rL.out roL.out q Am nm cm m W ((hRm.below hH.below).more hH.below.size) hm500 hmc (hT1.drew.under hH.below hT1.rounds.lt hT1.first.lt)) ?_
      rintro e w' ⟨rfl, hB⟩
      rw [← HM.out]
      exact ⟨_, rfl, _, rfl, hB, rfl⟩
    refine Flow.pass_val (.pointer (some ⟨w.heap.size, 33, none⟩)) (Flow.met_none rfl) (fun a W hH => ?_) ?_
    · have e0 := Flow.see_old 6 hH.sees (by kernel_rfl) (by kernel_rfl) rfl
      go_simp; first | done | rfl
    refine Flow.pass_val (.agg (bcells sd).toArray) (Flow.met_none rfl) (fun a W hH => ?_) ?_
    · have e0 := Flow.see_new 31 7 hH.sees (by kernel_rfl) (by kernel_rfl) rfl rfl
      exact reg_loadRange 24 _ rfl e0 (key_right roL.out (hbK.drew.below hH.below hbK.lt)) Tryd.underlying24 rfl (by rw [List.size_toArray, bcells_length, sdL.out]; exact infNode)
    refine Flow.pass_old (X := .int .u32 (q : Int)) 2 (Flow.met_none rfl) (.inl rfl) (by kernel_rfl) (by kernel_rfl) rfl ?_
    refine Flow.pass_step (nodesKc (PS)) (Flow.kept_of (kept_nodesc _) Flow.kz_nil) (Flow.met_none rfl) (fun a W hH => ?_) ?_
    · have e0 := Flow.see_new 24 0 hH.sees (by kernel_rfl) (by kernel_rfl) rfl rfl
      have e1 := Flow.see_new 30 6 hH.sees (by kernel_rfl) (by kernel_rfl) rfl rfl
      have e2 := Flow.see_new 32 8 hH.sees (by kernel_rfl) (by kernel_rfl) rfl rfl
      have e3 := Flow.see_new 33 9 hH.sees (by kernel_rfl) (by kernel_rfl) rfl rfl
      refine Reg.wp_call rfl Tryd.func41 rfl (by kernel_rfl) (by simp [Act.eval, e0, e1, e2, e3]) (msign_any sec M sd secL.out HMl.out sdL.out q W (hT1.drew.under hH.below hT1.rounds.lt hT1.first.lt)) ?_
      rintro e w' ⟨A, c, rfl, h1, h2, hB⟩
      rw [← HPS.out] at h1 h2 ⊢
      exact ⟨_, rfl, _, rfl, hB, A, c, rfl, h1, h2⟩
    refine Flow.pass_copy 34 10 (Flow.met_none rfl) (.inr rfl) (by kernel_rfl) (by kernel_rfl) rfl rfl (Flow.kept_of (kept_nodesc _) Flow.kz_nil) ?_
    refine Flow.pass_end [none, none, none, none, none, none, none, none, none, none, none, none, none, none, none, some 15, none, none, none, none, none, none, none, none, some 24, some 25, some 26, some 27, some 28, some 29, some 30, some 31, some 32, some 33, some 34, none, none, none, none, none, none, none, none, none, none] (by kernel_rfl) ?_
    intro f gg w9 hB hfa hT hfg
    obtain ⟨A15, c15, h15, g15⟩ := hT 11 _ (by kernel_rfl) rfl
    rw [← hfg 15 11 (by kernel_rfl)] at h15
    have B2 := B1.drew.trans (hB.mono B1.drew.size)
    have hbR2 := hbR.drew.below hB hbR.lt
    have hc2 := key_cell (hbK.drew.below hB hbK.lt)
    have hRa2 := ((hRa1.drew.below hB).more hB.size)
    obtain ⟨hpc, hRp⟩ := g15
    simp only [Reg.sel, h15]
    clear hfa hT hfg hB hRa1 hRm
    generalize w9 = W2 at *
    generalize A15 = P1 at *
    generalize c15 = pc at *
    go_wp2_with (first
      | ((with_reducible refine at_load 24 ?_); refine wpList_runV rfl (reg_load 24 10 rfl rfl hbR2 Tryd.underlying24 rfl (by rw [List.size_toArray, bcells_length, rL.out]; exact infNode)) ?_)
      | ((with_reducible refine at_build 76 ?_); refine wpList_buildV _ rfl #[(0, .int .u32 (q : Int)), (1, .agg (bcells r).toArray), (2, .slice P1 PS.length pc), (3, .slice Au au.length ca)] rfl (by first | rfl | simp [Act.eval]) (run_sigV q r P1 Au PS.length pc au.length ca _ rL.out) ?_))
    have ok : (Sg.mk q r PS au).ok := ⟨hq, rL.out, HPS32.out, Ha.out⟩
    refine (mPutSig_any ⟨q, r, PS, au⟩ ok o P1 Au pc ca W2 hRp hRa2).mono ?_
    rintro e W3 ⟨A9, c9, rfl, h9, hR9, hB9⟩
    have B3 := B2.trans (hB9.mono B2.size)
    clear hc2 hbR2 hRa2 hRp B2 hB9
    rw [← hVB.out] at h9 hR9 ⊢
    rw [← hVE.out]
    go_wp2
    go_ret2
    exact ⟨A9, c9, rfl, h9, hR9, B3⟩
  · have hVB : Hid (VB = []) := Lib.hid (by rw [HVB.out, if_neg e0])
    have hVE : Hid (VE = E) := Lib.hid (by rw [HVE.out, if_neg e0])
    clear HVB HVE hc
    go_wp2
    go_ret2
    rw [hVB.out, hVE.out]
    exact bytesErr_none rfl B1
end Go.Proofs.YtgfdjfglfipjfaaDoor
