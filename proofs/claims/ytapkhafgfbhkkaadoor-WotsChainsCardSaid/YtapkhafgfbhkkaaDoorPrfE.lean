/-
  Walks of the statements PrfXors, PrfNodes.
-/
import Derived.Test.YtapkhafgfbhkkaaDoorPrfD
namespace Go.Proofs.YtapkhafgfbhkkaaDoor
open Go.RowKit Sha

theorem reg_eqlT {P : Program} {o : Oper} {a : Act} {w : World} {t t' : TypeId} {x y : Operand} {xs ys : Array Value} {r : Bool} (ho : o.op = .binOp .eql t x y t') (hx : a.eval x = .agg xs) (hy : a.eval y = .agg ys)
    (hm : P.eqGuardType P.depth t = false) (hr : (binOp .eql t (.agg xs) (.agg ys)).run P w = .ok (.bool r) w) : (execOp a.eval o).run P w = .ok (.value (.bool r)) w := by
  unfold execOp
  simp only [ho, hx, hy, Sem.run_bind, run_eqGuard_agg w .eql t x y xs ys hm, Result.andThen_ok, hr]
  rfl
theorem run_zn (w : World) : (Instr.build 27 #[]).run Tryd.prog w = .ok (.agg zn) w := by kernel_rfl
theorem zn_eq : zn = (bcells znode).toArray := rfl
theorem made96 : madeCells (Value.int .u8 0).cells (96 * 1) = (bcells (List.replicate 96 0)).toArray := by kernel_rfl
theorem sum96 : fH znode znode = Sha.sum (List.replicate 96 0) := by
  unfold fH keyed
  congr 1

set_option maxRecDepth 100000 in
theorem awake05 (w : World) (hTb : Tabs w) : Calls Tryd.prog 13 #[] w fun e w' => e = .returned (.bool true) ∧ Below w.heap.size w w' := by
  obtain ⟨S, hS⟩ : ∃ S, S = fH znode znode := ⟨_, rfl⟩
  have HS := Lib.hid hS
  have HSl : Hid (S.length = 32) := Lib.hid (by rw [hS]; exact keyed_length _ _)
  have HS2 : Hid (S = Sha.sum (List.replicate 96 0)) := Lib.hid (by rw [hS, sum96])
  clear hS
  go_enter Tryd.func13, Tryd.ntmps13
  go_wp2_with fail
  have hT := hTb
  refine Flow.wp_region_flow (w.heap.size) [] [] (by kernel_rfl) (by kernel_rfl) (Nat.le_refl _) (fun _ h => by cases h) Flow.facts_nil ?_
  refine Flow.pass_val (.agg zn) (Flow.met_none rfl) (fun a W hH => ?_) ?_
  · exact Flow.reg_build #[] rfl (by simp) (run_zn _)
  refine Flow.pass_val (.agg zn) (Flow.met_none rfl) (fun a W hH => ?_) ?_
  · exact Flow.reg_build #[] rfl (by simp) (run_zn _)
  refine Flow.pass_step (Reg.eqs (.agg (bcells S).toArray)) (fun _ _ => Flow.kept_eqs _ _) (Flow.met_none rfl) (fun a W hH => ?_) ?_
  · have e0 := Flow.see_new 1 0 hH.sees (by kernel_rfl) (by kernel_rfl) rfl rfl
    have e1 := Flow.see_new 2 1 hH.sees (by kernel_rfl) (by kernel_rfl) rfl rfl
    refine Reg.wp_call rfl Tryd.func17 rfl (by kernel_rfl) (by simp [Act.eval, e0, e1, zn_eq]) (mf_any znode znode rfl rfl W ((hT.drew).under hH.below hT.lt hT.first.lt)) ?_
    rintro e w' ⟨rfl, hB⟩
    rw [← HS.out]
    exact ⟨_, rfl, _, rfl, hB, rfl⟩
  refine Flow.pass_list (fun v W => ∃ b, v = .slice (some ⟨b, 0, none⟩) 96 96 ∧ Blk W b 5 (bcells (List.replicate 96 0)).toArray) (Flow.kept_of (fun _ _ _ c ⟨b, h1, h2⟩ => ⟨b, h1, h2.ext c.ext⟩) Flow.kz_nil) (Flow.met_none rfl) (fun a W hH => ?_) ?_
  · refine wpList_makeN W el8 rfl _ _ rfl .i64 .i64 _ _ 96 96 rfl rfl rfl rfl (by omega) (by omega) (by omega) ?_
    intro w1 hb1 hs1 hB1
    rw [made96] at hb1
    exact Flow.qq_nil ⟨_, rfl, Chg.of_ext hB1, W.heap.size, rfl, hb1⟩
  refine Flow.pass_step (Reg.eqs (.agg (bcells S).toArray)) (fun _ _ => Flow.kept_eqs _ _) (Flow.met_none rfl) (fun a W hH => ?_) ?_
  · obtain ⟨b0, e0, q0⟩ := Flow.see_up 4 3 hH.sees (by kernel_rfl) (by kernel_rfl) rfl rfl
    refine Reg.wp_call rfl Tryd.func41 rfl (by kernel_rfl) (by simp [Act.eval, e0]) (rsum_any (some ⟨b0, 0, none⟩) 96 96 (List.replicate 96 0) W (q0.rd (by simp [bcells_length])) (by omega)) ?_
    rintro e w' ⟨rfl, hB⟩
    rw [← HS2.out]
    exact ⟨_, rfl, _, rfl, hB, rfl⟩
  refine Flow.pass_val ((.bool true)) (Flow.met_none rfl) (fun a W hH => ?_) ?_
  · have e0 := Flow.see_new 3 2 hH.sees (by kernel_rfl) (by kernel_rfl) rfl rfl
    have e1 := Flow.see_new 5 4 hH.sees (by kernel_rfl) (by kernel_rfl) rfl rfl
    exact reg_eqlT rfl (by simpa [Act.eval] using e0) (by simpa [Act.eval] using e1) nodeGuard (by have hne := nodeEq S S (HSl.out) (HSl.out) W; rw [beq_self_eq_true] at hne; exact hne)
  refine Flow.pass_copy 6 5 (Flow.met_none rfl) (.inr rfl) (by kernel_rfl) (by kernel_rfl) rfl rfl (fun _ _ => Flow.kept_eqs _ _) ?_
  refine Flow.pass_end [some 0, some 1, some 2, some 3, some 4, some 5, some 6] (by kernel_rfl) ?_
  intro f gg w9 hB hfa hT hfg
  have h0 : f 0 = _ := (hfg 0 6 (by kernel_rfl)).trans (hT 6 _ (by kernel_rfl) rfl)
  have B9 := ((Below.refl w.heap.size w).drew).trans hB
  clear hfa hT hfg hB
  simp only [Reg.sel, h0]
  go_wp2
  go_ret
  exact ⟨rfl, B9⟩

theorem u8_xor_back (x y : UInt8) : (x ^^^ y) ^^^ y = x := by
  rw [UInt8.xor_assoc, UInt8.xor_self, UInt8.xor_zero]
theorem xor_back (a b : List UInt8) (h : a.length = b.length) : xorL (xorL a b) b = a := by
  apply List.ext_getElem
  · simp [xorL, h]
  · intro i h1 h2
    simp [xorL, u8_xor_back]
theorem xor_self' (a : List UInt8) (h : a.length = 32) : xorL a a = znode := by
  apply List.ext_getElem
  · simp [xorL, h, znode]
  · intro i h1 h2
    show (xorL a a)[i] = (List.replicate 32 (0 : UInt8))[i]'(by simpa [znode] using h2)
    rw [List.getElem_replicate]
    simp [xorL, UInt8.xor_self]

set_option maxRecDepth 100000 in
set_option maxHeartbeats 2000000 in
theorem prfXors_walk (w : World) (hT : Tabs w) (la : List UInt8) (ha : la.length = 32) (lb : List UInt8) (hb : lb.length = 32) :
    Calls Tryd.prog 6 #[.agg (bcells la).toArray, .agg (bcells lb).toArray] w fun e w' => e = .returned (.bool true) ∧ Below w.heap.size w w' := by
  have laL := Lib.hid ha
  have lbL := Lib.hid hb
  obtain ⟨S, hS⟩ : ∃ S, S = xorL la lb := ⟨_, rfl⟩
  have HS := Lib.hid hS
  have HSl : Hid (S.length = 32) := Lib.hid (by rw [hS]; exact xorL_length la lb ha hb)
  have Hback : Hid (xorL S lb = la) := Lib.hid (by rw [hS]; exact xor_back la lb (by omega))
  have Hself : Hid ((bcells (xorL la la)).toArray = zn) := Lib.hid (by rw [xor_self' la ha]; rfl)
  clear ha hb hS
  have hb_la := (Blk.new w 27 (bcells la).toArray).alloc (.cells (bcells lb).toArray 27)
  have hb_lb := blk_new1 w (.cells (bcells la).toArray 27) 27 (bcells lb).toArray
  have B0 : Below w.heap.size w ((w.alloc (.cells (bcells la).toArray 27)).alloc (.cells (bcells lb).toArray 27)) := ((Below.refl _ _).alloc (Nat.le_refl _) _).alloc (by simp) _
  have hT0 := (hT.alloc (.cells (bcells la).toArray 27)).alloc (.cells (bcells lb).toArray 27)
  go_enter Tryd.func6, Tryd.ntmps6
  go_wp2_with fail
  generalize (w.alloc (.cells (bcells la).toArray 27)).alloc (.cells (bcells lb).toArray 27) = W0 at *
  refine (awake05 W0 hT0).mono ?_
  rintro e W1 ⟨rfl, hB1⟩
  have hb_la := hb_la.below hB1 hb_la.lt
  have hb_lb := hb_lb.below hB1 hb_lb.lt
  have B1 := B0.trans (hB1.mono B0.size)
  clear B0 hB1 hT hT0
  go_wp2_with fail
  have hsz : w.heap.size + 2 ≤ W1.drew.heap.size := hb_lb.drew.lt
  refine Flow.wp_region_flow (w.heap.size + 2) [] [] (by kernel_rfl) (by kernel_rfl) hsz (fun _ h => by cases h) Flow.facts_nil ?_
  refine Flow.pass_val (.agg (bcells la).toArray) (Flow.met_none rfl) (fun a W hH => ?_) ?_
  · have e0 := Flow.see_old 2 hH.sees (by kernel_rfl) (by kernel_rfl) rfl
    exact reg_load 27 _ rfl e0 (hb_la.drew.below hH.below (by omega)) Tryd.underlying27 rfl (by rw [List.size_toArray, bcells_length, laL.out]; exact infNode)
  refine Flow.pass_val (.agg (bcells lb).toArray) (Flow.met_none rfl) (fun a W hH => ?_) ?_
  · have e0 := Flow.see_old 3 hH.sees (by kernel_rfl) (by kernel_rfl) rfl
    exact reg_load 27 _ rfl e0 (hb_lb.drew.below hH.below (by omega)) Tryd.underlying27 rfl (by rw [List.size_toArray, bcells_length, lbL.out]; exact infNode)
  refine Flow.pass_step (Reg.eqs (.agg (bcells S).toArray)) (fun _ _ => Flow.kept_eqs _ _) (Flow.met_none rfl) (fun a W hH => ?_) ?_
  · have e0 := Flow.see_new 7 0 hH.sees (by kernel_rfl) (by kernel_rfl) rfl rfl
    have e1 := Flow.see_new 8 1 hH.sees (by kernel_rfl) (by kernel_rfl) rfl rfl
    refine Reg.wp_call rfl Tryd.func23 rfl (by kernel_rfl) (by simp [Act.eval, e0, e1]) (mxor_any la lb laL.out lbL.out W) ?_
    rintro e w' ⟨rfl, hB⟩
    rw [← HS.out]
    exact ⟨_, rfl, _, rfl, hB, rfl⟩
  refine Flow.pass_val (.agg (bcells la).toArray) (Flow.met_none rfl) (fun a W hH => ?_) ?_
  · have e0 := Flow.see_old 2 hH.sees (by kernel_rfl) (by kernel_rfl) rfl
    exact reg_load 27 _ rfl e0 (hb_la.drew.below hH.below (by omega)) Tryd.underlying27 rfl (by rw [List.size_toArray, bcells_length, laL.out]; exact infNode)
  refine Flow.pass_val (.agg (bcells lb).toArray) (Flow.met_none rfl) (fun a W hH => ?_) ?_
  · have e0 := Flow.see_old 3 hH.sees (by kernel_rfl) (by kernel_rfl) rfl
    exact reg_load 27 _ rfl e0 (hb_lb.drew.below hH.below (by omega)) Tryd.underlying27 rfl (by rw [List.size_toArray, bcells_length, lbL.out]; exact infNode)
  refine Flow.pass_step (Reg.eqs (.agg (bcells S).toArray)) (fun _ _ => Flow.kept_eqs _ _) (Flow.met_none rfl) (fun a W hH => ?_) ?_
  · have e0 := Flow.see_new 10 3 hH.sees (by kernel_rfl) (by kernel_rfl) rfl rfl
    have e1 := Flow.see_new 11 4 hH.sees (by kernel_rfl) (by kernel_rfl) rfl rfl
    refine Reg.wp_call rfl Tryd.func24 rfl (by kernel_rfl) (by simp [Act.eval, e0, e1]) (rxor_any la lb laL.out lbL.out W) ?_
    rintro e w' ⟨rfl, hB⟩
    rw [← HS.out]
    exact ⟨_, rfl, _, rfl, hB, rfl⟩
  refine Flow.pass_val ((.bool true)) (Flow.met_none rfl) (fun a W hH => ?_) ?_
  · have e0 := Flow.see_new 9 2 hH.sees (by kernel_rfl) (by kernel_rfl) rfl rfl
    have e1 := Flow.see_new 12 5 hH.sees (by kernel_rfl) (by kernel_rfl) rfl rfl
    exact reg_eqlT rfl (by simpa [Act.eval] using e0) (by simpa [Act.eval] using e1) nodeGuard (by have hne := nodeEq S S (HSl.out) (HSl.out) W; rw [beq_self_eq_true] at hne; exact hne)
  refine Flow.pass_copy 13 6 (Flow.met_none rfl) (.inl rfl) (by kernel_rfl) (by kernel_rfl) rfl rfl (fun _ _ => Flow.kept_eqs _ _) ?_
  refine Flow.pass_val (.agg (bcells la).toArray) (Flow.met_some 7 true 14 rfl rfl (by kernel_rfl) (by kernel_rfl) rfl rfl) (fun a W hH => ?_) ?_
  · have e0 := Flow.see_old 2 hH.sees (by kernel_rfl) (by kernel_rfl) rfl
    exact reg_load 27 _ rfl e0 (hb_la.drew.below hH.below (by omega)) Tryd.underlying27 rfl (by rw [List.size_toArray, bcells_length, laL.out]; exact infNode)
  refine Flow.pass_val (.agg (bcells lb).toArray) (Flow.met_some 7 true 14 rfl rfl (by kernel_rfl) (by kernel_rfl) rfl rfl) (fun a W hH => ?_) ?_
  · have e0 := Flow.see_old 3 hH.sees (by kernel_rfl) (by kernel_rfl) rfl
    exact reg_load 27 _ rfl e0 (hb_lb.drew.below hH.below (by omega)) Tryd.underlying27 rfl (by rw [List.size_toArray, bcells_length, lbL.out]; exact infNode)
  refine Flow.pass_step (Reg.eqs (.agg (bcells S).toArray)) (fun _ _ => Flow.kept_eqs _ _) (Flow.met_some 7 true 14 rfl rfl (by kernel_rfl) (by kernel_rfl) rfl rfl) (fun a W hH => ?_) ?_
  · have e0 := Flow.see_new 15 8 hH.sees (by kernel_rfl) (by kernel_rfl) rfl rfl
    have e1 := Flow.see_new 16 9 hH.sees (by kernel_rfl) (by kernel_rfl) rfl rfl
    refine Reg.wp_call rfl Tryd.func23 rfl (by kernel_rfl) (by simp [Act.eval, e0, e1]) (mxor_any la lb laL.out lbL.out W) ?_
    rintro e w' ⟨rfl, hB⟩
    rw [← HS.out]
    exact ⟨_, rfl, _, rfl, hB, rfl⟩
  refine Flow.pass_val (.agg (bcells lb).toArray) (Flow.met_some 7 true 14 rfl rfl (by kernel_rfl) (by kernel_rfl) rfl rfl) (fun a W hH => ?_) ?_
  · have e0 := Flow.see_old 3 hH.sees (by kernel_rfl) (by kernel_rfl) rfl
    exact reg_load 27 _ rfl e0 (hb_lb.drew.below hH.below (by omega)) Tryd.underlying27 rfl (by rw [List.size_toArray, bcells_length, lbL.out]; exact infNode)
  refine Flow.pass_step (Reg.eqs (.agg (bcells la).toArray)) (fun _ _ => Flow.kept_eqs _ _) (Flow.met_some 7 true 14 rfl rfl (by kernel_rfl) (by kernel_rfl) rfl rfl) (fun a W hH => ?_) ?_
  · have e0 := Flow.see_new 17 10 hH.sees (by kernel_rfl) (by kernel_rfl) rfl rfl
    have e1 := Flow.see_new 18 11 hH.sees (by kernel_rfl) (by kernel_rfl) rfl rfl
    refine Reg.wp_call rfl Tryd.func23 rfl (by kernel_rfl) (by simp [Act.eval, e0, e1]) (mxor_any S lb HSl.out lbL.out W) ?_
    rintro e w' ⟨rfl, hB⟩
    rw [Hback.out]
    exact ⟨_, rfl, _, rfl, hB, rfl⟩
  refine Flow.pass_val (.agg (bcells la).toArray) (Flow.met_some 7 true 14 rfl rfl (by kernel_rfl) (by kernel_rfl) rfl rfl) (fun a W hH => ?_) ?_
  · have e0 := Flow.see_old 2 hH.sees (by kernel_rfl) (by kernel_rfl) rfl
    exact reg_load 27 _ rfl e0 (hb_la.drew.below hH.below (by omega)) Tryd.underlying27 rfl (by rw [List.size_toArray, bcells_length, laL.out]; exact infNode)
  refine Flow.pass_val ((.bool true)) (Flow.met_some 7 true 14 rfl rfl (by kernel_rfl) (by kernel_rfl) rfl rfl) (fun a W hH => ?_) ?_
  · have e0 := Flow.see_new 19 12 hH.sees (by kernel_rfl) (by kernel_rfl) rfl rfl
    have e1 := Flow.see_new 20 13 hH.sees (by kernel_rfl) (by kernel_rfl) rfl rfl
    exact reg_eqlT rfl (by simpa [Act.eval] using e0) (by simpa [Act.eval] using e1) nodeGuard (by have hne := nodeEq la la (laL.out) (laL.out) W; rw [beq_self_eq_true] at hne; exact hne)
  refine Flow.pass_val ((.bool true)) (Flow.met_none rfl) (fun a W hH => ?_) ?_
  · have e0 := Flow.see_new 14 7 hH.sees (by kernel_rfl) (by kernel_rfl) rfl rfl
    have e1 := Flow.see_new 21 14 hH.sees (by kernel_rfl) (by kernel_rfl) rfl rfl
    go_simp; first | done | rfl
  refine Flow.pass_copy 22 15 (Flow.met_none rfl) (.inl rfl) (by kernel_rfl) (by kernel_rfl) rfl rfl (fun _ _ => Flow.kept_eqs _ _) ?_
  refine Flow.pass_val (.agg (bcells la).toArray) (Flow.met_some 16 true 23 rfl rfl (by kernel_rfl) (by kernel_rfl) rfl rfl) (fun a W hH => ?_) ?_
  · have e0 := Flow.see_old 2 hH.sees (by kernel_rfl) (by kernel_rfl) rfl
    exact reg_load 27 _ rfl e0 (hb_la.drew.below hH.below (by omega)) Tryd.underlying27 rfl (by rw [List.size_toArray, bcells_length, laL.out]; exact infNode)
  refine Flow.pass_val (.agg (bcells la).toArray) (Flow.met_some 16 true 23 rfl rfl (by kernel_rfl) (by kernel_rfl) rfl rfl) (fun a W hH => ?_) ?_
  · have e0 := Flow.see_old 2 hH.sees (by kernel_rfl) (by kernel_rfl) rfl
    exact reg_load 27 _ rfl e0 (hb_la.drew.below hH.below (by omega)) Tryd.underlying27 rfl (by rw [List.size_toArray, bcells_length, laL.out]; exact infNode)
  refine Flow.pass_step (Reg.eqs (.agg zn)) (fun _ _ => Flow.kept_eqs _ _) (Flow.met_some 16 true 23 rfl rfl (by kernel_rfl) (by kernel_rfl) rfl rfl) (fun a W hH => ?_) ?_
  · have e0 := Flow.see_new 24 17 hH.sees (by kernel_rfl) (by kernel_rfl) rfl rfl
    have e1 := Flow.see_new 25 18 hH.sees (by kernel_rfl) (by kernel_rfl) rfl rfl
    refine Reg.wp_call rfl Tryd.func23 rfl (by kernel_rfl) (by simp [Act.eval, e0, e1]) (mxor_any la la laL.out laL.out W) ?_
    rintro e w' ⟨rfl, hB⟩
    rw [Hself.out]
    exact ⟨_, rfl, _, rfl, hB, rfl⟩
  refine Flow.pass_val (.agg zn) (Flow.met_some 16 true 23 rfl rfl (by kernel_rfl) (by kernel_rfl) rfl rfl) (fun a W hH => ?_) ?_
  · exact Flow.reg_build #[] rfl (by simp) (run_zn _)
  refine Flow.pass_val ((.bool true)) (Flow.met_some 16 true 23 rfl rfl (by kernel_rfl) (by kernel_rfl) rfl rfl) (fun a W hH => ?_) ?_
  · have e0 := Flow.see_new 26 19 hH.sees (by kernel_rfl) (by kernel_rfl) rfl rfl
    have e1 := Flow.see_new 27 20 hH.sees (by kernel_rfl) (by kernel_rfl) rfl rfl
    exact reg_eqlT rfl (by simpa [Act.eval] using e0) (by simpa [Act.eval] using e1) nodeGuard (by have hne := nodeEq znode znode (rfl) (rfl) W; rw [beq_self_eq_true] at hne; exact hne)
  refine Flow.pass_val ((.bool true)) (Flow.met_none rfl) (fun a W hH => ?_) ?_
  · have e0 := Flow.see_new 23 16 hH.sees (by kernel_rfl) (by kernel_rfl) rfl rfl
    have e1 := Flow.see_new 28 21 hH.sees (by kernel_rfl) (by kernel_rfl) rfl rfl
    go_simp; first | done | rfl
  refine Flow.pass_copy 29 22 (Flow.met_none rfl) (.inr rfl) (by kernel_rfl) (by kernel_rfl) rfl rfl (fun _ _ => Flow.kept_eqs _ _) ?_
  refine Flow.pass_end [none, none, none, none, some 4, none, none, some 7, some 8, some 9, some 10, some 11, some 12, some 13, some 14, some 15, some 16, some 17, some 18, some 19, some 20, some 21, some 22, some 23, some 24, some 25, some 26, some 27, some 28, some 29] (by kernel_rfl) ?_
  intro f gg w9 hB hfa hT hfg
  have h4 : f 4 = _ := (hfg 4 23 (by kernel_rfl)).trans (hT 23 _ (by kernel_rfl) rfl)
  have B9 := B1.drew.trans (hB.mono (by omega))
  clear hfa hT hfg hB
  simp only [Reg.sel, h4]
  go_wp2
  go_ret
  exact ⟨rfl, B9⟩

set_option maxRecDepth 100000 in
set_option maxHeartbeats 2000000 in
theorem prfNodes_walk (w : World) (hT : Tabs w) (k : List UInt8) (hk : k.length = 32) (l : List UInt8) (hl : l.length = 32) (r : List UInt8) (hr : r.length = 32) :
    Calls Tryd.prog 4 #[.agg (bcells k).toArray, .agg (bcells l).toArray, .agg (bcells r).toArray] w fun e w' => e = .returned (.bool true) ∧ Below w.heap.size w w' := by
  have kL := Lib.hid hk
  have lL := Lib.hid hl
  have rL := Lib.hid hr
  obtain ⟨S, hS⟩ : ∃ S, S = fH k l := ⟨_, rfl⟩
  obtain ⟨U, hU⟩ : ∃ U, U = hH2 k l r := ⟨_, rfl⟩
  have HS := Lib.hid hS
  have HU := Lib.hid hU
  have HSl : Hid (S.length = 32) := Lib.hid (by rw [hS]; exact keyed_length _ _)
  have HUl : Hid (U.length = 32) := Lib.hid (by rw [hU]; exact keyed_length _ _)
  clear hk hl hr hS hU
  have hb_k := ((Blk.new w 27 (bcells k).toArray).alloc (.cells (bcells l).toArray 27)).alloc (.cells (bcells r).toArray 27)
  have hb_l := (blk_new1 w (.cells (bcells k).toArray 27) 27 (bcells l).toArray).alloc (.cells (bcells r).toArray 27)
  have hb_r := blk_new2 w (.cells (bcells k).toArray 27) (.cells (bcells l).toArray 27) 27 (bcells r).toArray
  have B0 : Below w.heap.size w (((w.alloc (.cells (bcells k).toArray 27)).alloc (.cells (bcells l).toArray 27)).alloc (.cells (bcells r).toArray 27)) := (((Below.refl _ _).alloc (Nat.le_refl _) _).alloc (by simp) _).alloc (by simp; omega) _
  have hT0 := ((hT.alloc (.cells (bcells k).toArray 27)).alloc (.cells (bcells l).toArray 27)).alloc (.cells (bcells r).toArray 27)
  have hTl := hT.lt
  have hTl0 := hT.first.lt
  go_enter Tryd.func4, Tryd.ntmps4
  go_wp2_with fail
  generalize ((w.alloc (.cells (bcells k).toArray 27)).alloc (.cells (bcells l).toArray 27)).alloc (.cells (bcells r).toArray 27) = W0 at *
  refine (awake05 W0 hT0).mono ?_
  rintro e W1 ⟨rfl, hB1⟩
  have hb_k := hb_k.below hB1 hb_k.lt
  have hb_l := hb_l.below hB1 hb_l.lt
  have hb_r := hb_r.below hB1 hb_r.lt
  have hT1 := hT0.below hB1
  have B1 := B0.trans (hB1.mono B0.size)
  clear B0 hB1 hT hT0
  go_wp2_with fail
  have hsz : w.heap.size + 3 ≤ W1.drew.heap.size := hb_r.drew.lt
  refine Flow.wp_region_flow (w.heap.size + 3) [] [] (by kernel_rfl) (by kernel_rfl) hsz (fun _ h => by cases h) Flow.facts_nil ?_
  refine Flow.pass_val (.agg (bcells k).toArray) (Flow.met_none rfl) (fun a W hH => ?_) ?_
  · have e0 := Flow.see_old 3 hH.sees (by kernel_rfl) (by kernel_rfl) rfl
    exact reg_load 27 _ rfl e0 (hb_k.drew.below hH.below (by omega)) Tryd.underlying27 rfl (by rw [List.size_toArray, bcells_length, kL.out]; exact infNode)
  refine Flow.pass_val (.agg (bcells l).toArray) (Flow.met_none rfl) (fun a W hH => ?_) ?_
  · have e0 := Flow.see_old 4 hH.sees (by kernel_rfl) (by kernel_rfl) rfl
    exact reg_load 27 _ rfl e0 (hb_l.drew.below hH.below (by omega)) Tryd.underlying27 rfl (by rw [List.size_toArray, bcells_length, lL.out]; exact infNode)
  refine Flow.pass_step (Reg.eqs (.agg (bcells S).toArray)) (fun _ _ => Flow.kept_eqs _ _) (Flow.met_none rfl) (fun a W hH => ?_) ?_
  · have e0 := Flow.see_new 9 0 hH.sees (by kernel_rfl) (by kernel_rfl) rfl rfl
    have e1 := Flow.see_new 10 1 hH.sees (by kernel_rfl) (by kernel_rfl) rfl rfl
    refine Reg.wp_call rfl Tryd.func17 rfl (by kernel_rfl) (by simp [Act.eval, e0, e1]) (mf_any k l kL.out lL.out W (hT1.drew.under hH.below (by omega) (by omega))) ?_
    rintro e w' ⟨rfl, hB⟩
    rw [← HS.out]
    exact ⟨_, rfl, _, rfl, hB, rfl⟩
  refine Flow.pass_val (.agg (bcells k).toArray) (Flow.met_none rfl) (fun a W hH => ?_) ?_
  · have e0 := Flow.see_old 3 hH.sees (by kernel_rfl) (by kernel_rfl) rfl
    exact reg_load 27 _ rfl e0 (hb_k.drew.below hH.below (by omega)) Tryd.underlying27 rfl (by rw [List.size_toArray, bcells_length, kL.out]; exact infNode)
  refine Flow.pass_val (.agg (bcells l).toArray) (Flow.met_none rfl) (fun a W hH => ?_) ?_
  · have e0 := Flow.see_old 4 hH.sees (by kernel_rfl) (by kernel_rfl) rfl
    exact reg_load 27 _ rfl e0 (hb_l.drew.below hH.below (by omega)) Tryd.underlying27 rfl (by rw [List.size_toArray, bcells_length, lL.out]; exact infNode)
  refine Flow.pass_step (Reg.eqs (.agg (bcells S).toArray)) (fun _ _ => Flow.kept_eqs _ _) (Flow.met_none rfl) (fun a W hH => ?_) ?_
  · have e0 := Flow.see_new 12 3 hH.sees (by kernel_rfl) (by kernel_rfl) rfl rfl
    have e1 := Flow.see_new 13 4 hH.sees (by kernel_rfl) (by kernel_rfl) rfl rfl
    refine Reg.wp_call rfl Tryd.func18 rfl (by kernel_rfl) (by simp [Act.eval, e0, e1]) (rf_any k l kL.out lL.out W) ?_
    rintro e w' ⟨rfl, hB⟩
    rw [← HS.out]
    exact ⟨_, rfl, _, rfl, hB, rfl⟩
  refine Flow.pass_val ((.bool true)) (Flow.met_none rfl) (fun a W hH => ?_) ?_
  · have e0 := Flow.see_new 11 2 hH.sees (by kernel_rfl) (by kernel_rfl) rfl rfl
    have e1 := Flow.see_new 14 5 hH.sees (by kernel_rfl) (by kernel_rfl) rfl rfl
    exact reg_eqlT rfl (by simpa [Act.eval] using e0) (by simpa [Act.eval] using e1) nodeGuard (by have hne := nodeEq S S (HSl.out) (HSl.out) W; rw [beq_self_eq_true] at hne; exact hne)
  refine Flow.pass_copy 15 6 (Flow.met_none rfl) (.inl rfl) (by kernel_rfl) (by kernel_rfl) rfl rfl (fun _ _ => Flow.kept_eqs _ _) ?_
  refine Flow.pass_val (.agg (bcells k).toArray) (Flow.met_some 7 true 16 rfl rfl (by kernel_rfl) (by kernel_rfl) rfl rfl) (fun a W hH => ?_) ?_
  · have e0 := Flow.see_old 3 hH.sees (by kernel_rfl) (by kernel_rfl) rfl
    exact reg_load 27 _ rfl e0 (hb_k.drew.below hH.below (by omega)) Tryd.underlying27 rfl (by rw [List.size_toArray, bcells_length, kL.out]; exact infNode)
  refine Flow.pass_val (.agg (bcells l).toArray) (Flow.met_some 7 true 16 rfl rfl (by kernel_rfl) (by kernel_rfl) rfl rfl) (fun a W hH => ?_) ?_
  · have e0 := Flow.see_old 4 hH.sees (by kernel_rfl) (by kernel_rfl) rfl
    exact reg_load 27 _ rfl e0 (hb_l.drew.below hH.below (by omega)) Tryd.underlying27 rfl (by rw [List.size_toArray, bcells_length, lL.out]; exact infNode)
  refine Flow.pass_val (.agg (bcells r).toArray) (Flow.met_some 7 true 16 rfl rfl (by kernel_rfl) (by kernel_rfl) rfl rfl) (fun a W hH => ?_) ?_
  · have e0 := Flow.see_old 5 hH.sees (by kernel_rfl) (by kernel_rfl) rfl
    exact reg_load 27 _ rfl e0 (hb_r.drew.below hH.below (by omega)) Tryd.underlying27 rfl (by rw [List.size_toArray, bcells_length, rL.out]; exact infNode)
  refine Flow.pass_step (Reg.eqs (.agg (bcells U).toArray)) (fun _ _ => Flow.kept_eqs _ _) (Flow.met_some 7 true 16 rfl rfl (by kernel_rfl) (by kernel_rfl) rfl rfl) (fun a W hH => ?_) ?_
  · have e0 := Flow.see_new 17 8 hH.sees (by kernel_rfl) (by kernel_rfl) rfl rfl
    have e1 := Flow.see_new 18 9 hH.sees (by kernel_rfl) (by kernel_rfl) rfl rfl
    have e2 := Flow.see_new 19 10 hH.sees (by kernel_rfl) (by kernel_rfl) rfl rfl
    refine Reg.wp_call rfl Tryd.func19 rfl (by kernel_rfl) (by simp [Act.eval, e0, e1, e2]) (mh_any k l r kL.out lL.out rL.out W (hT1.drew.under hH.below (by omega) (by omega))) ?_
    rintro e w' ⟨rfl, hB⟩
    rw [← HU.out]
    exact ⟨_, rfl, _, rfl, hB, rfl⟩
  refine Flow.pass_val (.agg (bcells k).toArray) (Flow.met_some 7 true 16 rfl rfl (by kernel_rfl) (by kernel_rfl) rfl rfl) (fun a W hH => ?_) ?_
  · have e0 := Flow.see_old 3 hH.sees (by kernel_rfl) (by kernel_rfl) rfl
    exact reg_load 27 _ rfl e0 (hb_k.drew.below hH.below (by omega)) Tryd.underlying27 rfl (by rw [List.size_toArray, bcells_length, kL.out]; exact infNode)
  refine Flow.pass_val (.agg (bcells l).toArray) (Flow.met_some 7 true 16 rfl rfl (by kernel_rfl) (by kernel_rfl) rfl rfl) (fun a W hH => ?_) ?_
  · have e0 := Flow.see_old 4 hH.sees (by kernel_rfl) (by kernel_rfl) rfl
    exact reg_load 27 _ rfl e0 (hb_l.drew.below hH.below (by omega)) Tryd.underlying27 rfl (by rw [List.size_toArray, bcells_length, lL.out]; exact infNode)
  refine Flow.pass_val (.agg (bcells r).toArray) (Flow.met_some 7 true 16 rfl rfl (by kernel_rfl) (by kernel_rfl) rfl rfl) (fun a W hH => ?_) ?_
  · have e0 := Flow.see_old 5 hH.sees (by kernel_rfl) (by kernel_rfl) rfl
    exact reg_load 27 _ rfl e0 (hb_r.drew.below hH.below (by omega)) Tryd.underlying27 rfl (by rw [List.size_toArray, bcells_length, rL.out]; exact infNode)
  refine Flow.pass_step (Reg.eqs (.agg (bcells U).toArray)) (fun _ _ => Flow.kept_eqs _ _) (Flow.met_some 7 true 16 rfl rfl (by kernel_rfl) (by kernel_rfl) rfl rfl) (fun a W hH => ?_) ?_
  · have e0 := Flow.see_new 21 12 hH.sees (by kernel_rfl) (by kernel_rfl) rfl rfl
    have e1 := Flow.see_new 22 13 hH.sees (by kernel_rfl) (by kernel_rfl) rfl rfl
    have e2 := Flow.see_new 23 14 hH.sees (by kernel_rfl) (by kernel_rfl) rfl rfl
    refine Reg.wp_call rfl Tryd.func20 rfl (by kernel_rfl) (by simp [Act.eval, e0, e1, e2]) (rh_any k l r kL.out lL.out rL.out W) ?_
    rintro e w' ⟨rfl, hB⟩
    rw [← HU.out]
    exact ⟨_, rfl, _, rfl, hB, rfl⟩
  refine Flow.pass_val ((.bool true)) (Flow.met_some 7 true 16 rfl rfl (by kernel_rfl) (by kernel_rfl) rfl rfl) (fun a W hH => ?_) ?_
  · have e0 := Flow.see_new 20 11 hH.sees (by kernel_rfl) (by kernel_rfl) rfl rfl
    have e1 := Flow.see_new 24 15 hH.sees (by kernel_rfl) (by kernel_rfl) rfl rfl
    exact reg_eqlT rfl (by simpa [Act.eval] using e0) (by simpa [Act.eval] using e1) nodeGuard (by have hne := nodeEq U U (HUl.out) (HUl.out) W; rw [beq_self_eq_true] at hne; exact hne)
  refine Flow.pass_val ((.bool true)) (Flow.met_none rfl) (fun a W hH => ?_) ?_
  · have e0 := Flow.see_new 16 7 hH.sees (by kernel_rfl) (by kernel_rfl) rfl rfl
    have e1 := Flow.see_new 25 16 hH.sees (by kernel_rfl) (by kernel_rfl) rfl rfl
    go_simp; first | done | rfl
  refine Flow.pass_copy 26 17 (Flow.met_none rfl) (.inr rfl) (by kernel_rfl) (by kernel_rfl) rfl rfl (fun _ _ => Flow.kept_eqs _ _) ?_
  refine Flow.pass_end [none, none, none, none, none, none, some 6, none, none, some 9, some 10, some 11, some 12, some 13, some 14, some 15, some 16, some 17, some 18, some 19, some 20, some 21, some 22, some 23, some 24, some 25, some 26] (by kernel_rfl) ?_
  intro f gg w9 hB hfa hT hfg
  have h6 : f 6 = _ := (hfg 6 18 (by kernel_rfl)).trans (hT 18 _ (by kernel_rfl) rfl)
  have B9 := B1.drew.trans (hB.mono (by omega))
  clear hfa hT hfg hB
  simp only [Reg.sel, h6]
  go_wp2
  go_ret
  exact ⟨rfl, B9⟩
end Go.Proofs.YtapkhafgfbhkkaaDoor
