/-
  WOTS+ chains: plain laws; the walk of a step.
-/
import Derived.Test.YtapkhafgfbhkkaaDoorPrfI
namespace Go.Proofs.YtapkhafgfbhkkaaDoor
open Go.RowKit Sha

theorem reg_loadOff {P : Program} {o : Oper} {a : Act} {w : World} (ty : TypeId) (t : Tmp) (ho : o.op = .load ty (.tmp t)) {b off : Nat} {cs : Array Value} (he : a.tmps[t]?.getD undef = .pointer (some ⟨b, off, none⟩))
    (h : w.rangeAt b off cs.toList) {d : TypeDesc} (hu : P.underlying ty = some d) (hd : d.isRow = true) (hi : (P.info? ty).map (·.size) = some cs.size) :
    (execOp a.eval o).run P w = .ok (.value (.agg cs)) w := by
  have := run_loadAt_mid (P := P) w b off ty cs.toList d h hu hd (by simpa using hi)
  simp [execOp, ho, Act.eval, he, this]

def Ad.withC (x : Ad) (q : Nat) : Ad := ⟨x.layer, x.tree, x.kind, x.a, x.b, q, x.mask⟩
theorem Ad.ok_c {x : Ad} (h : x.ok) (q : Nat) (hq : q < 4294967296) : (x.withC q).ok := ⟨h.layer, h.tree, h.kind, h.a, h.b, hq, h.mask⟩
/-- one step of a chain -/
def stepH (x : Ad) (sd nd : List UInt8) : List UInt8 := fH (prfH sd (x.withMask 0)) (xorL nd (prfH sd (x.withMask 1)))
theorem stepH_length (x : Ad) (sd nd : List UInt8) : (stepH x sd nd).length = 32 := keyed_length _ _
/-- the address of a chain's step -/
def otsAd (a b c : Nat) : Ad := ⟨0, 0, 0, a, b, c, 0⟩
theorem otsAd_ok {a b c : Nat} (ha : a < 4294967296) (hb : b < 4294967296) (hc : c < 4294967296) : (otsAd a b c).ok := ⟨by show 0 < _; omega, by show 0 < _; omega, by show 0 < _; omega, ha, hb, hc, by show 0 < _; omega⟩
/-- the node after k steps -/
def chainN (sd : List UInt8) (a b from' : Nat) : Nat → List UInt8 → List UInt8
  | 0, nd => nd
  | k + 1, nd => stepH (otsAd a b (from' + k)) sd (chainN sd a b from' k nd)
theorem chainN_length (sd : List UInt8) (a b f : Nat) (nd : List UInt8) (h : nd.length = 32) : ∀ k, (chainN sd a b f k nd).length = 32
  | 0 => h
  | _ + 1 => stepH_length _ _ _
theorem chainN_add (sd : List UInt8) (a b f : Nat) (nd : List UInt8) (j : Nat) : ∀ k, chainN sd a b (f + j) k (chainN sd a b f j nd) = chainN sd a b f (j + k) nd
  | 0 => rfl
  | k + 1 => by
    show stepH (otsAd a b (f + j + k)) sd _ = stepH (otsAd a b (f + (j + k))) sd _
    rw [chainN_add sd a b f nd j k, Nat.add_assoc]
    rfl
/-- the link's cells -/
def linkL (x : Ad) (sd : List UInt8) : Array Value := (x.cells.toList ++ bcells sd).toArray
theorem link_set (x : Ad) (sd : List UInt8) (q : Nat) : (linkL x sd).setIfInBounds 5 (.int .u32 (q : Int)) = linkL (x.withC q) sd := by
  apply Array.ext'
  simp [linkL, Ad.cells, Ad.withC]
theorem link_5 (x : Ad) (sd : List UInt8) : (linkL x sd)[5]? = some (.int .u32 (x.c : Int)) := by simp [linkL, Ad.cells]
theorem link_x {w : World} {g : Nat} {t : TypeId} {x : Ad} {sd : List UInt8} (h : Blk w g t (linkL x sd)) : w.rangeAt g 0 x.cells.toList := by
  intro j v hv
  rw [Nat.zero_add, h.cell]
  have hj := (List.getElem?_eq_some_iff.1 hv).1
  simp only [linkL, List.getElem?_toArray, List.getElem?_append_left hj]
  exact hv
theorem link_sd {w : World} {g : Nat} {t : TypeId} {x : Ad} {sd : List UInt8} (h : Blk w g t (linkL x sd)) : w.rangeAt g 7 (bcells sd).toArray.toList := by
  intro j v hv
  rw [h.cell]
  have e : x.cells.toList.length = 7 := rfl
  simp only [linkL, List.getElem?_toArray]
  rw [List.getElem?_append_right (by omega), e, show 7 + j - 7 = j by omega]
  simpa using hv

set_option maxRecDepth 100000 in
set_option maxHeartbeats 2000000 in
theorem linkStep_any (x : Ad) (sd nd : List UInt8) (hsd : sd.length = 32) (hnd : nd.length = 32) (q : Nat) (hq : q < 4294967296) (w : World) (hT : Tabs w) :
    Calls Tryd.prog 51 #[.agg (linkL x sd), .agg (bcells nd).toArray, .int .i64 (q : Int)] w fun e w' => e = .returned (.agg (bcells (stepH (x.withC q) sd nd)).toArray) ∧ Below w.heap.size w w' := by
  have hz := zeroNode
  have hwr : IntKind.u32.wrap (q : Int) = (q : Int) := IntWalk.u32_in _ (by omega)
  have hB0 : 0 < w.heap.size + 2 := by have := hT.first.lt; omega
  have hB1 : 1 < w.heap.size + 2 := by have := hT.rounds.lt; omega
  have sL := Lib.hid hsd
  have nL := Lib.hid hnd
  obtain ⟨y, hy⟩ : ∃ y, y = x.withC q := ⟨_, rfl⟩
  rw [← hy]
  have Hset := Lib.hid (show (linkL x sd).setIfInBounds 5 (.int .u32 (q : Int)) = linkL y sd by rw [hy]; exact link_set x sd q)
  have h5 := link_5 x sd
  obtain ⟨K0, hK0⟩ : ∃ K, K = prfH sd (y.withMask 0) := ⟨_, rfl⟩
  obtain ⟨K1, hK1⟩ : ∃ K, K = prfH sd (y.withMask 1) := ⟨_, rfl⟩
  obtain ⟨X1, hX1⟩ : ∃ X, X = xorL nd K1 := ⟨_, rfl⟩
  obtain ⟨S, hS⟩ : ∃ S, S = fH K0 X1 := ⟨_, rfl⟩
  have hSS : stepH y sd nd = S := by rw [hS, hX1, hK0, hK1]; rfl
  rw [hSS]
  have HK0l : Hid (K0.length = 32) := Lib.hid (by rw [hK0]; exact keyed_length _ _)
  have HK1l : Hid (K1.length = 32) := Lib.hid (by rw [hK1]; exact keyed_length _ _)
  have HX1l : Hid (X1.length = 32) := Lib.hid (by rw [hX1]; exact xorL_length _ _ hnd HK1l.out)
  have HSl : Hid (S.length = 32) := Lib.hid (by rw [hS]; exact keyed_length _ _)
  have HK0 := Lib.hid hK0
  have HK1 := Lib.hid hK1
  have HX1 := Lib.hid hX1
  have HS := Lib.hid hS
  clear hsd hnd hK0 hK1 hX1 hS hSS hy
  obtain ⟨L0, hL0⟩ : ∃ L0, L0 = linkL x sd := ⟨_, rfl⟩
  rw [← hL0] at h5 Hset ⊢
  clear hL0
  go_enter Tryd.func51, Tryd.ntmps51
  go_wp2_with fail
  rw [Hset.out]
  have hLk := (((Blk.new w 69 (linkL y sd)).alloc (.cells (bcells nd).toArray 27)).alloc (.cells zn 27)).drew
  have hNd := ((blk_new1 w (.cells (linkL y sd) 69) 27 (bcells nd).toArray).alloc (.cells zn 27)).drew
  have hN := blk_new2 w (.cells (linkL y sd) 69) (.cells (bcells nd).toArray 27) 27 zn
  have hBw0 : Below w.heap.size w (((w.alloc (.cells (linkL y sd) 69)).alloc (.cells (bcells nd).toArray 27)).alloc (.cells zn 27)) := (((Below.refl _ _).alloc (Nat.le_refl _) _).alloc (by simp) _).alloc (by simp; omega) _
  have hT0 := (((hT.alloc (.cells (linkL y sd) 69)).alloc (.cells (bcells nd).toArray 27)).alloc (.cells zn 27)).drew
  generalize ((w.alloc (.cells (linkL y sd) 69)).alloc (.cells (bcells nd).toArray 27)).alloc (.cells zn 27) = W0 at *
  have hsz : w.heap.size + 2 ≤ W0.drew.heap.size := Nat.le_of_lt hN.lt
  clear hz hT h5 Hset
  refine Flow.wp_region_flow (w.heap.size + 2) [(15, fun b => b = w.heap.size + 2)] [(15, fun W => Blk W (w.heap.size + 2) 27 (zn))] (by kernel_rfl) (by kernel_rfl) hsz (Flow.nz_cons (by rintro b rfl; exact Nat.le_refl _) Flow.nz_nil) (Flow.facts_cons (hN.drew) (Flow.kept_blk id) (Flow.fz_cons (Flow.no_follow (by kernel_rfl)) Flow.fz_nil) Flow.facts_nil) ?_
  refine Flow.pass_val (.pointer (some ⟨w.heap.size, 7, none⟩)) (Flow.met_none rfl) (fun a W hH => ?_) ?_
  · have e0 := Flow.see_old 3 hH.sees (by kernel_rfl) (by kernel_rfl) rfl
    go_simp; first | done | rfl
  refine Flow.pass_val (.agg (bcells sd).toArray) (Flow.met_none rfl) (fun a W hH => ?_) ?_
  · have e0 := Flow.see_new 11 0 hH.sees (by kernel_rfl) (by kernel_rfl) rfl rfl
    exact reg_loadOff 27 _ rfl e0 (link_sd (hLk.below hH.below (by omega))) Tryd.underlying27 rfl (by rw [List.size_toArray, bcells_length, sL.out]; exact infNode)
  refine Flow.pass_val (.pointer (some ⟨w.heap.size, 0, none⟩)) (Flow.met_none rfl) (fun a W hH => ?_) ?_
  · have e0 := Flow.see_old 3 hH.sees (by kernel_rfl) (by kernel_rfl) rfl
    go_simp; first | done | rfl
  refine Flow.pass_val (.agg y.cells) (Flow.met_none rfl) (fun a W hH => ?_) ?_
  · have e0 := Flow.see_new 13 2 hH.sees (by kernel_rfl) (by kernel_rfl) rfl rfl
    exact reg_loadOff 40 _ rfl e0 (link_x (hLk.below hH.below (by omega))) Tryd.underlying40 rfl (by exact infAdrs)
  refine Flow.pass_step (Reg.eqs (.agg (Ad.withMask y 0).cells)) (fun _ _ => Flow.kept_eqs _ _) (Flow.met_none rfl) (fun a W hH => ?_) ?_
  · have e0 := Flow.see_new 14 3 hH.sees (by kernel_rfl) (by kernel_rfl) rfl rfl
    refine Reg.wp_call rfl Tryd.func48 rfl (by kernel_rfl) (by simp [Act.eval, e0]) (maskedX y 0 W) ?_
    rintro e w' ⟨rfl, hB⟩
    exact ⟨_, rfl, _, rfl, hB, rfl⟩
  refine Flow.pass_step (Reg.eqs (.agg (bcells K0).toArray)) (fun _ _ => Flow.kept_eqs _ _) (Flow.met_none rfl) (fun a W hH => ?_) ?_
  · have e0 := Flow.see_new 12 1 hH.sees (by kernel_rfl) (by kernel_rfl) rfl rfl
    have e1 := Flow.see_new 15 4 hH.sees (by kernel_rfl) (by kernel_rfl) rfl rfl
    refine Reg.wp_call rfl Tryd.func25 rfl (by kernel_rfl) (by simp [Act.eval, e0, e1]) (mprf_any sd sL.out (Ad.withMask y 0) W (hT0.under hH.below hB1 hB0)) ?_
    rintro e w' ⟨rfl, hB⟩
    rw [← HK0.out]
    exact ⟨_, rfl, _, rfl, hB, rfl⟩
  refine Flow.pass_val (.agg (bcells nd).toArray) (Flow.met_none rfl) (fun a W hH => ?_) ?_
  · have e0 := Flow.see_old 4 hH.sees (by kernel_rfl) (by kernel_rfl) rfl
    exact reg_load 27 _ rfl e0 (hNd.below hH.below (by omega)) Tryd.underlying27 rfl (by rw [List.size_toArray, bcells_length, nL.out]; exact infNode)
  refine Flow.pass_val (.pointer (some ⟨w.heap.size, 7, none⟩)) (Flow.met_none rfl) (fun a W hH => ?_) ?_
  · have e0 := Flow.see_old 3 hH.sees (by kernel_rfl) (by kernel_rfl) rfl
    go_simp; first | done | rfl
  refine Flow.pass_val (.agg (bcells sd).toArray) (Flow.met_none rfl) (fun a W hH => ?_) ?_
  · have e0 := Flow.see_new 18 7 hH.sees (by kernel_rfl) (by kernel_rfl) rfl rfl
    exact reg_loadOff 27 _ rfl e0 (link_sd (hLk.below hH.below (by omega))) Tryd.underlying27 rfl (by rw [List.size_toArray, bcells_length, sL.out]; exact infNode)
  refine Flow.pass_val (.pointer (some ⟨w.heap.size, 0, none⟩)) (Flow.met_none rfl) (fun a W hH => ?_) ?_
  · have e0 := Flow.see_old 3 hH.sees (by kernel_rfl) (by kernel_rfl) rfl
    go_simp; first | done | rfl
  refine Flow.pass_val (.agg y.cells) (Flow.met_none rfl) (fun a W hH => ?_) ?_
  · have e0 := Flow.see_new 20 9 hH.sees (by kernel_rfl) (by kernel_rfl) rfl rfl
    exact reg_loadOff 40 _ rfl e0 (link_x (hLk.below hH.below (by omega))) Tryd.underlying40 rfl (by exact infAdrs)
  refine Flow.pass_step (Reg.eqs (.agg (Ad.withMask y 1).cells)) (fun _ _ => Flow.kept_eqs _ _) (Flow.met_none rfl) (fun a W hH => ?_) ?_
  · have e0 := Flow.see_new 21 10 hH.sees (by kernel_rfl) (by kernel_rfl) rfl rfl
    refine Reg.wp_call rfl Tryd.func48 rfl (by kernel_rfl) (by simp [Act.eval, e0]) (maskedX y 1 W) ?_
    rintro e w' ⟨rfl, hB⟩
    exact ⟨_, rfl, _, rfl, hB, rfl⟩
  refine Flow.pass_step (Reg.eqs (.agg (bcells K1).toArray)) (fun _ _ => Flow.kept_eqs _ _) (Flow.met_none rfl) (fun a W hH => ?_) ?_
  · have e0 := Flow.see_new 19 8 hH.sees (by kernel_rfl) (by kernel_rfl) rfl rfl
    have e1 := Flow.see_new 22 11 hH.sees (by kernel_rfl) (by kernel_rfl) rfl rfl
    refine Reg.wp_call rfl Tryd.func25 rfl (by kernel_rfl) (by simp [Act.eval, e0, e1]) (mprf_any sd sL.out (Ad.withMask y 1) W (hT0.under hH.below hB1 hB0)) ?_
    rintro e w' ⟨rfl, hB⟩
    rw [← HK1.out]
    exact ⟨_, rfl, _, rfl, hB, rfl⟩
  refine Flow.pass_step (Reg.eqs (.agg (bcells X1).toArray)) (fun _ _ => Flow.kept_eqs _ _) (Flow.met_none rfl) (fun a W hH => ?_) ?_
  · have e0 := Flow.see_new 17 6 hH.sees (by kernel_rfl) (by kernel_rfl) rfl rfl
    have e1 := Flow.see_new 23 12 hH.sees (by kernel_rfl) (by kernel_rfl) rfl rfl
    refine Reg.wp_call rfl Tryd.func23 rfl (by kernel_rfl) (by simp [Act.eval, e0, e1]) (mxor_any nd K1 nL.out HK1l.out W) ?_
    rintro e w' ⟨rfl, hB⟩
    rw [← HX1.out]
    exact ⟨_, rfl, _, rfl, hB, rfl⟩
  refine Flow.pass_step (Reg.eqs (.agg (bcells S).toArray)) (fun _ _ => Flow.kept_eqs _ _) (Flow.met_none rfl) (fun a W hH => ?_) ?_
  · have e0 := Flow.see_new 16 5 hH.sees (by kernel_rfl) (by kernel_rfl) rfl rfl
    have e1 := Flow.see_new 24 13 hH.sees (by kernel_rfl) (by kernel_rfl) rfl rfl
    refine Reg.wp_call rfl Tryd.func17 rfl (by kernel_rfl) (by simp [Act.eval, e0, e1]) (mf_any K0 X1 HK0l.out HX1l.out W (hT0.under hH.below hB1 hB0)) ?_
    rintro e w' ⟨rfl, hB⟩
    rw [← HS.out]
    exact ⟨_, rfl, _, rfl, hB, rfl⟩
  refine Flow.pass_list (fun _ W => Blk W (w.heap.size + 2) 27 (bcells S).toArray) (Flow.kept_of (fun _ _ _ c h => h.chg c id) (Flow.kz_cons (Flow.no_follow (by kernel_rfl)) Flow.kz_nil)) (Flow.met_none rfl) (fun a W hH => ?_) ?_
  · have e0 := Flow.see_old 6 hH.sees (by kernel_rfl) (by kernel_rfl) rfl
    have e1 := Flow.see_new 25 14 hH.sees (by kernel_rfl) (by kernel_rfl) rfl rfl
    have fa0 : (fun W => Blk W (w.heap.size + 2) 27 (zn)) W := hH.fact _ (List.mem_of_getElem? (i := 0) rfl) rfl
    refine wpList_storeAll W rfl 27 _ _ rfl (w.heap.size + 2) 27 _ (bcells S).toArray fa0 (by simpa [Act.eval] using e0) (by simpa [Act.eval] using e1) (by rw [List.size_toArray, bcells_length, HSl.out]; kernel_rfl) (by rw [List.size_toArray, bcells_length, HSl.out]; kernel_rfl) (fun v hv => bcells_one _ v (by simpa using hv)) ?_
    intro W2 h2 hg _
    exact Flow.qq_nil ⟨_, rfl, Chg.grown hg (by rintro k h; cases h; rfl), h2⟩
  refine Flow.pass_end [none, none, none, none, none, none, none, none, none, none, none, some 11, some 12, some 13, some 14, some 15, some 16, some 17, some 18, some 19, some 20, some 21, some 22, some 23, some 24, some 25] (by kernel_rfl) ?_
  intro f gg w9 hB9 hfa hT' hfg
  have h4 := hT' 15 _ (by kernel_rfl) rfl
  have hBw9 := hBw0.drew.trans (hB9.mono (by omega))
  clear hfa hT' hfg hBw0 hB9 hN
  simp only [Reg.sel]
  go_wp2
  refine bodyPost_ret (results_cell_row rfl _ _ (w.heap.size + 2) _ _ _ _ rfl h4 Tryd.underlying27 rfl (by rw [List.size_toArray, bcells_length, HSl.out]; kernel_rfl)) rfl ⟨rfl, hBw9⟩
end Go.Proofs.YtapkhafgfbhkkaaDoor
