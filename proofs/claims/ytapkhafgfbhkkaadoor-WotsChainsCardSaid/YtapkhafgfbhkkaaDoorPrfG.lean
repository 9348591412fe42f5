/-
  Walks: prf.Prf, portreeveref04.Prf.
-/
import Derived.Test.YtapkhafgfbhkkaaDoorPrfE
import Derived.Test.YtapkhafgfbhkkaaDoorAdrsB
namespace Go.Proofs.YtapkhafgfbhkkaaDoor
open Go.RowKit Sha

def Ad.bytes (x : Ad) : List UInt8 := adBytes x.layer x.tree x.kind x.a x.b x.c x.mask
theorem Ad.bytes_length (x : Ad) : x.bytes.length = 32 := adBytes_length _ _ _ _ _ _ _
def prfH (k : List UInt8) (x : Ad) : List UInt8 := keyed 3 (k ++ x.bytes)
theorem prfH_length (k : List UInt8) (x : Ad) : (prfH k x).length = 32 := keyed_length _ _
theorem Ad.one (x : Ad) : ∀ v ∈ x.cells.toList, v.oneCell' = true := by
  intro v hv; simp [Ad.cells] at hv; rcases hv with rfl | rfl | rfl | rfl | rfl | rfl | rfl <;> rfl
theorem Ad.size (x : Ad) : x.cells.size = 7 := rfl
theorem abytesX (x : Ad) (w : World) : Calls Tryd.prog 45 #[.agg x.cells] w fun e w' => e = .returned (.agg (bcells x.bytes).toArray) ∧ Below w.heap.size w w' := abytes_any _ _ _ _ _ _ _ w
theorem rbytesX (x : Ad) (hx : x.ok) (w : World) : Calls Tryd.prog 46 #[.agg x.cells] w fun e w' => e = .returned (.agg (bcells x.bytes).toArray) ∧ Below w.heap.size w w' := rbytes_any _ _ _ _ _ _ _ w hx.layer hx.kind hx.a hx.b hx.c hx.mask

set_option maxHeartbeats 1000000 in
theorem mprf_any (k : List UInt8) (hk : k.length = 32) (x : Ad) (w : World) (hT : Tabs w) :
    Calls Tryd.prog 25 #[.agg (bcells k).toArray, .agg x.cells] w fun e w' => e = .returned (.agg (bcells (prfH k x)).toArray) ∧ Below w.heap.size w w' := by
  have hz := zeroNode
  have hB0 : 0 < w.heap.size + 2 := by have := hT.first.lt; omega
  have hB1' : 1 < w.heap.size + 2 := by have := hT.rounds.lt; omega
  obtain ⟨S, hS⟩ : ∃ S, S = prfH k x := ⟨_, rfl⟩
  rw [← hS]
  have HSl : Hid (S.length = 32) := Lib.hid (by rw [hS]; exact keyed_length _ _)
  obtain ⟨ab, hab⟩ : ∃ ab, ab = x.bytes := ⟨_, rfl⟩
  have abL : Hid (ab.length = 32) := Lib.hid (by rw [hab]; exact x.bytes_length)
  obtain ⟨xc, hxc⟩ : ∃ xc, xc = x.cells := ⟨_, rfl⟩
  have HXC := Lib.hid hxc
  have HAB := Lib.hid hab
  have HS := Lib.hid hS
  rw [← hxc]
  have hxs : Hid (xc.size = 7) := Lib.hid (by rw [hxc]; rfl)
  have hA0 := ((Blk.new w 27 (bcells k).toArray).alloc (.cells xc 40)).alloc (.cells zn 27)
  have hX0 := (blk_new1 w (.cells (bcells k).toArray 27) 40 xc).alloc (.cells zn 27)
  have hN := blk_new2 w (.cells (bcells k).toArray 27) (.cells xc 40) 27 zn
  have hB : Below w.heap.size w (((w.alloc (.cells (bcells k).toArray 27)).alloc (.cells xc 40)).alloc (.cells zn 27)) := (((Below.refl _ _).alloc (Nat.le_refl _) _).alloc (by simp) _).alloc (by simp; omega) _
  have hT0' := ((hT.alloc (.cells (bcells k).toArray 27)).alloc (.cells xc 40)).alloc (.cells zn 27)
  clear hS hab hxc
  go_enter Tryd.func25, Tryd.ntmps25
  go_wp2_with ((with_reducible refine at_load 40 ?_); refine wpList_loadAll _ rfl 40 _ rfl (w.heap.size + 1) 40 xc hX0 _ rfl Tryd.underlying40 rfl (by rw [hxs.out]; exact infAdrs) ?_)
  generalize ((w.alloc (.cells (bcells k).toArray 27)).alloc (.cells xc 40)).alloc (.cells zn 27) = W0 at *
  rw [HXC.out]
  refine (abytesX x W0).mono ?_
  rintro e W1 ⟨rfl, hB1⟩
  rw [← HAB.out]
  have hA1 := hA0.below hB1 hA0.lt
  have hN1 := hN.below hB1 hN.lt
  have hBw := hB.trans (hB1.mono hB.size)
  have hT1 := hT0'.below hB1
  have hs1 : w.heap.size + 2 < W1.heap.size := hN1.lt
  clear hA0 hX0 hN hB hB1
  go_wp2_with ((with_reducible refine at_store 27 ?_); refine wpList_storeAll _ rfl 27 _ _ rfl W1.heap.size 27 _ (bcells ab).toArray (Blk.new W1 27 zn) rfl rfl (by rw [List.size_toArray, bcells_length, abL.out]; kernel_rfl) (by rw [List.size_toArray, bcells_length, abL.out]; kernel_rfl) (fun v hv => bcells_one _ v (by simpa using hv)) ?_; intro w5 h5 hg5 hs5)
  have hC5 : Chg (fun b => b = W1.heap.size) W1 w5 := ((Chg.refl _ W1).alloc _).trans (Chg.grown hg5 (by rintro j h; cases h; rfl))
  have hA5 := hA1.chg hC5 (show ¬ w.heap.size = W1.heap.size by omega)
  have hN := hN1.chg hC5 (show ¬ w.heap.size + 2 = W1.heap.size by omega)
  have hB5 : Below w.heap.size w w5 := hBw.trans (hC5.below (fun b hb => by have hb : b = W1.heap.size := hb; omega) (by omega))
  have hT5 : Tabs w5 := ⟨hT1.first.chg hC5 (show ¬ _ = _ by have := hT1.first.lt; omega), hT1.rounds.chg hC5 (show ¬ _ = _ by have := hT1.rounds.lt; omega)⟩
  have hgne : ¬ W1.heap.size = w.heap.size + 2 := by omega
  generalize W1.heap.size = g5 at *
  clear hC5 hg5 hs5 hA1 hN1 hBw hz
  have hsz : w.heap.size + 2 ≤ w5.drew.heap.size := Nat.le_of_lt hN.lt
  have hA : Rd w5.drew (w.heap.size + 2) 1 (some ⟨w.heap.size, 0, none⟩) 32 (bcells k) := (hA5.drew.rdB 32 (by simp [bcells_length, hk]) (by omega))
  have hT0 := hT5.drew
  have hB1 := hB1'
  have hSe : Hid (keyed 3 (Bs.all [⟨some ⟨w.heap.size, 0, none⟩, 32, 32, k⟩, ⟨some ⟨g5, 0, none⟩, 32, 32, ab⟩]) = S) := Lib.hid (by rw [HS.out, HAB.out]; simp [Bs.all, prfH])
  clear hT5 hT1 hT0' hT
  simp only [Act.put]
  refine Flow.wp_region_flow (w.heap.size + 2) [(4, fun b => b = w.heap.size + 2)] [(4, fun W => Blk W (w.heap.size + 2) 27 (zn)), (3, fun W => Blk W g5 27 ((bcells ab).toArray))] (by kernel_rfl) (by kernel_rfl) hsz (Flow.nz_cons (by rintro b rfl; exact Nat.le_refl _) Flow.nz_nil) (Flow.facts_cons (hN.drew) (Flow.kept_blk id) (Flow.fz_cons (Flow.no_follow (by kernel_rfl)) Flow.fz_nil) (Flow.facts_cons (h5.drew) (Flow.kept_blk id) (Flow.fz_cons (Flow.no_follow (by kernel_rfl)) Flow.fz_nil) Flow.facts_nil)) ?_
  refine Flow.pass_val (.slice (some ⟨w.heap.size, 0, none⟩) 32 32) (Flow.met_none rfl) (fun a W hH => ?_) ?_
  · have e0 := Flow.see_old 2 hH.sees (by kernel_rfl) (by kernel_rfl) rfl
    go_simp; first | done | rfl
  refine Flow.pass_val (.slice (some ⟨g5, 0, none⟩) 32 32) (Flow.met_none rfl) (fun a W hH => ?_) ?_
  · have e0 := Flow.see_old 5 hH.sees (by kernel_rfl) (by kernel_rfl) rfl
    go_simp; first | done | rfl
  refine Flow.pass_lin [4] (fun v W => ∃ b, v = .slice (some ⟨b, 0, none⟩) 2 2 ∧ Blk W b 25 #[.slice (some ⟨w.heap.size, 0, none⟩) 32 32, .slice (some ⟨g5, 0, none⟩) 32 32]) (Flow.kept_lin [4] (fun _ _ _ c ⟨b, h1, h2⟩ => ⟨b, h1, h2.ext c.ext⟩) (Flow.lz_cons (fun _ => .inl rfl) Flow.lz_nil)) (Flow.met_none rfl) (fun a W hH => ?_) ?_
  · have e0 := Flow.see_new 8 0 hH.sees (by kernel_rfl) (by kernel_rfl) rfl rfl
    have e1 := Flow.see_new 9 1 hH.sees (by kernel_rfl) (by kernel_rfl) rfl rfl
    refine Flow.wp_run (Flow.reg_buildSlice _ rfl (by simp [Act.eval, e0, e1]) (run_bs2 W (some ⟨w.heap.size, 0, none⟩) 32 32 (some ⟨g5, 0, none⟩) 32 32)) ?_
    exact ⟨_, rfl, Chg.of_ext ((Ext.refl W).alloc _), W.heap.size, rfl, Blk.new _ _ _⟩
  refine Flow.pass_step (Reg.eqs (.agg (bcells S).toArray)) (fun _ _ => Flow.kept_eqs _ _) (Flow.met_none rfl) (fun a W hH => ?_) ?_
  · obtain ⟨b0, e0, q0⟩ := Flow.see_lin 10 2 hH.sees (by kernel_rfl) (by kernel_rfl) rfl rfl (by kernel_rfl)
    have fa1 : (fun W => Blk W g5 27 ((bcells ab).toArray)) W := hH.fact _ (List.mem_of_getElem? (i := 1) rfl) rfl
    refine Reg.wp_call rfl Tryd.func14 rfl (by kernel_rfl) (by simp [Act.eval, e0]) (mkeyed_any 3 (by decide) (some ⟨b0, 0, none⟩) 2 2 [⟨some ⟨w.heap.size, 0, none⟩, 32, 32, k⟩, ⟨some ⟨g5, 0, none⟩, 32, 32, ab⟩] W (q0.rd rfl) (ok2 (rdN hA hH.below) (fa1.rd (by simp [bcells_length, abL.out]))) (cap2 _ _ _ _) (by simp [Bs.tot]) (by omega) (hT0.under hH.below hB1 hB0)) ?_
    rintro e w' ⟨rfl, hB⟩
    rw [hSe.out]
    exact ⟨_, rfl, _, rfl, hB, rfl⟩
  refine Flow.pass_list (fun _ W => Blk W (w.heap.size + 2) 27 (bcells S).toArray) (Flow.kept_of (fun _ _ _ c h => h.chg c id) (Flow.kz_cons (Flow.no_follow (by kernel_rfl)) Flow.kz_nil)) (Flow.met_none rfl) (fun a W hH => ?_) ?_
  · have e0 := Flow.see_old 4 hH.sees (by kernel_rfl) (by kernel_rfl) rfl
    have e1 := Flow.see_new 11 3 hH.sees (by kernel_rfl) (by kernel_rfl) rfl rfl
    have fa0 : (fun W => Blk W (w.heap.size + 2) 27 (zn)) W := hH.fact _ (List.mem_of_getElem? (i := 0) rfl) rfl
    refine wpList_storeAll W rfl 27 _ _ rfl (w.heap.size + 2) 27 _ (bcells S).toArray fa0 (by simpa [Act.eval] using e0) (by simpa [Act.eval] using e1) (by rw [List.size_toArray, bcells_length, HSl.out]; kernel_rfl) (by rw [List.size_toArray, bcells_length, HSl.out]; kernel_rfl) (fun v hv => bcells_one _ v (by simpa using hv)) ?_
    intro W2 h2 hg _
    exact Flow.qq_nil ⟨_, rfl, Chg.grown hg (by rintro k h; cases h; rfl), h2⟩
  refine Flow.pass_end [none, none, none, none, none, none, none, none, some 8, some 9, some 10, some 11] (by kernel_rfl) ?_
  intro f gg w9 hB9 hfa hT' hfg
  have h4 := hT' 4 _ (by kernel_rfl) rfl
  have hBw9 := hB5.drew.trans (hB9.mono (by omega))
  clear hfa hT' hfg hB5 hB9 hN
  simp only [Reg.sel]
  go_wp2
  refine bodyPost_ret (results_cell_row rfl _ _ (w.heap.size + 2) _ _ _ _ rfl h4 Tryd.underlying27 rfl (by rw [List.size_toArray, bcells_length, HSl.out]; kernel_rfl)) rfl ⟨rfl, hBw9⟩

set_option maxHeartbeats 1000000 in
theorem rprf_any (k : List UInt8) (hk : k.length = 32) (x : Ad) (w : World) (hx : x.ok) :
    Calls Tryd.prog 26 #[.agg (bcells k).toArray, .agg x.cells] w fun e w' => e = .returned (.agg (bcells (prfH k x)).toArray) ∧ Below w.heap.size w w' := by
  have hz := zeroNode
  obtain ⟨S, hS⟩ : ∃ S, S = prfH k x := ⟨_, rfl⟩
  rw [← hS]
  have HSl : Hid (S.length = 32) := Lib.hid (by rw [hS]; exact keyed_length _ _)
  obtain ⟨ab, hab⟩ : ∃ ab, ab = x.bytes := ⟨_, rfl⟩
  have abL : Hid (ab.length = 32) := Lib.hid (by rw [hab]; exact x.bytes_length)
  obtain ⟨xc, hxc⟩ : ∃ xc, xc = x.cells := ⟨_, rfl⟩
  have HXC := Lib.hid hxc
  have HAB := Lib.hid hab
  have HS := Lib.hid hS
  rw [← hxc]
  have hxs : Hid (xc.size = 7) := Lib.hid (by rw [hxc]; rfl)
  have hA0 := ((Blk.new w 27 (bcells k).toArray).alloc (.cells xc 40)).alloc (.cells zn 27)
  have hX0 := (blk_new1 w (.cells (bcells k).toArray 27) 40 xc).alloc (.cells zn 27)
  have hN := blk_new2 w (.cells (bcells k).toArray 27) (.cells xc 40) 27 zn
  have hB : Below w.heap.size w (((w.alloc (.cells (bcells k).toArray 27)).alloc (.cells xc 40)).alloc (.cells zn 27)) := (((Below.refl _ _).alloc (Nat.le_refl _) _).alloc (by simp) _).alloc (by simp; omega) _
  clear hS hab hxc
  go_enter Tryd.func26, Tryd.ntmps26
  go_wp2_with ((with_reducible refine at_load 40 ?_); refine wpList_loadAll _ rfl 40 _ rfl (w.heap.size + 1) 40 xc hX0 _ rfl Tryd.underlying40 rfl (by rw [hxs.out]; exact infAdrs) ?_)
  generalize ((w.alloc (.cells (bcells k).toArray 27)).alloc (.cells xc 40)).alloc (.cells zn 27) = W0 at *
  rw [HXC.out]
  refine (rbytesX x hx W0).mono ?_
  rintro e W1 ⟨rfl, hB1⟩
  rw [← HAB.out]
  have hA1 := hA0.below hB1 hA0.lt
  have hN1 := hN.below hB1 hN.lt
  have hBw := hB.trans (hB1.mono hB.size)
  have hs1 : w.heap.size + 2 < W1.heap.size := hN1.lt
  clear hA0 hX0 hN hB hB1
  go_wp2_with ((with_reducible refine at_store 27 ?_); refine wpList_storeAll _ rfl 27 _ _ rfl W1.heap.size 27 _ (bcells ab).toArray (Blk.new W1 27 zn) rfl rfl (by rw [List.size_toArray, bcells_length, abL.out]; kernel_rfl) (by rw [List.size_toArray, bcells_length, abL.out]; kernel_rfl) (fun v hv => bcells_one _ v (by simpa using hv)) ?_; intro w5 h5 hg5 hs5)
  have hC5 : Chg (fun b => b = W1.heap.size) W1 w5 := ((Chg.refl _ W1).alloc _).trans (Chg.grown hg5 (by rintro j h; cases h; rfl))
  have hA5 := hA1.chg hC5 (show ¬ w.heap.size = W1.heap.size by omega)
  have hN := hN1.chg hC5 (show ¬ w.heap.size + 2 = W1.heap.size by omega)
  have hB5 : Below w.heap.size w w5 := hBw.trans (hC5.below (fun b hb => by have hb : b = W1.heap.size := hb; omega) (by omega))
  have hgne : ¬ W1.heap.size = w.heap.size + 2 := by omega
  generalize W1.heap.size = g5 at *
  clear hC5 hg5 hs5 hA1 hN1 hBw hz
  have hsz : w.heap.size + 2 ≤ w5.drew.heap.size := Nat.le_of_lt hN.lt
  have hA : Rd w5.drew (w.heap.size + 2) 1 (some ⟨w.heap.size, 0, none⟩) 32 (bcells k) := (hA5.drew.rdB 32 (by simp [bcells_length, hk]) (by omega))
  have hSe : Hid (keyed 3 ([] ++ k ++ ab) = S) := Lib.hid (by rw [HS.out, HAB.out]; rfl)
  obtain ⟨nb, hnb'⟩ : ∃ nb, nb = w5.drew.heap.size := ⟨_, rfl⟩
  have hnb : nb ≤ w5.drew.heap.size := by omega
  have hnb5 : ¬ nb ≤ g5 := by have : g5 < w5.drew.heap.size := h5.lt; omega
  have hnb2 : ¬ nb ≤ w.heap.size + 2 := by have : w.heap.size + 2 < w5.drew.heap.size := hN.lt; omega
  clear hnb'
  simp only [Act.put]
  refine Flow.wp_region_flow (w.heap.size + 2) [(3, fun b => nb ≤ b), (5, fun b => b = w.heap.size + 2)] [(5, fun W => Blk W (w.heap.size + 2) 27 (zn)), (3, fun W => Blk W g5 27 ((bcells ab).toArray))] (by kernel_rfl) (by kernel_rfl) hsz (Flow.nz_cons (fun b h => by have h2 : nb ≤ b := h; omega) (Flow.nz_cons (by rintro b rfl; exact Nat.le_refl _) Flow.nz_nil)) (Flow.facts_cons (hN.drew) (Flow.kept_blk id) (Flow.fz_cons (fun _ => Flow.kept_blk (by first | assumption | (show ¬ _ = _; first | assumption | omega | (simp; omega)) | (show ¬ (_ ≤ _); omega))) (Flow.fz_cons (Flow.no_follow (by kernel_rfl)) Flow.fz_nil)) (Flow.facts_cons (h5.drew) (Flow.kept_blk id) (Flow.fz_cons (Flow.no_follow (by kernel_rfl)) (Flow.fz_cons (Flow.no_follow (by kernel_rfl)) Flow.fz_nil)) Flow.facts_nil)) ?_
  refine Flow.pass_val (.slice (some ⟨w.heap.size, 0, none⟩) 32 32) (Flow.met_none rfl) (fun a W hH => ?_) ?_
  · have e0 := Flow.see_old 2 hH.sees (by kernel_rfl) (by kernel_rfl) rfl
    go_simp; first | done | rfl
  refine Flow.pass_linlist [3, 5] (fun v W => ∃ A c, v = .slice A (0 + 32) c ∧ W.ownsRow nb 5 1 (.slice A (0 + 32) c) (0 + 32) (bcells ([] ++ k))) (Flow.kept_lin [3, 5] (fun _ _ _ c ⟨A, k, h1, h2⟩ => ⟨A, k, h1, own_chg h2 c (fun _ _ => id)⟩) (Flow.lz_cons (fun _ => .inl rfl) (Flow.lz_cons (fun _ => .inl rfl) Flow.lz_nil))) (Flow.met_none rfl) (fun a W hH => ?_) ?_
  · have e0 := Flow.see_new 8 0 hH.sees (by kernel_rfl) (by kernel_rfl) rfl rfl
    refine wpList_app W el8 rfl _ _ rfl nb none 0 0 _ (by simp [Act.eval]) (own_nil _ _ _ _) (w.heap.size + 2) (some ⟨w.heap.size, 0, none⟩) 32 32 (bcells k) (by simpa [Act.eval] using e0) (hA.below hH.below) (bcells_one k) (by omega) (by omega) (Nat.le_trans hnb hH.below.size) ?_
    intro A' c' W2 hO2 hg hB _
    exact Flow.qq_nil ⟨_, rfl, Chg.of_ext (Chg.grown (Z := fun _ => False) hg (by rintro j h; cases h)).ext, A', c', rfl, hO2⟩
  refine Flow.pass_val (.slice (some ⟨g5, 0, none⟩) 32 32) (Flow.met_none rfl) (fun a W hH => ?_) ?_
  · have e0 := Flow.see_old 5 hH.sees (by kernel_rfl) (by kernel_rfl) rfl
    go_simp; first | done | rfl
  refine Flow.pass_linlist [5] (fun v W => ∃ A c, v = .slice A (0 + 32 + 32) c ∧ W.ownsRow nb 5 1 (.slice A (0 + 32 + 32) c) (0 + 32 + 32) (bcells ([] ++ k ++ ab))) (Flow.kept_lin [5] (fun _ _ _ c ⟨A, k, h1, h2⟩ => ⟨A, k, h1, own_chg h2 c (fun _ _ => id)⟩) (Flow.lz_cons (Flow.no_follow (by kernel_rfl)) (Flow.lz_cons (fun _ => .inl rfl) Flow.lz_nil))) (Flow.met_none rfl) (fun a W hH => ?_) ?_
  · obtain ⟨A0, c0, e0, q0⟩ := Flow.see_lin 9 1 hH.sees (by kernel_rfl) (by kernel_rfl) rfl rfl (by kernel_rfl)
    have e1 := Flow.see_new 10 2 hH.sees (by kernel_rfl) (by kernel_rfl) rfl rfl
    have fa1 : (fun W => Blk W g5 27 ((bcells ab).toArray)) W := hH.fact _ (List.mem_of_getElem? (i := 1) rfl) rfl
    refine wpList_app W el8 rfl _ _ rfl nb A0 (0 + 32) c0 _ (by simpa [Act.eval] using e0) q0 W.heap.size (some ⟨g5, 0, none⟩) 32 32 (bcells ab) (by simpa [Act.eval] using e1) (fa1.rd (by simp [bcells_length, abL.out])) (bcells_one ab) (by omega) (by omega) (Nat.le_trans hnb hH.below.size) ?_
    intro A' c' W2 hO2 hg hB _
    exact Flow.qq_nil ⟨_, rfl, Chg.of_below hB (fun k hk _ => hk), A', c', rfl, by rw [bcells_append]; exact hO2⟩
  refine Flow.pass_step (Reg.eqs (.agg (bcells S).toArray)) (fun _ _ => Flow.kept_eqs _ _) (Flow.met_none rfl) (fun a W hH => ?_) ?_
  · obtain ⟨A0, c0, e0, q0⟩ := Flow.see_lin 11 3 hH.sees (by kernel_rfl) (by kernel_rfl) rfl rfl (by kernel_rfl)
    refine Reg.wp_call rfl Tryd.func15 rfl (by kernel_rfl) (by simp [Act.eval, e0]) (rkeyed_any 3 (by decide) A0 (0 + 32 + 32) c0 ([] ++ k ++ ab) W (Rd.of_own q0) (by omega)) ?_
    rintro e w' ⟨rfl, hB⟩
    rw [hSe.out]
    exact ⟨_, rfl, _, rfl, hB, rfl⟩
  refine Flow.pass_list (fun _ W => Blk W (w.heap.size + 2) 27 (bcells S).toArray) (Flow.kept_of (fun _ _ _ c h => h.chg c id) (Flow.kz_cons (Flow.no_follow (by kernel_rfl)) (Flow.kz_cons (Flow.no_follow (by kernel_rfl)) Flow.kz_nil))) (Flow.met_none rfl) (fun a W hH => ?_) ?_
  · have e0 := Flow.see_old 4 hH.sees (by kernel_rfl) (by kernel_rfl) rfl
    have e1 := Flow.see_new 12 4 hH.sees (by kernel_rfl) (by kernel_rfl) rfl rfl
    have fa0 : (fun W => Blk W (w.heap.size + 2) 27 (zn)) W := hH.fact _ (List.mem_of_getElem? (i := 0) rfl) rfl
    refine wpList_storeAll W rfl 27 _ _ rfl (w.heap.size + 2) 27 _ (bcells S).toArray fa0 (by simpa [Act.eval] using e0) (by simpa [Act.eval] using e1) (by rw [List.size_toArray, bcells_length, HSl.out]; kernel_rfl) (by rw [List.size_toArray, bcells_length, HSl.out]; kernel_rfl) (fun v hv => bcells_one _ v (by simpa using hv)) ?_
    intro W2 h2 hg _
    exact Flow.qq_nil ⟨_, rfl, Chg.grown hg (by rintro k h; cases h; rfl), h2⟩
  refine Flow.pass_end [none, none, none, none, none, none, none, none, some 8, some 9, some 10, some 11, some 12] (by kernel_rfl) ?_
  intro f gg w9 hB9 hfa hT' hfg
  have h4 := hT' 5 _ (by kernel_rfl) rfl
  have hBw9 := hB5.drew.trans (hB9.mono (by omega))
  clear hfa hT' hfg hB5 hB9 hN
  simp only [Reg.sel]
  go_wp2
  refine bodyPost_ret (results_cell_row rfl _ _ (w.heap.size + 2) _ _ _ _ rfl h4 Tryd.underlying27 rfl (by rw [List.size_toArray, bcells_length, HSl.out]; kernel_rfl)) rfl ⟨rfl, hBw9⟩
end Go.Proofs.YtapkhafgfbhkkaaDoor
