/-
  Walks: prf.F, prf.H.
-/
import Derived.Test.YtapkhafgfbhkkaaDoorPrfA
namespace Go.Proofs.YtapkhafgfbhkkaaDoor
open Go.RowKit Sha

theorem run_bs2 (w : World) (A : Option Addr) (n c : Nat) (A2 : Option Addr) (n2 c2 : Nat) : (Instr.buildSlice 23 2 #[(0, .slice A n c), (1, .slice A2 n2 c2)]).run Tryd.prog w = .ok (.slice (some ⟨w.heap.size, 0, none⟩) 2 2) (w.alloc (.cells #[.slice A n c, .slice A2 n2 c2] 25)) := by
  have := run_buildSlice_all (P := Tryd.prog) w elBB 2 #[(0, .slice A n c), (1, .slice A2 n2 c2)] [.slice A n c, .slice A2 n2 c2] rfl rfl (by omega) (by omega) (by simp [Value.cells])
  simpa [flat, Value.cells] using this
theorem run_bs3 (w : World) (A : Option Addr) (n c : Nat) (A2 : Option Addr) (n2 c2 : Nat) (A3 : Option Addr) (n3 c3 : Nat) : (Instr.buildSlice 23 3 #[(0, .slice A n c), (1, .slice A2 n2 c2), (2, .slice A3 n3 c3)]).run Tryd.prog w = .ok (.slice (some ⟨w.heap.size, 0, none⟩) 3 3) (w.alloc (.cells #[.slice A n c, .slice A2 n2 c2, .slice A3 n3 c3] 25)) := by
  have := run_buildSlice_all (P := Tryd.prog) w elBB 3 #[(0, .slice A n c), (1, .slice A2 n2 c2), (2, .slice A3 n3 c3)] [.slice A n c, .slice A2 n2 c2, .slice A3 n3 c3] rfl rfl (by omega) (by omega) (by simp [Value.cells])
  simpa [flat, Value.cells] using this
theorem rdN {B : Nat} {w W : World} {A : Option Addr} {l : List UInt8} (h : Rd w B 1 A 32 (bcells l)) (hb : Below B w W) (hB : B ≤ w.heap.size := by assumption) : Rd W W.heap.size 1 A 32 (bcells l) := (h.below hb).more (Nat.le_trans hB hb.size)
theorem ok2 {W : World} {A A2 : Option Addr} {c c2 : Nat} {l l2 : List UInt8} (h : Rd W W.heap.size 1 A 32 (bcells l)) (h2 : Rd W W.heap.size 1 A2 32 (bcells l2)) : ∀ b ∈ [(⟨A, 32, c, l⟩ : Bs), ⟨A2, 32, c2, l2⟩], b.ok W W.heap.size := by
  intro b hb; simp only [List.mem_cons, List.not_mem_nil, or_false] at hb; rcases hb with rfl | rfl <;> assumption
theorem ok3 {W : World} {A A2 A3 : Option Addr} {c c2 c3 : Nat} {l l2 l3 : List UInt8} (h : Rd W W.heap.size 1 A 32 (bcells l)) (h2 : Rd W W.heap.size 1 A2 32 (bcells l2)) (h3 : Rd W W.heap.size 1 A3 32 (bcells l3)) : ∀ b ∈ [(⟨A, 32, c, l⟩ : Bs), ⟨A2, 32, c2, l2⟩, ⟨A3, 32, c3, l3⟩], b.ok W W.heap.size := by
  intro b hb; simp only [List.mem_cons, List.not_mem_nil, or_false] at hb; rcases hb with rfl | rfl | rfl <;> assumption
theorem cap2 (A A2 : Option Addr) (l l2 : List UInt8) : ∀ b ∈ [(⟨A, 32, 32, l⟩ : Bs), ⟨A2, 32, 32, l2⟩], b.n ≤ b.c ∧ b.c ≤ 9223372036854775807 := by
  intro b hb; simp only [List.mem_cons, List.not_mem_nil, or_false] at hb; rcases hb with rfl | rfl <;> simp
theorem cap3 (A A2 A3 : Option Addr) (l l2 l3 : List UInt8) : ∀ b ∈ [(⟨A, 32, 32, l⟩ : Bs), ⟨A2, 32, 32, l2⟩, ⟨A3, 32, 32, l3⟩], b.n ≤ b.c ∧ b.c ≤ 9223372036854775807 := by
  intro b hb; simp only [List.mem_cons, List.not_mem_nil, or_false] at hb; rcases hb with rfl | rfl | rfl <;> simp
def fH (k m : List UInt8) : List UInt8 := keyed 0 (k ++ m)
def hH2 (k l r : List UInt8) : List UInt8 := keyed 1 (k ++ l ++ r)

set_option maxHeartbeats 1000000 in
theorem mf_any (k m : List UInt8) (hk : k.length = 32) (hm : m.length = 32) (w : World) (hT : Tabs w) :
    Calls Tryd.prog 17 #[.agg (bcells k).toArray, .agg (bcells m).toArray] w fun e w' => e = .returned (.agg (bcells (fH k m)).toArray) ∧ Below w.heap.size w w' := by
  have hz := zeroNode
  have hB0 : 0 < w.heap.size + 2 := by have := hT.first.lt; omega
  have hB1 : 1 < w.heap.size + 2 := by have := hT.rounds.lt; omega
  obtain ⟨S, hS⟩ : ∃ S, S = fH k m := ⟨_, rfl⟩
  rw [← hS]
  have HSl : Hid (S.length = 32) := Lib.hid (by rw [hS]; exact keyed_length _ _)
  have hSe : Hid (keyed 0 (Bs.all [⟨some ⟨w.heap.size, 0, none⟩, 32, 32, k⟩, ⟨some ⟨w.heap.size + 1, 0, none⟩, 32, 32, m⟩]) = S) := Lib.hid (by rw [hS]; simp [Bs.all, fH])
  have hA0 := (((Blk.new w 27 (bcells k).toArray).alloc (.cells (bcells m).toArray 27)).alloc (.cells zn 27))
  have hC0 := (blk_new1 w (.cells (bcells k).toArray 27) 27 (bcells m).toArray).alloc (.cells zn 27)
  have hN := blk_new2 w (.cells (bcells k).toArray 27) (.cells (bcells m).toArray 27) 27 zn
  have hB : Below w.heap.size w (((w.alloc (.cells (bcells k).toArray 27)).alloc (.cells (bcells m).toArray 27)).alloc (.cells zn 27)) := (((Below.refl _ _).alloc (Nat.le_refl _) _).alloc (by simp) _).alloc (by simp; omega) _
  have hT0' := ((hT.alloc (.cells (bcells k).toArray 27)).alloc (.cells (bcells m).toArray 27)).alloc (.cells zn 27)
  go_enter Tryd.func17, Tryd.ntmps17
  go_wp2_with fail
  generalize ((w.alloc (.cells (bcells k).toArray 27)).alloc (.cells (bcells m).toArray 27)).alloc (.cells zn 27) = W0 at *
  have hsz : w.heap.size + 2 ≤ W0.drew.heap.size := Nat.le_of_lt hN.lt
  have hA : Rd W0.drew (w.heap.size + 2) 1 (some ⟨w.heap.size, 0, none⟩) 32 (bcells k) := (hA0.drew.rdB 32 (by simp [bcells_length, hk]) (by omega))
  have hC : Rd W0.drew (w.heap.size + 2) 1 (some ⟨w.heap.size + 1, 0, none⟩) 32 (bcells m) := (hC0.drew.rdB 32 (by simp [bcells_length, hm]) (by omega))
  have hT0 := hT0'.drew
  clear hS hz hT hT0' hA0 hC0
  refine Flow.wp_region_flow (w.heap.size + 2) [(4, fun b => b = w.heap.size + 2)] [(4, fun W => Blk W (w.heap.size + 2) 27 (zn))] (by kernel_rfl) (by kernel_rfl) hsz (Flow.nz_cons (by rintro b rfl; exact Nat.le_refl _) Flow.nz_nil) (Flow.facts_cons (hN.drew) (Flow.kept_blk id) (Flow.fz_cons (Flow.no_follow (by kernel_rfl)) Flow.fz_nil) Flow.facts_nil) ?_
  refine Flow.pass_val (.slice (some ⟨w.heap.size, 0, none⟩) 32 32) (Flow.met_none rfl) (fun a W hH => ?_) ?_
  · have e0 := Flow.see_old 2 hH.sees (by kernel_rfl) (by kernel_rfl) rfl
    go_simp; first | done | rfl
  refine Flow.pass_val (.slice (some ⟨w.heap.size + 1, 0, none⟩) 32 32) (Flow.met_none rfl) (fun a W hH => ?_) ?_
  · have e0 := Flow.see_old 3 hH.sees (by kernel_rfl) (by kernel_rfl) rfl
    go_simp; first | done | rfl
  refine Flow.pass_lin [4] (fun v W => ∃ b, v = .slice (some ⟨b, 0, none⟩) 2 2 ∧ Blk W b 25 #[.slice (some ⟨w.heap.size, 0, none⟩) 32 32, .slice (some ⟨w.heap.size + 1, 0, none⟩) 32 32]) (Flow.kept_lin [4] (fun _ _ _ c ⟨b, h1, h2⟩ => ⟨b, h1, h2.ext c.ext⟩) (Flow.lz_cons (fun _ => .inl rfl) Flow.lz_nil)) (Flow.met_none rfl) (fun a W hH => ?_) ?_
  · have e0 := Flow.see_new 5 0 hH.sees (by kernel_rfl) (by kernel_rfl) rfl rfl
    have e1 := Flow.see_new 6 1 hH.sees (by kernel_rfl) (by kernel_rfl) rfl rfl
    refine Flow.wp_run (Flow.reg_buildSlice _ rfl (by simp [Act.eval, e0, e1]) (run_bs2 W (some ⟨w.heap.size, 0, none⟩) 32 32 (some ⟨w.heap.size + 1, 0, none⟩) 32 32)) ?_
    exact ⟨_, rfl, Chg.of_ext ((Ext.refl W).alloc _), W.heap.size, rfl, Blk.new _ _ _⟩
  refine Flow.pass_step (Reg.eqs (.agg (bcells S).toArray)) (fun _ _ => Flow.kept_eqs _ _) (Flow.met_none rfl) (fun a W hH => ?_) ?_
  · obtain ⟨b0, e0, q0⟩ := Flow.see_lin 7 2 hH.sees (by kernel_rfl) (by kernel_rfl) rfl rfl (by kernel_rfl)
    refine Reg.wp_call rfl Tryd.func14 rfl (by kernel_rfl) (by simp [Act.eval, e0]) (mkeyed_any 0 (by decide) (some ⟨b0, 0, none⟩) 2 2 [⟨some ⟨w.heap.size, 0, none⟩, 32, 32, k⟩, ⟨some ⟨w.heap.size + 1, 0, none⟩, 32, 32, m⟩] W (q0.rd rfl) (ok2 (rdN hA hH.below) (rdN hC hH.below)) (cap2 _ _ _ _) (by simp [Bs.tot]) (by omega) (hT0.under hH.below hB1 hB0)) ?_
    rintro e w' ⟨rfl, hB⟩
    rw [hSe.out]
    exact ⟨_, rfl, _, rfl, hB, rfl⟩
  refine Flow.pass_list (fun _ W => Blk W (w.heap.size + 2) 27 (bcells S).toArray) (Flow.kept_of (fun _ _ _ c h => h.chg c id) (Flow.kz_cons (Flow.no_follow (by kernel_rfl)) Flow.kz_nil)) (Flow.met_none rfl) (fun a W hH => ?_) ?_
  · have e0 := Flow.see_old 4 hH.sees (by kernel_rfl) (by kernel_rfl) rfl
    have e1 := Flow.see_new 8 3 hH.sees (by kernel_rfl) (by kernel_rfl) rfl rfl
    have fa0 : (fun W => Blk W (w.heap.size + 2) 27 (zn)) W := hH.fact _ (List.mem_of_getElem? (i := 0) rfl) rfl
    refine wpList_storeAll W rfl 27 _ _ rfl (w.heap.size + 2) 27 _ (bcells S).toArray fa0 (by simpa [Act.eval] using e0) (by simpa [Act.eval] using e1) (by rw [List.size_toArray, bcells_length, HSl.out]; kernel_rfl) (by rw [List.size_toArray, bcells_length, HSl.out]; kernel_rfl) (fun v hv => bcells_one _ v (by simpa using hv)) ?_
    intro W2 h2 hg _
    exact Flow.qq_nil ⟨_, rfl, Chg.grown hg (by rintro k h; cases h; rfl), h2⟩
  refine Flow.pass_end [none, none, none, none, none, some 5, some 6, some 7, some 8] (by kernel_rfl) ?_
  intro f gg w9 hB9 hfa hT' hfg
  have h4 := hT' 4 _ (by kernel_rfl) rfl
  have hBw9 := hB.drew.trans (hB9.mono (by omega))
  clear hfa hT' hfg hB hB9 hN
  simp only [Reg.sel]
  go_wp2
  refine bodyPost_ret (results_cell_row rfl _ _ (w.heap.size + 2) _ _ _ _ rfl h4 Tryd.underlying27 rfl (by rw [List.size_toArray, bcells_length, HSl.out]; kernel_rfl)) rfl ⟨rfl, hBw9⟩

set_option maxHeartbeats 1000000 in
theorem mh_any (k l r : List UInt8) (hk : k.length = 32) (hl : l.length = 32) (hr : r.length = 32) (w : World) (hT : Tabs w) :
    Calls Tryd.prog 19 #[.agg (bcells k).toArray, .agg (bcells l).toArray, .agg (bcells r).toArray] w fun e w' => e = .returned (.agg (bcells (hH2 k l r)).toArray) ∧ Below w.heap.size w w' := by
  have hz := zeroNode
  have hB0 : 0 < w.heap.size + 3 := by have := hT.first.lt; omega
  have hB1 : 1 < w.heap.size + 3 := by have := hT.rounds.lt; omega
  obtain ⟨S, hS⟩ : ∃ S, S = hH2 k l r := ⟨_, rfl⟩
  rw [← hS]
  have HSl : Hid (S.length = 32) := Lib.hid (by rw [hS]; exact keyed_length _ _)
  have hSe : Hid (keyed 1 (Bs.all [⟨some ⟨w.heap.size, 0, none⟩, 32, 32, k⟩, ⟨some ⟨w.heap.size + 1, 0, none⟩, 32, 32, l⟩, ⟨some ⟨w.heap.size + 2, 0, none⟩, 32, 32, r⟩]) = S) := Lib.hid (by rw [hS]; simp [Bs.all, hH2])
  have hA0 := (((Blk.new w 27 (bcells k).toArray).alloc (.cells (bcells l).toArray 27)).alloc (.cells (bcells r).toArray 27)).alloc (.cells zn 27)
  have hC0 := ((blk_new1 w (.cells (bcells k).toArray 27) 27 (bcells l).toArray).alloc (.cells (bcells r).toArray 27)).alloc (.cells zn 27)
  have hD0 := (blk_new2 w (.cells (bcells k).toArray 27) (.cells (bcells l).toArray 27) 27 (bcells r).toArray).alloc (.cells zn 27)
  have hN := blk_new3 w (.cells (bcells k).toArray 27) (.cells (bcells l).toArray 27) (.cells (bcells r).toArray 27) 27 zn
  have hB : Below w.heap.size w ((((w.alloc (.cells (bcells k).toArray 27)).alloc (.cells (bcells l).toArray 27)).alloc (.cells (bcells r).toArray 27)).alloc (.cells zn 27)) := ((((Below.refl _ _).alloc (Nat.le_refl _) _).alloc (by simp) _).alloc (by simp; omega) _).alloc (by simp; omega) _
  have hT0' := (((hT.alloc (.cells (bcells k).toArray 27)).alloc (.cells (bcells l).toArray 27)).alloc (.cells (bcells r).toArray 27)).alloc (.cells zn 27)
  go_enter Tryd.func19, Tryd.ntmps19
  go_wp2_with fail
  generalize (((w.alloc (.cells (bcells k).toArray 27)).alloc (.cells (bcells l).toArray 27)).alloc (.cells (bcells r).toArray 27)).alloc (.cells zn 27) = W0 at *
  have hsz : w.heap.size + 3 ≤ W0.drew.heap.size := Nat.le_of_lt hN.lt
  have hA : Rd W0.drew (w.heap.size + 3) 1 (some ⟨w.heap.size, 0, none⟩) 32 (bcells k) := (hA0.drew.rdB 32 (by simp [bcells_length, hk]) (by omega))
  have hC : Rd W0.drew (w.heap.size + 3) 1 (some ⟨w.heap.size + 1, 0, none⟩) 32 (bcells l) := (hC0.drew.rdB 32 (by simp [bcells_length, hl]) (by omega))
  have hD : Rd W0.drew (w.heap.size + 3) 1 (some ⟨w.heap.size + 2, 0, none⟩) 32 (bcells r) := (hD0.drew.rdB 32 (by simp [bcells_length, hr]) (by omega))
  have hT0 := hT0'.drew
  clear hS hz hT hT0' hA0 hC0 hD0
  refine Flow.wp_region_flow (w.heap.size + 3) [(5, fun b => b = w.heap.size + 3)] [(5, fun W => Blk W (w.heap.size + 3) 27 (zn))] (by kernel_rfl) (by kernel_rfl) hsz (Flow.nz_cons (by rintro b rfl; exact Nat.le_refl _) Flow.nz_nil) (Flow.facts_cons (hN.drew) (Flow.kept_blk id) (Flow.fz_cons (Flow.no_follow (by kernel_rfl)) Flow.fz_nil) Flow.facts_nil) ?_
  refine Flow.pass_val (.slice (some ⟨w.heap.size, 0, none⟩) 32 32) (Flow.met_none rfl) (fun a W hH => ?_) ?_
  · have e0 := Flow.see_old 3 hH.sees (by kernel_rfl) (by kernel_rfl) rfl
    go_simp; first | done | rfl
  refine Flow.pass_val (.slice (some ⟨w.heap.size + 1, 0, none⟩) 32 32) (Flow.met_none rfl) (fun a W hH => ?_) ?_
  · have e0 := Flow.see_old 4 hH.sees (by kernel_rfl) (by kernel_rfl) rfl
    go_simp; first | done | rfl
  refine Flow.pass_val (.slice (some ⟨w.heap.size + 2, 0, none⟩) 32 32) (Flow.met_none rfl) (fun a W hH => ?_) ?_
  · have e0 := Flow.see_old 5 hH.sees (by kernel_rfl) (by kernel_rfl) rfl
    go_simp; first | done | rfl
  refine Flow.pass_lin [5] (fun v W => ∃ b, v = .slice (some ⟨b, 0, none⟩) 3 3 ∧ Blk W b 25 #[.slice (some ⟨w.heap.size, 0, none⟩) 32 32, .slice (some ⟨w.heap.size + 1, 0, none⟩) 32 32, .slice (some ⟨w.heap.size + 2, 0, none⟩) 32 32]) (Flow.kept_lin [5] (fun _ _ _ c ⟨b, h1, h2⟩ => ⟨b, h1, h2.ext c.ext⟩) (Flow.lz_cons (fun _ => .inl rfl) Flow.lz_nil)) (Flow.met_none rfl) (fun a W hH => ?_) ?_
  · have e0 := Flow.see_new 7 0 hH.sees (by kernel_rfl) (by kernel_rfl) rfl rfl
    have e1 := Flow.see_new 8 1 hH.sees (by kernel_rfl) (by kernel_rfl) rfl rfl
    have e2 := Flow.see_new 9 2 hH.sees (by kernel_rfl) (by kernel_rfl) rfl rfl
    refine Flow.wp_run (Flow.reg_buildSlice _ rfl (by simp [Act.eval, e0, e1, e2]) (run_bs3 W (some ⟨w.heap.size, 0, none⟩) 32 32 (some ⟨w.heap.size + 1, 0, none⟩) 32 32 (some ⟨w.heap.size + 2, 0, none⟩) 32 32)) ?_
    exact ⟨_, rfl, Chg.of_ext ((Ext.refl W).alloc _), W.heap.size, rfl, Blk.new _ _ _⟩
  refine Flow.pass_step (Reg.eqs (.agg (bcells S).toArray)) (fun _ _ => Flow.kept_eqs _ _) (Flow.met_none rfl) (fun a W hH => ?_) ?_
  · obtain ⟨b0, e0, q0⟩ := Flow.see_lin 10 3 hH.sees (by kernel_rfl) (by kernel_rfl) rfl rfl (by kernel_rfl)
    refine Reg.wp_call rfl Tryd.func14 rfl (by kernel_rfl) (by simp [Act.eval, e0]) (mkeyed_any 1 (by decide) (some ⟨b0, 0, none⟩) 3 3 [⟨some ⟨w.heap.size, 0, none⟩, 32, 32, k⟩, ⟨some ⟨w.heap.size + 1, 0, none⟩, 32, 32, l⟩, ⟨some ⟨w.heap.size + 2, 0, none⟩, 32, 32, r⟩] W (q0.rd rfl) (ok3 (rdN hA hH.below) (rdN hC hH.below) (rdN hD hH.below)) (cap3 _ _ _ _ _ _) (by simp [Bs.tot]) (by omega) (hT0.under hH.below hB1 hB0)) ?_
    rintro e w' ⟨rfl, hB⟩
    rw [hSe.out]
    exact ⟨_, rfl, _, rfl, hB, rfl⟩
  refine Flow.pass_list (fun _ W => Blk W (w.heap.size + 3) 27 (bcells S).toArray) (Flow.kept_of (fun _ _ _ c h => h.chg c id) (Flow.kz_cons (Flow.no_follow (by kernel_rfl)) Flow.kz_nil)) (Flow.met_none rfl) (fun a W hH => ?_) ?_
  · have e0 := Flow.see_old 6 hH.sees (by kernel_rfl) (by kernel_rfl) rfl
    have e1 := Flow.see_new 11 4 hH.sees (by kernel_rfl) (by kernel_rfl) rfl rfl
    have fa0 : (fun W => Blk W (w.heap.size + 3) 27 (zn)) W := hH.fact _ (List.mem_of_getElem? (i := 0) rfl) rfl
    refine wpList_storeAll W rfl 27 _ _ rfl (w.heap.size + 3) 27 _ (bcells S).toArray fa0 (by simpa [Act.eval] using e0) (by simpa [Act.eval] using e1) (by rw [List.size_toArray, bcells_length, HSl.out]; kernel_rfl) (by rw [List.size_toArray, bcells_length, HSl.out]; kernel_rfl) (fun v hv => bcells_one _ v (by simpa using hv)) ?_
    intro W2 h2 hg _
    exact Flow.qq_nil ⟨_, rfl, Chg.grown hg (by rintro k h; cases h; rfl), h2⟩
  refine Flow.pass_end [none, none, none, none, none, none, none, some 7, some 8, some 9, some 10, some 11] (by kernel_rfl) ?_
  intro f gg w9 hB9 hfa hT' hfg
  have h4 := hT' 5 _ (by kernel_rfl) rfl
  have hBw9 := hB.drew.trans (hB9.mono (by omega))
  clear hfa hT' hfg hB hB9 hN
  simp only [Reg.sel]
  go_wp2
  refine bodyPost_ret (results_cell_row rfl _ _ (w.heap.size + 3) _ _ _ _ rfl h4 Tryd.underlying27 rfl (by rw [List.size_toArray, bcells_length, HSl.out]; kernel_rfl)) rfl ⟨rfl, hBw9⟩
end Go.Proofs.YtapkhafgfbhkkaaDoor
