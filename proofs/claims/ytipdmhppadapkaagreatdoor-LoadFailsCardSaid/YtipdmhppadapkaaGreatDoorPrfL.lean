/-
  Walk: prf.Msg.
-/
import Derived.Test.YtipdmhppadapkaaGreatDoorPrfK
import Derived.Test.YtipdmhppadapkaaGreatDoorBC
namespace Go.Proofs.YtipdmhppadapkaaGreatDoor
open Go.RowKit Sha

theorem run_bs5 (w : World) (A : Option Addr) (n c : Nat) (A2 : Option Addr) (n2 c2 : Nat) (A3 : Option Addr) (n3 c3 : Nat) (A4 : Option Addr) (n4 c4 : Nat) (A5 : Option Addr) (n5 c5 : Nat) :
    (Instr.buildSlice 153 5 #[(0, .slice A n c), (1, .slice A2 n2 c2), (2, .slice A3 n3 c3), (3, .slice A4 n4 c4), (4, .slice A5 n5 c5)]).run Tryz.prog w = .ok (.slice (some ⟨w.heap.size, 0, none⟩) 5 5) (w.alloc (.cells #[.slice A n c, .slice A2 n2 c2, .slice A3 n3 c3, .slice A4 n4 c4, .slice A5 n5 c5] 22)) := by
  have := run_buildSlice_all (P := Tryz.prog) w elBB 5 #[(0, .slice A n c), (1, .slice A2 n2 c2), (2, .slice A3 n3 c3), (3, .slice A4 n4 c4), (4, .slice A5 n5 c5)] [.slice A n c, .slice A2 n2 c2, .slice A3 n3 c3, .slice A4 n4 c4, .slice A5 n5 c5] rfl rfl (by omega) (by omega) (by simp [Value.cells])
  simpa [flat, Value.cells] using this
theorem ok5 {W : World} {b1 b2 b3 b4 b5 : Bs} (h1 : b1.ok W W.heap.size) (h2 : b2.ok W W.heap.size) (h3 : b3.ok W W.heap.size) (h4 : b4.ok W W.heap.size) (h5 : b5.ok W W.heap.size) : ∀ b ∈ [b1, b2, b3, b4, b5], b.ok W W.heap.size := by
  intro b hb; simp only [List.mem_cons, List.not_mem_nil, or_false] at hb; rcases hb with rfl | rfl | rfl | rfl | rfl <;> assumption
theorem cap5 {A1 A2 A3 A4 A : Option Addr} {l1 l2 l3 l4 l : List UInt8} {n4 c4 n c : Nat} (h4 : n4 ≤ c4 ∧ c4 ≤ 9223372036854775807) (h : n ≤ c ∧ c ≤ 9223372036854775807) :
    ∀ b ∈ [(⟨A1, 32, 32, l1⟩ : Bs), ⟨A2, 32, 32, l2⟩, ⟨A3, 28, 28, l3⟩, ⟨A4, n4, c4, l4⟩, ⟨A, n, c, l⟩], b.n ≤ b.c ∧ b.c ≤ 9223372036854775807 := by
  intro b hb; simp only [List.mem_cons, List.not_mem_nil, or_false] at hb; rcases hb with rfl | rfl | rfl | rfl | rfl
  · exact ⟨Nat.le_refl _, by show (32 : Nat) ≤ _; omega⟩
  · exact ⟨Nat.le_refl _, by show (32 : Nat) ≤ _; omega⟩
  · exact ⟨Nat.le_refl _, by show (28 : Nat) ≤ _; omega⟩
  · exact h4
  · exact h
/-- 28 zeros, as cells -/
def z28 : Array Value := (bcells (List.replicate 28 0)).toArray

set_option maxRecDepth 100000 in
set_option maxHeartbeats 2000000 in
theorem mmsg_any (r ro : List UInt8) (hr : r.length = 32) (hro : ro.length = 32) (q : Nat) (A : Option Addr) (n c : Nat) (m : List UInt8) (w : World) (hR : Rd w w.heap.size 1 A n (bcells m)) (hn : n ≤ 500) (hcc : n ≤ c ∧ c ≤ 9223372036854775807) (hT : Tabs w) :
    Calls Tryz.prog 79 #[.agg (bcells r).toArray, .agg (bcells ro).toArray, .int .u32 (q : Int), .slice A n c] w fun e w' => e = .returned (.agg (bcells (msgH r ro q m)).toArray) ∧ Below w.heap.size w w' := by
  have hz := zeroNode
  have hz2 : ∀ W, (zeroValue 195).run Tryz.prog W = .ok (.agg z28) W := fun W => by kernel_rfl
  have hB0 : 0 < w.heap.size + 2 := by have := hT.first.lt; omega
  have hB1 : 1 < w.heap.size + 2 := by have := hT.rounds.lt; omega
  obtain ⟨S, hS⟩ : ∃ S, S = msgH r ro q m := ⟨_, rfl⟩
  rw [← hS]
  have HSl : Hid (S.length = 32) := Lib.hid (by rw [hS]; exact keyed_length _ _)
  have hSe : Hid (∀ (A1 : Option Addr) (c1 : Nat), keyed 2 (Bs.all [⟨some ⟨w.heap.size, 0, none⟩, 32, 32, r⟩, ⟨some ⟨w.heap.size + 1, 0, none⟩, 32, 32, ro⟩, ⟨some ⟨w.heap.size + 3, 0, none⟩, 28, 28, List.replicate 28 0⟩, ⟨A1, 0 + 4 * 1, c1, [] ++ putAll [q] 4 false⟩, ⟨A, n, c, m⟩]) = S) :=
    Lib.hid (fun A1 c1 => by rw [hS]; simp [Bs.all, msgH, putAll])
  have hA0 := ((((Blk.new w 39 (bcells r).toArray).alloc (.cells (bcells ro).toArray 39)).alloc (.cells zn 39)).alloc (.cells z28 195))
  have hC0 := ((blk_new1 w (.cells (bcells r).toArray 39) 39 (bcells ro).toArray).alloc (.cells zn 39)).alloc (.cells z28 195)
  have hN := (blk_new2 w (.cells (bcells r).toArray 39) (.cells (bcells ro).toArray 39) 39 zn).alloc (.cells z28 195)
  have hZ := blk_new3 w (.cells (bcells r).toArray 39) (.cells (bcells ro).toArray 39) (.cells zn 39) 195 z28
  have hBw0 : Below w.heap.size w ((((w.alloc (.cells (bcells r).toArray 39)).alloc (.cells (bcells ro).toArray 39)).alloc (.cells zn 39)).alloc (.cells z28 195)) := ((((Below.refl _ _).alloc (Nat.le_refl _) _).alloc (by simp) _).alloc (by simp; omega) _).alloc (by simp; omega) _
  have hT0' := (((hT.alloc (.cells (bcells r).toArray 39)).alloc (.cells (bcells ro).toArray 39)).alloc (.cells zn 39)).alloc (.cells z28 195)
  go_enter Tryz.func79, Tryz.ntmps79
  go_wp2_with fail
  generalize (((w.alloc (.cells (bcells r).toArray 39)).alloc (.cells (bcells ro).toArray 39)).alloc (.cells zn 39)).alloc (.cells z28 195) = W0 at *
  have hsz : w.heap.size + 2 ≤ W0.drew.heap.size := Nat.le_of_lt hN.lt
  have hA : Rd W0.drew (w.heap.size + 2) 1 (some ⟨w.heap.size, 0, none⟩) 32 (bcells r) := (hA0.drew.rdB 32 (by simp [bcells_length, hr]) (by omega))
  have hC : Rd W0.drew (w.heap.size + 2) 1 (some ⟨w.heap.size + 1, 0, none⟩) 32 (bcells ro) := (hC0.drew.rdB 32 (by simp [bcells_length, hro]) (by omega))
  have hM : Rd W0.drew (w.heap.size + 2) 1 A n (bcells m) := (hR.below hBw0.drew).more (by omega)
  have hT0 := hT0'.drew
  clear hS hz hz2 hT hT0' hA0 hC0 hR
  refine Flow.wp_region_flow (w.heap.size + 2) [(9, fun b => b = w.heap.size + 2)] [(9, fun W => Blk W (w.heap.size + 2) 39 (zn)), (8, fun W => Blk W (w.heap.size + 3) 195 (z28))] (by kernel_rfl) (by kernel_rfl) hsz (Flow.nz_cons (by rintro b rfl; exact Nat.le_refl _) Flow.nz_nil) (Flow.facts_cons (hN.drew) (Flow.kept_blk id) (Flow.fz_cons (Flow.no_follow (by kernel_rfl)) Flow.fz_nil) (Flow.facts_cons (hZ.drew) (Flow.kept_blk id) (Flow.fz_cons (Flow.no_follow (by kernel_rfl)) Flow.fz_nil) Flow.facts_nil)) ?_
  refine Flow.pass_val (.slice (some ⟨w.heap.size, 0, none⟩) 32 32) (Flow.met_none rfl) (fun a W hH => ?_) ?_
  · have e0 := Flow.see_old 4 hH.sees (by kernel_rfl) (by kernel_rfl) rfl
    go_simp; first | done | rfl
  refine Flow.pass_val (.slice (some ⟨w.heap.size + 1, 0, none⟩) 32 32) (Flow.met_none rfl) (fun a W hH => ?_) ?_
  · have e0 := Flow.see_old 5 hH.sees (by kernel_rfl) (by kernel_rfl) rfl
    go_simp; first | done | rfl
  refine Flow.pass_val (.slice (some ⟨w.heap.size + 3, 0, none⟩) 28 28) (Flow.met_none rfl) (fun a W hH => ?_) ?_
  · have e0 := Flow.see_old 9 hH.sees (by kernel_rfl) (by kernel_rfl) rfl
    go_simp; first | done | rfl
  refine Flow.pass_old 2 (Flow.met_none rfl) (.inl rfl) (by kernel_rfl) (by kernel_rfl) rfl ?_
  refine Flow.pass_lin [9] (fun v W => ∃ b, v = .slice (some ⟨b, 0, none⟩) 1 1 ∧ Blk W b 23 #[.int .u32 (q : Int)]) (Flow.kept_lin [9] (fun _ _ _ c ⟨b, h1, h2⟩ => ⟨b, h1, h2.ext c.ext⟩) (Flow.lz_cons (fun _ => .inl rfl) Flow.lz_nil)) (Flow.met_none rfl) (fun a W hH => ?_) ?_
  · have e0 := Flow.see_new 13 3 hH.sees (by kernel_rfl) (by kernel_rfl) rfl rfl
    refine Flow.wp_run (Flow.reg_buildSlice _ rfl (by simp [Act.eval, e0]) (run_build32 W q)) ?_
    exact ⟨_, rfl, Chg.of_ext ((Ext.refl W).alloc _), W.heap.size, rfl, Blk.new _ _ _⟩
  refine Flow.pass_lin [9] (fun v W => ∃ A c, v = .slice A (0 + 4 * 1) c ∧ (0 + 4 * 1 ≤ c ∧ c ≤ 9223372036854775807) ∧ Rd W W.heap.size 1 A (0 + 4 * 1) (bcells ([] ++ putAll [q] 4 false))) (Flow.kept_lin [9] (fun _ _ _ c ⟨A, k, h1, h2, h3⟩ => ⟨A, k, h1, h2, h3.ext c.ext⟩) (Flow.lz_cons (fun _ => .inl rfl) Flow.lz_nil)) (Flow.met_none rfl) (fun a W hH => ?_) ?_
  · obtain ⟨b0, e0, q0⟩ := Flow.see_lin 14 4 hH.sees (by kernel_rfl) (by kernel_rfl) rfl rfl (by kernel_rfl)
    refine Flow.wp_callZ rfl Tryz.func120 rfl (by kernel_rfl) (by simp [Act.eval, e0]) (putBe32_any none 0 0 [] W (some ⟨b0, 0, none⟩) 1 1 [q] (Rd.nil _ _ _ _) (by omega) (q0.rd rfl) (by omega)) ?_
    rintro e w' ⟨A9, c9, rfl, hO, hB⟩
    exact ⟨_, rfl, Chg.of_ext hB, A9, c9, rfl, own_cap hO, Rd.of_own hO⟩
  refine Flow.pass_old 3 (Flow.met_none rfl) (.inl rfl) (by kernel_rfl) (by kernel_rfl) rfl ?_
  refine Flow.pass_lin [9] (fun v W => ∃ b A5 c5, v = .slice (some ⟨b, 0, none⟩) 5 5 ∧ Blk W b 22 #[.slice (some ⟨w.heap.size, 0, none⟩) 32 32, .slice (some ⟨w.heap.size + 1, 0, none⟩) 32 32, .slice (some ⟨w.heap.size + 3, 0, none⟩) 28 28, .slice A5 (0 + 4 * 1) c5, .slice A n c] ∧ (0 + 4 * 1 ≤ c5 ∧ c5 ≤ 9223372036854775807) ∧ Rd W W.heap.size 1 A5 (0 + 4 * 1) (bcells ([] ++ putAll [q] 4 false))) (Flow.kept_lin [9] (fun _ _ _ c ⟨b, A5, c5, h1, h2, h3, h4⟩ => ⟨b, A5, c5, h1, h2.ext c.ext, h3, h4.ext c.ext⟩) (Flow.lz_cons (fun _ => .inl rfl) Flow.lz_nil)) (Flow.met_none rfl) (fun a W hH => ?_) ?_
  · have e0 := Flow.see_new 10 0 hH.sees (by kernel_rfl) (by kernel_rfl) rfl rfl
    have e1 := Flow.see_new 11 1 hH.sees (by kernel_rfl) (by kernel_rfl) rfl rfl
    have e2 := Flow.see_new 12 2 hH.sees (by kernel_rfl) (by kernel_rfl) rfl rfl
    obtain ⟨A3, c3, e3, q3⟩ := Flow.see_lin 15 5 hH.sees (by kernel_rfl) (by kernel_rfl) rfl rfl (by kernel_rfl)
    have e4 := Flow.see_new 16 6 hH.sees (by kernel_rfl) (by kernel_rfl) rfl rfl
    refine Flow.wp_run (Flow.reg_buildSlice _ rfl (by simp [Act.eval, e0, e1, e2, e3, e4]) (run_bs5 W (some ⟨w.heap.size, 0, none⟩) 32 32 (some ⟨w.heap.size + 1, 0, none⟩) 32 32 (some ⟨w.heap.size + 3, 0, none⟩) 28 28 A3 (0 + 4 * 1) c3 A n c)) ?_
    exact ⟨_, rfl, Chg.of_ext ((Ext.refl W).alloc _), W.heap.size, A3, c3, rfl, Blk.new _ _ _, q3.1, q3.2.ext ((Ext.refl W).alloc _)⟩
  refine Flow.pass_step (Reg.eqs (.agg (bcells S).toArray)) (fun _ _ => Flow.kept_eqs _ _) (Flow.met_none rfl) (fun a W hH => ?_) ?_
  · obtain ⟨b0, A0, c0, e0, q0⟩ := Flow.see_lin 17 7 hH.sees (by kernel_rfl) (by kernel_rfl) rfl rfl (by kernel_rfl)
    have fa1 : (fun W => Blk W (w.heap.size + 3) 195 (z28)) W := hH.fact _ (List.mem_of_getElem? (i := 1) rfl) rfl
    refine Reg.wp_call rfl Tryz.func119 rfl (by kernel_rfl) (by simp [Act.eval, e0]) (mkeyed_any 2 (by decide) (some ⟨b0, 0, none⟩) 5 5 [⟨some ⟨w.heap.size, 0, none⟩, 32, 32, r⟩, ⟨some ⟨w.heap.size + 1, 0, none⟩, 32, 32, ro⟩, ⟨some ⟨w.heap.size + 3, 0, none⟩, 28, 28, List.replicate 28 0⟩, ⟨A0, 0 + 4 * 1, c0, [] ++ putAll [q] 4 false⟩, ⟨A, n, c, m⟩] W (q0.1.rd rfl) (ok5 (rdN hA hH.below) (rdN hC hH.below) (fa1.rd (by kernel_rfl)) q0.2.2 ((hM.below hH.below).more (Nat.le_trans hsz hH.below.size))) (cap5 q0.2.1 hcc) (by simp only [Bs.tot, List.map_cons, List.map_nil, List.sum_cons, List.sum_nil]; omega) (by omega) (hT0.under hH.below hB1 hB0)) ?_
    rintro e w' ⟨rfl, hB⟩
    rw [hSe.out]
    exact ⟨_, rfl, _, rfl, hB, rfl⟩
  refine Flow.pass_list (fun _ W => Blk W (w.heap.size + 2) 39 (bcells S).toArray) (Flow.kept_of (fun _ _ _ c h => h.chg c id) (Flow.kz_cons (Flow.no_follow (by kernel_rfl)) Flow.kz_nil)) (Flow.met_none rfl) (fun a W hH => ?_) ?_
  · have e0 := Flow.see_old 8 hH.sees (by kernel_rfl) (by kernel_rfl) rfl
    have e1 := Flow.see_new 18 8 hH.sees (by kernel_rfl) (by kernel_rfl) rfl rfl
    have fa0 : (fun W => Blk W (w.heap.size + 2) 39 (zn)) W := hH.fact _ (List.mem_of_getElem? (i := 0) rfl) rfl
    refine wpList_storeAll W rfl 39 _ _ rfl (w.heap.size + 2) 39 _ (bcells S).toArray fa0 (by simpa [Act.eval] using e0) (by simpa [Act.eval] using e1) (by rw [List.size_toArray, bcells_length, HSl.out]; kernel_rfl) (by rw [List.size_toArray, bcells_length, HSl.out]; kernel_rfl) (fun v hv => bcells_one _ v (by simpa using hv)) ?_
    intro W2 h2 hg _
    exact Flow.qq_nil ⟨_, rfl, Chg.grown hg (by rintro k h; cases h; rfl), h2⟩
  refine Flow.pass_end [none, none, none, none, none, none, none, none, none, none, some 10, some 11, some 12, some 13, some 14, some 15, some 16, some 17, some 18] (by kernel_rfl) ?_
  intro f gg w9 hB9 hfa hT' hfg
  have h4 := hT' 9 _ (by kernel_rfl) rfl
  have hBw9 := hBw0.drew.trans (hB9.mono (by omega))
  clear hfa hT' hfg hBw0 hB9 hN
  simp only [Reg.sel]
  go_wp2
  refine bodyPost_ret (results_cell_row rfl _ _ (w.heap.size + 2) _ _ _ _ rfl h4 Tryz.underlying39 rfl (by rw [List.size_toArray, bcells_length, HSl.out]; kernel_rfl)) rfl ⟨rfl, hBw9⟩
end Go.Proofs.YtipdmhppadapkaaGreatDoor
