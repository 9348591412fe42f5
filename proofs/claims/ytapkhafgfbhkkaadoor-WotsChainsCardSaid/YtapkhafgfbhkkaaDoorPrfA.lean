/-
  Walks: prf.Keyed and portreeveref04.Keyed.
-/
import Derived.Test.YtapkhafgfbhkkaaDoorShaI
import Derived.Test.YtapkhafgfbhkkaaDoorShaK
namespace Go.Proofs.YtapkhafgfbhkkaaDoor
open Go.RowKit Sha

theorem blk_new2 (w : World) (o o2 : Obj) (t : TypeId) (cs : Array Value) : Blk (((w.alloc o).alloc o2).alloc (.cells cs t)) (w.heap.size + 2) t cs := by
  have := Blk.new ((w.alloc o).alloc o2) t cs
  rw [World.size_alloc, World.size_alloc] at this; exact this
theorem blk_new3 (w : World) (o o2 o3 : Obj) (t : TypeId) (cs : Array Value) : Blk ((((w.alloc o).alloc o2).alloc o3).alloc (.cells cs t)) (w.heap.size + 3) t cs := by
  have := Blk.new (((w.alloc o).alloc o2).alloc o3) t cs
  rw [World.size_alloc, World.size_alloc, World.size_alloc] at this; exact this
theorem blk_new4 (w : World) (o o2 o3 o4 : Obj) (t : TypeId) (cs : Array Value) : Blk (((((w.alloc o).alloc o2).alloc o3).alloc o4).alloc (.cells cs t)) (w.heap.size + 4) t cs := by
  have := Blk.new ((((w.alloc o).alloc o2).alloc o3).alloc o4) t cs
  rw [World.size_alloc, World.size_alloc, World.size_alloc, World.size_alloc] at this; exact this
/-- a block's bytes, under a bound -/
theorem Blk.rdB {w : World} {g B : Nat} {t : TypeId} {l : List UInt8} (h : Blk w g t (bcells l).toArray) (n : Nat) (hn : (bcells l).toArray.size = n * 1) (hB : g < B) : Rd w B 1 (some ⟨g, 0, none⟩) n (bcells l) := by
  have := h.rd (size := 1) (n := n) hn
  refine ⟨this.1, fun k v hv => ?_⟩
  obtain ⟨a, ha, _, hc⟩ := this.cell k v hv
  cases ha
  exact ⟨_, rfl, hB, hc⟩
/-- a hash of a kind -/
def keyed (kind : Nat) (b : List UInt8) : List UInt8 := Sha.sum (List.replicate 28 0 ++ putNum kind 4 false ++ b)
theorem keyed_length (kind : Nat) (b : List UInt8) : (keyed kind b).length = 32 := sum_length _
theorem made28 : madeCells (Value.int .u8 0).cells (28 * 1) = (bcells (List.replicate 28 0)).toArray := by kernel_rfl

set_option maxHeartbeats 1000000 in
theorem rkeyed_any (kind : Nat) (hk : kind < 4294967296) (A : Option Addr) (n c : Nat) (b : List UInt8) (w : World) (hR : Rd w w.heap.size 1 A n (bcells b)) (hn : n ≤ 900000) :
    Calls Tryd.prog 15 #[.int .u32 (kind : Int), .slice A n c] w fun e w' => e = .returned (.agg (bcells (keyed kind b)).toArray) ∧ Below w.heap.size w w' := by
  have hz := zeroNode
  have hwr : IntKind.u64.wrap (kind : Int) = (kind : Int) := IntWalk.u64_in _ (by omega)
  have hN := Blk.new w 27 zn
  have hB0 : Below w.heap.size w (w.alloc (.cells zn 27)) := (Below.refl _ _).alloc (Nat.le_refl _) _
  have hs0 : w.heap.size < (w.alloc (.cells zn 27)).heap.size := by simp
  obtain ⟨W0, hW0⟩ : ∃ W0, W0 = w.alloc (.cells zn 27) := ⟨_, rfl⟩
  rw [← hW0] at hN hB0 hs0
  have HW0 := Lib.hid hW0
  clear hW0
  go_enter Tryd.func15, Tryd.ntmps15
  go_wp2_with (at_make; rw [← HW0.out]; refine wpList_makeN W0 el8 rfl _ _ rfl .i64 .i64 _ _ 28 28 rfl rfl rfl rfl (by omega) (by omega) (by omega) ?_; intro w1 hb1 hs1 hB1)
  rw [made28] at hb1
  have hr1 := hb1.rd (size := 1) (n := 28) (by simp [bcells_length])
  have hs01 : W0.heap.size ≤ w1.heap.size := hB1.size
  have hN1 := hN.below hB1 hs0
  have hBw1 := hB0.trans (hB1.mono (Nat.le_of_lt hs0))
  refine (rput_any (some ⟨W0.heap.size, 0, none⟩) 28 28 false (List.replicate 28 0) w1 kind 4 (by simpa using hr1) (by omega) (by omega)).mono ?_
  rintro e w2 ⟨A2, c2, rfl, hO2, hB2⟩
  have hN2 := hN1.below hB2 (by omega)
  have hBw2 := hBw1.trans (hB2.mono hBw1.size)
  have hR2 := (hR.below hBw2)
  have hbs : w1.heap.size ≤ w2.heap.size := hB2.size
  clear hb1 hs1 hr1 hN hN1 hB0 hB1 hBw1
  go_wp2_with (at_builtin; refine wpList_app w2 el8 rfl _ _ rfl w1.heap.size A2 32 c2 _ rfl hO2 w.heap.size A n c (bcells b) rfl hR2 (bcells_one b) (by omega) (by omega) hbs ?_; intro A3 c3 w3 hO3 hg3 hB3 _)
  rw [← bcells_append] at hO3
  have hN3 := hN2.below hB3 (by omega)
  have hBw3 := hBw2.trans (hB3.mono (by omega))
  obtain ⟨S, hS⟩ : ∃ S, S = keyed kind b := ⟨_, rfl⟩
  have hSl : S.length = 32 := by rw [hS, keyed_length]
  have HSl := Lib.hid hSl
  have HSS := Lib.hid hS
  have hRo := Rd.of_own hO3
  have hlt3 : w.heap.size < w3.heap.size := hN3.lt
  clear hSl hN2 hBw2 hB2 hO2 hB3 hg3 hO3 hR2
  refine (rsum_any A3 (32 + n) c3 _ w3 hRo (by omega)).mono ?_
  rintro e w4 ⟨rfl, hB4⟩
  have e1 : Sha.sum (List.replicate 28 0 ++ putNum kind 4 false ++ b) = S := by rw [hS]; rfl
  rw [e1]
  have hN4 := hN3.below hB4 hlt3
  have hBw4 := hBw3.trans (hB4.mono (Nat.le_of_lt hlt3))
  clear hS e1 hN3 hBw3 hB4 hRo
  go_wp2_with ((with_reducible refine at_store 27 ?_); refine wpList_storeAll _ rfl 27 _ _ rfl w.heap.size 27 _ (bcells S).toArray hN4 rfl rfl (by rw [List.size_toArray, bcells_length, HSl.out]; kernel_rfl) (by rw [List.size_toArray, bcells_length, HSl.out]; kernel_rfl) (fun v hv => bcells_one _ v (by simpa using hv)) ?_; intro w6 h14 hg6 hs6)
  refine bodyPost_ret (results_cell_row rfl _ _ w.heap.size _ _ _ _ rfl h14 Tryd.underlying27 rfl (by rw [List.size_toArray, bcells_length, HSl.out]; kernel_rfl)) rfl ⟨by rw [HSS.out], ?_⟩
  exact grown_below hBw4 hg6 hBw4.size (Nat.le_refl _)

theorem head_splice (kind : Nat) : (splice (bcells znode).toArray.toList 28 ((bcells ([] ++ putAll [kind] 4 false)).take 4)).toArray = (bcells (List.replicate 28 0 ++ putNum kind 4 false)).toArray := by
  have e : ([] ++ putAll [kind] 4 false : List UInt8) = putNum kind 4 false := by simp [putAll]
  rw [e]
  refine congrArg List.toArray ?_
  have hl : (bcells (putNum kind 4 false)).length = 4 := by rw [bcells_length, putNum_length]
  rw [List.take_of_length_le (by omega)]
  unfold splice
  rw [hl]
  have h1 : (bcells znode).toArray.toList.take 28 = bcells (List.replicate 28 0) := by kernel_rfl
  have h2 : (bcells znode).toArray.toList.drop (28 + 4) = [] := by kernel_rfl
  rw [h1, h2, List.append_nil, bcells_append]
theorem run_buildB1 (w : World) (A : Option Addr) (n c : Nat) : (Instr.buildSlice 23 1 #[(0, .slice A n c)]).run Tryd.prog w = .ok (.slice (some ⟨w.heap.size, 0, none⟩) 1 1) (w.alloc (.cells #[.slice A n c] 25)) := by
  have := run_buildSlice_all (P := Tryd.prog) w elBB 1 #[(0, .slice A n c)] [.slice A n c] rfl rfl (by omega) (by omega) (by simp [Value.cells])
  simpa [flat, Value.cells] using this
theorem run_build32 (w : World) (k : Nat) : (Instr.buildSlice 78 1 #[(0, .int .u32 (k : Int))]).run Tryd.prog w = .ok (.slice (some ⟨w.heap.size, 0, none⟩) 1 1) (w.alloc (.cells #[.int .u32 (k : Int)] 22)) := by
  have := run_buildSlice_all (P := Tryd.prog) w el32 1 #[(0, .int .u32 (k : Int))] [.int .u32 (k : Int)] rfl rfl (by omega) (by omega) (by simp [Value.cells])
  simpa [flat, Value.cells] using this
theorem vals_one (ps : List Bs) : ∀ v ∈ ps.map Bs.val, v.oneCell' = true := by
  intro v hv; simp only [List.mem_map] at hv; obtain ⟨b, _, rfl⟩ := hv; rfl

set_option maxRecDepth 100000 in
set_option maxHeartbeats 2000000 in
theorem mkeyed_any (kind : Nat) (hk : kind < 4294967296) (A : Option Addr) (m c : Nat) (ps : List Bs) (w : World) (hRd : Rd w w.heap.size 1 A m (ps.map Bs.val)) (hp : ∀ b ∈ ps, b.ok w w.heap.size) (hcc : ∀ b ∈ ps, b.n ≤ b.c ∧ b.c ≤ 9223372036854775807)
    (ht : Bs.tot ps ≤ 900000) (hm : m ≤ 1000) (hT : Tabs w) :
    Calls Tryd.prog 14 #[.int .u32 (kind : Int), .slice A m c] w fun e w' => e = .returned (.agg (bcells (keyed kind (Bs.all ps))).toArray) ∧ Below w.heap.size w w' := by
  have hz := zeroNode
  have hz2 : ∀ W, (zeroValue 26).run Tryd.prog W = .ok (.agg (bcells znode).toArray) W := fun W => by kernel_rfl
  have hN := (Blk.new w 27 zn).alloc (.cells (bcells znode).toArray 26)
  have hhd := blk_new1 w (.cells zn 27) 26 (bcells znode).toArray
  have hB0 : Below w.heap.size w ((w.alloc (.cells zn 27)).alloc (.cells (bcells znode).toArray 26)) := ((Below.refl _ _).alloc (Nat.le_refl _) _).alloc (by simp) _
  have HK := Lib.hid hk
  clear hk
  go_enter Tryd.func14, Tryd.ntmps14
  go_wp2_with fail
  generalize (w.alloc (.cells zn 27)).alloc (.cells (bcells znode).toArray 26) = W0 at *
  have hsz : w.heap.size + 1 ≤ W0.drew.heap.size := Nat.le_of_lt hhd.lt
  clear hz hz2
  refine Flow.wp_region_flow (w.heap.size + 1) [(4, fun b => b = w.heap.size + 1)] [(4, fun W => Blk W (w.heap.size + 1) 26 ((bcells znode).toArray))] (by kernel_rfl) (by kernel_rfl) hsz (Flow.nz_cons (by rintro b rfl; exact Nat.le_refl _) Flow.nz_nil) (Flow.facts_cons (hhd.drew) (Flow.kept_blk id) (Flow.fz_cons (Flow.no_follow (by kernel_rfl)) Flow.fz_nil) Flow.facts_nil) ?_
  refine Flow.pass_val (.slice (some ⟨w.heap.size + 1, 28, none⟩) 4 4) (Flow.met_none rfl) (fun a W hH => ?_) ?_
  · have e0 := Flow.see_old 5 hH.sees (by kernel_rfl) (by kernel_rfl) rfl
    go_simp; first | done | rfl
  refine Flow.pass_old 0 (Flow.met_none rfl) (.inl rfl) (by kernel_rfl) (by kernel_rfl) rfl ?_
  refine Flow.pass_lin [4] (fun v W => ∃ b, v = .slice (some ⟨b, 0, none⟩) 1 1 ∧ Blk W b 22 #[.int .u32 (kind : Int)]) (Flow.kept_lin [4] (fun _ _ _ c ⟨b, h1, h2⟩ => ⟨b, h1, h2.ext c.ext⟩) (Flow.lz_cons (fun _ => .inl rfl) Flow.lz_nil)) (Flow.met_none rfl) (fun a W hH => ?_) ?_
  · have e0 := Flow.see_new 7 1 hH.sees (by kernel_rfl) (by kernel_rfl) rfl rfl
    refine Flow.wp_run (Flow.reg_buildSlice _ rfl (by simp [Act.eval, e0]) (run_build32 W kind)) ?_
    exact ⟨_, rfl, Chg.of_ext ((Ext.refl W).alloc _), W.heap.size, rfl, Blk.new _ _ _⟩
  refine Flow.pass_lin [4] (Flow.bytesC (0 + 4 * 1) ([] ++ putAll [kind] 4 false)) (Flow.kept_lin [4] (Flow.kept_bytesC _ _) (Flow.lz_cons (fun _ => .inl rfl) Flow.lz_nil)) (Flow.met_none rfl) (fun a W hH => ?_) ?_
  · obtain ⟨b0, e0, q0⟩ := Flow.see_lin 8 2 hH.sees (by kernel_rfl) (by kernel_rfl) rfl rfl (by kernel_rfl)
    refine Flow.wp_callZ rfl Tryd.func42 rfl (by kernel_rfl) (by simp [Act.eval, e0]) (putBe32_any none 0 0 [] W (some ⟨b0, 0, none⟩) 1 1 [kind] (Rd.nil _ _ _ _) (by omega) (q0.rd rfl) (by omega)) ?_
    rintro e w' ⟨A9, c9, rfl, hO, hB⟩
    exact ⟨_, rfl, Chg.of_ext hB, A9, c9, rfl, Flow.own_le hO, Rd.of_own hO⟩
  refine Flow.pass_list (fun _ W => Blk W (w.heap.size + 1) 26 (bcells (List.replicate 28 0 ++ putNum kind 4 false)).toArray) (Flow.kept_of (fun _ _ _ c h => h.chg c id) (Flow.kz_cons (Flow.no_follow (by kernel_rfl)) Flow.kz_nil)) (Flow.met_none rfl) (fun a W hH => ?_) ?_
  · have e0 := Flow.see_new 6 0 hH.sees (by kernel_rfl) (by kernel_rfl) rfl rfl
    obtain ⟨A1, c1, e1, q1⟩ := Flow.see_lin 9 3 hH.sees (by kernel_rfl) (by kernel_rfl) rfl rfl (by kernel_rfl)
    have fa0 : (fun W => Blk W (w.heap.size + 1) 26 ((bcells znode).toArray)) W := hH.fact _ (List.mem_of_getElem? (i := 0) rfl) rfl
    refine wpList_copyAt W Tryd.underlying25 (by kernel_rfl) rfl _ _ rfl (w.heap.size + 1) 28 _ fa0 (some ⟨w.heap.size + 1, 28, none⟩) 4 4 (by simpa [Act.eval] using e0) _ A1 4 c1 _ (by simpa [Act.eval] using e1) q1.2 (bcells_one _) 4 rfl (fun _ => rfl) (by simp [bcells_length, znode]) ?_
    intro W2 h2 hg _
    rw [head_splice kind] at h2
    exact Flow.qq_nil ⟨_, rfl, Chg.grown hg (by rintro k h; cases h; rfl), h2⟩
  refine Flow.pass_end [none, none, none, none, none, none, some 6, some 7, some 8, some 9, some 10, none, none, none, none, none] (by kernel_rfl) ?_
  intro f gg w9 hB9 hfa hT' hfg
  have h4 := hT' 4 _ (by kernel_rfl) rfl
  have hN9 := hN.drew.below hB9 (Nat.lt_succ_self _)
  have hBw9 := hB0.drew.trans (hB9.mono (Nat.le_succ _))
  clear hfa hT' hfg hN hB0 hhd hB9
  simp only [Reg.sel]
  have hp9 : ∀ b ∈ ps, b.ok w9 w.heap.size := fun b hb => (hp b hb).below hBw9
  have hR9 := hRd.below hBw9
  have hT9 := hT.below hBw9
  have hs9 : w.heap.size + 1 < w9.heap.size := h4.lt
  clear hp hRd hT hsz
  go_wp2_with (at_builtin; refine wpList_app _ elBB rfl _ _ rfl w9.heap.size (some ⟨w9.heap.size, 0, none⟩) 1 1 [.slice (some ⟨w.heap.size + 1, 0, none⟩) 32 32] rfl ((Blk.new w9 25 #[.slice (some ⟨w.heap.size + 1, 0, none⟩) 32 32]).own (Nat.le_refl _) rfl (Nat.le_refl _) (by omega)) w.heap.size A m c (ps.map Bs.val) rfl (hR9.alloc (by omega) _) (vals_one ps) (by omega) (by omega) (by simp) ?_; intro A3 c3 w10 hO3 hg3 hB3 _)
  have hBa : Below w9.heap.size w9 w10 := ((Below.refl _ _).alloc (Nat.le_refl _) _).trans hB3
  have h5 := h4.below hBa h4.lt
  have hN10 := hN9.below hBa (by omega)
  have hBw10 := hBw9.trans (hBa.mono (by omega))
  have hs10 : w9.heap.size ≤ w10.heap.size := hBa.size
  have hT10 := hT9.below hBa
  obtain ⟨hd, hhd⟩ : ∃ hd : Bs, hd = ⟨some ⟨w.heap.size + 1, 0, none⟩, 32, 32, List.replicate 28 0 ++ putNum kind 4 false⟩ := ⟨_, rfl⟩
  have hpl : (List.replicate 28 0 ++ putNum kind 4 false).length = 32 := by simp [putNum_length]
  have hhr : Rd w10 w10.heap.size 1 (some ⟨w.heap.size + 1, 0, none⟩) 32 (bcells (List.replicate 28 0 ++ putNum kind 4 false)) := by
    have := h5.rd (size := 1) (n := 32) (by rw [List.size_toArray, bcells_length, hpl])
    simpa using this
  have hp10 : ∀ b ∈ hd :: ps, b.ok w10 w10.heap.size := by
    intro b hb
    rcases List.mem_cons.1 hb with rfl | hb
    · rw [hhd]; exact hhr
    · exact Rd.more ((hp9 b hb).below (hBa.mono (by omega))) (by omega)
  have hcc10 : ∀ b ∈ hd :: ps, b.n ≤ b.c ∧ b.c ≤ 9223372036854775807 := by
    intro b hb
    rcases List.mem_cons.1 hb with rfl | hb
    · rw [hhd]; exact ⟨Nat.le_refl _, by show 32 ≤ _; omega⟩
    · exact hcc b hb
  have hrow : [Value.slice (some ⟨w.heap.size + 1, 0, none⟩) 32 32] ++ ps.map Bs.val = (hd :: ps).map Bs.val := by rw [hhd]; rfl
  rw [hrow] at hO3
  have hR10 := Rd.of_own hO3
  have htot : Bs.tot (hd :: ps) = 32 + Bs.tot ps := by rw [hhd]; simp [Bs.tot]
  have hall : Sha.sum (Bs.all (hd :: ps)) = keyed kind (Bs.all ps) := by
    rw [hhd]; simp [Bs.all, keyed]
  obtain ⟨S, hS⟩ : ∃ S, S = keyed kind (Bs.all ps) := ⟨_, rfl⟩
  have hSl : S.length = 32 := by rw [hS, keyed_length]
  rw [← hS] at hall
  have HSl := Lib.hid hSl
  have HSS := Lib.hid hS
  have Htot := Lib.hid htot
  have Hall := Lib.hid hall
  have hNlt : w.heap.size < w10.heap.size := hN10.lt
  clear hSl hS htot hall hrow hhr hpl hhd hp9 hR9 hT9 hN9 hBw9 hg3 hB3 hO3 h4 h5 hBa
  refine (sum_any A3 (1 + m) c3 (hd :: ps) w10 hR10 hp10 hcc10 (by rw [Htot.out]; omega) (by omega) hT10).mono ?_
  rintro e w11 ⟨rfl, hB11⟩
  rw [Hall.out]
  have hN11 := hN10.below hB11 hNlt
  have hBw11 := hBw10.trans (hB11.mono hBw10.size)
  clear hR10 hp10 hcc10 hT10 hN10 hBw10 hB11
  go_wp2_with ((with_reducible refine at_store 27 ?_); refine wpList_storeAll _ rfl 27 _ _ rfl w.heap.size 27 _ (bcells S).toArray hN11 rfl rfl (by rw [List.size_toArray, bcells_length, HSl.out]; kernel_rfl) (by rw [List.size_toArray, bcells_length, HSl.out]; kernel_rfl) (fun v hv => bcells_one _ v (by simpa using hv)) ?_; intro w12 h14 hg6 hs6)
  refine bodyPost_ret (results_cell_row rfl _ _ w.heap.size _ _ _ _ rfl h14 Tryd.underlying27 rfl (by rw [List.size_toArray, bcells_length, HSl.out]; kernel_rfl)) rfl ⟨by rw [HSS.out], ?_⟩
  exact grown_below hBw11 hg6 hBw11.size (Nat.le_refl _)
end Go.Proofs.YtapkhafgfbhkkaaDoor
