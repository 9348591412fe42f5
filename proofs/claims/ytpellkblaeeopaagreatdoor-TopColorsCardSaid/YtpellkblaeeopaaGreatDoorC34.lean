/-
  Parts: GdG GdH FlowG.
-/
import Derived.Test.YtpellkblaeeopaaGreatDoorC33
import Derived.Test.YtpellkblaeeopaaGreatDoorC11
import Derived.Test.YtpellkblaeeopaaGreatDoorC16
/-
  Walk: table.few (true: a part of few pieces).
-/
namespace Go.Proofs.YtpellkblaeeopaaGreatDoor
open Go.RowKit Go.Shelf

attribute [local go_sem] Oper.semAt_some

theorem pieces_stops (bb : Nat) (m : Mp) (n : Nat) (hmn : m.size = 4096 * n) (hn5 : n < 512) (hi : m.ipa + m.size ≤ 1099511627776) (hp : m.pa + m.size ≤ 1099511627776) (w : World) (hB : Blk w bb 91 m.cells) :
    SeqStopsM Fence.wide 5 Tryz.prog 62 #[.pointer (some ⟨bb, 0, none⟩)] (pcE (m := m) (n := n)) KpM (fun r => r = bb) (fun pre x => x.1 = pcM m pre.length) (fun ys => vals ys = upto (pcM m) n) (fun _ => True) 512 w := fun ly Jv Jx W hW hAb _ hM hY h0 =>
  pieces1_in 5 ly bb (by omega) m n hmn hn5 hi hp Jv Jx W hAb hM hY (hB.below hW hB.lt) h0
theorem results_cellV {P : Program} {fn : Func} {p : Tmp} {ty : TypeId} (h : fn.results = #[.cell p ty]) (tmps : Array Value) (w : World) (a : Addr) {v : Value}
    (hp : tmps[p]?.getD undef = .pointer (some a)) (ha : w.cell? a = some v) (hi : (isAgg ty).run P w = .ok false w) : (results fn tmps).run P w = .ok v w := by
  simp [results, h, hp, asAddr, go_sem, hi, ha]
structure FwS (w : World) (k : Nat) (W : World) : Prop where
  b1 : Blk W (w.heap.size + 1) 4 #[.bool false]
  b2 : Blk W (w.heap.size + 2) 3 #[.int .i64 (k : Int)]
  B : Below w.heap.size w W
def fwAx (w : World) (m : Mp) (x : Mp) (a' : Act) (_W : World) : Prop :=
  a' = { tmps := #[.agg (Mp.cells m), .pointer (some ⟨w.heap.size, 0, none⟩), .pointer (some ⟨w.heap.size + 1, 0, none⟩), .pointer (some ⟨w.heap.size + 1 + 1, 0, none⟩), .agg (Mp.cells m), .func (.func 62) #[] #[.pointer (some ⟨w.heap.size + 1 + 1 + 1, 0, none⟩)], .int .i64 3, .agg x.cells, undef, undef, undef, undef], defers := [] }
set_option maxRecDepth 100000 in
set_option maxHeartbeats 4000000 in
theorem few_any (m : Mp) (n : Nat) (hmn : m.size = 4096 * n) (hn5 : n < 512) (hi : m.ipa + m.size ≤ 1099511627776) (hp : m.pa + m.size ≤ 1099511627776) (w : World) :
    Calls Tryz.prog 58 #[.agg m.cells] w (BoolRet w true) := by
  obtain ⟨mc, hmc⟩ : ∃ mc, mc = m.cells := ⟨_, rfl⟩
  have hb := Blk.new w 91 mc
  have c0 : (((w.alloc (.cells mc 91)).alloc (.cells #[.bool false] 4)).alloc (.cells #[.int .i64 0] 3)).rangeAt w.heap.size 0 mc.toList := by
    have h := (hb.alloc (.cells #[.bool false] 4)).alloc (.cells #[.int .i64 0] 3)
    intro j v hv
    rw [Nat.zero_add, h.cell]; simpa using hv
  rw [← hmc]
  refine (callsIn_wide (n := 6)).1 ?_
  refine callsIn_of_wp_marks Tryz.func58 rfl trivial ?_ rfl
  simp only [Tryz.ntmps58, List.size_toArray, List.length_cons, List.length_nil, Nat.reduceAdd, Nat.reduceSub, Array.replicate_succ, Array.replicate_zero, List.push_toArray, List.append_toArray, List.nil_append, List.cons_append]
  have HMN := Lib.hid hmn
  rw [hmc] at *
  clear hmn hmc
  simp only [Mp.cells] at *
  gi_wp2_with fail
  refine ⟨trivial, (pieces_in Fence.wide 5 trivial rfl m _).mono ?_⟩
  rintro e w' ⟨rfl, rfl⟩
  gi_wp2_with fail
  have hI0 : FwS w 0 ((((w.alloc (.cells (Mp.cells m) 91)).alloc (.cells #[.bool false] 4)).alloc (.cells #[.int .i64 0] 3)).alloc (.cells (Mp.cells m) 91)) := by
    refine ⟨?_, ?_, ?_⟩
    · have := ((Blk.new (w.alloc (.cells (Mp.cells m) 91)) 4 #[.bool false]).alloc (.cells #[.int .i64 0] 3)).alloc (.cells (Mp.cells m) 91)
      rw [World.size_alloc] at this; exact this
    · have := (Blk.new ((w.alloc (.cells (Mp.cells m) 91)).alloc (.cells #[.bool false] 4)) 3 #[.int .i64 0]).alloc (.cells (Mp.cells m) 91)
      rw [World.size_alloc, World.size_alloc] at this; exact this
    · exact ((((Below.refl _ w).alloc (Nat.le_refl _) _).alloc (by simp) _).alloc (by simp; omega) _).alloc (by simp; omega) _
  have hb3 := Blk.new (((w.alloc (.cells (Mp.cells m) 91)).alloc (.cells #[.bool false] 4)).alloc (.cells #[.int .i64 0] 3)) 91 (Mp.cells m)
  have hs2 : ((((w.alloc (.cells (Mp.cells m) 91)).alloc (.cells #[.bool false] 4)).alloc (.cells #[.int .i64 0] 3)).alloc (.cells (Mp.cells m) 91)).heap.size = w.heap.size + 4 := by simp
  rw [show (((w.alloc (.cells (Mp.cells m) 91)).alloc (.cells #[.bool false] 4)).alloc (.cells #[.int .i64 0] 3)).heap.size = w.heap.size + 3 by simp] at hb3
  simp only [Mp.cells] at hI0 hb3 hs2
  simp only [Mp.cells]
  generalize (((w.alloc (.cells #[.int .u64 (m.ipa : Int), .int .u64 (m.pa : Int), .int .u64 (m.size : Int), .int .i64 3, .int .i64 0] 91)).alloc (.cells #[.bool false] 4)).alloc (.cells #[.int .i64 0] 3)).alloc (.cells #[.int .u64 (m.ipa : Int), .int .u64 (m.pa : Int), .int .u64 (m.size : Int), .int .i64 3, .int .i64 0] 91) = W2 at *
  have hp2 : w.heap.size ≤ W2.heap.size := by omega
  refine wpIn_rangeFunc_mut rfl (by omega) (gf := 62) (lb := #[.pointer (some ⟨w.heap.size + 3, 0, none⟩)]) rfl trivial (enters_of Tryz.func62 (by kernel_rfl) rfl)
    (Zm := fun r => r = w.heap.size + 3) (fun r hr => by subst hr; omega) (pieces_stops (w.heap.size + 3) m n HMN.out hn5 hi hp W2 hb3) (fun h k => h.trans k) (fun W l o o' _ h h1 _ => KpM.put h h1) (Below.refl _ _) (fun _ => rfl)
    (fun pre W => FwS w pre.length W) (fun cc pre W => False)
    (fun s W W' row hs hg hr => ⟨blk_keptS hs.b1 hg (fun r e => (hr r e).2), blk_keptS hs.b2 hg (fun r e => (hr r e).2), hs.B.grown hg hs.B.size (fun r e => by have := (hr r e).1; omega)⟩)
    (fun cc s W W' row hs hg hr => hs) (fun s A B r hs hg hr => ⟨hs.b1.grown hg (fun e => by have := Option.some.inj e; omega), hs.b2.grown hg (fun e => by have := Option.some.inj e; omega), hs.B.grown hg hs.B.size (fun k e => by have := Option.some.inj e; omega)⟩) hI0
    (fun x a' W => fwAx w m x.1 a' W) (fun x a' _ W W' row hs hg hr => hs) ?assign ?body ?done ?stop
  case assign =>
    rintro ly pre x W K' hI hK
    gi_wp2_with fail
    exact hK _ _ (KeepsFrom.refl _ _) (fun _ _ _ h => h) hI (by unfold fwAx; simp [pcE, pcEncs, Mp.cells])
  case done =>
    rintro D ys W hD _ ⟨b1, b2, hB⟩ hK
    have c1 : W.cell? ⟨w.heap.size + 1, 0, none⟩ = some (.bool false) := (b1.cell 0).trans rfl
    have f1 := b1.frozen 0
    gi_wp2_with fail
    have hg : W.grownBy (W.setCell ⟨w.heap.size + 1, 0, none⟩ (.bool true)) (some (w.heap.size + 1)) := s_grown W (w.heap.size + 1) 0 (.bool true)
    have hK2 : (W.setCell ⟨w.heap.size + 1, 0, none⟩ (.bool true)).heap[D]? = some (.deferred (some [])) := grown_at hg hK (by omega)
    have b1' := b1.set_ 0 (.bool true)
    have hDl := (Array.getElem?_eq_some_iff.1 hK2).1
    have hg2 := grownBy_putObj' (W.setCell ⟨w.heap.size + 1, 0, none⟩ (.bool true)) D (.deferred none)
    have b1'' := b1'.grown hg2 (fun e => by have := Option.some.inj e; omega)
    refine ⟨by simp, .inl ⟨_, _, rfl, run_takeDeferred hK2, ?_⟩⟩
    refine ⟨_, results_cellV rfl _ _ ⟨w.heap.size + 1, 0, none⟩ rfl ((b1''.cell 0).trans rfl) (by kernel_rfl), rfl, ?_⟩
    exact (hB.grown hg hB.size (fun j e => by have := Option.some.inj e; omega)).grown hg2 (by have := hB.size; simp; omega) (fun j e => by have := Option.some.inj e; omega)
  case body =>
    rintro ly pre x a' wr hl ⟨r, hr⟩ hI rfl hlen _
    obtain ⟨b1, b2, hB⟩ := hI
    have c2 : wr.cell? ⟨w.heap.size + 1 + 1, 0, none⟩ = some (.int .i64 (pre.length : Int)) := (b2.cell 0).trans rfl
    have f2 := b2.frozen 0
    obtain ⟨k, hk⟩ : ∃ k, k = pre.length := ⟨_, rfl⟩
    rw [← hk] at c2 hlen b2
    have HK := Lib.hid hk
    clear hk
    have hw : IntKind.i64.wrap ((k : Int) + 1) = ((k + 1 : Nat) : Int) := by rw [IntKind.wrap_i64]; omega
    have hd : decide ((10000 : Int) < ((k + 1 : Nat) : Int)) = false := by simp; omega
    have b2' := b2.set_ 0 (.int .i64 ((k + 1 : Nat) : Int))
    have c2' : (wr.setCell ⟨w.heap.size + 1 + 1, 0, none⟩ (.int .i64 ((k + 1 : Nat) : Int))).cell? ⟨w.heap.size + 1 + 1, 0, none⟩ = some (.int .i64 ((k + 1 : Nat) : Int)) := (b2'.cell 0).trans rfl
    gi_wp2_with fail
    have hg : wr.grownBy (wr.setCell ⟨w.heap.size + 1 + 1, 0, none⟩ (.int .i64 ((k : Int) + 1))) (some (w.heap.size + 2)) := s_grown wr (w.heap.size + 2) 0 (.int .i64 ((k : Int) + 1))
    refine ⟨KeepsFrom.of_grownBy hg (fun j e => by have := Option.some.inj e; omega), ?_, ⟨b1.grown hg (fun e => by have := Option.some.inj e; omega), by rw [List.length_append, ← HK.out]; exact b2', hB.grown hg hB.size (fun j e => by have := Option.some.inj e; omega)⟩⟩
    exact KpM.chg (Chg.grown hg (Z := fun b => b = w.heap.size + 2) (fun j e => (Option.some.inj e).symm)) (fun b hb cs f h => by subst hb; rw [b2] at h; injection h with h; injection h with _ h; revert h; decide)
  case stop =>
    rintro D c2 pre W hD hpre h hK
    exact h.elim
end Go.Proofs.YtpellkblaeeopaaGreatDoor
/-
  Walks: table.above, slot.
-/
namespace Go.Proofs.YtpellkblaeeopaaGreatDoor
open Go.RowKit Go.Shelf

attribute [local go_sem] Oper.semAt_some

/-- a table's place -/
def plcC (k q : Nat) : Array Value := #[.int .i64 (k : Int), .int .u64 (q : Int)]
theorem run_plc (w : World) (k q : Nat) : (Instr.build 153 #[(0, .int .i64 (k : Int)), (1, .int .u64 (q : Int))]).run Tryz.prog w = .ok (.agg (plcC k q)) w := by
  have := run_build_rows (P := Tryz.prog) w (t := 153) (z := #[.int .i64 0, .int .u64 0]) #[(0, .int .i64 (k : Int)), (1, .int .u64 (q : Int))] [.int .i64 (k : Int), .int .u64 (q : Int)] [(0, 1), (1, 1)]
    Tryz.underlying153 (by kernel_rfl) (by kernel_rfl) rfl (by simp [Rows1, Value.cells]) (by simp [flat, Value.cells])
  simpa [flat, Value.cells, plcC] using this
theorem infPlc : (Tryz.prog.info? 153).map (·.size) = some 2 := by kernel_rfl
theorem plc_one (k q : Nat) : ∀ v ∈ (plcC k q).toList, v.oneCell' = true := by
  intro v hv
  simp only [plcC, List.mem_cons, List.not_mem_nil, or_false] at hv
  rcases hv with rfl | rfl <;> rfl
set_option maxRecDepth 100000 in
set_option maxHeartbeats 2000000 in
theorem above_any (m : Mp) (hi : m.ipa < 18446744073709551616) (k : Nat) (hk : k = 2 ∨ k = 3) (w : World) : Calls Tryz.prog 59 #[.agg m.cells, .int .i64 (k : Int)] w fun e w' => e = .returned (.agg (plcC k (m.ipa / lvN (k - 1)))) ∧ Below w.heap.size w w' := by
  obtain ⟨k1, hk1e⟩ : ∃ k1, k1 = k - 1 := ⟨_, rfl⟩
  have hSz : ∀ W, Calls Tryz.prog 29 #[.int .i64 (k1 : Int)] W fun e w' => e = .returned (.int .u64 (lvN k1 : Int)) ∧ w' = W := dsize_any k1 (by omega)
  rw [← hk1e]
  have hk1 : (k : Int) - 1 = (k1 : Int) := by omega
  have hwk : IntKind.i64.wrap (k1 : Int) = (k1 : Int) := by rw [IntKind.wrap_i64]; omega
  have hM0 := lvN_pos k1
  obtain ⟨M, hM⟩ : ∃ M, M = lvN k1 := ⟨_, rfl⟩
  rw [← hM] at hM0 ⊢
  simp only [← hM] at hSz
  obtain ⟨q, hqe⟩ : ∃ q, q = m.ipa / M := ⟨_, rfl⟩
  have hq : (m.ipa : Int).tdiv (M : Int) = (q : Int) := by rw [hqe, Int.tdiv_eq_ediv_of_nonneg (by omega)]; exact (Int.natCast_ediv _ _).symm
  have hM1 : (M : Int) ≠ 0 := by omega
  have hqm : q ≤ m.ipa := by rw [hqe]; exact Nat.div_le_self _ _
  have hwq : IntKind.u64.wrap (q : Int) = (q : Int) := IntWalk.u64_in _ (by omega)
  have hqd : (m.ipa : Int) / (M : Int) = (q : Int) := by rw [hqe]; exact (Int.natCast_ediv _ _).symm
  rw [← hqe]
  clear hqe hM hk1e
  have hb := (Blk.new w 91 m.cells).alloc (.cells #[.int .i64 0, .int .u64 0] 153)
  have hp := Blk.new (w.alloc (.cells m.cells 91)) 153 #[.int .i64 0, .int .u64 0]
  have B0 : Below w.heap.size w ((w.alloc (.cells m.cells 91)).alloc (.cells #[.int .i64 0, .int .u64 0] 153)) := ((Below.refl _ w).alloc (Nat.le_refl _) _).alloc (by simp) _
  rw [World.size_alloc] at hp
  go_enter Tryz.func59, Tryz.ntmps59
  go_wp2_with fail
  generalize (w.alloc (.cells m.cells 91)).alloc (.cells #[.int .i64 0, .int .u64 0] 153) = W1 at *
  refine Reg.wp_region_tail 8 [] (by kernel_rfl) (by kernel_rfl) (by kernel_rfl) (by kernel_rfl) (by kernel_rfl) ?_
  refine Reg.pass_old (X := .int .i64 (k : Int)) 1 (Reg.met_none rfl) (.inl rfl) (by kernel_rfl) (by kernel_rfl) rfl ?_
  refine Reg.pass_val (.pointer (some ⟨w.heap.size, 0, none⟩)) (Reg.met_none rfl) (fun a W hE hS => ?_) ?_
  · have e0 := Reg.see_old 2 hS (by kernel_rfl) (by kernel_rfl) rfl
    go_simp; first | done | rfl
  refine Reg.pass_val (.int .u64 (m.ipa : Int)) (Reg.met_none rfl) (fun a W hE hS => ?_) ?_
  · have e0 := Reg.see_new 6 1 hS (by kernel_rfl) (by kernel_rfl) rfl rfl
    have cc : World.cell? W ⟨w.heap.size, 0, none⟩ = some (.int .u64 (m.ipa : Int)) := ((hb.drew.ext hE).cell 0).trans rfl; go_simp; first | done | rfl
  refine Reg.pass_old (X := .int .i64 (k : Int)) 1 (Reg.met_none rfl) (.inl rfl) (by kernel_rfl) (by kernel_rfl) rfl ?_
  refine Reg.pass_val (.int .i64 (k1 : Int)) (Reg.met_none rfl) (fun a W hE hS => ?_) ?_
  · have e0 := Reg.see_new 8 3 hS (by kernel_rfl) (by kernel_rfl) rfl rfl
    go_simp; first | done | rfl | exact hwk | (rw [hk1, hwk]; done)
  refine Reg.pass_step (Reg.eqs (.int .u64 (M : Int))) (Reg.stable_eqs _) (Reg.met_none rfl) (fun a W hE hS => ?_) ?_
  · have e0 := Reg.see_new 9 4 hS (by kernel_rfl) (by kernel_rfl) rfl rfl
    refine Reg.wp_call rfl Tryz.func29 rfl (by kernel_rfl) (by simp [Act.eval, e0]) (hSz W) ?_
    rintro e w' ⟨rfl, rfl⟩
    exact ⟨_, rfl, _, rfl, Below.refl _ _, rfl⟩
  refine Reg.pass_val (.int .u64 (q : Int)) (Reg.met_none rfl) (fun a W hE hS => ?_) ?_
  · have e0 := Reg.see_new 7 2 hS (by kernel_rfl) (by kernel_rfl) rfl rfl
    have e1 := Reg.see_new 10 5 hS (by kernel_rfl) (by kernel_rfl) rfl rfl
    go_simp; omega
  refine Reg.pass_val (.agg (plcC k q)) (Reg.met_none rfl) (fun a W hE hS => ?_) ?_
  · have e0 := Reg.see_new 5 0 hS (by kernel_rfl) (by kernel_rfl) rfl rfl
    have e1 := Reg.see_new 11 6 hS (by kernel_rfl) (by kernel_rfl) rfl rfl
    exact Flow.reg_build _ rfl (by simp [Act.eval, e0, e1]) (run_plc W k q)
  refine ⟨(fun i hi => by cases hi), ?_⟩
  refine Reg.tail_end [none, none, none, none, none, some 5, some 6, some 7, some 8, some 9, some 10, some 11, some 12] (by kernel_rfl) ?_
  intro ff w9 hE hf hfr
  have h5 : ff 5 = _ := hf 5 0 _ (by kernel_rfl) (by decide) rfl
  have h6 : ff 6 = _ := hf 6 1 _ (by kernel_rfl) (by decide) rfl
  have h7 : ff 7 = _ := hf 7 2 _ (by kernel_rfl) (by decide) rfl
  have h8 : ff 8 = _ := hf 8 3 _ (by kernel_rfl) (by decide) rfl
  have h9 : ff 9 = _ := hf 9 4 _ (by kernel_rfl) (by decide) rfl
  have h10 : ff 10 = _ := hf 10 5 _ (by kernel_rfl) (by decide) rfl
  have h11 : ff 11 = _ := hf 11 6 _ (by kernel_rfl) (by decide) rfl
  have h12 : ff 12 = _ := hf 12 7 _ (by kernel_rfl) (by decide) rfl
  clear hf hfr 
  have hp9 := hp.drew.ext hE
  have B9 : Below w.heap.size w w9 := B0.trans ((((Below.refl _ W1).drew).trans (hE.below (Nat.le_refl _))).mono B0.size)
  simp only [Reg.sel, h7, h12, List.drop_succ_cons, List.drop_zero]
  go_wp2_with (first
    | ((with_reducible refine at_store 153 ?_); refine wpList_storeAll _ rfl 153 _ _ rfl (w.heap.size + 1) 153 #[.int .i64 0, .int .u64 0] (plcC k q) hp9 rfl rfl rfl infPlc (plc_one _ _) ?_; intro W2 hb2 hg2 hs2))
  refine bodyPost_ret (results_cellS (cs := plcC k q) rfl _ _ (w.heap.size + 1) _ _ _ rfl hb2 Tryz.underlying153 rfl infPlc) rfl ?_
  exact ⟨rfl, grown_below B9 hg2 B9.size (by omega)⟩
/-- which slot of a table a part's descriptor has -/
def slotN (ipa k : Nat) : Nat := if 1 < k then ipa / lvN k % 512 else ipa / lvN k
set_option maxRecDepth 100000 in
set_option maxHeartbeats 2000000 in
theorem slot_any (T : Nat) (m : Mp) (hi : m.ipa < 1099511627776) (hT : T < 1099511627776) (k : Nat) (hk : k = 1 ∨ k = 2 ∨ k = 3) (w : World) : Calls Tryz.prog 65 #[.int .u64 (T : Int), .agg m.cells, .int .i64 (k : Int)] w fun e w' => e = .returned (.int .u64 ((T + 8 * slotN m.ipa k : Nat) : Int)) ∧ Below w.heap.size w w' := by
  have hSz : ∀ W, Calls Tryz.prog 29 #[.int .i64 (k : Int)] W fun e w' => e = .returned (.int .u64 (lvN k : Int)) ∧ w' = W := dsize_any k hk
  have hM0 := lvN_pos k
  obtain ⟨sl, hsl⟩ : ∃ sl, sl = slotN m.ipa k := ⟨_, rfl⟩
  rw [← hsl]
  unfold slotN at hsl
  obtain ⟨M, hM⟩ : ∃ M, M = lvN k := ⟨_, rfl⟩
  rw [← hM] at hM0 hsl
  simp only [← hM] at hSz
  obtain ⟨q, hqe⟩ : ∃ q, q = m.ipa / M := ⟨_, rfl⟩
  rw [← hqe] at hsl
  have hqd : (m.ipa : Int) / (M : Int) = (q : Int) := by rw [hqe]; exact (Int.natCast_ediv _ _).symm
  have hqm : q ≤ m.ipa := by rw [hqe]; exact Nat.div_le_self _ _
  have hwq : IntKind.u64.wrap (q : Int) = (q : Int) := IntWalk.u64_in _ (by omega)
  have HSL := Lib.hid hsl
  clear hqe hM hsl
  have hb := Blk.new w 91 m.cells
  have B0 : Below w.heap.size w (w.alloc (.cells m.cells 91)) := (Below.refl _ w).alloc (Nat.le_refl _) _
  go_enter Tryz.func65, Tryz.ntmps65
  go_wp2_with fail
  generalize w.alloc (.cells m.cells 91) = W1 at *
  refine Flow.wp_region_flow (w.heap.size) [] [(1, fun W => Blk W w.heap.size 91 m.cells)] (by kernel_rfl) (by kernel_rfl) B0.size (fun _ h => by cases h) (Flow.facts_cons (hb.drew) (Flow.kept_blk id) Flow.fz_nil Flow.facts_nil) ?_
  refine Flow.pass_val (.pointer (some ⟨w.heap.size, 0, none⟩)) (Flow.met_none rfl) (fun a W hH => ?_) ?_
  · have e0 := Flow.see_old 4 hH.sees (by kernel_rfl) (by kernel_rfl) rfl
    go_simp; first | done | rfl
  refine Flow.pass_val (.int .u64 (m.ipa : Int)) (Flow.met_none rfl) (fun a W hH => ?_) ?_
  · have e0 := Flow.see_new 8 0 hH.sees (by kernel_rfl) (by kernel_rfl) rfl rfl
    have fa0 : (fun W => Blk W w.heap.size 91 m.cells) W := hH.fact _ (List.mem_of_getElem? (i := 0) rfl) rfl
    have cc : World.cell? W ⟨w.heap.size, 0, none⟩ = some (.int .u64 (m.ipa : Int)) := (fa0.cell 0).trans rfl; go_simp; first | done | rfl
  refine Flow.pass_old 2 (Flow.met_none rfl) (.inl rfl) (by kernel_rfl) (by kernel_rfl) rfl ?_
  refine Flow.pass_step (Reg.eqs (.int .u64 (M : Int))) (fun _ _ => Flow.kept_eqs _ _) (Flow.met_none rfl) (fun a W hH => ?_) ?_
  · have e0 := Flow.see_new 10 2 hH.sees (by kernel_rfl) (by kernel_rfl) rfl rfl
    refine Reg.wp_call rfl Tryz.func29 rfl (by kernel_rfl) (by simp [Act.eval, e0]) (hSz W) ?_
    rintro e w' ⟨rfl, rfl⟩
    exact ⟨_, rfl, _, rfl, Below.refl _ _, rfl⟩
  refine Flow.pass_val (.int .u64 (q : Int)) (Flow.met_none rfl) (fun a W hH => ?_) ?_
  · have e0 := Flow.see_new 9 1 hH.sees (by kernel_rfl) (by kernel_rfl) rfl rfl
    have e1 := Flow.see_new 11 3 hH.sees (by kernel_rfl) (by kernel_rfl) rfl rfl
    go_simp; omega
  refine Flow.pass_copy 12 4 (Flow.met_none rfl) (.inr rfl) (by kernel_rfl) (by kernel_rfl) rfl rfl (fun _ _ => Flow.kept_eqs _ _) ?_
  refine Flow.pass_end [none, none, none, none, none, none, none, some 7, some 8, some 9, some 10, some 11, some 12, none, none, none, none, none, none, none, none] (by kernel_rfl) ?_
  intro f gg w9 hB hfa hT hfg
  have h7 : f 7 = _ := (hfg 7 5 (by kernel_rfl)).trans (hT 5 _ (by kernel_rfl) rfl)
  have B9 : Below w.heap.size w w9 := B0.drew.trans hB
  simp only [Reg.sel, h7]
  by_cases h1 : 1 < k
  · have hd : decide ((1 : Int) < (k : Int)) = true := by simp; omega
    have h8 : IntKind.u64.wrap (8 * ((q : Int) % 512)) = 8 * ((q : Int) % 512) := IntWalk.u64_in _ (by omega)
    have h9 : IntKind.u64.wrap ((T : Int) + 8 * ((q : Int) % 512)) = (T : Int) + 8 * ((q : Int) % 512) := IntWalk.u64_in _ (by omega)
    go_wp2
    go_ret
    refine ⟨ret_int ?_, B9⟩
    rw [HSL.out, if_pos h1] <;> omega
  · have hd : decide ((1 : Int) < (k : Int)) = false := by simp; omega
    have h8 : IntKind.u64.wrap (8 * (q : Int)) = 8 * (q : Int) := IntWalk.u64_in _ (by omega)
    have h9 : IntKind.u64.wrap ((T : Int) + 8 * (q : Int)) = (T : Int) + 8 * (q : Int) := IntWalk.u64_in _ (by omega)
    go_wp2
    go_ret
    refine ⟨ret_int ?_, B9⟩
    rw [HSL.out, if_neg h1] <;> omega
end Go.Proofs.YtpellkblaeeopaaGreatDoor
/-
  The region law with one thing more (G) that holds until one of the operations KS is done: what a writing operation must leave, and a reading one finds, whichever comes first.
-/
namespace Go.Proofs.YtpellkblaeeopaaGreatDoor
open Go.RowKit
namespace Flow
open Reg
section
variable {P : Program} {ops : Array Oper} {Q : Exit → Act → World → Prop} {a0 : Act} {w0 : World} {n0 : Nat} {zs : Zs} {fs : Fs} {KS : List Nat} {G : World → Prop}
/-- the operations that end G wait for this one -/
def ahead (ops : Array Oper) (KS : List Nat) (i : Nat) : Bool := KS.all fun k => k == i || waits ops 8 k i
def StepG (KS : List Nat) (G : World → Prop) (i : Nat) (P : Program) (ops : Array Oper) (Q : Exit → Act → World → Prop) (Z : Nat → Prop) (o : Oper) (T : KdL) (a : Act) (w : World) : Prop :=
  (Region.wanted o (yielded ops a.tmps) = true ∧ OpWp P o a w (fun a' w' => ∃ v, a' = a.put o.dst v ∧ Chg Z w w' ∧ (∀ D, T D v w') ∧ (KS.elem i = false → G w → G w')) Q) ∨
  (Region.wanted o (yielded ops a.tmps) = false ∧ ∀ D, T D undef w)
structure GoodG (KS : List Nat) (G : World → Prop) (P : Program) (ops : Array Oper) (Q : Exit → Act → World → Prop) (a0 : Act) (w0 : World) (n0 : Nat) (zs : Zs) (fs : Fs) (Ts : List KdL) (i : Nat) (o : Oper) (T : KdL) : Prop where
  kept : ∀ k, mayFollow ops i k = true → KeptL k (zone zs k) T
  step : ∀ a w, Hands ops a0 w0 n0 (fs ++ [(i, fun W => ahead ops KS i = true → G W)]) Ts i o a w → StepG KS G i P ops Q (zone zs i) o T a w
theorem step_anyG (hs : Reg.shape ops a0.tmps.size = true) (hn0 : n0 ≤ w0.heap.size) (hzs : ∀ p ∈ zs, ∀ b, p.2 b → n0 ≤ b) {Ts : List KdL}
    (hfs : ∀ p ∈ fs, ∀ k, mayFollow ops k p.1 = true → Kept (zone zs k) p.2)
    (hg : ∀ i o, ops[i]? = some o → ∃ T, Ts[i]? = some T ∧ GoodG KS G P ops Q a0 w0 n0 zs fs (Ts.take i) i o T)
    (hend : ∀ a w, Final ops a0 w0 n0 fs Ts a w → Q .normal a w) :
    ∀ (fuel : Nat) (L : Array Bool) (a : Act) (w : World), J ops a0 w0 n0 fs Ts L a w → ((∀ k ∈ KS, L.getD k false = false) → G w) → ((List.range ops.size).filter fun i => !L.getD i true).length ≤ fuel → wpAny P .any ops Q fuel L a w := by
  have hclose : ∀ (L : Array Bool) (a : Act) (w : World), J ops a0 w0 n0 fs Ts L a w → Region.ready .any ops L = [] → ∀ j, j < ops.size → L.getD j false = true := by
    intro L a w hJ hr j
    induction j using Nat.strongRecOn with
    | _ j ih =>
      intro hj
      cases hL : L.getD j false with
      | true => rfl
      | false =>
        exfalso
        have hmem : j ∈ Region.ready .any ops L := by
          unfold Region.ready
          rw [List.mem_filter]
          refine ⟨by simpa using hj, ?_⟩
          have hjL : j < L.size := by rw [hJ.size]; exact hj
          have h1 : L.getD j true = false := by
            simp [hjL] at hL ⊢; exact hL
          rw [h1, Array.getElem?_eq_getElem hj]
          simp only [Bool.not_false, Option.map_some, Option.getD_some, Bool.true_and, Array.all_eq_true]
          intro k hk
          have hsj := (List.all_eq_true.1 hs) j (by simpa using hj)
          rw [Array.getElem?_eq_getElem hj] at hsj
          simp only [Option.map_some, Option.getD_some, Bool.and_eq_true] at hsj
          have he := (Array.all_eq_true.1 hsj.2) k hk
          simp only [binds, Bool.or_eq_true, Bool.not_eq_true', decide_eq_true_eq] at he
          rcases he with he | he
          · simp [he]
          · rw [ih _ he (by omega)]; simp
        rw [hr] at hmem
        cases hmem
  have hfin : ∀ (L : Array Bool) (a : Act) (w : World), J ops a0 w0 n0 fs Ts L a w → Region.ready .any ops L = [] → Q .normal a w := by
    intro L a w hJ hr
    refine hend a w ⟨hJ.defers, hJ.tmps, hJ.below, fun t ht => hJ.old t (fun j hj => by rw [ht] at hj; cases hj), fun j hj => (hJ.new j (hclose L a w hJ hr j hj)).imp fun v ⟨T, h1, h2, h3⟩ => ⟨T, doneOf L, h1, h2, h3⟩, fun p hp hge => hJ.fact p hp ?_⟩
    have : ¬ p.1 < L.size := by rw [hJ.size]; omega
    simp [this]
  intro fuel
  induction fuel with
  | zero =>
    intro L a w hJ hGw hf
    have hr : Region.ready .any ops L = [] := by
      have h0 : ((List.range ops.size).filter fun i => !L.getD i true) = [] := List.eq_nil_of_length_eq_zero (by omega)
      unfold Region.ready
      apply List.eq_nil_iff_forall_not_mem.2
      intro i hi
      rw [List.mem_filter] at hi
      have : i ∈ ((List.range ops.size).filter fun i => !L.getD i true) := by
        rw [List.mem_filter]
        exact ⟨hi.1, (Bool.and_eq_true _ _ ▸ hi.2).1⟩
      rw [h0] at this; cases this
    exact ⟨hr, hfin L a w hJ hr⟩
  | succ fuel ih =>
    intro L a w hJ hGw hf
    refine ⟨hfin L a w hJ, fun i hi => ?_⟩
    unfold Region.ready at hi
    rw [List.mem_filter] at hi
    obtain ⟨hir, hib⟩ := hi
    have hi' : i < ops.size := by simpa using hir
    have hiL : i < L.size := by rw [hJ.size]; exact hi'
    rw [Array.getElem?_eq_getElem hi'] at hib
    simp only [Option.map_some, Option.getD_some, Bool.and_eq_true, Bool.not_eq_true'] at hib
    obtain ⟨hiF, hedges⟩ := hib
    have hiF' : L.getD i false = false := by simp [hiL] at hiF ⊢; exact hiF
    have hpre : ∀ e ∈ (ops[i]'hi').after, binds e = true → L.getD e.on false = true := by
      intro e he hb
      have := (Array.all_eq_true'.1 hedges) e he
      simp only [binds] at hb
      simpa [hb] using this
    obtain ⟨T, hT, hgood⟩ := hg i _ (Array.getElem?_eq_getElem hi')
    have hsi := (List.all_eq_true.1 hs) i (by simpa using hi')
    rw [Array.getElem?_eq_getElem hi'] at hsi
    simp only [Option.map_some, Option.getD_some, Bool.and_eq_true] at hsi
    obtain ⟨⟨hlook, hdst⟩, hback⟩ := hsi
    have hbeh : ∀ j, behind ops i j = true → L.getD j false = true := by
      intro j hb
      simp only [behind, Array.getElem?_eq_getElem hi', Option.map_some, Option.getD_some, Array.any_eq_true', Bool.and_eq_true, beq_iff_eq] at hb
      obtain ⟨e, he, hbe, hon⟩ := hb
      have hLj := hpre e he hbe
      rwa [hon] at hLj
    have hstep := hgood.step a w ⟨hJ.below, hJ.defers, fun p hp he => (by
        rcases List.mem_append.1 hp with h | h
        · exact hJ.fact p h (by rw [he]; exact hiF')
        · rw [List.mem_singleton.1 h]
          intro hah
          refine hGw fun k hk => ?_
          have h2 := (List.all_eq_true.1 hah) k hk
          simp only [Bool.or_eq_true, beq_iff_eq] at h2
          rcases h2 with h2 | h2
          · rw [h2]; exact hiF'
          · cases hLk : L.getD k false with
            | false => rfl
            | true => rw [waits_closed hJ.closed 8 k i hLk h2] at hiF'; cases hiF'), by
      intro t ht
      have hl1 := (List.all_eq_true.1 hlook) t ht
      unfold SeesL
      cases hw : writer ops t with
      | none => exact hJ.old t (fun j hj => by rw [hw] at hj; cases hj)
      | some j =>
        simp only [hw, Bool.or_eq_true, Bool.and_eq_true, decide_eq_true_eq, beq_iff_eq] at hl1
        simp only []
        split
        · rename_i hji
          rcases hl1 with (⟨_, hb⟩ | ⟨h1, _⟩) | h1
          · obtain ⟨v, T', h1, h2, h3⟩ := hJ.new j (hbeh j hb)
            refine ⟨v, T', doneOf L, ?_, h3 t hw, ⟨hiF', fun k hk => ?_⟩, h2⟩
            · rw [List.getElem?_take, if_pos hji]; exact h1
            · cases hLk : doneOf L k with
              | false => rfl
              | true => rw [waits_closed hJ.closed 8 k i hLk hk] at hiF'; cases hiF' 
          · omega
          · omega
        · rename_i hji
          refine hJ.old t (fun j' hj' => ?_)
          rw [hw] at hj'; cases hj'
          rcases hl1 with (⟨h1, _⟩ | ⟨_, hb⟩) | h1
          · omega
          · cases hLj : L.getD j false with
            | false => rfl
            | true =>
              exfalso
              have hj := (writer_some hw).1
              simp only [behind, Array.getElem?_eq_getElem hj, Option.map_some, Option.getD_some, Array.any_eq_true', Bool.and_eq_true, beq_iff_eq] at hb
              obtain ⟨e, he, hbe, hon⟩ := hb
              have := hJ.closed j _ hLj (Array.getElem?_eq_getElem hj) e he hbe
              rw [hon, hiF'] at this; cases this
          · rw [h1]; exact hiF', fun j hji hb => by
      obtain ⟨v, T', h1, h2, _⟩ := hJ.new j (hbeh j hb)
      refine ⟨v, T', doneOf L, by rw [List.getElem?_take, if_pos hji]; exact h1, ⟨hiF', fun k hk => ?_⟩, h2⟩
      cases hLk : doneOf L k with
      | false => rfl
      | true => rw [waits_closed hJ.closed 8 k i hLk hk] at hiF'; cases hiF'⟩
    have hcount : ((List.range ops.size).filter fun k => !(L.setIfInBounds i true).getD k true).length ≤ fuel := by
      have hlt : ((List.range ops.size).filter fun k => !(L.setIfInBounds i true).getD k true).length < ((List.range ops.size).filter fun k => !L.getD k true).length := by
        have hsub : ((List.range ops.size).filter fun k => !(L.setIfInBounds i true).getD k true) = ((List.range ops.size).filter fun k => !L.getD k true).filter (· != i) := by
          rw [List.filter_filter]
          apply List.filter_congr
          intro k hk
          have hk' : k < ops.size := by simpa using hk
          have hkL : k < L.size := by rw [hJ.size]; exact hk'
          by_cases h : k = i
          · subst h; simp [hkL]
          · simp [h, Array.getElem?_setIfInBounds_ne (Ne.symm h)]
        rw [hsub]
        have hm : i ∈ ((List.range ops.size).filter fun k => !L.getD k true) := by
          rw [List.mem_filter]; exact ⟨hir, by simp [hiF]⟩
        exact List.length_filter_lt_length_iff_exists.2 ⟨i, hm, by simp⟩
      omega
    have hD : doneOf (L.setIfInBounds i true) = setD (doneOf L) i := by
      funext k
      simp only [doneOf, setD, getD_set _ _ _ hiL]
    have hJ' : ∀ v w', Chg (zone zs i) w w' → (∀ D, T D v w') → J ops a0 w0 n0 fs Ts (L.setIfInBounds i true) (a.put (ops[i]'hi').dst v) w' := by
      intro v w' hE hTv
      have hput : ∀ j t, writer ops t = some j → j ≠ i → (a.put (ops[i]'hi').dst v).tmps[t]? = a.tmps[t]? := by
        intro j t ht hji
        cases hd : (ops[i]'hi').dst with
        | none => rfl
        | some d =>
          simp only [Act.put]
          rw [Array.getElem?_setIfInBounds_ne]
          intro e
          subst e
          rw [hd] at hdst
          simp only [Bool.and_eq_true, beq_iff_eq] at hdst
          rw [hdst.2] at ht; cases ht; exact hji rfl
      refine ⟨by simpa using hJ.size, ?_, ?_, ?_, hJ.below.trans (hE.below (zone_le zs hzs i) (Nat.le_trans hn0 hJ.below.size)), ?_, ?_, ?_⟩
      · intro j o hj ho e he hb
        rw [getD_set _ _ _ hiL] at hj ⊢
        split
        · rfl
        · split at hj
          · rename_i _ hji
            subst hji
            rw [Array.getElem?_eq_getElem hi'] at ho; cases ho
            exact hpre e he hb
          · exact hJ.closed j o hj ho e he hb
      · cases hd : (ops[i]'hi').dst <;> simpa [Act.put, hd] using hJ.defers
      · cases hd : (ops[i]'hi').dst <;> simpa [Act.put, hd] using hJ.tmps
      · intro t ht
        have hti : (ops[i]'hi').dst ≠ some t := by
          intro hd
          rw [hd] at hdst
          simp only [Bool.and_eq_true, beq_iff_eq] at hdst
          have := ht i hdst.2
          rw [getD_set _ _ _ hiL, if_pos rfl] at this; cases this
        have h1 : (a.put (ops[i]'hi').dst v).tmps[t]? = a.tmps[t]? := by
          cases hd : (ops[i]'hi').dst with
          | none => rfl
          | some d => simp only [Act.put]; exact Array.getElem?_setIfInBounds_ne (fun e => hti (by rw [hd, e]))
        rw [h1]
        refine hJ.old t (fun j hj => ?_)
        have := ht j hj
        rw [getD_set _ _ _ hiL] at this
        split at this
        · cases this
        · exact this
      · intro j hj
        rw [getD_set _ _ _ hiL] at hj
        by_cases hji : j = i
        · subst hji
          refine ⟨v, T, hT, hTv _, fun t ht => ?_⟩
          have hd := (writer_some ht).2
          rw [Array.getElem?_eq_getElem hi'] at hd
          simp only [Option.bind_some] at hd
          rw [hd] at hdst ⊢
          simp only [Bool.and_eq_true, decide_eq_true_eq] at hdst
          have : t < a.tmps.size := by rw [hJ.tmps]; exact hdst.1
          simp [Act.put, this]
        · rw [if_neg hji] at hj
          obtain ⟨v', T', h1, h2, h3⟩ := hJ.new j hj
          have hjs : j < ops.size := by
            rcases Nat.lt_or_ge j ops.size with h | h
            · exact h
            · have : ¬ j < L.size := by rw [hJ.size]; omega
              simp [this] at hj
          obtain ⟨T'', h4, h5⟩ := hg j _ (Array.getElem?_eq_getElem hjs)
          rw [h1] at h4; cases h4
          have hmay : mayFollow ops j i = true := by
            simp only [mayFollow, Bool.and_eq_true, Bool.not_eq_true', beq_eq_false_iff_ne]
            refine ⟨fun e => hji e.symm, ?_⟩
            cases hw : waits ops 8 j i with
            | false => rfl
            | true => rw [waits_closed hJ.closed 8 j i hj hw] at hiF'; cases hiF'
          exact ⟨v', T', h1, by rw [hD]; exact h5.kept i hmay _ _ _ _ hE h2, fun t ht => by rw [hput j t ht hji]; exact h3 t ht⟩
      · intro p hp hLp
        rw [getD_set _ _ _ hiL] at hLp
        by_cases hpi : p.1 = i
        · rw [if_pos hpi] at hLp; cases hLp
        · rw [if_neg hpi] at hLp
          have hmay : mayFollow ops i p.1 = true := by
            simp only [mayFollow, Bool.and_eq_true, Bool.not_eq_true', beq_eq_false_iff_ne]
            refine ⟨hpi, ?_⟩
            cases hw : waits ops 8 i p.1 with
            | false => rfl
            | true =>
              simp only [waits, Array.getElem?_eq_getElem hi', Option.map_some, Option.getD_some, Array.any_eq_true', Bool.and_eq_true, Bool.or_eq_true, beq_iff_eq] at hw
              obtain ⟨e, he, hb, h⟩ := hw
              have h1 := hpre e he hb
              rcases h with h | h
              · rw [h, hLp] at h1; cases h1
              · rw [waits_closed hJ.closed 7 _ _ h1 h] at hLp; cases hLp
          exact hfs p hp i hmay _ _ hE (hJ.fact p hp hLp)
    have hKS : ∀ w', (KS.elem i = false → G w → G w') → (∀ k ∈ KS, (L.setIfInBounds i true).getD k false = false) → G w' := by
      intro w' hw hall
      have hni : KS.elem i = false := by
        cases h : KS.elem i with
        | false => rfl
        | true =>
          have := hall i (List.mem_of_elem_eq_true h)
          rw [getD_set _ _ _ hiL, if_pos rfl] at this; cases this
      refine hw hni (hGw fun k hk => ?_)
      have := hall k hk
      rw [getD_set _ _ _ hiL] at this
      split at this
      · cases this
      · exact this
    unfold wpOp
    rw [Array.getElem?_eq_getElem hi']
    simp only []
    rcases hstep with ⟨hw, hwp⟩ | ⟨hw, hTu⟩
    · rw [if_pos hw]
      rcases hwp with hwp | hwp
      · refine .inl (Oper.wp_mono ?_ hwp)
        rintro a' w' ⟨v, rfl, hE, hTv, hGv⟩
        exact ih _ _ _ (hJ' v w' hE hTv) (hKS w' hGv) hcount
      · exact .inr hwp
    · rw [if_neg (by rw [hw]; simp)]
      exact ih _ _ _ (hJ' undef w (Chg.refl _ _) hTu) (hKS w (fun _ h => h)) hcount

def PassG (KS : List Nat) (G : World → Prop) (P : Program) (ops : Array Oper) (Q : Exit → Act → World → Prop) (a0 : Act) (w0 : World) (n0 : Nat) (zs : Zs) (fs : Fs) (E : List KdL → Prop) : List Oper → List KdL → Prop
  | [], Rs => E Rs.reverse
  | o :: rest, Rs => ∃ T, GoodG KS G P ops Q a0 w0 n0 zs fs Rs.reverse Rs.length o T ∧ PassG KS G P ops Q a0 w0 n0 zs fs E rest (T :: Rs)
theorem passG_get {E : List KdL → Prop} : ∀ (l : List Oper) (Rs : List KdL), PassG KS G P ops Q a0 w0 n0 zs fs E l Rs →
    ∃ Us, E (Rs.reverse ++ Us) ∧ Us.length = l.length ∧ ∀ i o, l[i]? = some o → ∃ T, Us[i]? = some T ∧ GoodG KS G P ops Q a0 w0 n0 zs fs (Rs.reverse ++ Us.take i) (Rs.length + i) o T
  | [], Rs, h => ⟨[], by simpa [PassG] using h, rfl, fun i o h => by simp at h⟩
  | o :: rest, Rs, ⟨T, hg, hp⟩ => by
    obtain ⟨Us, hE, hl, hU⟩ := passG_get rest (T :: Rs) hp
    refine ⟨T :: Us, by simpa using hE, by simp [hl], fun i o' hi => ?_⟩
    cases i with
    | zero =>
      simp at hi; subst hi
      exact ⟨T, rfl, by simpa using hg⟩
    | succ i =>
      simp at hi
      obtain ⟨T', h1, h2⟩ := hU i o' hi
      refine ⟨T', by simpa using h1, ?_⟩
      have e : (T :: Rs).reverse ++ Us.take i = Rs.reverse ++ (T :: Us).take (i + 1) := by simp
      have e2 : (T :: Rs).length + i = Rs.length + (i + 1) := by simp; omega
      rw [e, e2] at h2; exact h2
/-- an operation that writes nothing: by the steps of the elder pass -/
theorem passG_of {E : List KdL → Prop} {o : Oper} {rest : List Oper} {Rs : List KdL} (hG : ∀ w w', Ext w w' → G w → G w') (hz : zone zs Rs.length = fun _ => False)
    (h : PassR P ops Q a0 w0 n0 zs (fs ++ [(Rs.length, fun W => ahead ops KS Rs.length = true → G W)]) (fun Ts => PassG KS G P ops Q a0 w0 n0 zs fs E rest Ts.reverse) [o] Rs) : PassG KS G P ops Q a0 w0 n0 zs fs E (o :: rest) Rs := by
  obtain ⟨T, hg, hp⟩ := h
  refine ⟨T, ⟨hg.kept, fun a w hH => ?_⟩, by simpa [PassR] using hp⟩
  rcases hg.step a w hH with ⟨h1, h2⟩ | h
  · refine .inl ⟨h1, ?_⟩
    rcases h2 with h2 | h2
    · refine .inl (Oper.wp_mono ?_ h2)
      rintro a' w' ⟨v, e, hE, hT⟩
      rw [hz] at hE
      exact ⟨v, e, by rw [hz]; exact hE, hT, fun _ => hG w w' hE.ext⟩
    · exact .inr h2
  · exact .inr h
/-- one that writes: its kind tells that G holds behind it -/
theorem passG_zone {E : List KdL → Prop} {o : Oper} {rest : List Oper} {Rs : List KdL}
    (h : PassR P ops Q a0 w0 n0 zs (fs ++ [(Rs.length, fun W => ahead ops KS Rs.length = true → G W)]) (fun Ts => (∀ T ∈ Ts.getLast?, KS.elem Rs.length = false → ∀ v w, (∀ D, T D v w) → G w) ∧ PassG KS G P ops Q a0 w0 n0 zs fs E rest Ts.reverse) [o] Rs) : PassG KS G P ops Q a0 w0 n0 zs fs E (o :: rest) Rs := by
  obtain ⟨T, hg, hp⟩ := h
  obtain ⟨hTG, hp⟩ := (by simpa [PassR] using hp : (KS.elem Rs.length = false → ∀ v w, (∀ D, T D v w) → G w) ∧ PassG KS G P ops Q a0 w0 n0 zs fs E rest (T :: Rs))
  refine ⟨T, ⟨hg.kept, fun a w hH => ?_⟩, hp⟩
  rcases hg.step a w hH with ⟨h1, h2⟩ | h
  · refine .inl ⟨h1, ?_⟩
    rcases h2 with h2 | h2
    · refine .inl (Oper.wp_mono ?_ h2)
      rintro a' w' ⟨v, e, hE, hT⟩
      exact ⟨v, e, hE, hT, fun h _ => hTG h v w' hT⟩
    · exact .inr h2
  · exact .inr h
theorem go_on {E : List KdL → Prop} {rest : List Oper} {T : KdL} {Rs : List KdL} {fs' : Fs} (h : PassG KS G P ops Q a0 w0 n0 zs fs E rest (T :: Rs)) :
    PassR P ops Q a0 w0 n0 zs fs' (fun Ts => PassG KS G P ops Q a0 w0 n0 zs fs E rest Ts.reverse) [] (T :: Rs) := by
  show PassG KS G P ops Q a0 w0 n0 zs fs E rest (T :: Rs).reverse.reverse
  rw [List.reverse_reverse]; exact h
theorem go_onZ {E : List KdL → Prop} {rest : List Oper} {T : KdL} {Rs : List KdL} {fs' : Fs} (hT : KS.elem Rs.length = false → ∀ v w, (∀ D, T D v w) → G w) (h : PassG KS G P ops Q a0 w0 n0 zs fs E rest (T :: Rs)) :
    PassR P ops Q a0 w0 n0 zs fs' (fun Ts => (∀ T ∈ Ts.getLast?, KS.elem Rs.length = false → ∀ v w, (∀ D, T D v w) → G w) ∧ PassG KS G P ops Q a0 w0 n0 zs fs E rest Ts.reverse) [] (T :: Rs) := by
  refine ⟨fun T' hT' => ?_, by rw [List.reverse_reverse]; exact h⟩
  simp at hT'
  subst hT'
  exact hT
theorem wpIn_region_flowG {F : Fence} {n : Nat} {id : Nat} (hF : Plain F) (hnd : noDefer ops = true) (KS : List Nat) (G : World → Prop) (n0 : Nat) (zs : Zs) (fs : Fs) (hm : P.follows .mixedOrders = true) (hs : Reg.shape ops a0.tmps.size = true) (hn0 : n0 ≤ w0.heap.size) (hzs : ∀ p ∈ zs, ∀ b, p.2 b → n0 ≤ b)
    (hfs : ∀ p ∈ fs, p.2 w0.drew ∧ ∀ k, mayFollow ops k p.1 = true → Kept (zone zs k) p.2) (hG : G w0.drew)
    (h : PassG KS G P ops (onlyN Q) a0 w0.drew n0 zs fs (fun Ts => ∀ a w, Final ops a0 w0.drew n0 fs Ts a w → onlyN Q .normal a w) ops.toList []) : (Code.region id ops true).wpIn F n P Q a0 w0 := by
  obtain ⟨Ts, hend, hl, hg⟩ := passG_get _ _ h
  simp only [List.reverse_nil, List.nil_append, List.length_nil, Nat.zero_add] at hend hg
  refine wpIn_region_any hm (any_in hF hnd _ _ _ _ (step_anyG (w0 := w0.drew) (n0 := n0) (fs := fs) (KS := KS) (G := G) hs hn0 hzs (fun p hp => (hfs p hp).2) (fun i o hi => hg i o (by simpa using hi)) hend _ _ _ _
    ⟨by simp, ?_, rfl, rfl, Below.refl _ _, fun t _ => rfl, ?_, fun p hp _ => (hfs p hp).1⟩ (fun _ => hG) (Nat.le_trans (List.length_filter_le _ _) (by simp))))
  · intro j o hj
    exfalso
    by_cases h : j < ops.size <;> simp [h] at hj
  · intro j hj
    exfalso
    by_cases h : j < ops.size <;> simp [h] at hj
end
end Flow
end Go.Proofs.YtpellkblaeeopaaGreatDoor
