/-
  Parts: GdM GdN.
-/
import Derived.Test.YtpellkblaeeopaaGreatDoorC35
/-
  Walk: table's builder: piece (pages one behind the other, from address 0 of the first 2 MiB).
-/
namespace Go.Proofs.YtpellkblaeeopaaGreatDoor
open Go.RowKit

/-- the builder's memory, pool, block and map, behind j pieces; T2, T3: the tables of levels 2 and 3, where they are made -/
structure BSt (W : World) (bb p g bm bt k0 kk : Nat) (ma mb : Option Value) (m : Mm) (F Q : Nat → Prop) (N : Nat) : Prop where
  pm : PMem W p ramT m F N
  po : PoolW W g kk Q
  dis : ∀ b, F b → ¬ Q b
  bl : Blk W bb 97 (bldCs p g (pgA k0) (.map (some bt)))
  mp : MapP W bt ma mb
  bF : ¬ F bb
  bQ : ¬ Q bb
  tF : ¬ F bt
  tQ : ¬ Q bt
  pb : Blk W p 72 #[.int .u64 1073741824, .int .u64 67108864, .map (some bm)]
theorem PMem.fp {w : World} {p : Nat} {ram : Sp} {m : Mm} {F : Nat → Prop} {N : Nat} (h : PMem w p ram m F N) : F p := by obtain ⟨_, _, _, h⟩ := h; exact h.fp
theorem PMem.pl {w : World} {p : Nat} {ram : Sp} {m : Mm} {F : Nat → Prop} {N : Nat} (h : PMem w p ram m F N) : p < w.heap.size := h.flt p h.fp
theorem BSt.ne {W : World} {bb p g bm bt k0 kk : Nat} {ma mb : Option Value} {m : Mm} {F Q : Nat → Prop} {N : Nat} (h : BSt W bb p g bm bt k0 kk ma mb m F Q N) : ¬ bb = bt := fun e => by
  have h1 := h.bl; have h2 := h.mp
  unfold Blk at h1; unfold MapP at h2
  rw [e, h2] at h1; cases h1
theorem BSt.ext {W W' : World} {bb p g bm bt k0 kk : Nat} {ma mb : Option Value} {m : Mm} {F Q : Nat → Prop} {N : Nat} (h : BSt W bb p g bm bt k0 kk ma mb m F Q N) (e : Ext W W') : BSt W' bb p g bm bt k0 kk ma mb m F Q N :=
  ⟨h.pm.keep e.size (fun b _ hl => e.block b hl), h.po.chg (Chg.of_ext (Z := fun _ => False) e) (fun _ _ => id), h.dis, h.bl.ext e, h.mp.chg (Chg.of_ext (Z := fun _ => False) e) id, h.bF, h.bQ, h.tF, h.tQ, h.pb.ext e⟩
theorem run_dsc (w : World) (y : Nat) : (Instr.build 108 #[(0, .int .i64 3), (1, .int .u64 (y : Int)), (2, .int .i64 3), (3, .int .i64 0), (4, .bool true)]).run Tryz.prog w = .ok (.agg (Dc.cells ⟨3, y, 3, 0, true⟩)) w := by
  have := run_build_rows (P := Tryz.prog) w (t := 108) (z := #[.int .i64 0, .int .u64 0, .int .i64 0, .int .i64 0, .bool false]) #[(0, .int .i64 3), (1, .int .u64 (y : Int)), (2, .int .i64 3), (3, .int .i64 0), (4, .bool true)] [.int .i64 3, .int .u64 (y : Int), .int .i64 3, .int .i64 0, .bool true] [(0, 1), (1, 1), (2, 1), (3, 1), (4, 1)]
    Tryz.underlying108 (by kernel_rfl) (by kernel_rfl) rfl (by simp [Rows1, Value.cells]) (by simp [flat, Value.cells])
  simpa [flat, Value.cells, Dc.cells] using this
theorem zeroU64 (w : World) : (zeroValue 22).run Tryz.prog w = .ok (.int .u64 0) w := by kernel_rfl
def u64V (x : Nat) : Value := .int .u64 (x : Int)
/-- the entries of the builder's map ahead of the step at level k, behind j pieces -/
def ma_ (k0 j k : Nat) : Option Value := if j = 0 ∧ k = 2 then none else some (u64V (pgA (k0 + 2)))
def mb_ (k0 j k : Nat) : Option Value := if j = 0 ∧ k ≤ 3 then none else some (u64V (pgA (k0 + 3)))
def kk_ (k0 j k : Nat) : Nat := if j = 0 then k0 + k else k0 + 4
def tt_ (k0 k : Nat) : Nat := if k = 2 then pgA k0 else pgA (k0 + k - 1)
structure MemK (m : Mm) (k0 j k : Nat) (pas : Nat → Nat) : Prop where
  one : 0 < j ∨ 3 ≤ k → W64 m (pgA k0) = pgA (k0 + 2) + 3
  two : 0 < j ∨ 4 ≤ k → W64 m (pgA (k0 + 2)) = pgA (k0 + 3) + 3
  leaf : ∀ i, i < j → W64 m (pgA (k0 + 3) + 8 * i) = leafW 3 (pas i) 3 0
/-- the loop over the levels -/
def PcI (w W : World) (lb bb p g bm bt k0 j k : Nat) (pas : Nat → Nat) (F0 Q0 : Nat → Prop) (N0 : Nat) : Prop :=
  ∃ m F Q N, BSt W bb p g bm bt k0 (kk_ k0 j k) (ma_ k0 j k) (mb_ k0 j k) m F Q N ∧ MemK m k0 j k pas ∧ N ≤ N0 + 8 * (k - 2) ∧ Chg (fun b => F0 b ∨ Q0 b ∨ b = bt) w W ∧ (∀ b, F b → F0 b ∨ lb ≤ b) ∧ (∀ b, Q b → Q0 b ∨ lb ≤ b)
def PcL (w : World) (bb p g bm bt k0 j : Nat) (pas : Nat → Nat) (F0 Q0 : Nat → Prop) (N0 x y : Nat) (tv i : Value) (wr : World) : Prop :=
  ∃ k : Nat, (k = 2 ∨ k = 3 ∨ k = 4) ∧ i = .int .i64 (k : Int) ∧ tv = .int .u64 (tt_ k0 k : Int) ∧ PcI w wr (w.heap.size + 1) bb p g bm bt k0 j k pas F0 Q0 N0 ∧ Blk wr w.heap.size 91 (Mp.cells ⟨x, y, 4096⟩)
set_option maxRecDepth 100000 in
set_option maxHeartbeats 4000000 in
theorem piece_any (bb p g bm bt k0 j : Nat) (pas : Nat → Nat) (hj : j < 512) (hk0 : k0 = 0 ∨ k0 = 4) (hpa : pas j % 4096 = 0) (hpl : pas j < 1099511627776) (F0 Q0 : Nat → Prop) (N0 : Nat) (hN0 : N0 + 100 < maxLen) (w : World) (hF0l : ∀ b, F0 b → b < w.heap.size) (hQ0l : ∀ b, Q0 b → b < w.heap.size) (hI0 : PcI w w w.heap.size bb p g bm bt k0 j 2 pas F0 Q0 N0) :
    Calls Tryz.prog 28 #[.pointer (some ⟨bb, 0, none⟩), .int .i64 3, .agg (Mp.cells ⟨4096 * j, pas j, 4096⟩)] w fun e w' => e = .returned (.int .i64 0) ∧ PcI w w' w.heap.size bb p g bm bt k0 (j + 1) 2 pas F0 Q0 (N0 + 24) := by
  obtain ⟨x, hx⟩ : ∃ x, x = 4096 * j := ⟨_, rfl⟩
  obtain ⟨y, hy⟩ : ∃ y, y = pas j := ⟨_, rfl⟩
  rw [← hx, ← hy]
  have hbl0 : w.cell? ⟨bb, 2, none⟩ = some (.int .u64 (pgA k0 : Int)) := by obtain ⟨_, _, _, _, h, _⟩ := hI0; exact (h.bl.cell 2).trans rfl
  have e0 : Ext w (w.alloc (.cells (Mp.cells ⟨x, y, 4096⟩) 91)) := (Ext.refl w).alloc _
  have hb5 := Blk.new w 91 (Mp.cells ⟨x, y, 4096⟩)
  have c2 : (w.alloc (.cells (Mp.cells ⟨x, y, 4096⟩) 91)).cell? ⟨bb, 2, none⟩ = some (.int .u64 (pgA k0 : Int)) := by
    obtain ⟨_, _, _, _, h, _⟩ := hI0; exact ((h.bl.ext e0).cell 2).trans rfl
  have hHX := Lib.hid (show x = 4096 * j ∧ y = pas j from ⟨hx, hy⟩)
  have hy4 : y % 4096 = 0 ∧ y < 1099511627776 := by omega
  have hxl : x < 2097152 := by omega
  clear hx hy hpa hpl
  go_enter Tryz.func28, Tryz.ntmps28
  go_wp2_with fail
  have hI1 : PcI w (w.alloc (.cells (Mp.cells ⟨x, y, 4096⟩) 91)) (w.heap.size + 1) bb p g bm bt k0 j 2 pas F0 Q0 N0 := by
    obtain ⟨m, F, Q, N, h1, h2, h3, h4, h5, h6⟩ := hI0
    exact ⟨m, F, Q, N, h1.ext e0, h2, h3, h4.trans (Chg.of_ext e0), fun b hb => (h5 b hb).imp id (fun h => by have := h1.pm.flt b hb; omega), fun b hb => (h6 b hb).imp id (fun h => by have := h1.po.lt b hb; omega)⟩
  clear hI0 c2 e0 hbl0
  generalize w.alloc (.cells (Mp.cells ⟨x, y, 4096⟩) 91) = W1 at *
  go_loopw [7, 8] (fun tv i wr => PcL w bb p g bm bt k0 j pas F0 Q0 N0 x y tv i wr) (fun _ i _ => 4 - (intOf i).toNat)
  case atStart => unfold PcL; exact ⟨2, .inl rfl, rfl, rfl, hI1, hb5⟩
  case round =>
    obtain ⟨k, hk, rfl, rfl, ⟨m, F, Q, N, hS, hK, hNl, hC, hF, hQ⟩, hb5k⟩ := hrel
    by_cases hk4 : k = 4
    · subst hk4
      obtain ⟨t, ht⟩ : ∃ t, t = tt_ k0 4 := ⟨_, rfl⟩
      rw [← ht]
      have ht' : t = pgA (k0 + 3) := ht
      obtain ⟨ad, had⟩ : ∃ ad, ad = t + 8 * j := ⟨_, rfl⟩
      have hsn : slotN x 3 = j := by rw [hHX.out.1]; unfold slotN lvN; simp; omega
      have htl : 1073741824 ≤ t ∧ t + 4096 ≤ 1140850688 ∧ t % 4096 = 0 := by rw [ht']; unfold pgA; omega
      have hsl : ∀ W, Calls Tryz.prog 65 #[.int .u64 (t : Int), .agg (Mp.cells ⟨x, y, 4096⟩), .int .i64 3] W fun e w' => e = .returned (.int .u64 (ad : Int)) ∧ Below W.heap.size W w' := fun W => by
        have := slot_any t ⟨x, y, 4096⟩ (by simp only; omega) (by omega) 3 (by omega) W
        simp only [hsn, ← had] at this
        exact this
      have hdp : ∀ W, Calls Tryz.prog 95 #[.int .i64 ((3 : Nat) : Int), .agg (Dc.cells ⟨3, y, 3, 0, true⟩)] W (PutRet W (leafW 3 y 3 0)) := fun W => dput_leaf y 3 3 0 (.inr (.inr rfl)) hy4.1 hy4.2 (by omega) (by omega) W
      have hlay := fun W hM hB => lay_any bb p g (pgA k0) (.map (some bt)) ⟨3, y, 3, 0, true⟩ 3 ad (leafW 3 y 3 0) hdp ramT ⟨by decide, by decide⟩ (by decide) m F N (by omega) (by unfold maxLen at hN0 ⊢; omega) W hM hB
      rw [mput_ram (by omega) (by omega) (by omega), putV_ram (by omega) (by omega) (by omega)] at hlay
      obtain ⟨W5, hW5⟩ : ∃ W5, W5 = wr := ⟨_, rfl⟩
      rw [← hW5] at hS hC hb5k ⊢
      have hb5 := hb5k
      have hbl := hS.bl
      have hpm := hS.pm
      have h5F : ¬ F w.heap.size := fun h => by rcases hF _ h with h | h; have := hF0l _ h; omega; omega
      have HAD := Lib.hid (show ad = t + 8 * j ∧ t = pgA (k0 + 3) from ⟨had, ht'⟩)
      have HTL := Lib.hid htl
      clear hW5 hb5k hsn ht ht' had hdp htl
      go_wp2_with fail
      refine Flow.wp_region_flow (0) [(14, F)] [(2, fun W => Blk W w.heap.size 91 (Mp.cells ⟨x, y, 4096⟩)), (8, fun W => Blk W w.heap.size 91 (Mp.cells ⟨x, y, 4096⟩)), (10, fun W => Blk W w.heap.size 91 (Mp.cells ⟨x, y, 4096⟩)), (12, fun W => Blk W w.heap.size 91 (Mp.cells ⟨x, y, 4096⟩)), (14, fun W => PMem W p ramT m F N), (14, fun W => Blk W bb 97 (bldCs p g (pgA k0) (.map (some bt)))), (14, fun W => W.heap[p]? = W5.heap[p]?), (16, fun W => Chg F W5 W)] (by kernel_rfl) (by kernel_rfl) (Nat.zero_le _) (Flow.nz_cons (fun b hb => Nat.zero_le _) Flow.nz_nil) (Flow.facts_cons (hb5) (Flow.kept_blk id) (Flow.fz_cons (Flow.no_follow (by kernel_rfl)) Flow.fz_nil) (Flow.facts_cons (hb5) (Flow.kept_blk id) (Flow.fz_cons (Flow.no_follow (by kernel_rfl)) Flow.fz_nil) (Flow.facts_cons (hb5) (Flow.kept_blk id) (Flow.fz_cons (Flow.no_follow (by kernel_rfl)) Flow.fz_nil) (Flow.facts_cons (hb5) (Flow.kept_blk id) (Flow.fz_cons (Flow.no_follow (by kernel_rfl)) Flow.fz_nil) (Flow.facts_cons (hpm.keep (Nat.le_refl _) (fun _ _ _ => rfl)) (fun _ _ c h => h.keep c.size (fun b _ hl => c.block b hl id)) (Flow.fz_cons (Flow.no_follow (by kernel_rfl)) Flow.fz_nil) (Flow.facts_cons (hbl) (Flow.kept_blk id) (Flow.fz_cons (Flow.no_follow (by kernel_rfl)) Flow.fz_nil) (Flow.facts_cons (rfl) (fun _ _ c h => (c.block p (Array.getElem?_eq_some_iff.1 (Eq.trans h hS.pb)).1 id).trans h) (Flow.fz_cons (Flow.no_follow (by kernel_rfl)) Flow.fz_nil) (Flow.facts_cons ((Chg.refl _ _).drew) (fun _ _ c h => h.trans (c.mono (fun _ h => h.elim))) (Flow.fz_cons (fun _ => fun _ _ c h => h.trans c) Flow.fz_nil) Flow.facts_nil))))))))  ?_
      refine Flow.pass_old (X := .pointer (some ⟨bb, 0, none⟩)) 0 (Flow.met_none rfl) (.inl rfl) (by kernel_rfl) (by kernel_rfl) rfl ?_
      refine Flow.pass_old (X := .int .u64 (t : Int)) 7 (Flow.met_none rfl) (.inl rfl) (by kernel_rfl) (by kernel_rfl) rfl ?_
      refine Flow.pass_val (.agg (Mp.cells ⟨x, y, 4096⟩)) (Flow.met_none rfl) (fun a W hH => ?_) ?_
      · have e0 := Flow.see_old 5 hH.sees (by kernel_rfl) (by kernel_rfl) rfl
        have fa0 : (fun W => Blk W w.heap.size 91 (Mp.cells ⟨x, y, 4096⟩)) W := hH.fact _ (List.mem_of_getElem? (i := 0) rfl) rfl
        exact reg_load 91 _ rfl e0 fa0 Tryz.underlying91 rfl infMap
      refine Flow.pass_old (X := .int .i64 3) 1 (Flow.met_none rfl) (.inl rfl) (by kernel_rfl) (by kernel_rfl) rfl ?_
      refine Flow.pass_step (Reg.eqs (.int .u64 (ad : Int))) (fun _ _ => Flow.kept_eqs _ _) (Flow.met_none rfl) (fun a W hH => ?_) ?_
      · have e0 := Flow.see_new 72 1 hH.sees (by kernel_rfl) (by kernel_rfl) rfl rfl
        have e1 := Flow.see_new 73 2 hH.sees (by kernel_rfl) (by kernel_rfl) rfl rfl
        have e2 := Flow.see_new 74 3 hH.sees (by kernel_rfl) (by kernel_rfl) rfl rfl
        refine Reg.wp_call rfl Tryz.func65 rfl (by kernel_rfl) (by simp [Act.eval, e0, e1, e2]) (hsl W) ?_
        rintro e w' ⟨rfl, hB⟩
        exact ⟨_, rfl, _, rfl, hB, rfl⟩
      refine Flow.pass_old (X := .int .i64 3) 1 (Flow.met_none rfl) (.inl rfl) (by kernel_rfl) (by kernel_rfl) rfl ?_
      refine Flow.pass_old (X := .int .i64 3) 15 (Flow.met_none rfl) (.inl rfl) (by kernel_rfl) (by kernel_rfl) rfl ?_
      refine Flow.pass_val (.pointer (some ⟨w.heap.size, 1, none⟩)) (Flow.met_none rfl) (fun a W hH => ?_) ?_
      · have e0 := Flow.see_old 5 hH.sees (by kernel_rfl) (by kernel_rfl) rfl
        go_simp; first | done | rfl
      refine Flow.pass_val (.int .u64 (y : Int)) (Flow.met_none rfl) (fun a W hH => ?_) ?_
      · have e0 := Flow.see_new 78 7 hH.sees (by kernel_rfl) (by kernel_rfl) rfl rfl
        have fa1 : (fun W => Blk W w.heap.size 91 (Mp.cells ⟨x, y, 4096⟩)) W := hH.fact _ (List.mem_of_getElem? (i := 1) rfl) rfl
        have cc : World.cell? W ⟨w.heap.size, 1, none⟩ = some (.int .u64 (y : Int)) := (fa1.cell 1).trans rfl; go_simp; first | done | rfl
      refine Flow.pass_val (.pointer (some ⟨w.heap.size, 3, none⟩)) (Flow.met_none rfl) (fun a W hH => ?_) ?_
      · have e0 := Flow.see_old 5 hH.sees (by kernel_rfl) (by kernel_rfl) rfl
        go_simp; first | done | rfl
      refine Flow.pass_val (.int .i64 3) (Flow.met_none rfl) (fun a W hH => ?_) ?_
      · have e0 := Flow.see_new 80 9 hH.sees (by kernel_rfl) (by kernel_rfl) rfl rfl
        have fa2 : (fun W => Blk W w.heap.size 91 (Mp.cells ⟨x, y, 4096⟩)) W := hH.fact _ (List.mem_of_getElem? (i := 2) rfl) rfl
        have cc : World.cell? W ⟨w.heap.size, 3, none⟩ = some (.int .i64 3) := (fa2.cell 3).trans rfl; go_simp; first | done | rfl
      refine Flow.pass_val (.pointer (some ⟨w.heap.size, 4, none⟩)) (Flow.met_none rfl) (fun a W hH => ?_) ?_
      · have e0 := Flow.see_old 5 hH.sees (by kernel_rfl) (by kernel_rfl) rfl
        go_simp; first | done | rfl
      refine Flow.pass_val (.int .i64 0) (Flow.met_none rfl) (fun a W hH => ?_) ?_
      · have e0 := Flow.see_new 82 11 hH.sees (by kernel_rfl) (by kernel_rfl) rfl rfl
        have fa3 : (fun W => Blk W w.heap.size 91 (Mp.cells ⟨x, y, 4096⟩)) W := hH.fact _ (List.mem_of_getElem? (i := 3) rfl) rfl
        have cc : World.cell? W ⟨w.heap.size, 4, none⟩ = some (.int .i64 0) := (fa3.cell 4).trans rfl; go_simp; first | done | rfl
      refine Flow.pass_val (.agg (Dc.cells ⟨3, y, 3, 0, true⟩)) (Flow.met_none rfl) (fun a W hH => ?_) ?_
      · have e0 := Flow.see_new 77 6 hH.sees (by kernel_rfl) (by kernel_rfl) rfl rfl
        have e1 := Flow.see_new 79 8 hH.sees (by kernel_rfl) (by kernel_rfl) rfl rfl
        have e2 := Flow.see_new 81 10 hH.sees (by kernel_rfl) (by kernel_rfl) rfl rfl
        have e3 := Flow.see_new 83 12 hH.sees (by kernel_rfl) (by kernel_rfl) rfl rfl
        exact Flow.reg_build _ rfl (by simp [Act.eval, e0, e1, e2, e3]) (run_dsc W y)
      refine Flow.pass_gen (fun v W => ∃ F1 : Nat → Prop, v = .int .i64 0 ∧ (PMem W p ramT (writeM m ad (putNum (leafW 3 y 3 0) 8 true)) F1 (N + 8) ∧ (∀ b, F b → F1 b) ∧ (∀ b, F1 b → F b ∨ W5.heap.size ≤ b) ∧ W.heap[p]? = W5.heap[p]?)) (Flow.kept_of (fun _ _ _ c ⟨F1, h1, h2, h3, h4, h5⟩ => ⟨F1, h1, h2.keep c.size (fun b _ hl => c.block b hl id), h3, h4, (c.block p h2.pl id).trans h5⟩) (Flow.kz_cons (Flow.no_follow (by kernel_rfl)) Flow.kz_nil)) (Flow.met_none rfl) (fun a W hH => ?_) ?_
      · have e0 := Flow.see_new 71 0 hH.sees (by kernel_rfl) (by kernel_rfl) rfl rfl
        have e1 := Flow.see_new 75 4 hH.sees (by kernel_rfl) (by kernel_rfl) rfl rfl
        have e2 := Flow.see_new 76 5 hH.sees (by kernel_rfl) (by kernel_rfl) rfl rfl
        have e3 := Flow.see_new 84 13 hH.sees (by kernel_rfl) (by kernel_rfl) rfl rfl
        have fa4 : (fun W => PMem W p ramT m F N) W := hH.fact _ (List.mem_of_getElem? (i := 4) rfl) rfl
        have fa5 : (fun W => Blk W bb 97 (bldCs p g (pgA k0) (.map (some bt)))) W := hH.fact _ (List.mem_of_getElem? (i := 5) rfl) rfl
        have fa6 : (fun W => W.heap[p]? = W5.heap[p]?) W := hH.fact _ (List.mem_of_getElem? (i := 6) rfl) rfl
        refine Flow.wp_callZ rfl Tryz.func64 rfl (by kernel_rfl) (by simp [Act.eval, e0, e1, e2, e3]) (hlay W fa4 fa5) ?_
        rintro e w' ⟨rfl, ⟨F1, q1, q2, q3, q4⟩, q5⟩
        exact ⟨_, rfl, q2, F1, rfl, q1, q3, fun b hb => (q4 b hb).imp id (fun h => Nat.le_trans hH.below.size h), q5.trans fa6⟩
      refine Flow.pass_copy 85 14 (Flow.met_none rfl) (.inr rfl) (by kernel_rfl) (by kernel_rfl) rfl rfl (Flow.kept_of (fun _ _ _ c ⟨F1, h1, h2, h3, h4, h5⟩ => ⟨F1, h1, h2.keep c.size (fun b _ hl => c.block b hl id), h3, h4, (c.block p h2.pl id).trans h5⟩) (Flow.kz_cons (Flow.no_follow (by kernel_rfl)) Flow.kz_nil)) ?_
      refine Flow.pass_end [none, none, none, none, none, none, some 6, none, none, none, none, none, none, none, none, none, none, none, none, none, none, none, none, none, none, none, none, none, none, none, none, none, none, none, none, none, none, none, none, none, none, none, none, none, none, none, none, none, none, none, none, none, none, none, none, none, none, none, none, none, none, none, none, none, none, none, none, none, none, none, none, some 71, some 72, some 73, some 74, some 75, some 76, some 77, some 78, some 79, some 80, some 81, some 82, some 83, some 84, some 85] (by kernel_rfl) ?_
      intro f gg w9 hB hfa hT hfg
      obtain ⟨F16, h6, g6⟩ := hT 15 _ (by kernel_rfl) rfl
      rw [← hfg 6 15 (by kernel_rfl)] at h6
      have F7 : (fun W => Chg F W5 W) w9 := hfa _ (List.mem_of_getElem? (i := 7) rfl) (Nat.le_refl _)
      obtain ⟨q1, q2, q3, q4⟩ := g6
      simp only [Reg.sel, h6]
      have hFlt := hS.pm.flt
      have hbbl := hS.bl.lt
      have hbtl := hS.mp.lt
      have hQl := hS.po.lt
      have hn : ∀ b, b < W5.heap.size → ¬ F b → ¬ F16 b := fun b hb hn h => by rcases q3 b h with h | h; exact hn h; omega
      have hwl : w.heap.size < W5.heap.size := hb5.lt
      have hS9 : BSt w9 bb p g bm bt k0 (kk_ k0 (j + 1) 2) (ma_ k0 (j + 1) 2) (mb_ k0 (j + 1) 2) (writeM m ad (putNum (leafW 3 y 3 0) 8 true)) F16 Q (N + 8) := by
        have e1 : kk_ k0 (j + 1) 2 = kk_ k0 j 4 := by unfold kk_; rw [if_neg (by omega)]; split <;> rfl
        have e2 : ma_ k0 (j + 1) 2 = ma_ k0 j 4 := by unfold ma_; rw [if_neg (by omega), if_neg (by omega)]
        have e3 : mb_ k0 (j + 1) 2 = mb_ k0 j 4 := by unfold mb_; rw [if_neg (by omega), if_neg (by omega)]
        rw [e1, e2, e3]
        refine ⟨q1, hS.po.chg F7 (fun b hq hf => hS.dis b hf hq), fun b hf hq => ?_, hS.bl.chg F7 hS.bF, hS.mp.chg F7 hS.tF, hn bb hbbl hS.bF, hS.bQ, hn bt hbtl hS.tF, hS.tQ, Eq.trans q4 hS.pb⟩
        rcases q3 b hf with h | h
        · exact hS.dis b h hq
        · have := hQl b hq; omega
      have hMK : MemK (writeM m ad (putNum (leafW 3 y 3 0) 8 true)) k0 (j + 1) 2 pas := by
        obtain ⟨ha1, ha2⟩ := HAD.out
        have e1 := hK.one (.inr (by omega))
        have e2 := hK.two (.inr (by omega))
        refine ⟨fun _ => ?_, fun _ => ?_, fun i hi => ?_⟩
        · rw [w64_other _ _ _ _ (by rw [ha1, ha2]; unfold pgA; omega)]; exact e1
        · rw [w64_other _ _ _ _ (by rw [ha1, ha2]; unfold pgA; omega)]; exact e2
        · by_cases hij : i = j
          · subst hij
            rw [← ha2, ← ha1, w64_same _ _ _ (leafW_lt 3 y 3 0 hy4.2), hHX.out.2]
          · rw [w64_other _ _ _ _ (by rw [ha1, ha2]; omega)]
            exact hK.leaf i (by omega)
      have hC9 := chg_tr hC F7 (fun b hb h => (hF b h).imp id (fun h => by omega))
      have hPc : PcI w w9 w.heap.size bb p g bm bt k0 (j + 1) 2 pas F0 Q0 (N0 + 24) := ⟨_, F16, Q, N + 8, hS9, hMK, by omega, hC9, fun b h => by
        rcases q3 b h with h | h
        · exact (hF b h).imp id (fun h => by omega)
        · exact .inr (by omega), fun b h => (hQ b h).imp id (fun h => by omega)⟩
      clear hT hfg hfa hB hMK hS9
      go_wp2
      go_ret
      exact ⟨rfl, hPc⟩
    · have hk23 : k = 2 ∨ k = 3 := by omega
      have hab : ∀ W, Calls Tryz.prog 59 #[.agg (Mp.cells ⟨x, y, 4096⟩), .int .i64 (k : Int)] W fun e w' => e = .returned (.agg (plcC k 0)) ∧ Below W.heap.size W w' := fun W => by
        have := above_any ⟨x, y, 4096⟩ (by simp only; omega) k hk23 W
        have e : x / lvN (k - 1) = 0 := by
          rcases hk23 with rfl | rfl
          · rw [lvN_1]; omega
          · rw [lvN_2]; omega
        simp only [e] at this
        exact this
      have hdk : decide ((k : Int) ≤ 3) = true := by simp; omega
      obtain ⟨T, hT⟩ : ∃ T, T = tt_ k0 k := ⟨_, rfl⟩
      rw [← hT]
      have HT := Lib.hid hT
      clear hT hk
      go_wp2_with ((with_reducible refine at_load 91 ?_); refine wpList_loadAll _ rfl 91 _ rfl w.heap.size 91 (Mp.cells ⟨x, y, 4096⟩) hb5k _ rfl Tryz.underlying91 rfl infMap ?_)
      refine (hab _).mono ?_
      rintro e w1 ⟨rfl, hB1⟩
      simp only [plcC]
      go_wp2_with fail
      have E2 : Ext wr (w1.alloc (.cells #[.int .i64 (k : Int), .int .u64 0] 153)) := (Chg.of_below (Z := fun _ => False) hB1 (fun b h1 h2 => absurd h2 (by omega))).ext.trans ((Ext.refl w1).alloc _)
      have hb9 : Blk (w1.alloc (.cells #[.int .i64 (k : Int), .int .u64 0] 153)) w1.heap.size 153 (plcC k 0) := Blk.new w1 153 #[.int .i64 (k : Int), .int .u64 0]
      obtain ⟨b9, hb9e⟩ : ∃ b9, b9 = w1.heap.size := ⟨_, rfl⟩
      have hb9l : wr.heap.size ≤ b9 := by rw [hb9e]; exact hB1.size
      have hwrl : w.heap.size < wr.heap.size := hb5k.lt
      rw [← hb9e] at hb9 ⊢
      have hb5 := hb5k.ext E2
      generalize w1.alloc (.cells #[.int .i64 (k : Int), .int .u64 0] 153) = W2 at *
      have hS2 := hS.ext E2
      have hC2 := hC.trans (Chg.of_ext E2)
      have hFl := hS.pm.flt
      have hQl := hS.po.lt
      have hbtl := hS.mp.lt
      have hbbl := hS.bl.lt
      obtain ⟨ma, hma⟩ : ∃ ma, ma = ma_ k0 j k := ⟨_, rfl⟩
      obtain ⟨mb, hmb⟩ : ∃ mb, mb = mb_ k0 j k := ⟨_, rfl⟩
      obtain ⟨root, hroot⟩ : ∃ root, root = pgA k0 := ⟨_, rfl⟩
      have hmp := hS2.mp
      have hbl := hS2.bl
      rw [← hma, ← hmb] at hmp
      rw [← hroot] at hbl
      obtain ⟨lv, lis, hlk, hcase⟩ : ∃ (lv : Nat) (lis : Bool), (∀ W, MapP W bt ma mb → (Instr.lookup 95 (.map (some bt)) (.agg (plcC k 0)) true).run Tryz.prog W = .ok (.tuple #[.int .u64 (lv : Int), .bool lis]) W) ∧ ((j = 0 ∧ lis = false) ∨ (0 < j ∧ lis = true ∧ lv = tt_ k0 (k + 1))) := by
        rcases Nat.eq_zero_or_pos j with h0 | h0
        · refine ⟨0, false, fun W h => ?_, .inl ⟨h0, rfl⟩⟩
          rcases hk23 with rfl | rfl
          · have e : ma = none := by rw [hma, ma_, if_pos ⟨h0, rfl⟩]
            rw [e] at h; exact look2 h Tryz.underlying95 (zeroU64 W) true
          · have e : mb = none := by rw [hmb, mb_, if_pos ⟨h0, by omega⟩]
            rw [e] at h; exact look3 h (fun _ => rfl) Tryz.underlying95 (zeroU64 W) true
        · refine ⟨tt_ k0 (k + 1), true, fun W h => ?_, .inr ⟨h0, rfl, rfl⟩⟩
          rcases hk23 with rfl | rfl
          · have e : ma = some (u64V (pgA (k0 + 2))) := by rw [hma, ma_, if_neg (by omega)]
            rw [e] at h; exact look2 h Tryz.underlying95 (zeroU64 W) true
          · have e : mb = some (u64V (pgA (k0 + 3))) := by rw [hmb, mb_, if_neg (by omega)]
            have e2 : ma = some (u64V (pgA (k0 + 2))) := by rw [hma, ma_, if_neg (by omega)]
            rw [e, e2] at h; exact look3 h (fun e => (by cases e)) Tryz.underlying95 (zeroU64 W) true
      have HMA := Lib.hid hma
      have HMB := Lib.hid hmb
      have HR := Lib.hid hroot
      have HC := Lib.hid hcase
      have hW2 : w.heap.size ≤ W2.heap.size := Nat.le_trans (Nat.le_of_lt hwrl) E2.size
      clear hma hmb hroot hcase hb9e hB1 hab E2 hb5k
      refine Flow.wp_region_flow (W2.heap.size) [] [(2, fun W => Blk W bb 97 (bldCs p g root (.map (some bt)))), (3, fun W => Blk W bb 97 (bldCs p g root (.map (some bt)))), (4, fun W => Blk W b9 153 (plcC k 0)), (5, fun W => MapP W bt ma mb)] (by kernel_rfl) (by kernel_rfl) (Nat.le_refl _) (fun _ h => by cases h) (Flow.facts_cons (hbl) (Flow.kept_blk id) Flow.fz_nil (Flow.facts_cons (hbl) (Flow.kept_blk id) Flow.fz_nil (Flow.facts_cons (hb9) (Flow.kept_blk id) Flow.fz_nil (Flow.facts_cons (hmp) (fun _ _ c h => h.chg c id) Flow.fz_nil Flow.facts_nil))))  ?_
      refine Flow.pass_old (X := .pointer (some ⟨bb, 0, none⟩)) 0 (Flow.met_none rfl) (.inl rfl) (by kernel_rfl) (by kernel_rfl) rfl ?_
      refine Flow.pass_val (.pointer (some ⟨bb, 0, none⟩)) (Flow.met_none rfl) (fun a W hH => ?_) ?_
      · have e0 := Flow.see_new 29 0 hH.sees (by kernel_rfl) (by kernel_rfl) rfl rfl
        go_simp; first | done | rfl
      refine Flow.pass_val (.pointer (some ⟨bb, 3, none⟩)) (Flow.met_none rfl) (fun a W hH => ?_) ?_
      · have e0 := Flow.see_new 30 1 hH.sees (by kernel_rfl) (by kernel_rfl) rfl rfl
        have fa0 : (fun W => Blk W bb 97 (bldCs p g root (.map (some bt)))) W := hH.fact _ (List.mem_of_getElem? (i := 0) rfl) rfl
        go_simp; first | done | rfl
      refine Flow.pass_val (.map (some bt)) (Flow.met_none rfl) (fun a W hH => ?_) ?_
      · have e0 := Flow.see_new 31 2 hH.sees (by kernel_rfl) (by kernel_rfl) rfl rfl
        have fa1 : (fun W => Blk W bb 97 (bldCs p g root (.map (some bt)))) W := hH.fact _ (List.mem_of_getElem? (i := 1) rfl) rfl
        have cc : World.cell? W ⟨bb, 3, none⟩ = some (.map (some bt)) := (fa1.cell 3).trans rfl; go_simp; first | done | rfl
      refine Flow.pass_val (.agg (plcC k 0)) (Flow.met_none rfl) (fun a W hH => ?_) ?_
      · have e0 := Flow.see_old 9 hH.sees (by kernel_rfl) (by kernel_rfl) rfl
        have fa2 : (fun W => Blk W b9 153 (plcC k 0)) W := hH.fact _ (List.mem_of_getElem? (i := 2) rfl) rfl
        exact reg_load 153 _ rfl e0 fa2 Tryz.underlying153 rfl infPlc
      refine Flow.pass_val (.tuple #[.int .u64 (lv : Int), .bool lis]) (Flow.met_none rfl) (fun a W hH => ?_) ?_
      · have e0 := Flow.see_new 32 3 hH.sees (by kernel_rfl) (by kernel_rfl) rfl rfl
        have e1 := Flow.see_new 33 4 hH.sees (by kernel_rfl) (by kernel_rfl) rfl rfl
        have fa3 : (fun W => MapP W bt ma mb) W := hH.fact _ (List.mem_of_getElem? (i := 3) rfl) rfl
        simp [execOp, Act.eval, e0, e1, hlk W fa3]
      refine Flow.pass_copy 34 5 (Flow.met_none rfl) (.inl rfl) (by kernel_rfl) (by kernel_rfl) rfl rfl (fun _ _ => Flow.kept_eqs _ _) ?_
      refine Flow.pass_val (.int .u64 (lv : Int)) (Flow.met_none rfl) (fun a W hH => ?_) ?_
      · have e0 := Flow.see_new 28 6 hH.sees (by kernel_rfl) (by kernel_rfl) rfl rfl
        go_simp; first | done | rfl
      refine Flow.pass_val (.bool lis) (Flow.met_none rfl) (fun a W hH => ?_) ?_
      · have e0 := Flow.see_new 28 6 hH.sees (by kernel_rfl) (by kernel_rfl) rfl rfl
        go_simp; first | done | rfl
      refine Flow.pass_copy 35 7 (Flow.met_none rfl) (.inr rfl) (by kernel_rfl) (by kernel_rfl) rfl rfl (fun _ _ => Flow.kept_eqs _ _) ?_
      refine Flow.pass_copy 36 8 (Flow.met_none rfl) (.inr rfl) (by kernel_rfl) (by kernel_rfl) rfl rfl (fun _ _ => Flow.kept_eqs _ _) ?_
      refine Flow.pass_end [none, none, none, none, none, none, none, none, none, none, some 10, some 11, none, none, none, none, none, none, none, none, none, none, none, none, none, none, none, none, some 28, some 29, some 30, some 31, some 32, some 33, some 34, some 35, some 36, none, none, none, none, none, none, none, none, none, none, none, none, none, none, none, none, none, none, none, none, none, none, none, none, none, none, none, none, none, none, none, none, none, none, none, none, none, none, none, none, none, none, none, none, none, none, none, none, none] (by kernel_rfl) ?_
      intro f gg w9 hB hfa hT hfg
      have h10 : f 10 = _ := (hfg 10 9 (by kernel_rfl)).trans (hT 9 _ (by kernel_rfl) rfl)
      have h11 : f 11 = _ := (hfg 11 10 (by kernel_rfl)).trans (hT 10 _ (by kernel_rfl) rfl)
      simp only [Reg.sel, h10, h11]
      have E9 : Ext W2 w9 := (Chg.of_below (Z := fun _ => False) ((Below.refl _ W2).drew.trans hB) (fun b h1 h2 => absurd h2 (by omega))).ext
      have hS9 := hS2.ext E9
      have hC9 := hC2.trans (Chg.of_ext E9)
      have hb5 := hb5.ext E9
      have hb9 := hb9.ext E9
      have hs9 := E9.size
      have hb9w := hb9.lt
      clear hT hfg hfa h10 h11 hB hS2 hS hC hC2 hbl hmp hlk E9
      cases lis with
      | true =>
        go_wp2_with fail
        obtain ⟨h0, _, hlv⟩ := HC.out.resolve_left (fun h => by cases h.2)
        go_roundw
        case rel =>
          unfold PcL
          refine ⟨k + 1, by omega, by go_num, by rw [hlv], ⟨m, F, Q, N, ?_, ⟨fun _ => hK.one (.inl h0), fun _ => hK.two (.inl h0), hK.leaf⟩, by omega, hC9, hF, hQ⟩, hb5⟩
          have e1 : kk_ k0 j (k + 1) = kk_ k0 j k := by unfold kk_; rw [if_neg (by omega), if_neg (by omega)]
          have e2 : ma_ k0 j (k + 1) = ma_ k0 j k := by unfold ma_; rw [if_neg (by omega), if_neg (by omega)]
          have e3 : mb_ k0 j (k + 1) = mb_ k0 j k := by unfold mb_; rw [if_neg (by omega), if_neg (by omega)]
          rw [e1, e2, e3]; exact hS9
        case measure => simp [intOf]; omega
      | false =>
        obtain ⟨hj0, _⟩ := HC.out.resolve_right (fun h => by cases h.2.1)
        have hx0 : Hid (x = 0) := Lib.hid (by have := hHX.out.1; omega)
        have hkk : kk_ k0 j k = k0 + k := by unfold kk_; rw [if_pos hj0]
        have hS9' := hS9
        rw [hkk] at hS9'
        have hfr := frames_any bb p g (k0 + k) 1 4096 (pgA k0) (.map (some bt)) (.inl rfl) (by omega) (by omega) (by omega) ramT ⟨by decide, by decide⟩ (by decide) m F Q N w9 hS9'.pm hS9'.po hS9'.dis hS9'.bl hS9'.bF hS9'.bQ
        obtain ⟨at_, hat⟩ : ∃ at_, at_ = pgA (k0 + k) := ⟨_, rfl⟩
        unfold FramesRet at hfr
        rw [(z_ram m (k := k0 + k) (n := 1) (by omega) (by omega)).1, (z_ram m (k := k0 + k) (n := 1) (by omega) (by omega)).2, show 1073741824 + (k0 + k) * 4096 = at_ by rw [hat, pgA]] at hfr
        clear hS9'
        go_wp2_with fail
        refine hfr.mono ?_
        rintro e W3 ⟨rfl, F2, Q2, hM3, hP3, hC3, hFF, hF2, hQ2, hdis2, hpp3⟩
        have hpb3 : Blk W3 p 72 #[.int .u64 1073741824, .int .u64 67108864, .map (some bm)] := Eq.trans hpp3 hS9.pb
        clear hfr
        have h5F : ¬ F w.heap.size := fun h => by rcases hF _ h with h | h; have := hF0l _ h; omega; omega
        have h5Q : ¬ Q w.heap.size := fun h => by rcases hQ _ h with h | h; have := hQ0l _ h; omega; omega
        have h9F : ¬ F b9 := fun h => by have := hFl _ h; omega
        have h9Q : ¬ Q b9 := fun h => by have := hQl _ h; omega
        have hb5 := hb5.chg hC3 (fun h => h.elim h5F h5Q)
        have hb9 := hb9.chg hC3 (fun h => h.elim h9F h9Q)
        have hbl3 := hS9.bl.chg hC3 (fun h => h.elim hS9.bF hS9.bQ)
        have hmp3 := hS9.mp.chg hC3 (fun h => h.elim hS9.tF hS9.tQ)
        have hC3' := chg_tr hC9 hC3 (fun b hb h => by rcases h with h | h; exact (hF b h).imp id (fun h => by omega); exact .inr ((hQ b h).imp id (fun h => by omega)))
        obtain ⟨k1, hk1e⟩ : ∃ k1, k1 = k - 1 := ⟨_, rfl⟩
        have hk1 : (k : Int) - 1 = (k1 : Int) := by omega
        have hk12 : k1 = 1 ∨ k1 = 2 := by omega
        have hT2 : T = pgA k0 ∨ T = pgA (k0 + 2) := by
          rw [HT.out]; unfold tt_
          rcases hk23 with rfl | rfl
          · exact .inl rfl
          · exact .inr rfl
        have hTl : 1073741824 ≤ T ∧ T + 8 ≤ 1140850688 ∧ T % 8 = 0 := by unfold pgA at hT2; omega
        have hatl : at_ % 4096 = 0 ∧ at_ < 1099511627776 ∧ 1073741824 ≤ at_ := by rw [hat]; unfold pgA; omega
        have hsl : ∀ W, Calls Tryz.prog 65 #[.int .u64 (T : Int), .agg (Mp.cells ⟨x, y, 4096⟩), .int .i64 (k1 : Int)] W fun e w' => e = .returned (.int .u64 (T : Int)) ∧ Below W.heap.size W w' := fun W => by
          have := slot_any T ⟨x, y, 4096⟩ (by simp only; omega) (by omega) k1 (by omega) W
          have e : slotN x k1 = 0 := by rw [hx0.out]; unfold slotN; split <;> simp
          simp only [e, Nat.mul_zero, Nat.add_zero] at this
          exact this
        have hlay := fun W hM hB => lay_any bb p g (pgA k0) (.map (some bt)) ⟨1, at_, 0, 0, false⟩ k1 T (at_ + 3) (dput_table at_ k1 hk12 hatl.1 hatl.2.1) ramT ⟨by decide, by decide⟩ (by decide) (clrM m (zSp (k0 + k) 1)) F2 N (by omega) (by unfold maxLen at hN0 ⊢; omega) W hM hB
        rw [mput_ram hTl.1 hTl.2.1 hTl.2.2, putV_ram hTl.1 hTl.2.1 hTl.2.2] at hlay
        simp only [Dc.cells] at hlay
        have HK1 := Lib.hid hk1e
        have HAT := Lib.hid hat
        have HT2 := Lib.hid hT2
        have HTL := Lib.hid hTl
        have HATL := Lib.hid hatl
        have hbF := hS9.bF
        have hpF := hS9.pm.fp
        have hbQ := hS9.bQ
        have htF := hS9.tF
        have htQ := hS9.tQ
        have hbt := hS9.ne
        clear hk1e hat hT2 hTl hatl hC9 hS9 hC3
        go_wp2_with ((with_reducible refine at_load 91 ?_); refine wpList_loadAll _ rfl 91 _ rfl w.heap.size 91 (Mp.cells ⟨x, y, 4096⟩) hb5 _ rfl Tryz.underlying91 rfl infMap ?_)
        refine (hsl _).mono ?_
        rintro e W4 ⟨rfl, hB4⟩
        have E4 : Ext W3 W4 := (Chg.of_below (Z := fun _ => False) hB4 (fun b h1 h2 => absurd h2 (by omega))).ext
        have hM4 := hM3.keep E4.size (fun b _ hl => E4.block b hl)
        have hP4 := hP3.chg (Chg.of_ext (Z := fun _ => False) E4) (fun _ _ => id)
        have hb5 := hb5.ext E4
        have hb9 := hb9.ext E4
        have hbl4 := hbl3.ext E4
        have hW4l : w.heap.size < W4.heap.size := hb5.lt
        have hbb4 : bb < W4.heap.size := hbl4.lt
        have hQ4l := hP4.lt
        have hmp4 := hmp3.chg (Chg.of_ext (Z := fun _ => False) E4) id
        have hbt4 : bt < W4.heap.size := hmp4.lt
        have hpb4 := hpb3.ext E4
        have hFp := hFF p hpF
        have hC4 := hC3'.trans (Chg.of_ext E4)
        clear hB4 hM3 hP3 hbl3 hmp3 hC3' hsl
        go_wp2_with fail
        refine (hlay _ hM4 hbl4).mono ?_
        rintro e W5 ⟨rfl, ⟨F5, hM5, hC5, hFF5, hF5⟩, hpp5⟩
        have hpb5 : Blk W5 p 72 #[.int .u64 1073741824, .int .u64 67108864, .map (some bm)] := Eq.trans hpp5 hpb4
        have hn2 : ∀ b, b < w9.heap.size → ¬ F b → ¬ F2 b := fun b hb hn h => by rcases hF2 b h with h | h; exact hn h; omega
        have hq2 : ∀ b, b < w9.heap.size → ¬ Q b → ¬ Q2 b := fun b hb hn h => by rcases hQ2 b h with h | h; exact hn h; omega
        have hP5 := hP4.chg hC5 (fun b hq hf => hdis2 b hf hq)
        have hb5 := hb5.chg hC5 (hn2 _ (by omega) h5F)
        have hb9 := hb9.chg hC5 (hn2 _ hb9w h9F)
        have hbF2 := hn2 bb (by omega) hbF
        have hbl := hbl4.chg hC5 hbF2
        have htF2 := hn2 bt (by omega) htF
        have hmp := hmp4.chg hC5 htF2
        rw [← HMA.out, ← HMB.out] at hmp
        have hC5' := chg_tr hC4 hC5 (fun b hb h => by rcases hF2 b h with h | h; exact (hF b h).imp id (fun h => by omega); omega)
        have hF5' : ∀ b, F5 b → F0 b ∨ w.heap.size + 1 ≤ b := fun b h => by
          rcases hF5 b h with h | h
          · rcases hF2 b h with h | h
            · exact hF b h
            · exact .inr (by omega)
          · exact .inr (by omega)
        obtain ⟨ma2, hma2⟩ : ∃ ma2, ma2 = ma_ k0 j (k + 1) := ⟨_, rfl⟩
        obtain ⟨mb2, hmb2⟩ : ∃ mb2, mb2 = mb_ k0 j (k + 1) := ⟨_, rfl⟩
        have hup : ∀ W, MapP W bt ma mb → ∃ W2, (Instr.mapUpdate 95 (.map (some bt)) (.agg (plcC k 0)) (.int .u64 (at_ : Int))).run Tryz.prog W = .ok () W2 ∧ W.grownBy W2 (some bt) ∧ MapP W2 bt ma2 mb2 := fun W h => by
          rcases hk23 with rfl | rfl
          · have e1 : ma = none := by rw [HMA.out, ma_, if_pos ⟨hj0, rfl⟩]
            have e2 : mb = none := by rw [HMB.out, mb_, if_pos ⟨hj0, by omega⟩]
            have e3 : ma2 = some (.int .u64 (at_ : Int)) := by rw [hma2, ma_, if_neg (by omega), HAT.out]; rfl
            have e4 : mb2 = none := by rw [hmb2, mb_, if_pos ⟨hj0, by omega⟩]
            rw [e1, e2] at h
            rw [e3, e4]
            exact upd2 h Tryz.underlying95 _
          · have e1 : ma = some (u64V (pgA (k0 + 2))) := by rw [HMA.out, ma_, if_neg (by omega)]
            have e2 : mb = none := by rw [HMB.out, mb_, if_pos ⟨hj0, by omega⟩]
            have e3 : ma2 = some (u64V (pgA (k0 + 2))) := by rw [hma2, ma_, if_neg (by omega)]
            have e4 : mb2 = some (.int .u64 (at_ : Int)) := by rw [hmb2, mb_, if_neg (by omega), HAT.out]; rfl
            rw [e1, e2] at h
            rw [e3, e4]
            exact upd3 h Tryz.underlying95 _
        have hbbt : ¬ bb = bt := hbt
        have hb9t : ¬ b9 = bt := fun e => by have := hb9; unfold Blk at this; unfold MapP at hmp; rw [e, hmp] at this; cases this
        have HMA2 := Lib.hid hma2
        have HMB2 := Lib.hid hmb2
        clear hma2 hmb2 hC4 hP4 hM4 hbl4 hmp4 hlay
        go_wp2_with fail
        refine Flow.wp_region_flow (0) [(6, fun b => b = bt)] [(2, fun W => Blk W bb 97 (bldCs p g (pgA k0) (.map (some bt)))), (3, fun W => Blk W bb 97 (bldCs p g (pgA k0) (.map (some bt)))), (4, fun W => Blk W b9 153 (plcC k 0)), (6, fun W => MapP W bt ma mb), (7, fun W => Chg (fun b => b = bt) W5 W)] (by kernel_rfl) (by kernel_rfl) (Nat.zero_le _) (Flow.nz_cons (fun b _ => Nat.zero_le _) Flow.nz_nil) (Flow.facts_cons (hbl) (Flow.kept_blk id) (Flow.fz_cons (Flow.no_follow (by kernel_rfl)) Flow.fz_nil) (Flow.facts_cons (hbl) (Flow.kept_blk id) (Flow.fz_cons (Flow.no_follow (by kernel_rfl)) Flow.fz_nil) (Flow.facts_cons (hb9) (Flow.kept_blk id) (Flow.fz_cons (Flow.no_follow (by kernel_rfl)) Flow.fz_nil) (Flow.facts_cons (hmp) (fun _ _ c h => h.chg c id) (Flow.fz_cons (Flow.no_follow (by kernel_rfl)) Flow.fz_nil) (Flow.facts_cons ((Chg.refl _ _).drew) (fun _ _ c h => h.trans (c.mono (fun _ h => h.elim))) (Flow.fz_cons (fun _ => fun _ _ c h => h.trans c) Flow.fz_nil) Flow.facts_nil)))))  ?_
        refine Flow.pass_old (X := .pointer (some ⟨bb, 0, none⟩)) 0 (Flow.met_none rfl) (.inl rfl) (by kernel_rfl) (by kernel_rfl) rfl ?_
        refine Flow.pass_val (.pointer (some ⟨bb, 0, none⟩)) (Flow.met_none rfl) (fun a W hH => ?_) ?_
        · have e0 := Flow.see_new 62 0 hH.sees (by kernel_rfl) (by kernel_rfl) rfl rfl
          go_simp; first | done | rfl
        refine Flow.pass_val (.pointer (some ⟨bb, 3, none⟩)) (Flow.met_none rfl) (fun a W hH => ?_) ?_
        · have e0 := Flow.see_new 63 1 hH.sees (by kernel_rfl) (by kernel_rfl) rfl rfl
          have fa0 : (fun W => Blk W bb 97 (bldCs p g (pgA k0) (.map (some bt)))) W := hH.fact _ (List.mem_of_getElem? (i := 0) rfl) rfl
          go_simp; first | done | rfl
        refine Flow.pass_val (.map (some bt)) (Flow.met_none rfl) (fun a W hH => ?_) ?_
        · have e0 := Flow.see_new 64 2 hH.sees (by kernel_rfl) (by kernel_rfl) rfl rfl
          have fa1 : (fun W => Blk W bb 97 (bldCs p g (pgA k0) (.map (some bt)))) W := hH.fact _ (List.mem_of_getElem? (i := 1) rfl) rfl
          have cc : World.cell? W ⟨bb, 3, none⟩ = some (.map (some bt)) := (fa1.cell 3).trans rfl; go_simp; first | done | rfl
        refine Flow.pass_val (.agg (plcC k 0)) (Flow.met_none rfl) (fun a W hH => ?_) ?_
        · have e0 := Flow.see_old 9 hH.sees (by kernel_rfl) (by kernel_rfl) rfl
          have fa2 : (fun W => Blk W b9 153 (plcC k 0)) W := hH.fact _ (List.mem_of_getElem? (i := 2) rfl) rfl
          exact reg_load 153 _ rfl e0 fa2 Tryz.underlying153 rfl infPlc
        refine Flow.pass_old (X := .int .u64 (at_ : Int)) 12 (Flow.met_none rfl) (.inl rfl) (by kernel_rfl) (by kernel_rfl) rfl ?_
        refine Flow.pass_gen (fun _ W => MapP W bt ma2 mb2) (Flow.kept_of (fun _ _ _ c h => h.chg c id) (Flow.kz_cons (Flow.no_follow (by kernel_rfl)) Flow.kz_nil)) (Flow.met_none rfl) (fun a W hH => ?_) ?_
        · have e0 := Flow.see_new 65 3 hH.sees (by kernel_rfl) (by kernel_rfl) rfl rfl
          have e1 := Flow.see_new 66 4 hH.sees (by kernel_rfl) (by kernel_rfl) rfl rfl
          have e2 := Flow.see_new 67 5 hH.sees (by kernel_rfl) (by kernel_rfl) rfl rfl
          have fa3 : (fun W => MapP W bt ma mb) W := hH.fact _ (List.mem_of_getElem? (i := 3) rfl) rfl
          obtain ⟨W2, hz, hg2, hE⟩ := hup W fa3
          exact wp_skip (by simp [execOp, Act.eval, e0, e1, e2, hz]) ⟨_, rfl, Chg.grown hg2 (fun b e => (Option.some.inj e).symm), hE⟩
        refine Flow.pass_end [none, none, none, none, none, none, none, none, none, none, none, none, none, none, none, none, none, none, none, none, none, none, none, none, none, none, none, none, none, none, none, none, none, none, none, none, none, none, none, none, none, none, none, none, none, none, none, none, none, none, none, none, none, none, none, none, none, none, none, none, none, none, some 62, some 63, some 64, some 65, some 66, some 67, none, none, none, none, none, none, none, none, none, none, none, none, none, none, none, none, none, none] (by kernel_rfl) ?_
        intro f gg w9 hB hfa hT hfg
        have F4 : (fun W => Chg (fun b => b = bt) W5 W) w9 := hfa _ (List.mem_of_getElem? (i := 4) rfl) (Nat.le_refl _)
        have hmp9 := hT 6 _ (by kernel_rfl) rfl
        simp only [Reg.sel]
        have htF5 : ¬ F5 bt := fun h => by rcases hF5 bt h with h | h; exact htF2 h; omega
        have hbF5 : ¬ F5 bb := fun h => by rcases hF5 bb h with h | h; exact hbF2 h; omega
        have hM9 := hM5.keep F4.size (fun b hb hl => F4.block b hl (fun e => by have e : b = bt := e; subst e; exact htF5 hb))
        have htQ2 := hq2 bt (by omega) htQ
        have hbQ2 := hq2 bb (by omega) hbQ
        have hP9 := hP5.chg F4 (fun b hb e => by have e : b = bt := e; subst e; exact htQ2 hb)
        have hb5 := hb5.chg F4 (fun e => by have e : w.heap.size = bt := e; have h1 := hb5; have h2 := hmp; unfold Blk at h1; unfold MapP at h2; rw [e, h2] at h1; cases h1)
        have hS10 : BSt w9 bb p g bm bt k0 (kk_ k0 j (k + 1)) (ma_ k0 j (k + 1)) (mb_ k0 j (k + 1)) (writeM (clrM m (zSp (k0 + k) 1)) T (putNum (at_ + 3) 8 true)) F5 Q2 (N + 8) := by
          refine ⟨hM9, ?_, fun b hf hq => ?_, hbl.chg F4 hbbt, by rw [← HMA2.out, ← HMB2.out]; exact hmp9, hbF5, hbQ2, htF5, htQ2, hpb5.chg F4 (fun e => by have e : p = bt := e; exact htF2 (e ▸ hFp))⟩
          · have e : kk_ k0 j (k + 1) = k0 + k + 1 := by unfold kk_; rw [if_pos hj0]; omega
            rw [e]; exact hP9
          · rcases hF5 b hf with h | h
            · exact hdis2 b h hq
            · have := hQ4l b hq; omega
        have hMK : MemK (writeM (clrM m (zSp (k0 + k) 1)) T (putNum (at_ + 3) 8 true)) k0 j (k + 1) pas := by
          have hat := HAT.out
          have hatl := HATL.out
          have hTe := HT.out
          rcases hk23 with rfl | rfl
          · have e : T = pgA k0 := hTe
            refine ⟨fun _ => ?_, fun h => by omega, fun i hi => by omega⟩
            rw [← e, w64_same _ _ _ (by omega), hat]
          · have e : T = pgA (k0 + 2) := hTe
            refine ⟨fun _ => ?_, fun _ => ?_, fun i hi => by omega⟩
            · rw [e, w64_other _ _ _ _ (by unfold pgA; omega), w64_clr _ _ _ (by unfold pgA zSp; simp only; omega)]
              exact hK.one (.inr (Nat.le_refl _))
            · rw [← e, w64_same _ _ _ (by omega), hat]
        have hC10 := chg_tr hC5' F4 (fun b _ e => .inr (.inr e))
        have hQ10 : ∀ b, Q2 b → Q0 b ∨ w.heap.size + 1 ≤ b := fun b h => by
          rcases hQ2 b h with h | h
          · exact hQ b h
          · exact .inr (by omega)
        clear hT hfg hfa hB
        go_wp2_with fail
        go_roundw
        case rel =>
          unfold PcL
          refine ⟨k + 1, by omega, by go_num, ?_, ⟨_, F5, Q2, N + 8, hS10, hMK, by omega, hC10, hF5', hQ10⟩, hb5⟩
          rw [HAT.out]
          rcases hk23 with rfl | rfl <;> rfl
        case measure => simp [intOf]; omega
end Go.Proofs.YtpellkblaeeopaaGreatDoor
/-
  What a builder's blocks are, between the rounds of Build.
-/
namespace Go.Proofs.YtpellkblaeeopaaGreatDoor
open Go.RowKit Go.Shelf

/-- a block of cells that hold no part -/
def CellN (W : World) (b : Nat) : Prop := ∃ cs t f, W.heap[b]? = some (.cells cs t f) ∧ t ≠ 91
theorem PMem.bm {w : World} {p : Nat} {ram : Sp} {m : Mm} {F : Nat → Prop} {N bm : Nat} (h : PMem w p ram m F N) (hb : Blk w p 72 #[.int .u64 (ram.base : Int), .int .u64 (ram.size : Int), .map (some bm)]) : ∃ D pg, PM w p ram m F N bm D pg := by
  obtain ⟨bm', D, pg, h⟩ := h
  have h1 := h.blk
  unfold Blk at h1 hb
  rw [h1] at hb
  simp only [Option.some.injEq, Obj.cells.injEq, and_true] at hb
  have : bm' = bm := by simpa using hb
  subst this
  exact ⟨D, pg, h⟩
theorem PMem.tightB {w : World} {p : Nat} {ram : Sp} {m : Mm} {F : Nat → Prop} {N bm : Nat} (h : PMem w p ram m F N) (hb : Blk w p 72 #[.int .u64 (ram.base : Int), .int .u64 (ram.size : Int), .map (some bm)]) : ∃ F0, PMem w p ram m F0 N ∧ (∀ b, F0 b → F b) ∧ ∀ b, F0 b → b = bm ∨ CellN w b := by
  obtain ⟨D, pg, h⟩ := h.bm hb
  refine ⟨fun b => b = p ∨ b = bm ∨ ∃ k, pg k = some b, ⟨bm, D, pg, h.blk, h.own, h.at_, fun k g hk => ⟨(h.rows k g hk).1, .inr (.inr ⟨k, hk⟩), (h.rows k g hk).2.2⟩, h.zero, h.inj, .inl rfl, .inr (.inl rfl), ?_⟩, ?_, ?_⟩
  · rintro b (rfl | rfl | ⟨k, hk⟩)
    · exact h.flt _ h.fp
    · exact h.flt _ h.fm
    · exact h.flt _ (h.rows k b hk).2.1
  · rintro b (rfl | rfl | ⟨k, hk⟩)
    · exact h.fp
    · exact h.fm
    · exact (h.rows k b hk).2.1
  · rintro b (rfl | rfl | ⟨k, hk⟩)
    · exact .inr ⟨_, _, _, h.blk, by decide⟩
    · exact .inl rfl
    · exact .inr ⟨_, _, _, (h.rows k b hk).1, by decide⟩
theorem PoolW.tightB {w : World} {g k : Nat} {Q : Nat → Prop} (h : PoolW w g k Q) : ∃ Q0, PoolW w g k Q0 ∧ (∀ b, Q0 b → Q b) ∧ ∀ b, Q0 b → CellN w b := by
  obtain ⟨h1, ⟨A, c, h2, h3, h4⟩, h5, h6⟩ := h
  refine ⟨fun b => b = g ∨ (Value.slice A (usedL k).length c).ownBlock = some b, ⟨h1, ⟨A, c, h2, h3, fun b hb => .inr hb⟩, .inl rfl, ?_⟩, ?_, ?_⟩
  · rintro b (rfl | hb)
    · exact h6 _ h5
    · exact h6 _ (h4 b hb)
  · rintro b (rfl | hb)
    · exact h5
    · exact h4 b hb
  · rintro b (rfl | hb)
    · exact ⟨_, _, _, h2, by decide⟩
    · rcases h3.2 with ⟨e, _⟩ | ⟨g', cap, cur, e, _, hh, _⟩
      · rw [e] at hb; cases hb
      · rw [e] at hb
        cases hb
        exact ⟨_, _, _, hh, by decide⟩
/-- between two rounds of Build: lb: where its own boxes end -/
structure BdI (w0 W : World) (lb bb p g bm bt k0 j : Nat) (pas : Nat → Nat) (F0 Q0 X : Nat → Prop) (N0 : Nat) : Prop where
  st : ∃ m F Q N, BSt W bb p g bm bt k0 (kk_ k0 j 2) (ma_ k0 j 2) (mb_ k0 j 2) m F Q N ∧ MemK m k0 j 2 pas ∧ N ≤ N0 ∧ (∀ b, F b → F0 b ∨ lb ≤ b) ∧ (∀ b, Q b → Q0 b ∨ lb ≤ b) ∧ (∀ b, F b → b = bm ∨ CellN W b) ∧ (∀ b, Q b → CellN W b) ∧ ∀ b, X b → ¬ F b ∧ ¬ Q b ∧ b ≠ bt ∧ b ≠ bb
  chg : Chg (fun b => F0 b ∨ Q0 b) w0 W
theorem BSt.tight {W : World} {bb p g bm bt k0 kk : Nat} {ma mb : Option Value} {m : Mm} {F Q : Nat → Prop} {N : Nat} (h : BSt W bb p g bm bt k0 kk ma mb m F Q N) :
    ∃ F1 Q1, BSt W bb p g bm bt k0 kk ma mb m F1 Q1 N ∧ (∀ b, F1 b → F b) ∧ (∀ b, Q1 b → Q b) ∧ (∀ b, F1 b → b = bm ∨ CellN W b) ∧ ∀ b, Q1 b → CellN W b := by
  obtain ⟨F1, h1, h2, h3⟩ := h.pm.tightB h.pb
  obtain ⟨Q1, h4, h5, h6⟩ := h.po.tightB
  exact ⟨F1, Q1, ⟨h1, h4, fun b hf hq => h.dis b (h2 b hf) (h5 b hq), h.bl, h.mp, fun hb => h.bF (h2 _ hb), fun hb => h.bQ (h5 _ hb), fun hb => h.tF (h2 _ hb), fun hb => h.tQ (h5 _ hb), h.pb⟩, h2, h5, h3, h6⟩
theorem CellN.keep {W W' : World} {b : Nat} (h : CellN W b) (e : W'.heap[b]? = W.heap[b]?) : CellN W' b := by
  obtain ⟨cs, t, f, h1, h2⟩ := h; exact ⟨cs, t, f, e.trans h1, h2⟩
theorem CellN.lt {W : World} {b : Nat} (h : CellN W b) : b < W.heap.size := by obtain ⟨_, _, _, h, _⟩ := h; exact (Array.getElem?_eq_some_iff.1 h).1
theorem BdI.grown {w0 W W' : World} {lb bb p g bm bt k0 j B : Nat} {pas : Nat → Nat} {F0 Q0 X : Nat → Prop} {N0 : Nat} {row : Option Nat} (h : BdI w0 W lb bb p g bm bt k0 j pas F0 Q0 X N0) (hg : W.grownBy W' row)
    (hr : ∀ r, row = some r → B ≤ r ∧ ∃ o : Obj, W.heap[r]? = some o ∧ o.isCells = false) (hm : bm < B) (ht : bt < B) (h0 : w0.heap.size ≤ B) : BdI w0 W' lb bb p g bm bt k0 j pas F0 Q0 X N0 := by
  obtain ⟨⟨m, F, Q, N, h1, h2, h3, h4, h5, h6, h7, h8⟩, hC⟩ := h
  have hF : ∀ b, F b → row ≠ some b := fun b hb e => by
    obtain ⟨r1, o, r2, r3⟩ := hr b e
    rcases h6 b hb with rfl | ⟨cs, t, f, e2, _⟩
    · omega
    · rw [e2] at r2; cases r2; cases r3
  have hQ : ∀ b, Q b → row ≠ some b := fun b hb e => by
    obtain ⟨r1, o, r2, r3⟩ := hr b e
    obtain ⟨cs, t, f, e2, _⟩ := h7 b hb
    rw [e2] at r2; cases r2; cases r3
  have hb : ∀ b, b < W.heap.size → row ≠ some b → W'.heap[b]? = W.heap[b]? := fun b hl hn => hg.block b hl (fun e => hn e.symm)
  have hc : Chg (fun b => row = some b) W W' := Chg.grown hg (fun b e => e)
  refine ⟨⟨m, F, Q, N, ⟨h1.pm.keep hg.size (fun b hF' hl => hb b hl (hF b hF')), h1.po.chg hc hQ, h1.dis, h1.bl.chg hc (fun e => ?_), h1.mp.chg hc (fun e => by have := (hr _ e).1; omega), h1.bF, h1.bQ, h1.tF, h1.tQ, h1.pb.chg hc (hF p h1.pm.fp)⟩, h2, h3, h4, h5, fun b hb' => (h6 b hb').imp id (fun h => h.keep (hb b h.lt (hF b hb'))), fun b hb' => (h7 b hb').keep (hb b (h7 b hb').lt (hQ b hb')), h8⟩,
    hg.os.trans hC.os, hg.tape.trans hC.tape, hg.output.trans hC.output, Nat.le_trans hC.size hg.size, fun b hl hn => (hb b (Nat.lt_of_lt_of_le hl hC.size) (fun e => by have := (hr b e).1; omega)).trans (hC.block b hl hn)⟩
  obtain ⟨_, o, r2, r3⟩ := hr _ e
  have := h1.bl
  unfold Blk at this
  rw [this] at r2; cases r2; cases r3
/-- a new block, or a row of book-keeping beyond all -/
theorem BdI.ext {w0 W W' : World} {lb bb p g bm bt k0 j : Nat} {pas : Nat → Nat} {F0 Q0 X : Nat → Prop} {N0 : Nat} (h : BdI w0 W lb bb p g bm bt k0 j pas F0 Q0 X N0) (e : Ext W W') : BdI w0 W' lb bb p g bm bt k0 j pas F0 Q0 X N0 := by
  obtain ⟨⟨m, F, Q, N, h1, h2, h3, h4, h5, h6, h7, h8⟩, hC⟩ := h
  exact ⟨⟨m, F, Q, N, h1.ext e, h2, h3, h4, h5, fun b hb => (h6 b hb).imp id (fun h => h.keep (e.block b h.lt)), fun b hb => (h7 b hb).keep (e.block b (h7 b hb).lt), h8⟩, hC.trans (Chg.of_ext e)⟩
/-- a block that is not the builder's -/
theorem BdI.withX {w0 W W' : World} {lb bb p g bm bt k0 j : Nat} {pas : Nat → Nat} {F0 Q0 X : Nat → Prop} {N0 : Nat} (h : BdI w0 W lb bb p g bm bt k0 j pas F0 Q0 X N0) (e : Ext W W') : BdI w0 W' lb bb p g bm bt k0 j pas F0 Q0 (fun b => b = W.heap.size) N0 := by
  obtain ⟨⟨m, F, Q, N, h1, h2, h3, h4, h5, h6, h7, h8⟩, hC⟩ := h.ext e
  obtain ⟨⟨m', F', Q', N', g1, g2, g3, g4, g5, g6, g7, g8⟩, gC⟩ := h
  exact ⟨⟨m', F', Q', N', g1.ext e, g2, g3, g4, g5, fun b hb => (g6 b hb).imp id (fun h => h.keep (e.block b h.lt)), fun b hb => (g7 b hb).keep (e.block b (g7 b hb).lt), fun b hb => by
    subst hb
    exact ⟨fun h => by have := g1.pm.flt _ h; omega, fun h => by have := g1.po.lt _ h; omega, fun h => by have := g1.mp.lt; omega, fun h => by have := g1.bl.lt; omega⟩⟩, hC⟩
theorem BdI.noX {w0 W : World} {lb bb p g bm bt k0 j : Nat} {pas : Nat → Nat} {F0 Q0 X : Nat → Prop} {N0 : Nat} (h : BdI w0 W lb bb p g bm bt k0 j pas F0 Q0 X N0) : BdI w0 W lb bb p g bm bt k0 j pas F0 Q0 (fun _ => False) N0 := by
  obtain ⟨⟨m, F, Q, N, h1, h2, h3, h4, h5, h6, h7, h8⟩, hC⟩ := h
  exact ⟨⟨m, F, Q, N, h1, h2, h3, h4, h5, h6, h7, fun _ h => h.elim⟩, hC⟩
theorem BdI.far {w0 W W' : World} {lb bb p g bm bt k0 j r : Nat} {pas : Nat → Nat} {F0 Q0 X : Nat → Prop} {N0 : Nat} (h : BdI w0 W lb bb p g bm bt k0 j pas F0 Q0 X N0) (hg : W.grownBy W' (some r)) (hX : X r) (h0 : w0.heap.size ≤ r) : BdI w0 W' lb bb p g bm bt k0 j pas F0 Q0 X N0 := by
  obtain ⟨⟨m, F, Q, N, h1, h2, h3, h4, h5, h6, h7, h8⟩, hC⟩ := h
  obtain ⟨x1, x2, x3, x4⟩ := h8 r hX
  have hF : ∀ b, F b → ¬ r = b := fun b hb e => x1 (e ▸ hb)
  have hQ : ∀ b, Q b → ¬ r = b := fun b hb e => x2 (e ▸ hb)
  have hb : ∀ b, b < W.heap.size → ¬ r = b → W'.heap[b]? = W.heap[b]? := fun b hl hn => hg.block b hl (fun e => hn (Option.some.inj e).symm)
  have hc : Chg (fun b => r = b) W W' := Chg.grown hg (fun b e => (Option.some.inj e))
  exact ⟨⟨m, F, Q, N, ⟨h1.pm.keep hg.size (fun b hF' hl => hb b hl (hF b hF')), h1.po.chg hc hQ, h1.dis, h1.bl.chg hc x4, h1.mp.chg hc x3, h1.bF, h1.bQ, h1.tF, h1.tQ, h1.pb.chg hc (hF p h1.pm.fp)⟩, h2, h3, h4, h5, fun b hb' => (h6 b hb').imp id (fun h => h.keep (hb b h.lt (hF b hb'))), fun b hb' => (h7 b hb').keep (hb b (h7 b hb').lt (hQ b hb')), h8⟩,
    hg.os.trans hC.os, hg.tape.trans hC.tape, hg.output.trans hC.output, Nat.le_trans hC.size hg.size, fun b hl hn => (hb b (Nat.lt_of_lt_of_le hl hC.size) (fun e => by omega)).trans (hC.block b hl hn)⟩
/-- a piece is laid -/
theorem BdI.step {w0 W : World} {lb bb p g bm bt k0 j B : Nat} {pas : Nat → Nat} {F0 Q0 X : Nat → Prop} {N0 : Nat} (h : BdI w0 W lb bb p g bm bt k0 j pas F0 Q0 X N0) (hj : j < 512) (hk0 : k0 = 0 ∨ k0 = 4) (hpa : pas j % 4096 = 0) (hpl : pas j < 1099511627776) (hN0 : N0 + 100 < maxLen)
    (hlb : lb ≤ W.heap.size) (hl0 : w0.heap.size ≤ lb) (hF0 : ∀ b, F0 b → b < w0.heap.size) (hQ0 : ∀ b, Q0 b → b < w0.heap.size) (hm : bm < B) (ht : bt < B) (ht0 : w0.heap.size ≤ bt) (hXl : ∀ b, X b → b < W.heap.size) :
    Calls Tryz.prog 28 #[.pointer (some ⟨bb, 0, none⟩), .int .i64 3, .agg (Mp.cells ⟨4096 * j, pas j, 4096⟩)] W fun e W' => e = .returned (.int .i64 0) ∧ BdI w0 W' lb bb p g bm bt k0 (j + 1) pas F0 Q0 X (N0 + 24) ∧ KeepsFrom B W W' ∧ KpM W W' ∧
      (∀ (D : Nat) d, W.heap[D]? = some (.deferred d) → W'.heap[D]? = some (.deferred d)) ∧ (∀ b, w0.heap.size ≤ b → b < lb → b ≠ bt → W'.heap[b]? = W.heap[b]?) ∧ W.heap.size ≤ W'.heap.size := by
  obtain ⟨⟨m, F, Q, N, h1, h2, h3, h4, h5, h6, h7, h8⟩, hC⟩ := h
  refine (piece_any bb p g bm bt k0 j pas hj hk0 hpa hpl F Q N0 hN0 W h1.pm.flt h1.po.lt ⟨m, F, Q, N, h1, h2, by omega, Chg.refl _ _, fun b hb => .inl hb, fun b hb => .inl hb⟩).mono ?_
  rintro e W' ⟨rfl, m', F', Q', N', g1, g2, g3, g4, g5, g6⟩
  obtain ⟨F1, Q1, t1, t2, t3, t4, t5⟩ := g1.tight
  have hsz := g4.size
  have hmap : ∀ b, b = bm → ∃ es c, W.heap[b]? = some (.map es c) := fun b e => by
    obtain ⟨D, pg, hP⟩ := h1.pm.bm h1.pb
    obtain ⟨es, c, e2, _⟩ := hP.own
    exact ⟨es, c, by rw [e]; exact e2⟩
  have hrest : ∀ b o, W.heap[b]? = some o → ¬ CellN W b → b ≠ bm → b ≠ bt → W'.heap[b]? = some o := fun b o ho hc hbm hbt =>
    (g4.block b (Array.getElem?_eq_some_iff.1 ho).1 (by
      rintro (hz | hz | hz)
      · rcases h6 b hz with e | e
        · exact hbm e
        · exact hc e
      · exact hc (h7 b hz)
      · exact hbt hz)).trans ho
  have hnc : ∀ b o, W.heap[b]? = some o → o.isCells = false → ¬ CellN W b := fun b o ho hi ⟨cs, t, f, e, _⟩ => by rw [ho] at e; cases e; cases hi
  refine ⟨rfl, ⟨⟨m', F1, Q1, N', t1, g2, by omega, fun b hb => ?_, fun b hb => ?_, t4, t5, fun b hb => ⟨fun h => ?_, fun h => ?_, (h8 b hb).2.2⟩⟩, chg_tr hC g4 (fun b hb hz => ?_)⟩, ⟨hsz, fun k o hk ho hi => hrest k o ho (hnc k o ho hi) (by omega) (by omega)⟩, fun b cs f ho => ?_, fun D d ho => ?_, fun b hb1 hb2 hbt => ?_, hsz⟩
  · rcases g5 b (t2 b hb) with h | h
    · exact h4 b h
    · exact .inr (Nat.le_trans hlb h)
  · rcases g6 b (t3 b hb) with h | h
    · exact h5 b h
    · exact .inr (Nat.le_trans hlb h)
  · rcases g5 b (t2 b h) with h | h
    · exact (h8 b hb).1 h
    · have := hXl b hb; omega
  · rcases g6 b (t3 b h) with h | h
    · exact (h8 b hb).2.1 h
    · have := hXl b hb; omega
  · rcases hz with hz | hz | hz
    · exact (h4 b hz).imp id (fun h => by omega)
    · rcases h5 b hz with h | h
      · exact .inr h
      · omega
    · exfalso
      have e : b = bt := hz
      omega
  · refine hrest b _ ho (fun ⟨cs', t, f', e, ht⟩ => by rw [ho] at e; cases e; exact ht rfl) (fun e => ?_) (fun e => ?_)
    · obtain ⟨es, c, e2⟩ := hmap b e
      rw [ho] at e2; cases e2
    · have := h1.mp
      unfold MapP at this
      rw [← e, ho] at this; cases this
  · refine hrest D _ ho (hnc D _ ho rfl) (fun e => ?_) (fun e => ?_)
    · obtain ⟨es, c, e2⟩ := hmap D e
      rw [ho] at e2; cases e2
    · have := h1.mp
      unfold MapP at this
      rw [← e, ho] at this; cases this
  · refine g4.block b (by omega) ?_
    rintro (hz | hz | hz)
    · rcases h4 b hz with h | h
      · have := hF0 b h; omega
      · omega
    · rcases h5 b hz with h | h
      · have := hQ0 b h; omega
      · omega
    · exact hbt hz
end Go.Proofs.YtpellkblaeeopaaGreatDoor
