/-
  Walks: Fit of both: which boards may be.
-/
import Derived.Test.YtjfmgoickokbjaaMaC
namespace Go.Proofs.Ytjfmgoickokbjaa
open Go.RowKit

structure Bd where
  ram : Sp
  ldr : Sp
  irqs : Int
  streams : Int
  cpus : Int
structure Bd.ok (b : Bd) : Prop where
  ram : b.ram.ok
  ldr : b.ldr.ok
  irqs : (Lit.int .i64 b.irqs).wf = true
  streams : (Lit.int .i64 b.streams).wf = true
  cpus : (Lit.int .i64 b.cpus).wf = true
def Bd.cells (b : Bd) : Array Value := #[.int .u64 (b.ram.base : Int), .int .u64 (b.ram.size : Int), .int .u64 (b.ldr.base : Int), .int .u64 (b.ldr.size : Int), .int .i64 b.irqs, .int .i64 b.streams, .int .i64 b.cpus]
def Bd.spans (b : Bd) : Bool := b.ram.pages && b.ldr.pages && decide (b.ram.last < 1099511627776) && b.ldr.within b.ram
def Bd.counts (b : Bd) : Bool := decide (0 ≤ b.irqs ∧ b.irqs ≤ 1020 ∧ 0 ≤ b.streams ∧ b.streams ≤ 256 ∧ 1 ≤ b.cpus ∧ b.cpus ≤ 32)
def Bd.fits (b : Bd) : Bool := b.spans && b.counts
def Bd.err (b : Bd) : Int := if b.fits then 0 else 282
theorem bd_ram {w : World} {g : Nat} {b : Bd} (h : Blk w g 39 b.cells) : w.rangeAt g 0 b.ram.cells.toList := by
  intro j v hv
  rw [Nat.zero_add, h.cell]
  match j, hv with
  | 0, hv => exact hv
  | 1, hv => exact hv
theorem bd_ldr {w : World} {g : Nat} {b : Bd} (h : Blk w g 39 b.cells) : w.rangeAt g 2 b.ldr.cells.toList := by
  intro j v hv
  rw [h.cell]
  match j, hv with
  | 0, hv => exact hv
  | 1, hv => exact hv
theorem bd_cells {w : World} {g : Nat} {b : Bd} (h : Blk w g 39 b.cells) : w.cell? ⟨g, 4, none⟩ = some (.int .i64 b.irqs) ∧ w.cell? ⟨g, 5, none⟩ = some (.int .i64 b.streams) ∧ w.cell? ⟨g, 6, none⟩ = some (.int .i64 b.cpus) :=
  ⟨(h.cell 4).trans rfl, (h.cell 5).trans rfl, (h.cell 6).trans rfl⟩

theorem inRange_any (x a b : Int) (w : World) : Calls Try.prog 37 #[.int .i64 x, .int .i64 a, .int .i64 b] w fun e w' => e = .returned (.bool (decide (a ≤ x ∧ x ≤ b))) ∧ w' = w := by
  go_enter Try.func37, Try.ntmps37
  go_wp2
  all_goals
    go_ret
    refine ⟨ret_bool ?_, rfl⟩
    rw [Bool.eq_iff_iff]
    simp only [Bool.and_eq_true, decide_eq_true_eq, Bool.false_eq_true, false_iff]
    omega

theorem elSp : Elem Try.prog 110 24 (.agg #[.int .u64 0, .int .u64 0]) 2 16 := Elem.of (by kernel_rfl) (by kernel_rfl) rfl (by omega)
theorem run_spans1 (w : World) (s : Sp) : (Instr.buildSlice 110 1 #[(0, .agg s.cells)]).run Try.prog w = .ok (.slice (some ⟨w.heap.size, 0, none⟩) 1 1) (w.alloc (.cells (scells [s]).toArray 24)) := by
  have := run_buildSlice_all (P := Try.prog) w elSp 1 #[(0, .agg s.cells)] [.agg s.cells] rfl rfl (by omega) (by omega) (by simp [Value.cells, Sp.cells])
  simpa [flat, Value.cells, scells] using this
theorem run_spans2 (w : World) (s t : Sp) : (Instr.buildSlice 110 2 #[(0, .agg s.cells), (1, .agg t.cells)]).run Try.prog w = .ok (.slice (some ⟨w.heap.size, 0, none⟩) 2 2) (w.alloc (.cells (scells [s, t]).toArray 24)) := by
  have := run_buildSlice_all (P := Try.prog) w elSp 2 #[(0, .agg s.cells), (1, .agg t.cells)] [.agg s.cells, .agg t.cells] rfl rfl (by omega) (by omega) (by simp [Value.cells, Sp.cells])
  simpa [flat, Value.cells, scells] using this

theorem Bd.err_bad {b : Bd} (h : b.spans = false) : b.err = 282 := by rw [Bd.err, Bd.fits, h]; rfl
theorem Bd.err_of {b : Bd} (h : b.spans = true) : b.err = if b.counts then 0 else 282 := by rw [Bd.err, Bd.fits, h]; rfl
set_option maxRecDepth 100000 in
set_option maxHeartbeats 4000000 in
theorem mfit_any (b : Bd) (ok : b.ok) (w : World) : Calls Try.prog 16 #[.agg b.cells] w fun e w' => e = .returned (.int .i64 b.err) ∧ Below w.heap.size w w' := by
  have hb := Blk.new w 39 b.cells
  have B0 : Below w.heap.size w (w.alloc (.cells b.cells 39)) := (Below.refl _ _).alloc (Nat.le_refl _) _
  have hr := bd_ram hb
  have hl := bd_ldr hb
  have hlt := hb.lt
  go_enter Try.func16, Try.ntmps16
  go_wp2_with (first
    | ((with_reducible refine at_load 24 ?_); refine wpList_load_mid rfl 24 _ rfl w.heap.size 0 rfl b.ram.cells.toList _ hr Try.underlying24 rfl infSpan ?_)
    | ((with_reducible refine at_load 24 ?_); refine wpList_load_mid rfl 24 _ rfl w.heap.size 2 rfl b.ldr.cells.toList _ hl Try.underlying24 rfl infSpan ?_)
    | ((with_reducible refine at_buildSlice 110 ?_); refine wpList_runV rfl (Flow.reg_buildSlice #[(0, .agg b.ram.cells), (1, .agg b.ldr.cells)] rfl (by simp [Act.eval, Act.put]) (run_spans2 _ b.ram b.ldr)) ?_))
  clear hr hl
  have hs0 : (w.alloc (.cells b.cells 39)).heap.size = w.heap.size + 1 := by simp
  generalize w.alloc (.cells b.cells 39) = W0 at *
  have hbs := Blk.new W0 24 (scells [b.ram, b.ldr]).toArray
  have B0' := B0.alloc B0.size (.cells (scells [b.ram, b.ldr]).toArray 24)
  have hb0 := hb.alloc (.cells (scells [b.ram, b.ldr]).toArray 24)
  have hpg := mpages_any W0.heap.size 0 2 2 [b.ram, b.ldr] (by intro x hx; simp only [List.mem_cons, List.not_mem_nil, or_false] at hx; rcases hx with rfl | rfl; exact ok.ram; exact ok.ldr) _ (hbs.rd rfl) (by omega)
  rw [hs0] at hpg
  clear hbs hb hs0
  generalize W0.alloc (.cells (scells [b.ram, b.ldr]).toArray 24) = W1 at *
  refine hpg.mono ?_
  rintro e W2 ⟨rfl, hB2⟩
  have hb2 := hb0.below hB2 hb0.lt
  have B2 := B0'.trans (hB2.mono B0'.size)
  clear hpg hb0 B0' B0 hB2
  cases hp : [b.ram, b.ldr].all Sp.pages with
  | false =>
    have he : Hid (b.err = 282) := Lib.hid (by
      simp only [List.all_cons, List.all_nil, Bool.and_true] at hp
      exact Bd.err_bad (by rw [Bd.spans, hp]; rfl))
    clear hp
    go_wp2
    go_ret
    exact ⟨ret_int he.out.symm, B2⟩
  | true =>
    have hpp : b.ram.pages = true ∧ b.ldr.pages = true := by
      simp only [List.all_cons, List.all_nil, Bool.and_true] at hp
      simpa using hp
    have HP := Lib.hid hpp
    clear hp hpp
    have hr := bd_ram hb2
    go_wp2_with ((with_reducible refine at_load 24 ?_); refine wpList_load_mid rfl 24 _ rfl w.heap.size 0 rfl b.ram.cells.toList _ hr Try.underlying24 rfl infSpan ?_)
    refine (last_any b.ram ok.ram W2).mono ?_
    rintro e W3 ⟨rfl, hB3⟩
    obtain ⟨L, hL⟩ : ∃ L, L = b.ram.last := ⟨_, rfl⟩
    rw [← hL]
    have HL := Lib.hid hL
    have hb3 := hb2.below hB3 hb2.lt
    have B3 := B2.trans (hB3.mono B2.size)
    have hr := bd_ram hb3
    have hl := bd_ldr hb3
    clear hL hb2 B2 hB3
    by_cases hge : 1099511627776 ≤ L
    · have hd : decide ((1099511627776 : Int) ≤ (L : Int)) = true := decide_eq_true (by omega)
      have he : Hid (b.err = 282) := Lib.hid (Bd.err_bad (by
        have : ¬ b.ram.last < 1099511627776 := by have := HL.out; omega
        rw [Bd.spans, decide_eq_false this]; simp))
      clear hge hr hl
      go_wp2
      go_ret
      exact ⟨ret_int he.out.symm, B3⟩
    · have hd : decide ((1099511627776 : Int) ≤ (L : Int)) = false := decide_eq_false (by omega)
      have HG : Hid (b.ram.last < 1099511627776) := Lib.hid (by have := HL.out; omega)
      clear hge
      go_wp2_with (first
        | ((with_reducible refine at_load 24 ?_); refine wpList_load_mid rfl 24 _ rfl w.heap.size 0 rfl b.ram.cells.toList _ hr Try.underlying24 rfl infSpan ?_)
        | ((with_reducible refine at_load 24 ?_); refine wpList_load_mid rfl 24 _ rfl w.heap.size 2 rfl b.ldr.cells.toList _ hl Try.underlying24 rfl infSpan ?_))
      refine (within_any b.ldr b.ram ok.ldr ok.ram W3).mono ?_
      rintro e W4 ⟨rfl, hB4⟩
      have hb4 := hb3.below hB4 hb3.lt
      have B4 := B3.trans (hB4.mono B3.size)
      clear hr hl hb3 B3 hB4
      obtain ⟨c4, c5, c6⟩ := bd_cells hb4
      cases hwi : b.ldr.within b.ram with
      | false =>
        have he : Hid (b.err = 282) := Lib.hid (Bd.err_bad (by rw [Bd.spans, hwi]; simp))
        clear hwi
        go_wp2
        go_ret
        exact ⟨ret_int he.out.symm, B4⟩
      | true =>
        have hs : Hid (b.spans = true) := Lib.hid (by rw [Bd.spans, HP.out.1, HP.out.2, decide_eq_true HG.out, hwi]; rfl)
        clear hwi
        obtain ⟨q1, hq1⟩ : ∃ q, q = decide (0 ≤ b.irqs ∧ b.irqs ≤ 1020) := ⟨_, rfl⟩
        obtain ⟨q2, hq2⟩ : ∃ q, q = decide (0 ≤ b.streams ∧ b.streams ≤ 256) := ⟨_, rfl⟩
        obtain ⟨q3, hq3⟩ : ∃ q, q = decide (1 ≤ b.cpus ∧ b.cpus ≤ 32) := ⟨_, rfl⟩
        have hc1 : Calls Try.prog 37 #[.int .i64 b.irqs, .int .i64 0, .int .i64 1020] W4 fun e w' => e = .returned (.bool q1) ∧ W4 = w' := (inRange_any b.irqs 0 1020 W4).mono fun e w' ⟨h1, h2⟩ => ⟨by rw [h1, hq1], h2.symm⟩
        have hc2 : Calls Try.prog 37 #[.int .i64 b.streams, .int .i64 0, .int .i64 256] W4 fun e w' => e = .returned (.bool q2) ∧ W4 = w' := (inRange_any b.streams 0 256 W4).mono fun e w' ⟨h1, h2⟩ => ⟨by rw [h1, hq2], h2.symm⟩
        have hc3 : Calls Try.prog 37 #[.int .i64 b.cpus, .int .i64 1, .int .i64 32] W4 fun e w' => e = .returned (.bool q3) ∧ W4 = w' := (inRange_any b.cpus 1 32 W4).mono fun e w' ⟨h1, h2⟩ => ⟨by rw [h1, hq3], h2.symm⟩
        have he : Hid (b.err = if q1 && q2 && q3 then 0 else 282) := Lib.hid (by
          rw [Bd.err_of hs.out, hq1, hq2, hq3, Bd.counts]
          have : decide (0 ≤ b.irqs ∧ b.irqs ≤ 1020 ∧ 0 ≤ b.streams ∧ b.streams ≤ 256 ∧ 1 ≤ b.cpus ∧ b.cpus ≤ 32) = (decide (0 ≤ b.irqs ∧ b.irqs ≤ 1020) && decide (0 ≤ b.streams ∧ b.streams ≤ 256) && decide (1 ≤ b.cpus ∧ b.cpus ≤ 32)) := by
            rw [Bool.eq_iff_iff]; simp only [Bool.and_eq_true, decide_eq_true_eq]; omega
          rw [this])
        clear hq1 hq2 hq3 hb4
        cases q1 <;> cases q2 <;> cases q3
        all_goals
          go_wp2_with (first
            | ((with_reducible refine at_callV 23 ?_); refine wpList_callV (vals := #[.int .i64 b.irqs, .int .i64 0, .int .i64 1020]) rfl rfl rfl Try.func37 rfl (by kernel_rfl) (by simp [Act.eval]) hc1 ?_; rintro e w5 ⟨rfl, rfl⟩; refine ⟨_, rfl, ?_⟩)
            | ((with_reducible refine at_callV 28 ?_); refine wpList_callV (vals := #[.int .i64 b.streams, .int .i64 0, .int .i64 256]) rfl rfl rfl Try.func37 rfl (by kernel_rfl) (by simp [Act.eval]) hc2 ?_; rintro e w5 ⟨rfl, rfl⟩; refine ⟨_, rfl, ?_⟩)
            | ((with_reducible refine at_callV 33 ?_); refine wpList_callV (vals := #[.int .i64 b.cpus, .int .i64 1, .int .i64 32]) rfl rfl rfl Try.func37 rfl (by kernel_rfl) (by simp [Act.eval]) hc3 ?_; rintro e w5 ⟨rfl, rfl⟩; refine ⟨_, rfl, ?_⟩))
          go_ret
          exact ⟨ret_int he.out.symm, B4⟩
end Go.Proofs.Ytjfmgoickokbjaa
