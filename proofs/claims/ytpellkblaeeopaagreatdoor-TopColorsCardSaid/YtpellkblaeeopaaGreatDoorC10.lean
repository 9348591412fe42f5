/-
  Parts: MaD MaE MaF SrtL.
-/
import Derived.Test.YtpellkblaeeopaaGreatDoorC09
import Derived.Maps.RangeWalk
import Derived.Test.YtpellkblaeeopaaGreatDoorC08
import Derived.RangeFuncNested
import Derived.RangeFuncBound
import Derived.RangeFuncCalls
import Derived.RangeFuncLeaves
import Derived.RangeFuncFrom
import Derived.RangeFuncSeq
import Derived.RangeFuncMany
import Derived.Shelf.Abstract
import Derived.Shelf.RegionOpen
import Derived.Shelf.AbstractIn
import Derived.Sort.MapsRangeIn
import Derived.WalkKit
import Derived.OwnWalkIn
import Derived.TacticsInMore
import Derived.LoopNIn
import Derived.LoopIn
/-
  Walks: Fit of both: which boards may be.
-/
namespace Go.Proofs.YtpellkblaeeopaaGreatDoor
open Go.RowKit

structure Bd where
  ram : Sp
  ldr : Sp
  irqs : Int
  streams : Int
  cpus : Int
structure Bd.ok (b : Bd) : Prop where
  ram : b.ram.ok
  ldr : b.ldr.ok
  irqs : (Lit.int .i64 b.irqs).wf = true
  streams : (Lit.int .i64 b.streams).wf = true
  cpus : (Lit.int .i64 b.cpus).wf = true
def Bd.cells (b : Bd) : Array Value := #[.int .u64 (b.ram.base : Int), .int .u64 (b.ram.size : Int), .int .u64 (b.ldr.base : Int), .int .u64 (b.ldr.size : Int), .int .i64 b.irqs, .int .i64 b.streams, .int .i64 b.cpus]
def Bd.spans (b : Bd) : Bool := b.ram.pages && b.ldr.pages && decide (b.ram.last < 1099511627776) && b.ldr.within b.ram
def Bd.counts (b : Bd) : Bool := decide (0 ≤ b.irqs ∧ b.irqs ≤ 1020 ∧ 0 ≤ b.streams ∧ b.streams ≤ 256 ∧ 1 ≤ b.cpus ∧ b.cpus ≤ 32)
def Bd.fits (b : Bd) : Bool := b.spans && b.counts
def Bd.err (b : Bd) : Int := if b.fits then 0 else 282
theorem bd_ram {w : World} {g : Nat} {b : Bd} (h : Blk w g 50 b.cells) : w.rangeAt g 0 b.ram.cells.toList := by
  intro j v hv
  rw [Nat.zero_add, h.cell]
  match j, hv with
  | 0, hv => exact hv
  | 1, hv => exact hv
theorem bd_ldr {w : World} {g : Nat} {b : Bd} (h : Blk w g 50 b.cells) : w.rangeAt g 2 b.ldr.cells.toList := by
  intro j v hv
  rw [h.cell]
  match j, hv with
  | 0, hv => exact hv
  | 1, hv => exact hv
theorem bd_cells {w : World} {g : Nat} {b : Bd} (h : Blk w g 50 b.cells) : w.cell? ⟨g, 4, none⟩ = some (.int .i64 b.irqs) ∧ w.cell? ⟨g, 5, none⟩ = some (.int .i64 b.streams) ∧ w.cell? ⟨g, 6, none⟩ = some (.int .i64 b.cpus) :=
  ⟨(h.cell 4).trans rfl, (h.cell 5).trans rfl, (h.cell 6).trans rfl⟩

theorem inRange_any (x a b : Int) (w : World) : Calls Tryz.prog 81 #[.int .i64 x, .int .i64 a, .int .i64 b] w fun e w' => e = .returned (.bool (decide (a ≤ x ∧ x ≤ b))) ∧ w' = w := by
  go_enter Tryz.func81, Tryz.ntmps81
  go_wp2
  all_goals
    go_ret
    refine ⟨ret_bool ?_, rfl⟩
    rw [Bool.eq_iff_iff]
    simp only [Bool.and_eq_true, decide_eq_true_eq, Bool.false_eq_true, false_iff]
    omega

theorem elSp : Elem Tryz.prog 34 25 (.agg #[.int .u64 0, .int .u64 0]) 2 16 := Elem.of (by kernel_rfl) (by kernel_rfl) rfl (by omega)
theorem run_spans1 (w : World) (s : Sp) : (Instr.buildSlice 34 1 #[(0, .agg s.cells)]).run Tryz.prog w = .ok (.slice (some ⟨w.heap.size, 0, none⟩) 1 1) (w.alloc (.cells (scells [s]).toArray 25)) := by
  have := run_buildSlice_all (P := Tryz.prog) w elSp 1 #[(0, .agg s.cells)] [.agg s.cells] rfl rfl (by omega) (by omega) (by simp [Value.cells, Sp.cells])
  simpa [flat, Value.cells, scells] using this
theorem run_spans2 (w : World) (s t : Sp) : (Instr.buildSlice 34 2 #[(0, .agg s.cells), (1, .agg t.cells)]).run Tryz.prog w = .ok (.slice (some ⟨w.heap.size, 0, none⟩) 2 2) (w.alloc (.cells (scells [s, t]).toArray 25)) := by
  have := run_buildSlice_all (P := Tryz.prog) w elSp 2 #[(0, .agg s.cells), (1, .agg t.cells)] [.agg s.cells, .agg t.cells] rfl rfl (by omega) (by omega) (by simp [Value.cells, Sp.cells])
  simpa [flat, Value.cells, scells] using this

theorem Bd.err_bad {b : Bd} (h : b.spans = false) : b.err = 282 := by rw [Bd.err, Bd.fits, h]; rfl
theorem Bd.err_of {b : Bd} (h : b.spans = true) : b.err = if b.counts then 0 else 282 := by rw [Bd.err, Bd.fits, h]; rfl
set_option maxRecDepth 100000 in
set_option maxHeartbeats 4000000 in
theorem mfit_any (b : Bd) (ok : b.ok) (w : World) : Calls Tryz.prog 42 #[.agg b.cells] w fun e w' => e = .returned (.int .i64 b.err) ∧ Below w.heap.size w w' := by
  have hb := Blk.new w 50 b.cells
  have B0 : Below w.heap.size w (w.alloc (.cells b.cells 50)) := (Below.refl _ _).alloc (Nat.le_refl _) _
  have hr := bd_ram hb
  have hl := bd_ldr hb
  have hlt := hb.lt
  go_enter Tryz.func42, Tryz.ntmps42
  go_wp2_with (first
    | ((with_reducible refine at_load 25 ?_); refine wpList_load_mid rfl 25 _ rfl w.heap.size 0 rfl b.ram.cells.toList _ hr Tryz.underlying25 rfl infSpan ?_)
    | ((with_reducible refine at_load 25 ?_); refine wpList_load_mid rfl 25 _ rfl w.heap.size 2 rfl b.ldr.cells.toList _ hl Tryz.underlying25 rfl infSpan ?_)
    | ((with_reducible refine at_buildSlice 34 ?_); refine wpList_runV rfl (Flow.reg_buildSlice #[(0, .agg b.ram.cells), (1, .agg b.ldr.cells)] rfl (by simp [Act.eval, Act.put]) (run_spans2 _ b.ram b.ldr)) ?_))
  clear hr hl
  have hs0 : (w.alloc (.cells b.cells 50)).heap.size = w.heap.size + 1 := by simp
  generalize w.alloc (.cells b.cells 50) = W0 at *
  have hbs := Blk.new W0 25 (scells [b.ram, b.ldr]).toArray
  have B0' := B0.alloc B0.size (.cells (scells [b.ram, b.ldr]).toArray 25)
  have hb0 := hb.alloc (.cells (scells [b.ram, b.ldr]).toArray 25)
  have hpg := mpages_any W0.heap.size 0 2 2 [b.ram, b.ldr] (by intro x hx; simp only [List.mem_cons, List.not_mem_nil, or_false] at hx; rcases hx with rfl | rfl; exact ok.ram; exact ok.ldr) _ (hbs.rd rfl) (by omega)
  rw [hs0] at hpg
  clear hbs hb hs0
  generalize W0.alloc (.cells (scells [b.ram, b.ldr]).toArray 25) = W1 at *
  refine hpg.mono ?_
  rintro e W2 ⟨rfl, hB2⟩
  have hb2 := hb0.below hB2 hb0.lt
  have B2 := B0'.trans (hB2.mono B0'.size)
  clear hpg hb0 B0' B0 hB2
  cases hp : [b.ram, b.ldr].all Sp.pages with
  | false =>
    have he : Hid (b.err = 282) := Lib.hid (by
      simp only [List.all_cons, List.all_nil, Bool.and_true] at hp
      exact Bd.err_bad (by rw [Bd.spans, hp]; rfl))
    clear hp
    go_wp2
    go_ret
    exact ⟨ret_int he.out.symm, B2⟩
  | true =>
    have hpp : b.ram.pages = true ∧ b.ldr.pages = true := by
      simp only [List.all_cons, List.all_nil, Bool.and_true] at hp
      simpa using hp
    have HP := Lib.hid hpp
    clear hp hpp
    have hr := bd_ram hb2
    go_wp2_with ((with_reducible refine at_load 25 ?_); refine wpList_load_mid rfl 25 _ rfl w.heap.size 0 rfl b.ram.cells.toList _ hr Tryz.underlying25 rfl infSpan ?_)
    refine (last_any b.ram ok.ram W2).mono ?_
    rintro e W3 ⟨rfl, hB3⟩
    obtain ⟨L, hL⟩ : ∃ L, L = b.ram.last := ⟨_, rfl⟩
    rw [← hL]
    have HL := Lib.hid hL
    have hb3 := hb2.below hB3 hb2.lt
    have B3 := B2.trans (hB3.mono B2.size)
    have hr := bd_ram hb3
    have hl := bd_ldr hb3
    clear hL hb2 B2 hB3
    by_cases hge : 1099511627776 ≤ L
    · have hd : decide ((1099511627776 : Int) ≤ (L : Int)) = true := decide_eq_true (by omega)
      have he : Hid (b.err = 282) := Lib.hid (Bd.err_bad (by
        have : ¬ b.ram.last < 1099511627776 := by have := HL.out; omega
        rw [Bd.spans, decide_eq_false this]; simp))
      clear hge hr hl
      go_wp2
      go_ret
      exact ⟨ret_int he.out.symm, B3⟩
    · have hd : decide ((1099511627776 : Int) ≤ (L : Int)) = false := decide_eq_false (by omega)
      have HG : Hid (b.ram.last < 1099511627776) := Lib.hid (by have := HL.out; omega)
      clear hge
      go_wp2_with (first
        | ((with_reducible refine at_load 25 ?_); refine wpList_load_mid rfl 25 _ rfl w.heap.size 0 rfl b.ram.cells.toList _ hr Tryz.underlying25 rfl infSpan ?_)
        | ((with_reducible refine at_load 25 ?_); refine wpList_load_mid rfl 25 _ rfl w.heap.size 2 rfl b.ldr.cells.toList _ hl Tryz.underlying25 rfl infSpan ?_))
      refine (within_any b.ldr b.ram ok.ldr ok.ram W3).mono ?_
      rintro e W4 ⟨rfl, hB4⟩
      have hb4 := hb3.below hB4 hb3.lt
      have B4 := B3.trans (hB4.mono B3.size)
      clear hr hl hb3 B3 hB4
      obtain ⟨c4, c5, c6⟩ := bd_cells hb4
      cases hwi : b.ldr.within b.ram with
      | false =>
        have he : Hid (b.err = 282) := Lib.hid (Bd.err_bad (by rw [Bd.spans, hwi]; simp))
        clear hwi
        go_wp2
        go_ret
        exact ⟨ret_int he.out.symm, B4⟩
      | true =>
        have hs : Hid (b.spans = true) := Lib.hid (by rw [Bd.spans, HP.out.1, HP.out.2, decide_eq_true HG.out, hwi]; rfl)
        clear hwi
        obtain ⟨q1, hq1⟩ : ∃ q, q = decide (0 ≤ b.irqs ∧ b.irqs ≤ 1020) := ⟨_, rfl⟩
        obtain ⟨q2, hq2⟩ : ∃ q, q = decide (0 ≤ b.streams ∧ b.streams ≤ 256) := ⟨_, rfl⟩
        obtain ⟨q3, hq3⟩ : ∃ q, q = decide (1 ≤ b.cpus ∧ b.cpus ≤ 32) := ⟨_, rfl⟩
        have hc1 : Calls Tryz.prog 81 #[.int .i64 b.irqs, .int .i64 0, .int .i64 1020] W4 fun e w' => e = .returned (.bool q1) ∧ W4 = w' := (inRange_any b.irqs 0 1020 W4).mono fun e w' ⟨h1, h2⟩ => ⟨by rw [h1, hq1], h2.symm⟩
        have hc2 : Calls Tryz.prog 81 #[.int .i64 b.streams, .int .i64 0, .int .i64 256] W4 fun e w' => e = .returned (.bool q2) ∧ W4 = w' := (inRange_any b.streams 0 256 W4).mono fun e w' ⟨h1, h2⟩ => ⟨by rw [h1, hq2], h2.symm⟩
        have hc3 : Calls Tryz.prog 81 #[.int .i64 b.cpus, .int .i64 1, .int .i64 32] W4 fun e w' => e = .returned (.bool q3) ∧ W4 = w' := (inRange_any b.cpus 1 32 W4).mono fun e w' ⟨h1, h2⟩ => ⟨by rw [h1, hq3], h2.symm⟩
        have he : Hid (b.err = if q1 && q2 && q3 then 0 else 282) := Lib.hid (by
          rw [Bd.err_of hs.out, hq1, hq2, hq3, Bd.counts]
          have : decide (0 ≤ b.irqs ∧ b.irqs ≤ 1020 ∧ 0 ≤ b.streams ∧ b.streams ≤ 256 ∧ 1 ≤ b.cpus ∧ b.cpus ≤ 32) = (decide (0 ≤ b.irqs ∧ b.irqs ≤ 1020) && decide (0 ≤ b.streams ∧ b.streams ≤ 256) && decide (1 ≤ b.cpus ∧ b.cpus ≤ 32)) := by
            rw [Bool.eq_iff_iff]; simp only [Bool.and_eq_true, decide_eq_true_eq]; omega
          rw [this])
        clear hq1 hq2 hq3 hb4
        cases q1 <;> cases q2 <;> cases q3
        all_goals
          go_wp2_with (first
            | ((with_reducible refine at_callV 23 ?_); refine wpList_callV (vals := #[.int .i64 b.irqs, .int .i64 0, .int .i64 1020]) rfl rfl rfl Tryz.func81 rfl (by kernel_rfl) (by simp [Act.eval]) hc1 ?_; rintro e w5 ⟨rfl, rfl⟩; refine ⟨_, rfl, ?_⟩)
            | ((with_reducible refine at_callV 28 ?_); refine wpList_callV (vals := #[.int .i64 b.streams, .int .i64 0, .int .i64 256]) rfl rfl rfl Tryz.func81 rfl (by kernel_rfl) (by simp [Act.eval]) hc2 ?_; rintro e w5 ⟨rfl, rfl⟩; refine ⟨_, rfl, ?_⟩)
            | ((with_reducible refine at_callV 33 ?_); refine wpList_callV (vals := #[.int .i64 b.cpus, .int .i64 1, .int .i64 32]) rfl rfl rfl Tryz.func81 rfl (by kernel_rfl) (by simp [Act.eval]) hc3 ?_; rintro e w5 ⟨rfl, rfl⟩; refine ⟨_, rfl, ?_⟩))
          go_ret
          exact ⟨ret_int he.out.symm, B4⟩
end Go.Proofs.YtpellkblaeeopaaGreatDoor
/-
  Walk: portreeveref09.Fit.
-/
namespace Go.Proofs.YtpellkblaeeopaaGreatDoor
open Go.RowKit

theorem wpList_load_midW {P : Program} {ops : Array Oper} {rest : List Oper} {op : Oper} {a : Act} {w : World} {Q : Exit → Act → World → Prop} (hw : Region.wanted op (yielded ops a.tmps) = true) (ty : TypeId) (x : Operand) (ho : op.op = .load ty x)
    (b o : Nat) (hx : a.eval x = .pointer (some ⟨b, o, none⟩)) (cs : List Value) (d : TypeDesc) (hc : w.rangeAt b o cs)
    (hu : P.underlying ty = some d) (hd : d.isRow = true) (hi : (P.info? ty).map (·.size) = some cs.length)
    (h : wpList P ops Q rest (a.put op.dst (.agg cs.toArray)) w) : wpList P ops Q (op :: rest) a w :=
  wpList_runV hw (by
    unfold execOp
    simp only [ho, hx, Instr.loadAt, Instr.sureAddr, Sem.run_bind, Sem.run_pure, Result.andThen_ok, run_loadVar_mid w b o ty cs d hc hu hd hi]) h

end Go.Proofs.YtpellkblaeeopaaGreatDoor
/-
  Plain: memory as bytes at addresses. The program's Mem in memory: a map of pages.
-/
namespace Go.Proofs.YtpellkblaeeopaaGreatDoor
open Go.RowKit
open Go.Maps (Keyed)

abbrev Mm := Nat → UInt8
def pageOf (m : Mm) (k : Nat) : List UInt8 := (List.range 4096).map fun i => m (4096 * k + i)
theorem pageOf_length (m : Mm) (k : Nat) : (pageOf m k).length = 4096 := by simp [pageOf]
theorem pageOf_get (m : Mm) (k i : Nat) (h : i < 4096) : (pageOf m k)[i]? = some (m (4096 * k + i)) := by simp [pageOf, h]
def readM (m : Mm) (a n : Nat) : List UInt8 := (List.range n).map fun i => m (a + i)
theorem readM_length (m : Mm) (a n : Nat) : (readM m a n).length = n := by simp [readM]
theorem readM_get (m : Mm) (a n i : Nat) (h : i < n) : (readM m a n)[i]? = some (m (a + i)) := by simp [readM, h]
def writeM (m : Mm) (a : Nat) (l : List UInt8) : Mm := fun x => if a ≤ x ∧ x < a + l.length then l[x - a]?.getD 0 else m x
theorem writeM_nil (m : Mm) (a : Nat) : writeM m a [] = m := by
  funext x; unfold writeM; rw [if_neg (by simp only [List.length_nil]; omega)]
theorem writeM_in (m : Mm) (a : Nat) (l : List UInt8) (i : Nat) (h : i < l.length) : writeM m a l (a + i) = l[i]?.getD 0 := by
  unfold writeM; rw [if_pos ⟨by omega, by omega⟩, Nat.add_sub_cancel_left]
theorem writeM_out (m : Mm) (a : Nat) (l : List UInt8) (x : Nat) (h : x < a ∨ a + l.length ≤ x) : writeM m a l x = m x := by
  unfold writeM; rw [if_neg (by omega)]
theorem writeM_append (m : Mm) (a : Nat) (l l2 : List UInt8) : writeM (writeM m a l) (a + l.length) l2 = writeM m a (l ++ l2) := by
  funext x
  simp only [writeM, List.length_append]
  by_cases h1 : a ≤ x
  · by_cases h2 : x < a + l.length
    · rw [if_neg (by omega), if_pos ⟨h1, h2⟩, if_pos ⟨h1, by omega⟩, List.getElem?_append_left (by omega)]
    · by_cases h3 : x < a + (l.length + l2.length)
      · rw [if_pos ⟨by omega, by omega⟩, if_pos ⟨h1, h3⟩, List.getElem?_append_right (by omega)]
        congr 2; omega
      · rw [if_neg (by omega), if_neg (by omega), if_neg (by omega)]
  · rw [if_neg (by omega), if_neg (by omega), if_neg (by omega)]
/-- one page of the memory behind a write that stays within it -/
theorem pageOf_write (m : Mm) (k o : Nat) (l : List UInt8) (h : o + l.length ≤ 4096) : pageOf (writeM m (4096 * k + o) l) k = (pageOf m k).take o ++ l ++ (pageOf m k).drop (o + l.length) := by
  apply List.ext_getElem?
  intro i
  by_cases hi : i < 4096
  · rw [pageOf_get _ _ _ hi, List.append_assoc]
    by_cases h1 : i < o
    · rw [List.getElem?_append_left (by rw [List.length_take, pageOf_length]; omega), List.getElem?_take, if_pos h1, pageOf_get _ _ _ hi, writeM_out _ _ _ _ (by omega)]
    · rw [List.getElem?_append_right (by rw [List.length_take, pageOf_length]; omega)]
      have e1 : (List.take o (pageOf m k)).length = o := by rw [List.length_take, pageOf_length]; omega
      rw [e1]
      by_cases h2 : i < o + l.length
      · rw [List.getElem?_append_left (by omega)]
        have := writeM_in m (4096 * k + o) l (i - o) (by omega)
        rw [show 4096 * k + o + (i - o) = 4096 * k + i by omega] at this
        rw [this, List.getElem?_eq_getElem (by omega)]; rfl
      · rw [List.getElem?_append_right (by omega), List.getElem?_drop, show o + l.length + (i - o - l.length) = i by omega, pageOf_get _ _ _ hi, writeM_out _ _ _ _ (by omega)]
  · rw [List.getElem?_eq_none (by rw [pageOf_length]; omega), List.getElem?_eq_none (by simp [pageOf_length]; omega)]
theorem pageOf_other (m : Mm) (k k2 o : Nat) (l : List UInt8) (h : o + l.length ≤ 4096) (hk : k2 ≠ k) : pageOf (writeM m (4096 * k + o) l) k2 = pageOf m k2 := by
  apply List.ext_getElem?
  intro i
  by_cases hi : i < 4096
  · rw [pageOf_get _ _ _ hi, pageOf_get _ _ _ hi, writeM_out]
    rcases Nat.lt_or_gt_of_ne hk with h1 | h1 <;> omega
  · rw [List.getElem?_eq_none (by rw [pageOf_length]; omega), List.getElem?_eq_none (by rw [pageOf_length]; omega)]
theorem pageOf_zero (m : Mm) (k : Nat) (h : ∀ i, i < 4096 → m (4096 * k + i) = 0) : pageOf m k = List.replicate 4096 0 := by
  apply List.ext_getElem?
  intro i
  by_cases hi : i < 4096
  · rw [pageOf_get _ _ _ hi, h i hi, List.getElem?_replicate, if_pos hi]
  · rw [List.getElem?_eq_none (by rw [pageOf_length]; omega), List.getElem?_eq_none (by rw [List.length_replicate]; omega)]

/-! the map's elements: a page's block, told as a number -/
def pgV (g : Nat) : Value := .slice (some ⟨g, 0, none⟩) 4096 4096
open Classical in
noncomputable def pgE (v : Value) : Option (DataW Unit × List MemPlace) := if h : ∃ g, v = pgV g then some (.lit (.int .i64 (h.choose : Int)), []) else if v = .slice none 0 0 then some (.nil, []) else none
theorem pgE_mk (g : Nat) : pgE (pgV g) = some (.lit (.int .i64 (g : Int)), []) := by
  have h : ∃ g', pgV g = pgV g' := ⟨g, rfl⟩
  unfold pgE
  rw [dif_pos h]
  have hs := Classical.choose_spec h
  obtain ⟨x, hx⟩ : ∃ x, x = Classical.choose h := ⟨_, rfl⟩
  rw [← hx] at hs
  have e : Classical.choose h = g := by
    rw [← hx]
    simp only [pgV, Value.slice.injEq, Option.some.injEq, Addr.mk.injEq, and_true] at hs
    exact hs.symm
  exact congrArg (fun x : Nat => some (DataW.lit (Lit.int .i64 (x : Int)), [])) e
theorem pgE_nil : pgE (.slice none 0 0) = some (.nil, []) := by
  unfold pgE
  rw [dif_neg (by rintro ⟨g, h⟩; cases h), if_pos rfl]
theorem pgE_inv {v : Value} {y : DataW Unit × List MemPlace} (h : pgE v = some y) : (∃ g : Nat, v = pgV g ∧ y = (.lit (.int .i64 (g : Int)), [])) ∨ (v = .slice none 0 0 ∧ y = (.nil, [])) := by
  unfold pgE at h
  split at h
  · rename_i hx
    left
    refine ⟨hx.choose, hx.choose_spec, (Option.some.inj h).symm⟩
  · split at h
    · rename_i hx; right; exact ⟨hx, (Option.some.inj h).symm⟩
    · cases h
theorem keyU : Keyed Tryz.prog 22 := Maps.int_keyed Tryz.underlying22
theorem keyU_mk (k : Nat) (hk : k < 18446744073709551616) : keyOf Tryz.prog 22 (.int .u64 (k : Int)) = some (.int .u64 (k : Int)) :=
  Maps.keyOf_int_mk Tryz.underlying22 (by simp [Lit.wf, IntKind.min, IntKind.max, IntKind.bits, IntKind.signed]; omega)
theorem zeroPg (w : World) : (zeroValue 73).run Tryz.prog w = .ok (.slice none 0 0) w := by kernel_rfl
def pgAt (pg : Nat → Option Nat) (k : Nat) (zd : DataW Unit) : DataW Unit := match pg k with | none => zd | some g => .lit (.int .i64 (g : Int))

/-- the program's Mem at block p: its memory m, its blocks F, at most N pages -/
structure PM (w : World) (p : Nat) (ram : Sp) (m : Mm) (F : Nat → Prop) (N : Nat) (bm : Nat) (D : DataW Unit) (pg : Nat → Option Nat) : Prop where
  blk : Blk w p 72 #[.int .u64 (ram.base : Int), .int .u64 (ram.size : Int), .map (some bm)]
  own : w.ownsMap Tryz.prog 22 pgE bm N D
  at_ : ∀ (k : Nat) (zd : DataW Unit), k < 18446744073709551616 → D.atKey (.int .u64 (k : Int)) zd = pgAt pg k zd
  rows : ∀ k g, pg k = some g → Blk w g 5 (bcells (pageOf m k)).toArray ∧ F g ∧ k < 4503599627370496
  zero : ∀ k, pg k = none → ∀ i, i < 4096 → m (4096 * k + i) = 0
  inj : ∀ k k' g, pg k = some g → pg k' = some g → k = k'
  fp : F p
  fm : F bm
  flt : ∀ b, F b → b < w.heap.size
def PMem (w : World) (p : Nat) (ram : Sp) (m : Mm) (F : Nat → Prop) (N : Nat) : Prop := ∃ bm D pg, PM w p ram m F N bm D pg

namespace PM
variable {w w' : World} {p : Nat} {ram : Sp} {m : Mm} {F : Nat → Prop} {N bm : Nat} {D : DataW Unit} {pg : Nat → Option Nat}
theorem keep (h : PM w p ram m F N bm D pg) (hs : w.heap.size ≤ w'.heap.size) (hb : ∀ b, F b → w'.heap[b]? = w.heap[b]?) : PM w' p ram m F N bm D pg := by
  obtain ⟨es, clock, h1, h2, h3, h4⟩ := h.own
  exact ⟨(hb p h.fp).trans h.blk, ⟨es, clock, (hb bm h.fm).trans h1, h2, h3, h4⟩, h.at_, fun k g hk => ⟨(hb g (h.rows k g hk).2.1).trans (h.rows k g hk).1, (h.rows k g hk).2⟩, h.zero, h.inj, h.fp, h.fm, fun b hF => Nat.lt_of_lt_of_le (h.flt b hF) hs⟩
theorem chg (h : PM w p ram m F N bm D pg) {Z : Nat → Prop} (c : Chg Z w w') (hZ : ∀ b, F b → ¬ Z b) : PM w' p ram m F N bm D pg :=
  h.keep c.size fun b hb => c.block b (h.flt b hb) (hZ b hb)
theorem below (h : PM w p ram m F N bm D pg) {n : Nat} (c : Below n w w') (hn : w.heap.size ≤ n) : PM w' p ram m F N bm D pg :=
  h.keep c.size fun b hb => c.block b (Nat.lt_of_lt_of_le (h.flt b hb) hn)
theorem more (h : PM w p ram m F N bm D pg) {N' : Nat} (hN : N ≤ N') : PM w p ram m F N' bm D pg := ⟨h.blk, h.own.mono hN, h.at_, h.rows, h.zero, h.inj, h.fp, h.fm, h.flt⟩
theorem ne_pm (h : PM w p ram m F N bm D pg) : p ≠ bm := by
  obtain ⟨es, clock, h1, _⟩ := h.own
  intro e
  have := h.blk
  rw [e] at this
  unfold Blk at this
  rw [h1] at this
  cases this
theorem ne_gm (h : PM w p ram m F N bm D pg) {k g : Nat} (hk : pg k = some g) : g ≠ bm := by
  obtain ⟨es, clock, h1, _⟩ := h.own
  intro e
  have := (h.rows k g hk).1
  rw [e] at this
  unfold Blk at this
  rw [h1] at this
  cases this
theorem ne_gp (h : PM w p ram m F N bm D pg) {k g : Nat} (hk : pg k = some g) : g ≠ p := by
  intro e
  have h1 := (h.rows k g hk).1
  rw [e] at h1
  have h2 := h.blk
  unfold Blk at h1 h2
  rw [h1] at h2
  have := Option.some.inj h2
  injection this with h3 h4
  exact absurd h4 (by decide)
/-- m.pages[k] -/
theorem look (h : PM w p ram m F N bm D pg) (k : Nat) (hk : k < 18446744073709551616) :
    (Instr.lookup 70 (.map (some bm)) (.int .u64 (k : Int)) false).run Tryz.prog w = .ok (match pg k with | none => .slice none 0 0 | some g => pgV g) w := by
  obtain ⟨v, ps, hrun, hv⟩ := h.own.lookup keyU Tryz.underlying70 (zeroPg w) pgE_nil (keyU_mk k hk)
  rw [hrun]
  rw [h.at_ k .nil hk] at hv
  unfold pgAt at hv
  rcases pgE_inv hv with ⟨g, rfl, hy⟩ | ⟨rfl, hy⟩
  · cases hp : pg k with
    | none => rw [hp] at hy; cases hy
    | some g' =>
      rw [hp] at hy
      have e := congrArg Prod.fst hy
      simp only [DataW.lit.injEq, Lit.int.injEq, true_and] at e
      have : g' = g := by omega
      subst this; rfl
  · cases hp : pg k with
    | none => rfl
    | some g' => rw [hp] at hy; cases hy
/-- m.pages[k] = a new page of zeros -/
theorem make (h : PM w p ram m F N bm D pg) (k g : Nat) (hk : k < 4503599627370496) (hN : N < maxLen) (hp : pg k = none) (hg : Blk w g 5 (bcells (List.replicate 4096 0)).toArray) (hF : ¬ F g) :
    ∃ w2 D2, (Instr.mapUpdate 70 (.map (some bm)) (.int .u64 (k : Int)) (pgV g)).run Tryz.prog w = .ok () w2 ∧ w.grownBy w2 (some bm) ∧
      PM w2 p ram m (fun b => F b ∨ b = g) (N + 1) bm D2 (fun x => if x = k then some g else pg x) := by
  obtain ⟨w2, hrun, hown, hgr⟩ := h.own.update keyU Tryz.underlying70 hN (keyU_mk k (by omega)) (pgE_mk g)
  have hb : ∀ b, b ≠ bm → b < w.heap.size → w2.heap[b]? = w.heap[b]? := fun b hb hl => hgr.block b hl (fun e => hb (Option.some.inj e))
  have hgm : g ≠ bm := fun e => hF (e ▸ h.fm)
  have hD := h.own.isMap
  refine ⟨w2, _, hrun, hgr, (hb p h.ne_pm h.blk.lt).trans h.blk, hown, fun x zd hx => ?_, fun x gx hx => ?_, fun x hx i hi => ?_, fun x y gx hx hy => ?_, .inl h.fp, .inl h.fm, fun b hbF => ?_⟩
  · by_cases e : x = k
    · subst e
      rw [Maps.atKey_put_same hD (keyU.key (keyU_mk x (by omega)))]
      simp [pgAt]
    · rw [Maps.atKey_put_other (by simp; omega), h.at_ x zd hx]
      simp [pgAt, e]
  · by_cases e : x = k
    · subst e
      simp only [if_true, Option.some.injEq] at hx
      subst hx
      exact ⟨(hb g hgm hg.lt).trans (by rw [pageOf_zero m x (h.zero x hp)]; exact hg), .inr rfl, hk⟩
    · simp only [if_neg e] at hx
      obtain ⟨r1, r2, r3⟩ := h.rows x gx hx
      exact ⟨(hb gx (h.ne_gm hx) r1.lt).trans r1, .inl r2, r3⟩
  · by_cases e : x = k
    · subst e; simp at hx
    · simp only [if_neg e] at hx; exact h.zero x hx i hi
  · by_cases e : x = k
    · by_cases e2 : y = k
      · rw [e, e2]
      · simp only [if_pos e, Option.some.injEq] at hx
        simp only [if_neg e2] at hy
        subst hx
        exact absurd (h.rows y g hy).2.1 hF
    · by_cases e2 : y = k
      · simp only [if_pos e2, Option.some.injEq] at hy
        simp only [if_neg e] at hx
        subst hy
        exact absurd (h.rows x g hx).2.1 hF
      · simp only [if_neg e] at hx
        simp only [if_neg e2] at hy
        exact h.inj x y gx hx hy
  · rcases hbF with hbF | rfl
    · exact Nat.lt_of_lt_of_le (h.flt b hbF) hgr.size
    · exact Nat.lt_of_lt_of_le hg.lt hgr.size
/-- a page is written -/
theorem put (h : PM w p ram m F N bm D pg) {k g o : Nat} {l : List UInt8} (hp : pg k = some g) (ho : o + l.length ≤ 4096) (hgr : w.grownBy w' (some g)) (hg : Blk w' g 5 (bcells ((pageOf m k).take o ++ l ++ (pageOf m k).drop (o + l.length))).toArray) :
    PM w' p ram (writeM m (4096 * k + o) l) F N bm D pg := by
  have hb : ∀ b, b ≠ g → b < w.heap.size → w'.heap[b]? = w.heap[b]? := fun b hb hl => hgr.block b hl (fun e => hb (Option.some.inj e))
  obtain ⟨es, clock, h1, h2, h3, h4⟩ := h.own
  have hmlt : bm < w.heap.size := (Array.getElem?_eq_some_iff.1 h1).1
  refine ⟨(hb p (h.ne_gp hp).symm h.blk.lt).trans h.blk, ⟨es, clock, (hb bm (h.ne_gm hp).symm hmlt).trans h1, h2, h3, h4⟩, h.at_, fun x gx hx => ?_, fun x hx i hi => ?_, h.inj, h.fp, h.fm, fun b hbF => Nat.lt_of_lt_of_le (h.flt b hbF) hgr.size⟩
  · obtain ⟨r1, r2, r3⟩ := h.rows x gx hx
    by_cases e : x = k
    · subst e
      rw [hp] at hx
      cases hx
      exact ⟨by rw [pageOf_write m x o l ho]; exact hg, r2, r3⟩
    · have hne : gx ≠ g := fun e2 => e (h.inj x k g (e2 ▸ hx) hp)
      rw [pageOf_other m k x o l ho e]
      exact ⟨(hb gx hne r1.lt).trans r1, r2, r3⟩
  · have e : x ≠ k := fun e => by rw [e, hp] at hx; cases hx
    rw [writeM_out]
    · exact h.zero x hx i hi
    · rcases Nat.lt_or_gt_of_ne e with h5 | h5 <;> omega
end PM
theorem PMem.keep {w w' : World} {p : Nat} {ram : Sp} {m : Mm} {F : Nat → Prop} {N : Nat} (h : PMem w p ram m F N) (hs : w.heap.size ≤ w'.heap.size) (hb : ∀ b, F b → b < w.heap.size → w'.heap[b]? = w.heap[b]?) : PMem w' p ram m F N := by
  obtain ⟨bm, D, pg, h⟩ := h
  exact ⟨bm, D, pg, h.keep hs (fun b hF => hb b hF (h.flt b hF))⟩
theorem PMem.more {w : World} {p : Nat} {ram : Sp} {m : Mm} {F : Nat → Prop} {N N' : Nat} (h : PMem w p ram m F N) (hN : N ≤ N') : PMem w p ram m F N' := by
  obtain ⟨bm, D, pg, h⟩ := h
  exact ⟨bm, D, pg, h.more hN⟩
theorem PMem.flt {w : World} {p : Nat} {ram : Sp} {m : Mm} {F : Nat → Prop} {N : Nat} (h : PMem w p ram m F N) : ∀ b, F b → b < w.heap.size := by
  obtain ⟨bm, D, pg, h⟩ := h
  exact h.flt
theorem PMem.below {w w' : World} {p : Nat} {ram : Sp} {m : Mm} {F : Nat → Prop} {N : Nat} (h : PMem w p ram m F N) {n : Nat} (c : Below n w w') (hn : w.heap.size ≤ n) : PMem w' p ram m F N :=
  h.keep c.size fun b _ hl => c.block b (Nat.lt_of_lt_of_le hl hn)
end Go.Proofs.YtpellkblaeeopaaGreatDoor
/-
  Walks: maps.Keys of the pages, and its iterator.
-/
namespace Go.Proofs.YtpellkblaeeopaaGreatDoor
open Go.RowKit Go.Shelf
open Go.Maps (Keyed)

attribute [local go_sem] Oper.semAt_some

abbrev MT := 70
def litU (k : Nat) : Lit := .int .u64 (k : Int)
/-- a key -/
abbrev Ku := { x : Nat // x < 18446744073709551616 }
theorem keyU_inv {key : Value} {kl : Lit} (h : keyOf Tryz.prog 22 key = some kl) : ∃ x : Ku, key = .int .u64 ((x.1 : Nat) : Int) ∧ kl = litU x.1 := by
  obtain ⟨x, rfl, rfl, hw⟩ := Maps.keyOf_int_inv Tryz.underlying22 h
  simp [Lit.wf, IntKind.min, IntKind.max, IntKind.bits, IntKind.signed] at hw
  have e : ((x.toNat : Nat) : Int) = x := by omega
  refine ⟨⟨x.toNat, by omega⟩, ?_, ?_⟩
  · show Value.int .u64 x = Value.int .u64 ((x.toNat : Nat) : Int)
    rw [e]
  · show Lit.int .u64 x = Lit.int .u64 ((x.toNat : Nat) : Int)
    rw [e]
theorem sameKey_litU (x y : Nat) : (litU x).sameKey (litU y) = decide (x = y) := by
  by_cases h : x = y
  · subst h; simp [litU, Lit.sameKey]
  · rw [Maps.sameKey_ne (fun e => h (by unfold litU at e; injection e with _ e; omega))]; simp [h]
/-- the keys that have come -/
structure GotU (D0 : DataW Unit) (left : Lit → Bool) (ss : List Ku) : Prop where
  nodup : ss.Nodup
  all : ∀ k : Ku, Maps.has D0 (litU k.1) = true → left (litU k.1) = true ∨ k ∈ ss
  gone : ∀ k ∈ ss, left (litU k.1) = false
theorem GotU.start (D0 : DataW Unit) : GotU D0 (Maps.has D0) [] := ⟨List.nodup_nil, fun k h => .inl h, fun k h => by cases h⟩
theorem GotU.step {D0 : DataW Unit} {left : Lit → Bool} {ss : List Ku} (h : GotU D0 left ss) {x : Ku} (hl : left (litU x.1) = true) : GotU D0 (fun z => left z && !z.sameKey (litU x.1)) (ss ++ [x]) := by
  have hx : x ∉ ss := fun hm => by rw [h.gone x hm] at hl; cases hl
  refine ⟨List.nodup_append.2 ⟨h.nodup, by simp, fun a ha b hb => by rw [List.mem_singleton] at hb; subst hb; exact fun e => hx (e ▸ ha)⟩, fun k hk => ?_, fun k hk => ?_⟩
  · by_cases e : k = x
    · exact .inr (by simp [e])
    · rcases h.all k hk with h1 | h1
      · refine .inl ?_
        have : ¬ k.1 = x.1 := fun e2 => e (Subtype.ext e2)
        show (left (litU k.1) && !(litU k.1).sameKey (litU x.1)) = true
        rw [sameKey_litU, h1]; simp [this]
      · exact .inr (by simp [h1])
  · show (left (litU k.1) && !(litU k.1).sameKey (litU x.1)) = false
    rcases List.mem_append.1 hk with h1 | h1
    · rw [h.gone k h1]; rfl
    · rw [List.mem_singleton.1 h1, sameKey_litU]; simp
end Go.Proofs.YtpellkblaeeopaaGreatDoor
