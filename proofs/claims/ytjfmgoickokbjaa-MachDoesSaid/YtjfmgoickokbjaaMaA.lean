/-
  Spans: plain, and the walks of Good, Last, Has, Within of both.
-/
import Derived.Test.YtjfmgoickokbjaaOwn
import Derived.Test.YtjfmgoickokbjaaFlow
import Derived.Test.YtjfmgoickokbjaaStore2
import Derived.Test.YtjfmgoickokbjaaWordC
namespace Go.Proofs.Ytjfmgoickokbjaa
open Go.RowKit

/-- a span: where it begins, how long it is -/
structure Sp where
  base : Nat
  size : Nat
structure Sp.ok (s : Sp) : Prop where
  base : s.base < 18446744073709551616
  size : s.size < 18446744073709551616
def Sp.cells (s : Sp) : Array Value := #[.int .u64 (s.base : Int), .int .u64 (s.size : Int)]
def Sp.good (s : Sp) : Bool := decide (0 < s.size ∧ s.base + s.size ≤ 18446744073709551616)
def Sp.last (s : Sp) : Nat := if s.good then s.base + s.size - 1 else 0
def Sp.has (s : Sp) (a : Nat) : Bool := decide (0 < s.size ∧ s.base + s.size ≤ 18446744073709551616 ∧ s.base ≤ a ∧ a < s.base + s.size)
def Sp.within (s t : Sp) : Bool := decide (s.good = true ∧ t.good = true ∧ t.base ≤ s.base ∧ s.base + s.size ≤ t.base + t.size)
def Sp.pages (s : Sp) : Bool := decide (s.good = true ∧ s.base % 4096 = 0 ∧ s.size % 4096 = 0)
theorem Sp.good_iff {s : Sp} : s.good = true ↔ 0 < s.size ∧ s.base + s.size ≤ 18446744073709551616 := by simp [Sp.good]
theorem Sp.last_lt (s : Sp) (_h : s.ok) : s.last < 18446744073709551616 := by
  unfold Sp.last
  split
  · rename_i h; have := Sp.good_iff.1 h; omega
  · omega
theorem infSpan : (Try.prog.info? 24).map (·.size) = some 2 := by kernel_rfl
theorem sp_one (s : Sp) : ∀ v ∈ s.cells.toList, v.oneCell' = true := by
  intro v hv
  simp only [Sp.cells, List.mem_cons, List.not_mem_nil, or_false] at hv
  rcases hv with rfl | rfl <;> rfl
theorem sp_cells {w : World} {g : Nat} {s : Sp} (h : Blk w g 24 s.cells) : w.cell? ⟨g, 0, none⟩ = some (.int .u64 (s.base : Int)) ∧ w.cell? ⟨g, 1, none⟩ = some (.int .u64 (s.size : Int)) :=
  ⟨(h.cell 0).trans rfl, (h.cell 1).trans rfl⟩

def BoolRet (w : World) (b : Bool) (e : Ending) (w' : World) : Prop := e = .returned (.bool b) ∧ Below w.heap.size w w'
def NatRet (w : World) (x : Nat) (e : Ending) (w' : World) : Prop := e = .returned (.int .u64 (x : Int)) ∧ Below w.heap.size w w'

theorem ret_bool {a b : Bool} (h : a = b) : Ending.returned (.bool a) = .returned (.bool b) := by rw [h]
theorem ret_u64 {a : Int} {b : Nat} (h : a = (b : Int)) : Ending.returned (.int .u64 a) = .returned (.int .u64 (b : Int)) := by rw [h]

set_option maxRecDepth 100000 in
theorem good_any (s : Sp) (ok : s.ok) (w : World) : Calls Try.prog 57 #[.agg s.cells] w (BoolRet w s.good) := by
  have hb := Blk.new w 24 s.cells
  obtain ⟨c0, c1⟩ := sp_cells hb
  have B : Below w.heap.size w (w.alloc (.cells s.cells 24)) := (Below.refl _ _).alloc (Nat.le_refl _) _
  have k1 := ok.base
  have k2 := ok.size
  clear hb
  go_enter Try.func57, Try.ntmps57
  go_wp2
  all_goals
    go_ret
    refine ⟨ret_bool ?_, B⟩
    simp only [Sp.good, eq_comm (a := false), decide_eq_decide, decide_eq_false_iff_not]
    omega

set_option maxRecDepth 100000 in
theorem last_any (s : Sp) (ok : s.ok) (w : World) : Calls Try.prog 34 #[.agg s.cells] w (NatRet w s.last) := by
  have hb := Blk.new w 24 s.cells
  have hb2 : Hid (s.cells.size = 2) := Lib.hid rfl
  have B : Below w.heap.size w (w.alloc (.cells s.cells 24)) := (Below.refl _ _).alloc (Nat.le_refl _) _
  have k1 := ok.base
  have k2 := ok.size
  go_enter Try.func34, Try.ntmps34
  go_wp2_with ((with_reducible refine at_load 24 ?_); refine wpList_loadAll _ rfl 24 _ rfl w.heap.size 24 s.cells hb _ rfl Try.underlying24 rfl infSpan ?_)
  generalize w.alloc (.cells s.cells 24) = W at *
  refine (good_any s ok W).mono ?_
  rintro e W2 ⟨rfl, hB⟩
  obtain ⟨c0, c1⟩ := sp_cells (hb.below hB hb.lt)
  have B2 := B.trans (hB.mono B.size)
  clear hb B hB
  cases hg : s.good with
  | false =>
    go_wp2
    go_ret
    exact ⟨ret_u64 (by simp [Sp.last, hg]), B2⟩
  | true =>
    have hg2 := Sp.good_iff.1 hg
    have hl : Hid (s.last = s.base + s.size - 1) := Lib.hid (by simp [Sp.last, hg])
    go_wp2
    go_ret
    refine ⟨ret_u64 ?_, B2⟩
    rw [hl.out]; omega

set_option maxRecDepth 100000 in
theorem has_any (s : Sp) (ok : s.ok) (a : Nat) (_ha : a < 18446744073709551616) (w : World) : Calls Try.prog 58 #[.agg s.cells, .int .u64 (a : Int)] w (BoolRet w (s.has a)) := by
  have hb := Blk.new w 24 s.cells
  have B : Below w.heap.size w (w.alloc (.cells s.cells 24)) := (Below.refl _ _).alloc (Nat.le_refl _) _
  have k1 := ok.base
  have k2 := ok.size
  go_enter Try.func58, Try.ntmps58
  go_wp2_with ((with_reducible refine at_load 24 ?_); refine wpList_loadAll _ rfl 24 _ rfl w.heap.size 24 s.cells hb _ rfl Try.underlying24 rfl infSpan ?_)
  generalize w.alloc (.cells s.cells 24) = W at *
  refine (good_any s ok W).mono ?_
  rintro e W2 ⟨rfl, hB⟩
  have hb2 := hb.below hB hb.lt
  obtain ⟨c0, c1⟩ := sp_cells hb2
  have B2 := B.trans (hB.mono B.size)
  clear hb B hB
  cases hg : s.good with
  | false =>
    have hg2 : ¬ (0 < s.size ∧ s.base + s.size ≤ 18446744073709551616) := fun h => by rw [Sp.good_iff.2 h] at hg; cases hg
    have hx : Hid (s.has a = false) := Lib.hid (by simp only [Sp.has, decide_eq_false_iff_not]; omega)
    clear hg2 hg
    go_wp2
    go_ret
    refine ⟨ret_bool ?_, B2⟩
    rw [hx.out]
  | true =>
    have hg2 := Sp.good_iff.1 hg
    have hl : Hid (s.last = s.base + s.size - 1) := Lib.hid (by simp [Sp.last, hg])
    obtain ⟨L, hL⟩ : ∃ L, L = s.last := ⟨_, rfl⟩
    have HL := Lib.hid hL
    have hla := last_any s ok W2
    rw [← hL] at hla
    clear hL
    go_wp2_with (first
      | ((with_reducible refine at_load 24 ?_); refine wpList_loadAllW _ rfl 24 _ rfl w.heap.size 24 s.cells hb2 _ rfl Try.underlying24 rfl infSpan ?_))
    · refine hla.mono ?_
      rintro e W3 ⟨rfl, hB3⟩
      go_wp2
      go_ret
      refine ⟨ret_bool ?_, B2.trans (hB3.mono B2.size)⟩
      rw [HL.out, hl.out]
      simp only [Sp.has, decide_eq_decide]
      omega
    · go_ret
      refine ⟨ret_bool ?_, B2⟩
      simp only [Sp.has, eq_comm (a := false), decide_eq_false_iff_not]
      omega

/-! the reference's -/
set_option maxRecDepth 100000 in
theorem rgood_any (s : Sp) (ok : s.ok) (w : World) : Calls Try.prog 36 #[.agg s.cells] w (BoolRet w s.good) := by
  have hb := Blk.new w 24 s.cells
  obtain ⟨c0, c1⟩ := sp_cells hb
  have B : Below w.heap.size w (w.alloc (.cells s.cells 24)) := (Below.refl _ _).alloc (Nat.le_refl _) _
  have k1 := ok.base
  have k2 := ok.size
  clear hb
  go_enter Try.func36, Try.ntmps36
  go_wp2
  all_goals
    go_ret
    refine ⟨ret_bool ?_, B⟩
    simp only [Sp.good, eq_comm (a := false), decide_eq_decide, decide_eq_false_iff_not]
    omega

set_option maxRecDepth 100000 in
theorem rlast_any (s : Sp) (ok : s.ok) (w : World) : Calls Try.prog 40 #[.agg s.cells] w (NatRet w s.last) := by
  have hb := Blk.new w 24 s.cells
  have B : Below w.heap.size w (w.alloc (.cells s.cells 24)) := (Below.refl _ _).alloc (Nat.le_refl _) _
  have k1 := ok.base
  have k2 := ok.size
  go_enter Try.func40, Try.ntmps40
  go_wp2_with ((with_reducible refine at_load 24 ?_); refine wpList_loadAll _ rfl 24 _ rfl w.heap.size 24 s.cells hb _ rfl Try.underlying24 rfl infSpan ?_)
  generalize w.alloc (.cells s.cells 24) = W at *
  refine (rgood_any s ok W).mono ?_
  rintro e W2 ⟨rfl, hB⟩
  obtain ⟨c0, c1⟩ := sp_cells (hb.below hB hb.lt)
  have B2 := B.trans (hB.mono B.size)
  clear hb B hB
  cases hg : s.good with
  | false =>
    go_wp2
    go_ret
    exact ⟨ret_u64 (by simp [Sp.last, hg]), B2⟩
  | true =>
    have hg2 := Sp.good_iff.1 hg
    have hl : Hid (s.last = s.base + s.size - 1) := Lib.hid (by simp [Sp.last, hg])
    go_wp2
    go_ret
    refine ⟨ret_u64 ?_, B2⟩
    rw [hl.out]; omega

set_option maxRecDepth 100000 in
theorem rhas_any (s : Sp) (ok : s.ok) (a : Nat) (ha : a < 18446744073709551616) (w : World) : Calls Try.prog 15 #[.agg s.cells, .int .u64 (a : Int)] w (BoolRet w (s.has a)) := by
  have hb := Blk.new w 24 s.cells
  have B : Below w.heap.size w (w.alloc (.cells s.cells 24)) := (Below.refl _ _).alloc (Nat.le_refl _) _
  have k1 := ok.base
  have k2 := ok.size
  go_enter Try.func15, Try.ntmps15
  go_wp2_with ((with_reducible refine at_load 24 ?_); refine wpList_loadAll _ rfl 24 _ rfl w.heap.size 24 s.cells hb _ rfl Try.underlying24 rfl infSpan ?_)
  generalize w.alloc (.cells s.cells 24) = W at *
  refine (rgood_any s ok W).mono ?_
  rintro e W2 ⟨rfl, hB⟩
  have hb2 := hb.below hB hb.lt
  obtain ⟨c0, c1⟩ := sp_cells hb2
  have B2 := B.trans (hB.mono B.size)
  clear hb B hB
  cases hg : s.good with
  | false =>
    have hg2 : ¬ (0 < s.size ∧ s.base + s.size ≤ 18446744073709551616) := fun h => by rw [Sp.good_iff.2 h] at hg; cases hg
    have hx : Hid (s.has a = false) := Lib.hid (by simp only [Sp.has, decide_eq_false_iff_not]; omega)
    clear hg2 hg
    go_wp2
    go_ret
    refine ⟨ret_bool ?_, B2⟩
    rw [hx.out]
  | true =>
    have hg2 := Sp.good_iff.1 hg
    clear hg
    go_wp2
    all_goals
      go_ret
      refine ⟨ret_bool ?_, B2⟩
      simp only [Sp.has, eq_comm (a := false), decide_eq_decide, decide_eq_false_iff_not]
      omega
set_option maxRecDepth 100000 in
theorem rpages_any (s : Sp) (ok : s.ok) (w : World) : Calls Try.prog 39 #[.agg s.cells] w (BoolRet w s.pages) := by
  have hb := Blk.new w 24 s.cells
  have B : Below w.heap.size w (w.alloc (.cells s.cells 24)) := (Below.refl _ _).alloc (Nat.le_refl _) _
  have k1 := ok.base
  have k2 := ok.size
  go_enter Try.func39, Try.ntmps39
  go_wp2_with ((with_reducible refine at_load 24 ?_); refine wpList_loadAll _ rfl 24 _ rfl w.heap.size 24 s.cells hb _ rfl Try.underlying24 rfl infSpan ?_)
  generalize w.alloc (.cells s.cells 24) = W at *
  refine (rgood_any s ok W).mono ?_
  rintro e W2 ⟨rfl, hB⟩
  have hb2 := hb.below hB hb.lt
  obtain ⟨c0, c1⟩ := sp_cells hb2
  have B2 := B.trans (hB.mono B.size)
  clear hb B hB
  cases hg : s.good with
  | false =>
    have hx : Hid (s.pages = false) := Lib.hid (by simp [Sp.pages, hg])
    clear hg
    go_wp2
    go_ret
    refine ⟨ret_bool ?_, B2⟩
    rw [hx.out]
  | true =>
    have hx : Hid (s.pages = decide (s.base % 4096 = 0 ∧ s.size % 4096 = 0)) := Lib.hid (by simp [Sp.pages, hg])
    clear hg
    go_wp2
    all_goals
      go_ret
      refine ⟨ret_bool ?_, B2⟩
      rw [hx.out]
      rw [Bool.eq_iff_iff]
      simp only [beq_iff_eq, decide_eq_true_eq, Bool.false_eq_true, false_iff]
      omega
end Go.Proofs.Ytjfmgoickokbjaa
